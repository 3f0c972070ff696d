/- Printed by a program of mine: that the program's functions compute it. -/
import Derived.Test.YtmjebmhcbnkojaaGreatK5
set_option linter.unusedVariables false
set_option linter.unusedSimpArgs false
set_option maxRecDepth 100000
set_option maxHeartbeats 4000000
namespace Go.Proofs.YtmjebmhcbnkojaaGreat.N
open Go.Proofs.YtmjebmhcbnkojaaGreat.X
open T Tryz
noncomputable section
theorem ph {a0:Int} {a1:Int} {a2:Int} {w:World} {r:Int} (h:iw a0 a1 a2=some r):CL 132 #[vi a0,vi a1,vi a2] w (RU w (.int .i64 r)):=by
 unfold iw at h
 refine au func132 z z ?_
 have s:=Sep.start w
 refine .g (.qn z (.seq (.g (.qn z (.block (.g (.q z (.q z (.nil ?_)))))))))
 refine .cs z h ?_ ?_ <;> intro h
 ·cases h
  exact .g (.q z (.q z (.q z (.qn z (.ret (aa () (rt z rn) z (s.to [])))))))
 refine .g (.q z (.q z (.nil ?_)))
 refine .cs z h ?_ ?_ <;> intro h
 ·cases h
  exact .g (.q z (.q z (.q z (.qn z (.ret (aa () (rt z rn) z (s.to [])))))))
 refine .g (.q z (.q z (.nil ?_)))
 refine .cs z h ?_ ?_ <;> intro h
 ·cases h
  exact .g (.q z (.q z (.q z (.qn z (.ret (aa () (rt z rn) z (s.to [])))))))
 refine .g (.q z (.q z (.nil ?_)))
 refine .cs z h ?_ ?_ <;> intro h
 ·refine .g (.q z (.q z (.q z (bv h λy1 hy1 h=>.c (.cO s func157 (pg hy1) z z ?_)))))
  intro W s
  obtain rfl:=o9 h
  exact .qn z (.ret (aa () (rt z rn) z (s.to [])))
 refine .g (.q z (.q z (.nil ?_)))
 refine .cs z h ?_ ?_ <;> intro h
 ·refine .g (.q z (.q z (.q z (bv h λy2 hy2 h=>.c (.cO s func157 (pg hy2) z z ?_)))))
  intro W s
  obtain rfl:=o9 h
  exact .qn z (.ret (aa () (rt z rn) z (s.to [])))
 refine .g (.q z (.q z (.nil ?_)))
 refine .cs z h ?_ ?_ <;> intro h
 ·refine .g (.q z (.q z (.q z (bv h λd1 hd1 h=>.s (iU hd1 z z z) z (bv h λy3 hy3 h=>.c (.cO s func158 (kH hy3) z z ?_))))))
  intro W s
  obtain rfl:=o9 h
  exact .qn z (.ret (aa () (rt z rn) z (s.to [])))
 refine .g (.q z (.q z (.nil ?_)))
 refine .cs z h ?_ ?_ <;> intro h
 ·refine .g (.q z (.q z (.q z (bv h λd2 hd2 h=>.s (iU hd2 z z z) z (.qn z (.ret ?_))))))
  obtain rfl:=o9 h
  exact aa () (rt z rn) z (s.to [])
 refine .g (.q z (.q z (.nil ?_)))
 refine .cs z h ?_ ?_ <;> intro h
 ·refine .g (.q z (.q z (.q z (bv h λy4 hy4 h=>.c (.cO s func158 (kH hy4) z z ?_)))))
  intro W s
  obtain rfl:=o9 h
  exact .qn z (.ret (aa () (rt z rn) z (s.to [])))
 refine .g (.q z (.q z (.nil ?_)))
 refine .cs z h ?_ ?_ <;> intro h
 ·refine .g (.q z (.q z (.q z (bv h λy5 hy5 h=>.c (.cO s func158 (kH hy5) z z ?_)))))
  intro W s
  obtain rfl:=o9 h
  exact .qn z (.ret (aa () (rt z rn) z (s.to [])))
 refine .g (.q z (.q z (.nil ?_)))
 refine .cs z h ?_ ?_ <;> intro h
 ·refine .g (.q z (.q z (.q z (bv h λy6 hy6 h=>.c (.cO s func158 (kH hy6) z z ?_)))))
  intro W s
  obtain rfl:=o9 h
  exact .qn z (.ret (aa () (rt z rn) z (s.to [])))
 refine .g (.q z (.q z (.nil ?_)))
 refine .cs z h ?_ ?_ <;> intro h
 ·refine .seq (.g (.q z (.q z (.nil ?_))))
  refine .cs z h ?_ ?_ <;> intro h
  ·cases h
   exact .g (.qn z (.ret (aa () (rt z rn) z (s.to []))))
  refine .skip (.g (.q z (.q z (bv h λd3 hd3 h=>.s (dq hd3 z z z) z (bv h λy7 hy7 h=>.c (.cO s func158 (kH hy7) z z ?_))))))
  intro W s
  obtain rfl:=o9 h
  exact .qn z (.ret (aa () (rt z rn) z (s.to [])))
 refine .skip (.seq (.g (.q z (.q z (.nil ?_)))))
 refine .cs z h ?_ ?_ <;> intro h
 ·obtain rfl:=o9 h
  exact .g (.q z (.qn z (.ret (aa () (rt z rn) z (s.to [])))))
 refine .skip (.g (.q z (.q z (bv h λd4 hd4 h=>.s (dr hd4 z z z) z (.qn z (.ret ?_))))))
 obtain rfl:=o9 h
 exact aa () (rt z rn) z (s.to [])
theorem lM {a0:Ar ai} {a1:ab} {w:World} {r:(Ar ai)} (h:fg a0 a1=some r):CL 98 #[.agg (kc a0).toArray,.agg #[vi a1.Op,vi a1.Dst,vi a1.A,vi a1.B,vi a1.N]] w (RU w (.agg (kc r).toArray)):=by
 unfold fg at h
 refine au func98 z z ?_
 have s:=Sep.start w
 refine .g (.c (.box s z z ?_))
 intro g1 W s
 have s:Sep _ _ _ [.box g1 92 (kc a0)]:=id s
 refine .c (.box s z z ?_)
 intro g2 W s
 refine .c (.alloc t92 s ?_)
 intro g3 W s
 have s:Sep _ _ _ [.box g3 92 (kc (λ_=>(ai.mk 0 0))),.box g2 62 [vi a1.Op,vi a1.Dst,vi a1.A,vi a1.B,vi a1.N],.box g1 92 (kc a0)]:=id s
 refine .nil (.g (.s (ld t62 s.p1 z z z z z) z (bv h λy1 hy1 h=>.c (.cO s func108 (iO hy1) z z ?_))))
 intro W s
 refine .qn z (.seq (.g (.q z (.q z (.nil ?_)))))
 refine .cs z h ?_ ?_ <;> intro h
 ·refine .g (.s (lda t92 s.p2 (kh _) z z) z (.c (.sta t92 s kh sY z z z ?_)))
  intro W s
  obtain rfl:=o9 h
  exact .nil (.ret (aa () (rc s t92 z rn (kh _) z) z (s.to [])))
 refine .skip (.g (.s (bs T.s90 z z) z (.c (.alloc t90 s ?_))))
 intro g4 W s
 refine .c (.st t90 s z z z ?_)
 intro W s
 refine .nil (bv h λy2 hy2 h=>?_)
 refine .seq (CW.via (R':=λx E' W'=>x=.normal/\ak E' [(2,Pt g1),(4,Pt g3),(5,vi y1),(6,Pt g4)]/\Sep No w W' [.box g4 90 [vi y2.Kind,vi y2.N],.box g3 92 (kc (λ_=>(ai.mk 0 0))),.box g2 62 [vi a1.Op,vi a1.Dst,vi a1.A,vi a1.B,vi a1.N],.box g1 92 (kc a0)]) ?_ ?_)
 ·have h:=hy2
  refine .g (.s (fa f62_0 z z z) z (.s (ld t3 s.p2 z z z z z) z (.nil (.block (.g (.q z (.q z (.nil ?_))))))))
  refine .cs z h ?_ ?_ <;> intro h
  ·refine .region (.s (fa f62_4 z z z) z (.s (ld t3 s.p2 z z z z z) z (.s (bs T.s90 z z) z (.c (.st t90 s z z z ?_)))))
   intro W s
   refine .nil ?_
   cases h
   exact ⟨z,sb z,s.tk [0,0,0,0]⟩
  refine .g (.q z (.q z (.nil ?_)))
  refine .cs z h ?_ ?_ <;> intro h
  ·refine .region (.s (fa f62_2 z z z) z (.s (ld t3 s.p2 z z z z z) z (bv h λx1 hx1 h=>.s (ixa hx1 u92 t90 z z z) z (.s (ldx s.p3 hx1 (λ_=>z) t90 z z z z z) z (.c (.st t90 s z z z ?_))))))
   intro W s
   refine .nil ?_
   obtain rfl:=o9 h
   exact ⟨z,sb z,s.tk [0,0,0,0]⟩
  refine .g (.q z (.q z (.nil ?_)))
  refine .cs z h ?_ ?_ <;> intro h
  ·refine .g (.s (fa f62_2 z z z) z (.s (ld t3 s.p2 z z z z z) z (bv h λx2 hx2 h=>.s (ixa hx2 u92 t90 z z z) z (.s (fa f90_0 z z z) z (.s (ldx s.p3 hx2 (λ_=>z) t3 z z z z z) z (.q z (.q z (bv h λb1 hb1 h=>.cu 7 41 (b1) s ?_ ?_))))))))
   ·refine .both (x2.Kind==1) (λb=>?_) (λb=>?_)
    ·have hg1:=b
     have h:=aJ b hb1
     refine .g hg1 (.s (fa f62_3 z z z) z (.g hg1 (.s (ld t3 s.p2 z z z z z) z (bv h λx3 hx3 h=>.g hg1 (.s (ixa hx3 u92 t90 z z z) z (.g hg1 (.s (fa f90_0 z z z) z (.g hg1 (.s (ldx s.p3 hx3 (λ_=>z) t3 z z z z z) z (.g hg1 (.q z (.s (pkt hg1 z z z) z ?_))))))))))))
     cases h
     exact .nil (ck 7 s)
    refine .xx b z (.xx b z (.xx b z (.xx b z (.xx b z (.xx b z ?_)))))
    cases aK b hb1
    exact .s (pkf b z z z) z (.nil (ck 7 s))
   intro W s
   refine .nil ?_
   refine .cs z h ?_ ?_ <;> intro h
   ·refine .rk 14 s [0,0,0,0] T.mix ?_
    intro W s
    have t:=s.to [0,0,0,0]
    refine .ts' 0 z (λW t=>fa f62_4 z z z) t z (.ts' 1 z (λW t=>ld t3 t.p2 z z z z z) t z (.ts' 2 z (λW t=>fa f62_2 z z z) t z (.ts' 3 z (λW t=>ld t3 t.p2 z z z z z) t z (bv h λx4 hx4 h=>.ts' 4 z (λW t=>ixa hx4 u92 t90 z z z) t z (.ts' 5 z (λW t=>fa f90_1 z z z) t z (.ts' 6 z (λW t=>ldx t.p3 hx4 (λ_=>z) t3 z z z z z) t z (.ts' 7 z (λW t=>fa f62_3 z z z) t z (.ts' 8 z (λW t=>ld t3 t.p2 z z z z z) t z (bv h λx5 hx5 h=>.ts' 9 z (λW t=>ixa hx5 u92 t90 z z z) t z (.ts' 10 z (λW t=>fa f90_1 z z z) t z (.ts' 11 z (λW t=>ldx t.p3 hx5 (λ_=>z) t3 z z z z z) t z (bv h λy3 hy3 h=>.by1 12 z (.cO s func132 (ph hy3) z z ?_)))))))))))))
    intro W s
    refine s.an [0,0,0,0] λt=>.ts' 13 z (λW t=>bs T.s90 z z) t z (.by1 14 z (.st t90 s z z z ?_))
    intro W s
    refine ⟨λh=>absurd z h,?_⟩
    refine .done ?_
    cases h
    exact ⟨z,sb z,s.tk [0,0,0,0]⟩
   refine .skip ?_
   cases h
   exact ⟨z,sb z,s.tk [0,0,0,0]⟩
  refine .skip ?_
  cases h
  exact ⟨z,sb z,s.tk [0,0,0,0]⟩
 intro x E W hJ
 obtain ⟨rfl,hE,s⟩:=hJ
 refine ⟨_,hE.sub,?_⟩
 refine .g (.q z (.s (ld t90 s z z z z z) z (bv h λx6 hx6 h=>.s (ixa hx6 u92 t90 z z z) z (.c (.stx (x1:=y2) hx6 s.p3 (λ_=>z) t90 z z z z ?_)))))
 intro W s
 refine .nil (.g (.s (lda t92 s (kh _) z z) z (.c (.sta t92 s.p2 kh sY z z z ?_))))
 intro W s
 cases h
 exact .nil (.ret (aa () (rc s t92 z rn (kh _) z) z (s.to [])))
theorem sd {a0:ab} {a1:Int} {a2:Ar ai} {w:World} {r:(List Int)} (h:kr a0 a1 a2=some r):CL 99 #[.agg #[vi a0.Op,vi a0.Dst,vi a0.A,vi a0.B,vi a0.N],vi a1,.agg (kc a2).toArray] w (Ret No w (λs:Hd=>(sv s)) (λs=>[ac (sv s) 3 1 (D.int .i64) r])):=by
 unfold kr at h
 refine au func99 z z ?_
 have s:=Sep.start w
 refine .g (.c (.box s z z ?_))
 intro g1 W s
 refine .c (.box s z z ?_)
 intro g2 W s
 have s:Sep _ _ _ [.box g2 92 (kc a2),.box g1 62 [vi a0.Op,vi a0.Dst,vi a0.A,vi a0.B,vi a0.N]]:=id s
 refine .qn z (.seq (.g (.s (fa f62_0 z z z) z (.s (ld t3 s.p1 z z z z z) z (.q z (.q z (bv h λb1 hb1 h=>.cu 7 17 (b1) s ?_ ?_)))))))
 ·refine .both (a0.Op==5) (λb=>?_) (λb=>?_)
  ·have hg1:=b
   have h:=aJ b hb1
   refine .g hg1 (.s (fa f62_2 z z z) z (.g hg1 (.s (ld t3 s.p1 z z z z z) z (bv h λx1 hx1 h=>.g hg1 (.s (ixa hx1 u92 t90 z z z) z (.g hg1 (.s (fa f90_0 z z z) z (.g hg1 (.s (ldx s hx1 (λ_=>z) t3 z z z z z) z (.g hg1 (.q z (.s (pkt hg1 z z z) z ?_))))))))))))
   cases h
   exact .nil (ck 7 s)
  refine .xx b z (.xx b z (.xx b z (.xx b z (.xx b z (.xx b z ?_)))))
  cases aK b hb1
  exact .s (pkf b z z z) z (.nil (ck 7 s))
 intro W s
 refine .nil ?_
 refine .cs z h ?_ ?_ <;> intro h
 ·refine .seq (.g (.s (fa f62_2 z z z) z (.s (ld t3 s.p1 z z z z z) z (bv h λx2 hx2 h=>.s (ixa hx2 u92 t90 z z z) z (.s (fa f90_1 z z z) z (.s (ldx s hx2 (λ_=>z) t3 z z z z z) z (.q z (.nil ?_))))))))
  refine .cs z h ?_ ?_ <;> intro h
  ·refine .g (.s (fa f62_4 z z z) z (.s (ld t3 s.p1 z z z z z) z (.c (.liv [a0.N] (D.int .i64) u23 t3 s z z z z ?_ z (λ_=>z)))))
   intro v1 W s
   cases h
   exact .qn z (.ret (aa v1 (rt z rn) z (s.tk [0])))
  refine .skip (.g (.q z (.q z (.c (.liv [w64 (a1+1)] (D.int .i64) u23 t3 s z z z z ?_ z (λ_=>z))))))
  intro v2 W s
  cases h
  exact .qn z (.ret (aa v2 (rt z rn) z (s.tk [0])))
 refine .skip (.g (.s (ld t62 s.p1 z z z z z) z (.q z (bv h λy1 hy1 h=>.c (.cV s func105 (kG hy1) z z ?_)))))
 intro v3 W s
 obtain rfl:=o9 h
 exact .qn z (.ret (aa v3 (rt z rn) z (s.tk [0])))
theorem qi {a0:ai} {a1:ai} {w:World} {r:ai} (h:iy a0 a1=some r):CL 100 #[.agg #[vi a0.Kind,vi a0.N],.agg #[vi a1.Kind,vi a1.N]] w (RU w (.agg #[vi r.Kind,vi r.N])):=by
 unfold iy at h
 refine au func100 z z ?_
 have s:=Sep.start w
 refine .g (.c (.box s z z ?_))
 intro g1 W s
 refine .c (.box s z z ?_)
 intro g2 W s
 refine .c (.alloc t90 s ?_)
 intro g3 W s
 refine .nil (.seq (.block (.g (.s (fa f90_0 z z z) z (.s (ld t3 s.p2 z z z z z) z (.q z (.q z (.cu 4 13 ((a0.Kind==0)||((a0.Kind==a1.Kind)&&((a0.N==a1.N)&&true))) s ?_ ?_))))))))
 ·refine .both (a0.Kind==0) (λb=>?_) (λb=>?_)
  ·exact .xx b z (.xx b z (.xx b z (.s (pkt b z z z) z (.nil (ck 4 s z (jr b))))))
  have hg1:=b
  exact .g hg1 (.s (ld t90 s.p2 z z z z z) z (.g hg1 (.s (ld t90 s.p1 z z z z z) z (.g hg1 (.s (eqs T.e90 z z z z) z (.s (pkf hg1 z z z) z (.nil (ck 4 s z (iR hg1)))))))))
 intro W s
 refine .q z (.nil ?_)
 refine .cs z h ?_ ?_ <;> intro h
 ·refine .g (.s (ld t90 s.p1 z z z z z) z (.c (.st t90 s z z z ?_)))
  intro W s
  obtain rfl:=o9 h
  exact .nil (.ret (aa () (rc s t90 z rn z z) z (s.to [])))
 refine .g (.s (fa f90_0 z z z) z (.s (ld t3 s.p1 z z z z z) z (.q z (.q z (.nil ?_)))))
 refine .cs z h ?_ ?_ <;> intro h
 ·refine .g (.s (ld t90 s.p2 z z z z z) z (.c (.st t90 s z z z ?_)))
  intro W s
  obtain rfl:=o9 h
  exact .nil (.ret (aa () (rc s t90 z rn z z) z (s.to [])))
 refine .skip (.g (.s (bs T.s90 z z) z (.c (.st t90 s z z z ?_))))
 intro W s
 cases h
 exact .nil (.ret (aa () (rc s t90 z rn z z) z (s.to [])))
theorem oG {a0:List ab} {v_0:Hd} {w:World} {r:(List (Ar ai))} (h:d8 a0=some r) (q_0:RO w v_0 62 5 ah a0):CL 63 #[sv v_0] w (Ret No w (λs:Hd=>(sv s)) (λs=>[ac (sv s) 92 24 (arD 12 aX) r])):=by
 unfold d8 at h
 refine au func63 z z ?_
 have s:=Sep.start w
 refine .g (.qn z (.g (.q z (.s (aE (s.keep q_0) u33 z z) z (bv h λr1 hr1 h=>.c (.mkv (λ_=>(ai.mk 0 0)) (arD 12 aX) hr1 u87 t92 s z z z z z (λ_=>z) ?_))))))
 intro v1 W s
 refine .qn z (.seq (.g (.qn z (.block (bv h λy1 hy1 h=>?_)))))
 refine .via (.iter (λs1 E' W'=>ak E' [(0,(sv v_0)),(3,(sv v1)),(15,vi s1.1)]/\Sep No w W' [ac (sv v1) 92 24 (arD 12 aX) s1.2]) (λy2 x E' W'=>x=.exit 0/\ak E' [(0,(sv v_0)),(3,(sv v1))]/\Sep No w W' [ac (sv v1) 92 24 (arD 12 aX) y2]) hy1 ⟨sb z,s.tk [0]⟩ ?_) ?_
 ·intro s1 y3 E W h hI
  obtain ⟨hE,s⟩:=hI
  refine CW.sub hE ?_
  unfold jn at h
  refine .g (.qn z (.seq ?_))
  refine .cs z h ?_ ?_ <;> intro h
  ·refine .skip (.seq (.block (.g (.q z (.qn z (.region (.q z (.q z (.s (bs T.s90 z z) z (bv h λx1 hx1 h=>.s (ixv s.lv hx1 u87 t92 z z z) z (bv h λx2 hx2 h=>.s (AP hx2 u92 t90 z z z) z (bv h λr2 hr2 h=>.c (.sevx hr2 hx1 hx2 s t90 (λ_=>z) (λ_=>z) z z z z ?_)))))))))))))
   intro W s
   refine .nil (.region (.q z (.q z (.nil ?_))))
   cases h
   exact ⟨z,sb z,s.tk [0]⟩
  refine .exit ?_
  cases h
  exact ⟨by simp,z,sb z,s.tk [0]⟩
 intro x E W hJ
 obtain ⟨rfl,hE,s⟩:=hJ
 refine ⟨_,hE.sub,?_⟩
 refine .seq (.g (.c (.liv [0] (D.int .i64) u23 t3 s z z z z ?_ z (λ_=>z))))
 intro v2 W s
 refine .qn z (.block (bv h λy4 hy4 h=>?_))
 refine .via (.iter (λs2 E' W'=>∃ (v5:Hd),ak E' [(0,(sv v_0)),(3,(sv v1)),(5,(sv v5))]/\Sep No w W' [ac (sv v1) 92 24 (arD 12 aX) s2.2,ac (sv v5) 3 1 (D.int .i64) s2.1]) (λy5 x E' W'=>x=.exit 2/\ak E' [(3,(sv v1))]/\Sep No w W' [ac (sv v1) 92 24 (arD 12 aX) y5]) hy4 ⟨v2,sb z,s.tk [1,0]⟩ ?_) ?_
 ·intro s2 y6 E W h hI
  obtain ⟨v4,hE,s⟩:=hI
  refine CW.sub hE ?_
  unfold iz at h
  refine .seq (.g (.q z (.s (aE s.p1.lv u23 z z) z (.q z (.nil ?_)))))
  refine .cs z h ?_ ?_ <;> intro h
  ·refine .skip (.block (.g (.q z (.q z (.s (aE s.p1.lv u23 z z) z (.q z (bv h λx3 hx3 h=>.s (ixv s.p1.lv hx3 u23 t3 z z z) z (.s (lde (RV.flat s.p1.lv hx3 z) t3 z z z z z) z (.qn z (.g (.q z (.q z (.s (aE s.p1.lv u23 z z) z (.q z (bv h λr3 hr3 h=>.c (.cuto hr3 s.p1 u23 t3 z z z z ?_))))))))))))))))
   intro v6 s
   refine .qn z (.seq (bv h λx4 hx4 h=>bv h λx5 hx5 h=>bv h λy7 hy7 h=>?_))
   refine .via (R':=λx E' W'=>x=.normal/\∃ (g1:Nat),ak E' [(0,(sv v_0)),(3,(sv v1)),(5,(sv v6)),(6,vi x3),(7,Pt g1)]/\Sep No w W' [ac (sv v6) 3 1 (D.int .i64) r3,ac (sv v1) 92 24 (arD 12 aX) s2.2,.box g1 92 (kc y7)]) ?_ ?_
   ·refine .rk 10 s [0,0] T.mix ?_
    intro W s
    have t:=s.to [0,0]
    refine .tp' 0 z z t (.tp' 1 z z t (.ts' 2 z (λW t=>ixv s.p1.lv hx4 u87 t92 z z z) t z (.ts' 3 z (λW t=>uy (RV.flat (cs:=kc x4) t.p1.lv hx4 (qE λ_=>z)) t92 (kh _) z z) t z (.tp' 4 z z t (.tp' 5 z z t (.ts' 6 z (λW t=>ixv (s.keep q_0) hx5 u33 t62 z z z) t z (.ts' 7 z (λW t=>lde (RV.flat (t.keep q_0) hx5 z) t62 z z z z z) t z (.by [8,9] ⟨⟨_,z,?_⟩,⟨_,z,?_⟩,trivial⟩))))))))
    ·refine (.cO s func98 (lM hy7) z z ?_)
     intro W s
     refine s.an [0,0] λt=>.by1 9 z (.alloc t92 s ?_)
     intro g2 W s
     have s:Sep _ _ _ [.box g2 92 (kc (λ_=>(ai.mk 0 0))),ac (sv v6) 3 1 (D.int .i64) r3,ac (sv v1) 92 24 (arD 12 aX) s2.2]:=id s
     refine s.an [1,1] λt=>.by1 10 z (.sta t92 s kh sY z z z ?_)
     intro W s
     refine ⟨λh=>absurd z h,?_⟩
     exact .done (⟨z,g2,sb z,s.tk [1,1,0]⟩)
    refine (.alloc t92 s ?_)
    intro g3 W s
    have s:Sep _ _ _ [.box g3 92 (kc (λ_=>(ai.mk 0 0))),ac (sv v6) 3 1 (D.int .i64) r3,ac (sv v1) 92 24 (arD 12 aX) s2.2]:=id s
    refine s.an [1,1] λt=>.by1 8 z (.cO s func98 (lM hy7) z z ?_)
    intro W s
    refine s.an [1,1] λt=>.by1 10 z (.sta t92 s kh sY z z z ?_)
    intro W s
    refine ⟨λh=>absurd z h,?_⟩
    exact .done (⟨z,g3,sb z,s.tk [1,1,0]⟩)
   intro x E W hJ
   obtain ⟨rfl,g4,hE,s⟩:=hJ
   refine ⟨_,hE.sub,?_⟩
   refine .seq (.rk 12 s [0,0,0] T.mix ?_)
   intro W s
   have t:=s.to [0,0,0]
   refine .tp' 0 z z t (.tp' 1 z z t (bv h λx6 hx6 h=>.ts' 2 z (λW t=>ixv (s.keep q_0) hx6 u33 t62 z z z) t z (.ts' 3 z (λW t=>lde (RV.flat (t.keep q_0) hx6 z) t62 z z z z z) t z (.tp' 4 z z t (.tp' 5 z z t (.tp' 6 z z t (bv h λx7 hx7 h=>.ts' 7 z (λW t=>ixv s.p1.lv hx7 u87 t92 z z z) t z (.ts' 8 z (λW t=>uy (RV.flat (cs:=kc x7) t.p1.lv hx7 (qE λ_=>z)) t92 (kh _) z z) t z (.tp' 11 z z t (bv h λy8 hy8 h=>.by1 9 z (.cV s func99 (sd hy8) z z ?_)))))))))))
   intro v7 W s
   refine s.an [1,1,1] λt=>.ts' 10 z (λW t=>aE s.lv u23 z z) t z (.done (.block (bv h λy9 hy9 h=>?_)))
   refine .via (.iter (λs3 E' W'=>∃ (v10:Hd),ak E' [(0,(sv v_0)),(3,(sv v1)),(5,(sv v10)),(7,Pt g4),(57,(sv v7)),(58,vi (y8.length:Int)),(59,vi s3.2.1)]/\Sep No w W' [ac (sv v7) 3 1 (D.int .i64) y8,ac (sv v1) 92 24 (arD 12 aX) s3.2.2,.box g4 92 (kc y7),ac (sv v10) 3 1 (D.int .i64) s3.1]) (λy10 x E' W'=>x=.exit 4/\∃ (v11:Hd),ak E' [(0,(sv v_0)),(3,(sv v1)),(5,(sv v11))]/\Sep No w W' [ac (sv v7) 3 1 (D.int .i64) y8,ac (sv v1) 92 24 (arD 12 aX) y10.2,.box g4 92 (kc y7),ac (sv v11) 3 1 (D.int .i64) y10.1]) hy9 ⟨v6,sb z,s.tk [0,1,1,0]⟩ ?_) ?_
   ·intro s3 y11 E W h hI
    obtain ⟨v9,hE,s⟩:=hI
    refine CW.sub hE ?_
    unfold fi at h
    refine .g (.qn z (.seq ?_))
    refine .cs z h ?_ ?_ <;> intro h
    ·refine .skip (bv h λy12 hy12 h=>?_)
     refine .seq (CW.via (R':=λx E' W'=>x=.normal/\∃ (v12:Hd),ak E' [(0,(sv v_0)),(3,(sv v1)),(5,(sv v12)),(7,Pt g4),(57,(sv v7)),(58,vi (y8.length:Int)),(59,vi s3.2.1)]/\Sep No w W' [ac (sv v7) 3 1 (D.int .i64) y8,ac (sv v1) 92 24 (arD 12 aX) y12.2,.box g4 92 (kc y7),ac (sv v12) 3 1 (D.int .i64) y12.1]) ?_ ?_)
     ·have h:=hy12
      refine .block (.g (bv h λx8 hx8 h=>.s (ixv s.lv hx8 u23 t3 z z z) z (.s (lde (RV.flat s.lv hx8 z) t3 z z z z z) z (.qn z (.g (.q z (.q z (bv h λx9 hx9 h=>.s (ixv s.p1.lv hx9 u87 t92 z z z) z (.s (uy (RV.flat (cs:=kc x9) s.p1.lv hx9 (qE λ_=>z)) t92 (kh _) z z) z (.c (.alloc t92 s ?_)))))))))))
      intro g5 W s
      have s:Sep _ _ _ [.box g5 92 (kc (λ_=>(ai.mk 0 0))),ac (sv v7) 3 1 (D.int .i64) y8,ac (sv v1) 92 24 (arD 12 aX) s3.2.2,.box g4 92 (kc y7),ac (sv v9) 3 1 (D.int .i64) s3.1]:=id s
      refine .c (.sta t92 s kh sY z z z ?_)
      intro W s
      refine .nil (.seq (.g (.qn z (.block (bv h λy13 hy13 h=>?_)))))
      refine .via (.iter (λs4 E' W'=>ak E' [(0,(sv v_0)),(3,(sv v1)),(5,(sv v9)),(7,Pt g4),(9,vi x8),(10,Pt g5),(57,(sv v7)),(58,vi (y8.length:Int)),(59,vi s3.2.1),(67,vi s4.1)]/\Sep No w W' [.box g5 92 (kc s4.2),ac (sv v7) 3 1 (D.int .i64) y8,ac (sv v1) 92 24 (arD 12 aX) s3.2.2,.box g4 92 (kc y7),ac (sv v9) 3 1 (D.int .i64) s3.1]) (λy14 x E' W'=>x=.exit 6/\ak E' [(0,(sv v_0)),(3,(sv v1)),(5,(sv v9)),(7,Pt g4),(9,vi x8),(10,Pt g5),(57,(sv v7)),(58,vi (y8.length:Int)),(59,vi s3.2.1)]/\Sep No w W' [.box g5 92 (kc y14),ac (sv v7) 3 1 (D.int .i64) y8,ac (sv v1) 92 24 (arD 12 aX) s3.2.2,.box g4 92 (kc y7),ac (sv v9) 3 1 (D.int .i64) s3.1]) hy13 ⟨sb z,s.tk [0,0,0,0,0]⟩ ?_) ?_
      ·intro s4 y15 E W h hI
       obtain ⟨hE,s⟩:=hI
       refine CW.sub hE ?_
       unfold fh at h
       refine .g (.qn z (.seq ?_))
       refine .cs z h ?_ ?_ <;> intro h
       ·refine .skip (.seq (.block (.g (.q z (.qn z (.rk 9 s [0,0,0,0,0] T.mix ?_))))))
        intro W s
        have t:=s.to [0,0,0,0,0]
        refine .tp' 0 z z t (.tp' 1 z z t (bv h λx10 hx10 h=>.ts' 2 z (λW t=>ixa hx10 u92 t90 z z z) t z (.ts' 3 z (λW t=>ldx t hx10 (λ_=>z) t90 z z z z z) t z (.tp' 4 z z t (bv h λx11 hx11 h=>.ts' 5 z (λW t=>ixa hx11 u92 t90 z z z) t z (.ts' 6 z (λW t=>ldx t.p3 hx11 (λ_=>z) t90 z z z z z) t z (bv h λy16 hy16 h=>.by1 7 z (.cO s func100 (qi hy16) z z ?_))))))))
        intro W s
        refine s.an [0,0,0,0,0] λt=>bv h λx12 hx12 h=>.ts' 8 z (λW t=>ixa hx12 u92 t90 z z z) t z (.by1 9 z (.stx (x1:=y16) hx12 s (λ_=>z) t90 z z z z ?_))
        intro W s
        refine ⟨λh=>absurd z h,?_⟩
        refine .done (.region (.q z (.q z (.nil ?_))))
        cases h
        exact ⟨z,sb z,s.tk [0,0,0,0,0]⟩
       refine .exit ?_
       cases h
       exact ⟨by simp,z,sb z,s.tk [0,0,0,0,0]⟩
      intro x E W hJ
      obtain ⟨rfl,hE,s⟩:=hJ
      refine ⟨_,hE.sub,?_⟩
      refine .seq (.rk 6 s [0,0,0,0,0] T.mix ?_)
      intro W s
      have t:=s.to [0,0,0,0,0]
      refine .ts' 0 z (λW t=>lda t92 t (kh _) z z) t z (.tp' 1 z z t (.tp' 2 z z t (bv h λx13 hx13 h=>.ts' 3 z (λW t=>ixv s.p2.lv hx13 u87 t92 z z z) t z (.ts' 4 z (λW t=>uy (RV.flat (cs:=kc x13) t.p2.lv hx13 (qE λ_=>z)) t92 (kh _) z z) t z (.ts' 5 z (λW t=>nea (q:=(λx y:ai=>(x.Kind==y.Kind&&(x.N==y.N&&true)))) T.q92 u92 t90 (λ_=>z) z (eqS T.e90 λ_ _=>z) z z z) t z (.done ?_))))))
      refine .cs z h ?_ ?_ <;> intro h
      ·refine .g (.q z (.q z (.s (lda t92 s (kh _) z z) z (bv h λx14 hx14 h=>.s (ixv s.p2.lv hx14 u87 t92 z z z) z (bv h λr4 hr4 h=>.c (.seva hr4 hx14 s.p2 t92 (λ_=>z) kh sY z z z ?_))))))
       intro W s
       refine .nil (.region (.q z (.q z (.c (.liv [x8] (D.int .i64) u23 t3 s z z z z ?_ z (λ_=>z))))))
       intro v13 W s
       refine bv h λr5 hr5 h=>?_
       have hT0:=s.p5
       refine .c (.av hr5 hT0 hT0.p1.lv (λ_=>z) u23 t3 z z z ?_)
       intro v14 W s
       refine .q z (.nil ?_)
       cases h
       exact ⟨z,v14,sb z,s.tk [4,2,3,0]⟩
      refine .skip ?_
      cases h
      exact ⟨z,v9,sb z,s.tk [1,1,1,1]⟩
     intro x E W hJ
     obtain ⟨rfl,v15,hE,s⟩:=hJ
     refine ⟨_,hE.sub,?_⟩
     refine .region (.q z (.q z (.nil ?_)))
     cases h
     exact ⟨z,v15,sb z,s.tk [0,0,0,0]⟩
    refine .exit ?_
    cases h
    exact ⟨by simp,z,v9,sb z,s.tk [0,0,0,0]⟩
   intro x E W hJ
   obtain ⟨rfl,v16,hE,s⟩:=hJ
   refine ⟨_,hE.sub,?_⟩
   cases h
   exact ⟨z,v16,sb z,s.tk [1,2]⟩
  refine .exit ?_
  cases h
  exact ⟨by simp,z,sb z,s.tk [0]⟩
 intro x E W hJ
 obtain ⟨rfl,hE,s⟩:=hJ
 refine ⟨_,hE.sub,?_⟩
 obtain rfl:=o9 h
 exact .g (.q z (.qn z (.ret (aa v1 (rt z rn) z (s.tk [0])))))
theorem cn {a0:ai} {a1:Int} {w:World} {r:Bool} (h:bS a0 a1=some r):CL 102 #[.agg #[vi a0.Kind,vi a0.N],vi a1] w (RU w (.bool r)):=by
 unfold bS at h
 refine au func102 z z ?_
 have s:=Sep.start w
 refine .g (.c (.box s z z ?_))
 intro g1 W s
 refine .qn z (.g (.s (fa f90_0 z z z) z (.s (ld t3 s z z z z z) z (.q z (.q z (.cu 5 13 ((a0.Kind==1)&&(a0.N==a1)) s ?_ ?_))))))
 ·refine .both (a0.Kind==1) (λb=>?_) (λb=>?_)
  ·have hg1:=b
   exact .g hg1 (.s (fa f90_1 z z z) z (.g hg1 (.s (ld t3 s z z z z z) z (.g hg1 (.q z (.g hg1 (.q z (.s (pkt hg1 z z z) z (.nil (ck 5 s z (bh hg1)))))))))))
  exact .xx b z (.xx b z (.xx b z (.xx b z (.s (pkf b z z z) z (.nil (ck 5 s z (bi b)))))))
 intro W s
 cases h
 exact .qn z (.ret (aa () (rt z rn) z (s.to [])))
theorem dx {a0:Int} {a1:ab} {g_1:Nat} {w:World} {r:ab} (h:cH a0 a1=some r) (b_1:BR w (Old No w) g_1 62 [vi a1.Op,vi a1.Dst,vi a1.A,vi a1.B,vi a1.N]):CL 133 #[vi a0,Pt g_1] w (RU w (.agg #[vi r.Op,vi r.Dst,vi r.A,vi r.B,vi r.N])):=by
 unfold cH at h
 refine au func133 z z ?_
 have s:=Sep.start w
 refine .g (.c (.alloc t62 s ?_))
 intro g1 W s
 refine .nil (.g (.s (fa f62_1 z z z) z (.s (ldb t3 (s.keepB b_1) z z z z z) z (.q z (.s (bs T.s62 z z) z (.c (.st t62 s z z z ?_)))))))
 intro W s
 cases h
 exact .nil (.ret (aa () (rc s t62 z rn z z) z (s.to [])))
def tI (w:World) (r:ab):Env->World->Prop:=Fin Tryz.prog Tryz.f101 No w (λs:Unit=>.agg #[vi r.Op,vi r.Dst,vi r.A,vi r.B,vi r.N]) (λs=>[]) .ret
theorem sg {a0:ab} {a1:ai} {a2:ai} {w:World} {r:ab} (h:kt a0 a1 a2=some r):CL 101 #[.agg #[vi a0.Op,vi a0.Dst,vi a0.A,vi a0.B,vi a0.N],.agg #[vi a1.Kind,vi a1.N],.agg #[vi a2.Kind,vi a2.N]] w (RU w (.agg #[vi r.Op,vi r.Dst,vi r.A,vi r.B,vi r.N])):=by
 unfold kt at h
 refine au func101 z z ?_
 have s:=Sep.start w
 refine .g (.c (.box s z z ?_))
 intro g1 W s
 refine .c (.box s z z ?_)
 intro g2 W s
 refine .c (.box s z z ?_)
 intro g3 W s
 refine .c (.alloc t62 s ?_)
 intro g4 W s
 refine .nil (.g (.s (mf z z) z (.qn z (.seq (.g (.s (fa f90_0 z z z) z (.s (ld t3 s.p2 z z z z z) z (.q z (.q z (.cu 4 16 ((a1.Kind==1)&&(a2.Kind==1)) s ?_ ?_))))))))))
 ·refine .both (a1.Kind==1) (λb=>?_) (λb=>?_)
  ·have hg1:=b
   exact .g hg1 (.s (fa f90_0 z z z) z (.g hg1 (.s (ld t3 s.p1 z z z z z) z (.g hg1 (.q z (.s (pkt hg1 z z z) z (.nil (ck 4 s z (bh hg1)))))))))
  exact .xx b z (.xx b z (.xx b z (.s (pkf b z z z) z (.nil (ck 4 s z (bi b))))))
 intro W s
 refine .nil ?_
 refine .cs z h ?_ ?_ <;> intro h
 ·refine .seq (.rk 10 s [0,0,0,0] T.mix ?_)
  intro W s
  have t:=s.to [0,0,0,0]
  refine .ts' 0 z (λW t=>fa f62_1 z z z) t z (.ts' 1 z (λW t=>ld t3 t.p3 z z z z z) t z (.ts' 2 z (λW t=>fa f62_4 z z z) t z (.ts' 3 z (λW t=>ld t3 t.p3 z z z z z) t z (.ts' 4 z (λW t=>fa f90_1 z z z) t z (.ts' 5 z (λW t=>ld t3 t.p2 z z z z z) t z (.ts' 6 z (λW t=>fa f90_1 z z z) t z (.ts' 7 z (λW t=>ld t3 t.p1 z z z z z) t z (bv h λy1 hy1 h=>.by1 8 z (.cO s func132 (ph hy1) z z ?_)))))))))
  intro W s
  refine s.an [0,0,0,0] λt=>.ts' 9 z (λW t=>bs T.s62 z z) t z (.by1 10 z (.st t62 s z z z ?_))
  intro W s
  refine ⟨λh=>absurd z h,?_⟩
  cases h
  exact .done (.ret (aa () (rc s t62 z rn z z) z (s.to [])))
 refine .skip (bv h λy2 hy2 h=>?_)
 refine .seq (CW.via (R':=λx E' W'=>(match y2 with | .inl o1=>x=.normal/\ak E' [(3,Pt g1),(4,Pt g2),(5,Pt g3),(6,Pt g4)]/\Sep No w W' [.box g4 62 [vi 0,vi 0,vi 0,vi 0,vi 0],.box g3 90 [vi a2.Kind,vi a2.N],.box g2 90 [vi a1.Kind,vi a1.N],.box g1 62 [vi a0.Op,vi a0.Dst,vi a0.A,vi a0.B,vi a0.N]] | .inr o2=>x=.ret/\tI w o2 E' W')) ?_ ?_)
 ·have h:=hy2
  refine .g (.s (fa f62_4 z z z) z (.s (ld t3 s.p3 z z z z z) z (.nil (.block (bv h λy3 hy3 h=>?_)))))
  refine .seq (CW.via (R':=λx E' W'=>x=.normal/\ak E' [(3,Pt g1),(4,Pt g2),(5,Pt g3),(6,Pt g4),(7,.func (.func 133) #[] #[Pt g1]),(28,vi a0.N),(29,.bool y3)]/\Sep No w W' [.box g4 62 [vi 0,vi 0,vi 0,vi 0,vi 0],.box g3 90 [vi a2.Kind,vi a2.N],.box g2 90 [vi a1.Kind,vi a1.N],.box g1 62 [vi a0.Op,vi a0.Dst,vi a0.A,vi a0.B,vi a0.N]]) ?_ ?_)
  ·have h:=hy3
   refine .g (.q z (.q z (.nil ?_)))
   refine .cs z h ?_ ?_ <;> intro h
   ·refine .skip ?_
    cases h
    exact ⟨z,sb z,s.tk [0,0,0,0]⟩
   refine .g (.q z (.q z (.nil ?_)))
   refine .cs z h ?_ ?_ <;> intro h
   ·refine .skip ?_
    cases h
    exact ⟨z,sb z,s.tk [0,0,0,0]⟩
   refine .region (.q z (.q z (.nil ?_)))
   cases h
   exact ⟨z,sb z,s.tk [0,0,0,0]⟩
  intro x E W hJ
  obtain ⟨rfl,hE,s⟩:=hJ
  refine ⟨_,hE.sub,?_⟩
  refine .cs z h ?_ ?_ <;> intro h
  ·refine .seq (.g (.s (ld t90 s.p1 z z z z z) z (bv h λy4 hy4 h=>.c (.cO s func102 (cn hy4) z z ?_))))
   intro W s
   refine .nil ?_
   refine .cs z h ?_ ?_ <;> intro h
   ·refine .g (.q z (.s (fa f62_2 z z z) z (.s (ld t3 s.p3 z z z z z) z (bv h λy5 hy5 h=>.c (.callv (vs:=[vi a0.A]) (cap:=#[Pt g1]) s ⟨_,func133,z,by kernel_rfl⟩ (dx hy5 s.p3.boxB) z z z ?_)))))
    rintro ⟨⟩ W s
    refine .c (.st t62 s z z z ?_)
    intro W s
    refine .nil (.ret ?_)
    cases h
    exact ⟨z,aa (vs:=[_]) () (rc s t62 z rn z z) z (s.to [])⟩
   refine .skip (.g (.s (ld t90 s.p2 z z z z z) z (bv h λy6 hy6 h=>.c (.cO s func102 (cn hy6) z z ?_))))
   intro W s
   refine .nil ?_
   refine .cs z h ?_ ?_ <;> intro h
   ·refine .g (.q z (.s (fa f62_3 z z z) z (.s (ld t3 s.p3 z z z z z) z (bv h λy7 hy7 h=>.c (.callv (vs:=[vi a0.B]) (cap:=#[Pt g1]) s ⟨_,func133,z,by kernel_rfl⟩ (dx hy7 s.p3.boxB) z z z ?_)))))
    rintro ⟨⟩ W s
    refine .c (.st t62 s z z z ?_)
    intro W s
    refine .nil (.ret ?_)
    cases h
    exact ⟨z,aa (vs:=[_]) () (rc s t62 z rn z z) z (s.to [])⟩
   refine .skip ?_
   cases h
   exact ⟨z,sb z,s.tk [0,0,0,0]⟩
  refine bv h λy8 hy8 h=>?_
  refine .seq (CW.via (R':=λx E' W'=>x=.normal/\ak E' [(3,Pt g1),(4,Pt g2),(5,Pt g3),(6,Pt g4),(7,.func (.func 133) #[] #[Pt g1]),(28,vi a0.N),(45,.bool y8)]/\Sep No w W' [.box g4 62 [vi 0,vi 0,vi 0,vi 0,vi 0],.box g3 90 [vi a2.Kind,vi a2.N],.box g2 90 [vi a1.Kind,vi a1.N],.box g1 62 [vi a0.Op,vi a0.Dst,vi a0.A,vi a0.B,vi a0.N]]) ?_ ?_)
  ·have h:=hy8
   refine .g (.q z (.q z (.nil ?_)))
   refine .cs z h ?_ ?_ <;> intro h
   ·refine .skip ?_
    cases h
    exact ⟨z,sb z,s.tk [0,0,0,0]⟩
   refine .g (.q z (.q z (.nil ?_)))
   refine .cs z h ?_ ?_ <;> intro h
   ·refine .skip ?_
    cases h
    exact ⟨z,sb z,s.tk [0,0,0,0]⟩
   refine .region (.q z (.q z (.nil ?_)))
   cases h
   exact ⟨z,sb z,s.tk [0,0,0,0]⟩
  intro x E W hJ
  obtain ⟨rfl,hE,s⟩:=hJ
  refine ⟨_,hE.sub,?_⟩
  refine .cs z h ?_ ?_ <;> intro h
  ·refine .g (.s (ld t90 s.p1 z z z z z) z (bv h λy9 hy9 h=>.c (.cO s func102 (cn hy9) z z ?_)))
   intro W s
   refine .nil ?_
   refine .cs z h ?_ ?_ <;> intro h
   ·refine .g (.q z (.s (fa f62_2 z z z) z (.s (ld t3 s.p3 z z z z z) z (bv h λy10 hy10 h=>.c (.callv (vs:=[vi a0.A]) (cap:=#[Pt g1]) s ⟨_,func133,z,by kernel_rfl⟩ (dx hy10 s.p3.boxB) z z z ?_)))))
    rintro ⟨⟩ W s
    refine .c (.st t62 s z z z ?_)
    intro W s
    refine .nil (.ret ?_)
    cases h
    exact ⟨z,aa (vs:=[_]) () (rc s t62 z rn z z) z (s.to [])⟩
   refine .skip ?_
   cases h
   exact ⟨z,sb z,s.tk [0,0,0,0]⟩
  refine .g (.q z (.q z (.nil ?_)))
  refine .cs z h ?_ ?_ <;> intro h
  ·refine .seq (.g (.s (ld t90 s.p1 z z z z z) z (bv h λy11 hy11 h=>.c (.cO s func102 (cn hy11) z z ?_))))
   intro W s
   refine .nil ?_
   refine .cs z h ?_ ?_ <;> intro h
   ·refine .g (.q z (.s (fa f62_2 z z z) z (.s (ld t3 s.p3 z z z z z) z (bv h λy12 hy12 h=>.c (.callv (vs:=[vi a0.A]) (cap:=#[Pt g1]) s ⟨_,func133,z,by kernel_rfl⟩ (dx hy12 s.p3.boxB) z z z ?_)))))
    rintro ⟨⟩ W s
    refine .c (.st t62 s z z z ?_)
    intro W s
    refine .nil (.ret ?_)
    cases h
    exact ⟨z,aa (vs:=[_]) () (rc s t62 z rn z z) z (s.to [])⟩
   refine .skip (.g (.s (ld t90 s.p2 z z z z z) z (bv h λy13 hy13 h=>.c (.cO s func102 (cn hy13) z z ?_))))
   intro W s
   refine .nil ?_
   refine .cs z h ?_ ?_ <;> intro h
   ·refine .g (.q z (.s (fa f62_3 z z z) z (.s (ld t3 s.p3 z z z z z) z (bv h λy14 hy14 h=>.c (.callv (vs:=[vi a0.B]) (cap:=#[Pt g1]) s ⟨_,func133,z,by kernel_rfl⟩ (dx hy14 s.p3.boxB) z z z ?_)))))
    rintro ⟨⟩ W s
    refine .c (.st t62 s z z z ?_)
    intro W s
    refine .nil (.ret ?_)
    cases h
    exact ⟨z,aa (vs:=[_]) () (rc s t62 z rn z z) z (s.to [])⟩
   refine .skip ?_
   cases h
   exact ⟨z,sb z,s.tk [0,0,0,0]⟩
  refine .g (.q z (.q z (.nil ?_)))
  refine .cs z h ?_ ?_ <;> intro h
  ·refine .g (.s (ld t90 s.p1 z z z z z) z (bv h λy15 hy15 h=>.c (.cO s func102 (cn hy15) z z ?_)))
   intro W s
   refine .nil ?_
   refine .cs z h ?_ ?_ <;> intro h
   ·refine .g (.q z (.s (fa f62_2 z z z) z (.s (ld t3 s.p3 z z z z z) z (bv h λy16 hy16 h=>.c (.callv (vs:=[vi a0.A]) (cap:=#[Pt g1]) s ⟨_,func133,z,by kernel_rfl⟩ (dx hy16 s.p3.boxB) z z z ?_)))))
    rintro ⟨⟩ W s
    refine .c (.st t62 s z z z ?_)
    intro W s
    refine .nil (.ret ?_)
    cases h
    exact ⟨z,aa (vs:=[_]) () (rc s t62 z rn z z) z (s.to [])⟩
   refine .skip ?_
   cases h
   exact ⟨z,sb z,s.tk [0,0,0,0]⟩
  refine .skip ?_
  cases h
  exact ⟨z,sb z,s.tk [0,0,0,0]⟩
 intro x E W hJ
 rcases y2 with o3 | o4
 ·have h:=dl h
  obtain ⟨rfl,hE,s⟩:=hJ
  refine ⟨_,hE.sub,?_⟩
  refine .seq (.g (.s (fa f62_4 z z z) z (.s (ld t3 s.p3 z z z z z) z (.q z (.q z (.cu 4 84 ((a0.N==3)||(a0.N==10)) s ?_ ?_))))))
  ·refine .both (a0.N==3) (λb=>?_) (λb=>?_)
   ·exact .xx b z (.xx b z (.xx b z (.s (pkt b z z z) z (.nil (ck 4 s z (jr b))))))
   have hg2:=b
   exact .g hg2 (.s (fa f62_4 z z z) z (.g hg2 (.s (ld t3 s.p3 z z z z z) z (.g hg2 (.q z (.s (pkf hg2 z z z) z (.nil (ck 4 s z (iR hg2)))))))))
  intro W s
  refine .q z (bv h λb1 hb1 h=>.cu 7 92 (b1) s ?_ ?_)
  ·refine .both ((a0.N==3)||(a0.N==10)) (λb=>?_) (λb=>?_)
   ·have hg3:=b
    have h:=aJ b hb1
    refine .g hg3 (.s (ld t90 s.p2 z z z z z) z (bv h λy17 hy17 h=>.g hg3 (.c (.cO s func102 (cn hy17) z z ?_))))
    intro W s
    refine .g hg3 (.q z (bv h λb2 hb2 h=>.cu 3 91 (b2) s ?_ ?_))
    ·refine .both (y17) (λb=>?_) (λb=>?_)
     ·refine .xx b z (.xx b z ?_)
      cases aJ b hb2
      exact .g hg3 (.s (pkt b z z z) z (.nil (ck 3 s)))
     have hg4:=b
     have h:=aK b hb2
     refine .g hg4 (.s (ld t90 s.p1 z z z z z) z (bv h λy18 hy18 h=>.g hg4 (.c (.cO s func102 (cn hy18) z z ?_))))
     intro W s
     refine .g hg3 (.s (pkf hg4 z z z) z ?_)
     cases h
     exact .nil (ck 3 s)
    intro W s
    refine .s (pkt hg3 z z z) z ?_
    cases h
    exact .nil (ck 5 s)
   refine .xx b z (.xx b z (.xx b z (.xu (.xu (.xx b z ?_)))))
   cases aK b hb1
   exact .s (pkf b z z z) z (.nil (ck 7 s))
  intro W s
  refine .nil ?_
  refine .cs z h ?_ ?_ <;> intro h
  ·refine .g (.s (fa f62_1 z z z) z (.s (ld t3 s.p3 z z z z z) z (.s (bs T.s62 z z) z (.c (.st t62 s z z z ?_)))))
   intro W s
   cases h
   exact .nil (.ret (aa () (rc s t62 z rn z z) z (s.to [])))
  refine .skip (.g (.s (ld t62 s.p3 z z z z z) z (.c (.st t62 s z z z ?_))))
  intro W s
  obtain rfl:=o9 h
  exact .nil (.ret (aa () (rc s t62 z rn z z) z (s.to [])))
 have h:=dm h
 obtain ⟨rfl,hF⟩:=hJ
 refine ⟨_,λ_ _ h=>h,?_⟩
 cases h
 exact hF
theorem qV {a0:ab} {a1:Int} {a2:Ar ai} {w:World} {r:ab} (h:jw a0 a1 a2=some r):CL 64 #[.agg #[vi a0.Op,vi a0.Dst,vi a0.A,vi a0.B,vi a0.N],vi a1,.agg (kc a2).toArray] w (RU w (.agg #[vi r.Op,vi r.Dst,vi r.A,vi r.B,vi r.N])):=by
 unfold jw at h
 refine au func64 z z ?_
 have s:=Sep.start w
 refine .g (.c (.box s z z ?_))
 intro g1 W s
 refine .c (.box s z z ?_)
 intro g2 W s
 have s:Sep _ _ _ [.box g2 92 (kc a2),.box g1 62 [vi a0.Op,vi a0.Dst,vi a0.A,vi a0.B,vi a0.N]]:=id s
 refine .c (.alloc t62 s ?_)
 intro g3 W s
 refine .nil (.seq (.block (.g (.s (fa f62_0 z z z) z (.s (ld t3 s.p2 z z z z z) z (.q z (.q z (bv h λb1 hb1 h=>.cu 7 18 (b1) s ?_ ?_))))))))
 ·refine .both (a0.Op==2) (λb=>?_) (λb=>?_)
  ·have hg1:=b
   have h:=aJ b hb1
   refine .g hg1 (.s (fa f62_2 z z z) z (.g hg1 (.s (ld t3 s.p2 z z z z z) z (bv h λx1 hx1 h=>.g hg1 (.s (ixa hx1 u92 t90 z z z) z (.g hg1 (.s (fa f90_0 z z z) z (.g hg1 (.s (ldx s.p1 hx1 (λ_=>z) t3 z z z z z) z (.g hg1 (.q z (.s (pkt hg1 z z z) z ?_))))))))))))
   cases h
   exact .nil (ck 7 s)
  refine .xx b z (.xx b z (.xx b z (.xx b z (.xx b z (.xx b z ?_)))))
  cases aK b hb1
  exact .s (pkf b z z z) z (.nil (ck 7 s))
 intro W s
 refine .q z (.nil ?_)
 refine .cs z h ?_ ?_ <;> intro h
 ·refine .seq (.rk 8 s [0,0,0] T.mix ?_)
  intro W s
  have t:=s.to [0,0,0]
  refine .ts' 0 z (λW t=>fa f62_1 z z z) t z (.ts' 1 z (λW t=>ld t3 t.p2 z z z z z) t z (.ts' 2 z (λW t=>fa f62_2 z z z) t z (.ts' 3 z (λW t=>ld t3 t.p2 z z z z z) t z (bv h λx2 hx2 h=>.ts' 4 z (λW t=>ixa hx2 u92 t90 z z z) t z (.ts' 5 z (λW t=>fa f90_1 z z z) t z (.ts' 6 z (λW t=>ldx t.p1 hx2 (λ_=>z) t3 z z z z z) t z (.ts' 7 z (λW t=>bs T.s62 z z) t z (.by1 8 z (.st t62 s z z z ?_)))))))))
  intro W s
  refine ⟨λh=>absurd z h,?_⟩
  cases h
  exact .done (.ret (aa () (rc s t62 z rn z z) z (s.to [])))
 refine .g (.s (fa f62_0 z z z) z (.s (ld t3 s.p2 z z z z z) z (.q z (.q z (.nil ?_)))))
 refine .cs z h ?_ ?_ <;> intro h
 ·refine .seq (.rk 10 s [0,0,0] T.mix ?_)
  intro W s
  have t:=s.to [0,0,0]
  refine .ts' 0 z (λW t=>ld t62 t.p2 z z z z z) t z (.ts' 1 z (λW t=>fa f62_2 z z z) t z (.ts' 2 z (λW t=>ld t3 t.p2 z z z z z) t z (bv h λx3 hx3 h=>.ts' 3 z (λW t=>ixa hx3 u92 t90 z z z) t z (.ts' 4 z (λW t=>ldx t.p1 hx3 (λ_=>z) t90 z z z z z) t z (.ts' 5 z (λW t=>fa f62_3 z z z) t z (.ts' 6 z (λW t=>ld t3 t.p2 z z z z z) t z (bv h λx4 hx4 h=>.ts' 7 z (λW t=>ixa hx4 u92 t90 z z z) t z (.ts' 8 z (λW t=>ldx t.p1 hx4 (λ_=>z) t90 z z z z z) t z (bv h λy1 hy1 h=>.by1 9 z (.cO s func101 (sg hy1) z z ?_))))))))))
  intro W s
  refine s.an [0,0,0] λt=>.by1 10 z (.st t62 s z z z ?_)
  intro W s
  refine ⟨λh=>absurd z h,?_⟩
  obtain rfl:=o9 h
  exact .done (.ret (aa () (rc s t62 z rn z z) z (s.to [])))
 refine .g (.s (fa f62_0 z z z) z (.s (ld t3 s.p2 z z z z z) z (.q z (.q z (bv h λb2 hb2 h=>.cu 6 51 (b2) s ?_ ?_)))))
 ·refine .both (a0.Op==5) (λb=>?_) (λb=>?_)
  ·have hg2:=b
   have h:=aJ b hb2
   refine .g hg2 (.s (fa f62_2 z z z) z (.g hg2 (.s (ld t3 s.p2 z z z z z) z (bv h λx5 hx5 h=>.g hg2 (.s (ixa hx5 u92 t90 z z z) z (.g hg2 (.s (ldx s.p1 hx5 (λ_=>z) t90 z z z z z) z (bv h λy2 hy2 h=>.g hg2 (.c (.cO s func102 (cn hy2) z z ?_))))))))))
   intro W s
   refine .s (pkt hg2 z z z) z ?_
   cases h
   exact .nil (ck 6 s)
  refine .xx b z (.xx b z (.xx b z (.xx b z (.xx b z ?_))))
  cases aK b hb2
  exact .s (pkf b z z z) z (.nil (ck 6 s))
 intro W s
 refine .q z (.nil ?_)
 refine .cs z h ?_ ?_ <;> intro h
 ·refine .g (.s (fa f62_4 z z z) z (.s (ld t3 s.p2 z z z z z) z (.s (bs T.s62 z z) z (.c (.st t62 s z z z ?_)))))
  intro W s
  cases h
  exact .nil (.ret (aa () (rc s t62 z rn z z) z (s.to [])))
 refine .g (.s (fa f62_0 z z z) z (.s (ld t3 s.p2 z z z z z) z (.q z (.q z (bv h λb3 hb3 h=>.cu 7 66 (b3) s ?_ ?_)))))
 ·refine .both (a0.Op==5) (λb=>?_) (λb=>?_)
  ·have hg3:=b
   have h:=aJ b hb3
   refine .g hg3 (.s (fa f62_2 z z z) z (.g hg3 (.s (ld t3 s.p2 z z z z z) z (bv h λx6 hx6 h=>.g hg3 (.s (ixa hx6 u92 t90 z z z) z (.g hg3 (.s (fa f90_0 z z z) z (.g hg3 (.s (ldx s.p1 hx6 (λ_=>z) t3 z z z z z) z (.g hg3 (.q z (.s (pkt hg3 z z z) z ?_))))))))))))
   cases h
   exact .nil (ck 7 s)
  refine .xx b z (.xx b z (.xx b z (.xx b z (.xx b z (.xx b z ?_)))))
  cases aK b hb3
  exact .s (pkf b z z z) z (.nil (ck 7 s))
 intro W s
 refine .q z (.nil ?_)
 refine .cs z h ?_ ?_ <;> intro h
 ·refine .g (.q z (.q z (.s (bs T.s62 z z) z (.c (.st t62 s z z z ?_)))))
  intro W s
  cases h
  exact .nil (.ret (aa () (rc s t62 z rn z z) z (s.to [])))
 refine .skip (.g (.s (ld t62 s.p2 z z z z z) z (.c (.st t62 s z z z ?_))))
 intro W s
 obtain rfl:=o9 h
 exact .nil (.ret (aa () (rc s t62 z rn z z) z (s.to [])))
theorem qW {a0:List ab} {v_0:Hd} {w:World} {r:(List ab)×Bool} (h:jx a0=some r) (q_0:RO w v_0 62 5 ah a0):CL 33 #[sv v_0] w (Ret No w (λs:Hd=>.tuple #[sv s,.bool r.2]) (λs=>[ac (sv s) 62 5 ah r.1])):=by
 unfold jx at h
 refine au func33 z z ?_
 have s:=Sep.start w
 refine .g (.q z (.qn z (.seq (.g (.q z (bv h λy1 hy1 h=>.c (.cO s func31 (bZ hy1 (s.keep q_0)) z z ?_)))))))
 intro W s
 refine .q z (.nil ?_)
 refine .cs z h ?_ ?_ <;> intro h
 ·refine .g (.q z (.qn z (.ret ?_)))
  have s:=s.nilv 62 5 ah
  cases h
  exact aa (vs:=[_,_]) aF (rt z (rt z rn)) z (s.tk [0])
 refine .skip (.g (.q z (bv h λy2 hy2 h=>.c (.cV s func32 (aV hy2 (s.keep q_0)) z z ?_))))
 intro v1 W s
 refine .qn z (.seq (.g (.q z (bv h λy3 hy3 h=>.c (.cV s func63 (oG hy3 (s.keep q_0)) z z ?_)))))
 intro v2 W s
 refine .s (aE s.lv u87 z z) z (.qn z (.block (bv h λy4 hy4 h=>?_)))
 refine .via (.iter (λs1 E' W'=>ak E' [(0,(sv v_0)),(4,(sv v1)),(13,(sv v2)),(14,vi (y3.length:Int)),(15,vi s1.1)]/\Sep No w W' [ac (sv v2) 92 24 (arD 12 aX) y3,ac (sv v1) 62 5 ah s1.2]) (λy5 x E' W'=>x=.exit 0/\ak E' [(4,(sv v1))]/\Sep No w W' [ac (sv v2) 92 24 (arD 12 aX) y3,ac (sv v1) 62 5 ah y5]) hy4 ⟨sb z,s.tk [0,0]⟩ ?_) ?_
 ·intro s1 y6 E W h hI
  obtain ⟨hE,s⟩:=hI
  refine CW.sub hE ?_
  unfold fY at h
  refine .g (.qn z (.seq ?_))
  refine .cs z h ?_ ?_ <;> intro h
  ·refine .skip (bv h λy7 hy7 h=>?_)
   refine .seq (CW.via (R':=λx E' W'=>x=.normal/\ak E' [(0,(sv v_0)),(4,(sv v1)),(13,(sv v2)),(14,vi (y3.length:Int)),(15,vi s1.1)]/\Sep No w W' [ac (sv v2) 92 24 (arD 12 aX) y3,ac (sv v1) 62 5 ah y7]) ?_ ?_)
   ·have h:=hy7
    refine .block (.g (.q z (bv h λx1 hx1 h=>.s (ixv s.lv hx1 u87 t92 z z z) z (.s (uy (RV.flat (cs:=kc x1) s.lv hx1 (qE λ_=>z)) t92 (kh _) z z) z (.c (.alloc t92 s ?_))))))
    intro g1 W s
    have s:Sep _ _ _ [.box g1 92 (kc (λ_=>(ai.mk 0 0))),ac (sv v2) 92 24 (arD 12 aX) y3,ac (sv v1) 62 5 ah s1.2]:=id s
    refine .q z (.c (.sta t92 s kh sY z z z ?_))
    intro W s
    refine .nil (.g (bv h λx2 hx2 h=>.s (ixa hx2 u92 t90 z z z) z (.s (fa f90_0 z z z) z (.s (ldx s hx2 (λ_=>z) t3 z z z z z) z (.q z (.nil ?_))))))
    refine .cs z h ?_ ?_ <;> intro h
    ·refine .rk 10 s [0,0,0] T.mix ?_
     intro W s
     have t:=s.to [0,0,0]
     refine .tp' 0 z z t (.tp' 1 z z t (.tp' 2 z z t (.tp' 3 z z t (bv h λx3 hx3 h=>.ts' 4 z (λW t=>ixv (s.keep q_0) hx3 u33 t62 z z z) t z (.ts' 5 z (λW t=>lde (RV.flat (t.keep q_0) hx3 z) t62 z z z z z) t z (.tp' 6 z z t (.ts' 7 z (λW t=>lda t92 t (kh _) z z) t z (bv h λy8 hy8 h=>.by1 8 z (.cO s func64 (qV hy8) z z ?_)))))))))
     intro W s
     refine s.an [0,0,0] λt=>bv h λx4 hx4 h=>.ts' 9 z (λW t=>ixv s.p2.lv hx4 u33 t62 z z z) t z (bv h λr1 hr1 h=>.by1 10 z (.sev hr1 hx4 s.p2 t62 z z z z z z ?_))
     intro W s
     refine ⟨λh=>absurd z h,?_⟩
     refine .done ?_
     obtain rfl:=o9 h
     exact ⟨z,sb z,s.tk [2,0]⟩
    refine .skip ?_
    cases h
    exact ⟨z,sb z,s.tk [1,1]⟩
   intro x E W hJ
   obtain ⟨rfl,hE,s⟩:=hJ
   refine ⟨_,hE.sub,?_⟩
   refine .region (.q z (.q z (.nil ?_)))
   cases h
   exact ⟨z,sb z,s.tk [0,0]⟩
  refine .exit ?_
  cases h
  exact ⟨by simp,z,sb z,s.tk [0,0]⟩
 intro x E W hJ
 obtain ⟨rfl,hE,s⟩:=hJ
 refine ⟨_,hE.sub,?_⟩
 cases h
 exact .g (.q z (.q z (.qn z (.ret (aa (vs:=[_,_]) v1 (rt z (rt z rn)) z (s.tk [1]))))))
theorem qX {w:World} {r:(Ar Int)} (h:jy=some r):CL 103 #[] w (RU w (.agg (cQ r).toArray)):=by
 unfold jy at h
 refine au func103 z z ?_
 have s:=Sep.start w
 refine .g (.c (.alloc t97 s ?_))
 intro g1 W s
 have s:Sep _ _ _ [.box g1 97 (cQ (λ_=>0))]:=id s
 refine .nil (.g (.c (.alloc t97 s ?_)))
 intro g2 W s
 have s:Sep _ _ _ [.box g2 97 (cQ (λ_=>0)),.box g1 97 (cQ (λ_=>0))]:=id s
 refine .nil (.seq (.g (.qn z (.block (bv h λy1 hy1 h=>?_)))))
 refine .via (.iter (λs1 E' W'=>ak E' [(0,Pt g1),(1,Pt g2),(3,vi s1.1)]/\Sep No w W' [.box g2 97 (cQ s1.2),.box g1 97 (cQ (λ_=>0))]) (λy2 x E' W'=>x=.exit 0/\ak E' [(0,Pt g1),(1,Pt g2)]/\Sep No w W' [.box g2 97 (cQ y2),.box g1 97 (cQ (λ_=>0))]) hy1 ⟨sb z,s.tk [0,0]⟩ ?_) ?_
 ·intro s1 y3 E W h hI
  obtain ⟨hE,s⟩:=hI
  refine CW.sub hE ?_
  unfold lc at h
  refine .g (.qn z (.seq ?_))
  refine .cs z h ?_ ?_ <;> intro h
  ·refine .skip (.seq (.block (.g (.q z (.qn z (.region (.q z (.q z (bv h λx1 hx1 h=>.s (ixa hx1 u97 t3 z z z) z (.c (.stx (x1:=s1.1) hx1 s (λ_=>z) t3 z z z z ?_)))))))))))
   intro W s
   refine .nil (.region (.q z (.q z (.nil ?_))))
   cases h
   exact ⟨z,sb z,s.tk [0,0]⟩
  refine .exit ?_
  cases h
  exact ⟨by simp,z,sb z,s.tk [0,0]⟩
 intro x E W hJ
 obtain ⟨rfl,hE,s⟩:=hJ
 refine ⟨_,hE.sub,?_⟩
 refine .g (.s (lda t97 s (eO _) z z) z (.c (.sta t97 s.p1 eO nl z z z ?_)))
 intro W s
 obtain rfl:=o9 h
 exact .nil (.ret (aa () (rc s t97 z rn (eO _) z) z (s.to [])))
theorem kQ {a0:Ar Int} {a1:ab} {w:World} {r:(Ar Int)} (h:eC a0 a1=some r):CL 104 #[.agg (cQ a0).toArray,.agg #[vi a1.Op,vi a1.Dst,vi a1.A,vi a1.B,vi a1.N]] w (RU w (.agg (cQ r).toArray)):=by
 unfold eC at h
 refine au func104 z z ?_
 have s:=Sep.start w
 refine .g (.c (.box s z z ?_))
 intro g1 W s
 have s:Sep _ _ _ [.box g1 97 (cQ a0)]:=id s
 refine .c (.box s z z ?_)
 intro g2 W s
 refine .c (.alloc t97 s ?_)
 intro g3 W s
 have s:Sep _ _ _ [.box g3 97 (cQ (λ_=>0)),.box g2 62 [vi a1.Op,vi a1.Dst,vi a1.A,vi a1.B,vi a1.N],.box g1 97 (cQ a0)]:=id s
 refine .nil (.g (.s (ld t62 s.p1 z z z z z) z (bv h λy1 hy1 h=>.c (.cO s func108 (iO hy1) z z ?_))))
 intro W s
 refine .qn z (.seq (.g (.q z (.q z (.nil ?_)))))
 refine .cs z h ?_ ?_ <;> intro h
 ·refine .g (.s (lda t97 s.p2 (eO _) z z) z (.c (.sta t97 s eO nl z z z ?_)))
  intro W s
  obtain rfl:=o9 h
  exact .nil (.ret (aa () (rc s t97 z rn (eO _) z) z (s.to [])))
 refine .skip (.seq (.g (.qn z (.block (bv h λy2 hy2 h=>?_)))))
 refine .via (.iter (λs1 E' W'=>ak E' [(2,Pt g1),(3,Pt g2),(4,Pt g3),(5,vi y1),(12,vi s1.1)]/\Sep No w W' [.box g3 97 (cQ (λ_=>0)),.box g2 62 [vi a1.Op,vi a1.Dst,vi a1.A,vi a1.B,vi a1.N],.box g1 97 (cQ s1.2)]) (λy3 x E' W'=>x=.exit 0/\ak E' [(2,Pt g1),(3,Pt g2),(4,Pt g3),(5,vi y1)]/\Sep No w W' [.box g3 97 (cQ (λ_=>0)),.box g2 62 [vi a1.Op,vi a1.Dst,vi a1.A,vi a1.B,vi a1.N],.box g1 97 (cQ y3)]) hy2 ⟨sb z,s.tk [0,0,0]⟩ ?_) ?_
 ·intro s1 y4 E W h hI
  obtain ⟨hE,s⟩:=hI
  refine CW.sub hE ?_
  unfold gY at h
  refine .g (.qn z (.seq ?_))
  refine .cs z h ?_ ?_ <;> intro h
  ·refine .skip (bv h λy5 hy5 h=>?_)
   refine .seq (CW.via (R':=λx E' W'=>x=.normal/\ak E' [(2,Pt g1),(3,Pt g2),(4,Pt g3),(5,vi y1),(12,vi s1.1)]/\Sep No w W' [.box g3 97 (cQ (λ_=>0)),.box g2 62 [vi a1.Op,vi a1.Dst,vi a1.A,vi a1.B,vi a1.N],.box g1 97 (cQ y5)]) ?_ ?_)
   ·have h:=hy5
    refine .block (.g (.q z (.qn z (.g (.q z (.q z (.q z (.q z (bv h λb1 hb1 h=>.cu 6 24 (b1) s ?_ ?_)))))))))
    ·refine .both (s1.1==y1) (λb=>?_) (λb=>?_)
     ·refine .xx b z (.xx b z (.xx b z (.xx b z (.xx b z ?_))))
      cases aJ b hb1
      exact .s (pkt b z z z) z (.nil (ck 6 s))
     have hg1:=b
     have h:=aK b hb1
     refine .g hg1 (.q z (bv h λx1 hx1 h=>.g hg1 (.s (ixa hx1 u97 t3 z z z) z (.g hg1 (.s (ldx s.p2 hx1 (λ_=>z) t3 z z z z z) z (.g hg1 (.q z (.g hg1 (.q z (.s (pkf hg1 z z z) z ?_))))))))))
     cases h
     exact .nil (ck 6 s)
    intro W s
    refine .nil ?_
    refine .cs z h ?_ ?_ <;> intro h
    ·refine .region (.q z (.q z (bv h λx2 hx2 h=>.s (ixa hx2 u97 t3 z z z) z (.c (.stx (x1:=s1.1) hx2 s.p2 (λ_=>z) t3 z z z z ?_)))))
     intro W s
     refine .nil ?_
     cases h
     exact ⟨z,sb z,s.tk [1,1,0]⟩
    refine .skip ?_
    cases h
    exact ⟨z,sb z,s.tk [0,0,0]⟩
   intro x E W hJ
   obtain ⟨rfl,hE,s⟩:=hJ
   refine ⟨_,hE.sub,?_⟩
   refine .region (.q z (.q z (.nil ?_)))
   cases h
   exact ⟨z,sb z,s.tk [0,0,0]⟩
  refine .exit ?_
  cases h
  exact ⟨by simp,z,sb z,s.tk [0,0,0]⟩
 intro x E W hJ
 obtain ⟨rfl,hE,s⟩:=hJ
 refine ⟨_,hE.sub,?_⟩
 refine .seq (.g (.s (fa f62_0 z z z) z (.s (ld t3 s.p1 z z z z z) z (.q z (.nil ?_)))))
 refine .cs z h ?_ ?_ <;> intro h
 ·refine .region (.q z (.s (fa f62_2 z z z) z (.s (ld t3 s.p1 z z z z z) z (bv h λx3 hx3 h=>.s (ixa hx3 u97 t3 z z z) z (.c (.stx (x1:=a1.A) hx3 s.p2 (λ_=>z) t3 z z z z ?_))))))
  intro W s
  refine .nil (.g (.s (lda t97 s (eO _) z z) z (.c (.sta t97 s.p1 eO nl z z z ?_))))
  intro W s
  cases h
  exact .nil (.ret (aa () (rc s t97 z rn (eO _) z) z (s.to [])))
 refine .skip (.g (.s (lda t97 s.p2 (eO _) z z) z (.c (.sta t97 s eO nl z z z ?_))))
 intro W s
 obtain rfl:=o9 h
 exact .nil (.ret (aa () (rc s t97 z rn (eO _) z) z (s.to [])))
theorem oH {a0:Ar Int} {a1:Ar Int} {w:World} {r:(Ar Int)} (h:fZ a0 a1=some r):CL 106 #[.agg (cQ a0).toArray,.agg (cQ a1).toArray] w (RU w (.agg (cQ r).toArray)):=by
 unfold fZ at h
 refine au func106 z z ?_
 have s:=Sep.start w
 refine .g (.c (.box s z z ?_))
 intro g1 W s
 have s:Sep _ _ _ [.box g1 97 (cQ a0)]:=id s
 refine .c (.box s z z ?_)
 intro g2 W s
 have s:Sep _ _ _ [.box g2 97 (cQ a1),.box g1 97 (cQ a0)]:=id s
 refine .c (.alloc t97 s ?_)
 intro g3 W s
 have s:Sep _ _ _ [.box g3 97 (cQ (λ_=>0)),.box g2 97 (cQ a1),.box g1 97 (cQ a0)]:=id s
 refine .nil (.seq (.g (.qn z (.block (bv h λy1 hy1 h=>?_)))))
 refine .via (.iter (λs1 E' W'=>ak E' [(2,Pt g1),(3,Pt g2),(4,Pt g3),(6,vi s1.1)]/\Sep No w W' [.box g3 97 (cQ (λ_=>0)),.box g2 97 (cQ a1),.box g1 97 (cQ s1.2)]) (λy2 x E' W'=>x=.exit 0/\ak E' [(2,Pt g1),(4,Pt g3)]/\Sep No w W' [.box g3 97 (cQ (λ_=>0)),.box g2 97 (cQ a1),.box g1 97 (cQ y2)]) hy1 ⟨sb z,s.tk [0,0,0]⟩ ?_) ?_
 ·intro s1 y3 E W h hI
  obtain ⟨hE,s⟩:=hI
  refine CW.sub hE ?_
  unfold jo at h
  refine .g (.qn z (.seq ?_))
  refine .cs z h ?_ ?_ <;> intro h
  ·refine .skip (bv h λy4 hy4 h=>?_)
   refine .seq (CW.via (R':=λx E' W'=>x=.normal/\ak E' [(2,Pt g1),(3,Pt g2),(4,Pt g3),(6,vi s1.1)]/\Sep No w W' [.box g3 97 (cQ (λ_=>0)),.box g2 97 (cQ a1),.box g1 97 (cQ y4)]) ?_ ?_)
   ·have h:=hy4
    refine .block (.g (.q z (.qn z (.seq (.rk 7 s [0,0,0] T.mix ?_)))))
    intro W s
    have t:=s.to [0,0,0]
    refine .tp' 0 z z t (bv h λx1 hx1 h=>.ts' 1 z (λW t=>ixa hx1 u97 t3 z z z) t z (.ts' 2 z (λW t=>ldx t.p2 hx1 (λ_=>z) t3 z z z z z) t z (.tp' 3 z z t (bv h λx2 hx2 h=>.ts' 4 z (λW t=>ixa hx2 u97 t3 z z z) t z (.ts' 5 z (λW t=>ldx t.p1 hx2 (λ_=>z) t3 z z z z z) t z (.tp' 6 z z t (.done ?_)))))))
    refine .cs z h ?_ ?_ <;> intro h
    ·refine .region (.q z (.q z (bv h λx3 hx3 h=>.s (ixa hx3 u97 t3 z z z) z (.c (.stx (x1:=s1.1) hx3 s.p2 (λ_=>z) t3 z z z z ?_)))))
     intro W s
     refine .nil ?_
     cases h
     exact ⟨z,sb z,s.tk [1,1,0]⟩
    refine .skip ?_
    cases h
    exact ⟨z,sb z,s.tk [0,0,0]⟩
   intro x E W hJ
   obtain ⟨rfl,hE,s⟩:=hJ
   refine ⟨_,hE.sub,?_⟩
   refine .region (.q z (.q z (.nil ?_)))
   cases h
   exact ⟨z,sb z,s.tk [0,0,0]⟩
  refine .exit ?_
  cases h
  exact ⟨by simp,z,sb z,s.tk [0,0,0]⟩
 intro x E W hJ
 obtain ⟨rfl,hE,s⟩:=hJ
 refine ⟨_,hE.sub,?_⟩
 refine .g (.s (lda t97 s.p2 (eO _) z z) z (.c (.sta t97 s eO nl z z z ?_)))
 intro W s
 obtain rfl:=o9 h
 exact .nil (.ret (aa () (rc s t97 z rn (eO _) z) z (s.to [])))
theorem n3 {a0:List ab} {v_0:Hd} {w:World} {r:(List (Ar Int))} (h:dw a0=some r) (q_0:RO w v_0 62 5 ah a0):CL 65 #[sv v_0] w (Ret No w (λs:Hd=>(sv s)) (λs=>[ac (sv s) 97 12 (arD 12 (D.int .i64)) r])):=by
 unfold dw at h
 refine au func65 z z ?_
 have s:=Sep.start w
 refine .g (.qn z (.g (.q z (.s (aE (s.keep q_0) u33 z z) z (bv h λr1 hr1 h=>.c (.mkv (λ_=>0) (arD 12 (D.int .i64)) hr1 u94 t97 s z z z z z (λ_=>z) ?_))))))
 intro v1 W s
 refine .qn z (.g (.q z (.s (aE (s.keep q_0) u33 z z) z (bv h λr2 hr2 h=>.c (.mkv false D.bool hr2 u102 t4 s z z z z z (λ_=>z) ?_)))))
 intro v2 W s
 refine .qn z (.seq (.g (.q z (.s (aE s.p1.lv u94 z z) z (.qn z (.block (bv h λy1 hy1 h=>?_)))))))
 refine .via (.iter (λs1 E' W'=>ak E' [(0,(sv v_0)),(3,(sv v1)),(4,(sv v2)),(19,vi (r1.length:Int)),(20,vi s1.1)]/\Sep No w W' [ac (sv v2) 4 1 D.bool r2,ac (sv v1) 97 12 (arD 12 (D.int .i64)) s1.2]) (λy2 x E' W'=>x=.exit 0/\ak E' [(0,(sv v_0)),(3,(sv v1)),(4,(sv v2))]/\Sep No w W' [ac (sv v2) 4 1 D.bool r2,ac (sv v1) 97 12 (arD 12 (D.int .i64)) y2]) hy1 ⟨sb z,s.tk [0,0]⟩ ?_) ?_
 ·intro s1 y3 E W h hI
  obtain ⟨hE,s⟩:=hI
  refine CW.sub hE ?_
  unfold iA at h
  refine .g (.qn z (.seq ?_))
  refine .cs z h ?_ ?_ <;> intro h
  ·refine .skip (.seq (.block (.g (.q z (.qn z (.region (.q z (.q z (bv h λy4 hy4 h=>.c (.cO s func103 (qX hy4) z z ?_))))))))))
   intro W s
   refine bv h λx1 hx1 h=>.s (ixv s.p1.lv hx1 u94 t97 z z z) z (bv h λr3 hr3 h=>.c (.seva hr3 hx1 s.p1 t97 (λ_=>z) eO nl z z z ?_))
   intro W s
   refine .nil (.region (.q z (.q z (.nil ?_))))
   cases h
   exact ⟨z,sb z,s.tk [1,0]⟩
  refine .exit ?_
  cases h
  exact ⟨by simp,z,sb z,s.tk [0,0]⟩
 intro x E W hJ
 obtain ⟨rfl,hE,s⟩:=hJ
 refine ⟨_,hE.sub,?_⟩
 refine .g (.q z (bv h λx2 hx2 h=>.s (ixv s.lv hx2 u102 t4 z z z) z (bv h λr4 hr4 h=>.c (.sev hr4 hx2 s t4 z z z z z z ?_))))
 intro W s
 refine .nil (.seq (.g (.c (.liv [0] (D.int .i64) u23 t3 s z z z z ?_ z (λ_=>z)))))
 intro v3 W s
 refine .qn z (.block (bv h λy5 hy5 h=>?_))
 refine .via (.iter (λs2 E' W'=>∃ (v6:Hd),ak E' [(0,(sv v_0)),(3,(sv v1)),(4,(sv v2)),(6,(sv v6))]/\Sep No w W' [ac (sv v2) 4 1 D.bool s2.2.1,ac (sv v1) 97 12 (arD 12 (D.int .i64)) s2.2.2,ac (sv v6) 3 1 (D.int .i64) s2.1]) (λy6 x E' W'=>x=.exit 2/\ak E' [(3,(sv v1))]/\Sep No w W' [ac (sv v2) 4 1 D.bool y6.1,ac (sv v1) 97 12 (arD 12 (D.int .i64)) y6.2]) hy5 ⟨v3,sb z,s.tk [1,1,0]⟩ ?_) ?_
 ·intro s2 y7 E W h hI
  obtain ⟨v5,hE,s⟩:=hI
  refine CW.sub hE ?_
  unfold iB at h
  refine .seq (.g (.q z (.s (aE s.p2.lv u23 z z) z (.q z (.nil ?_)))))
  refine .cs z h ?_ ?_ <;> intro h
  ·refine .skip (.block (.g (.q z (.q z (.s (aE s.p2.lv u23 z z) z (.q z (bv h λx3 hx3 h=>.s (ixv s.p2.lv hx3 u23 t3 z z z) z (.s (lde (RV.flat s.p2.lv hx3 z) t3 z z z z z) z (.qn z (.g (.q z (.q z (.s (aE s.p2.lv u23 z z) z (.q z (bv h λr5 hr5 h=>.c (.cuto hr5 s.p2 u23 t3 z z z z ?_))))))))))))))))
   intro v7 s
   refine .qn z (.seq (bv h λx4 hx4 h=>bv h λx5 hx5 h=>bv h λy8 hy8 h=>?_))
   refine .via (R':=λx E' W'=>x=.normal/\∃ (g1:Nat),ak E' [(0,(sv v_0)),(3,(sv v1)),(4,(sv v2)),(6,(sv v7)),(7,vi x3),(8,Pt g1)]/\Sep No w W' [ac (sv v7) 3 1 (D.int .i64) r5,ac (sv v2) 4 1 D.bool s2.2.1,ac (sv v1) 97 12 (arD 12 (D.int .i64)) s2.2.2,.box g1 97 (cQ y8)]) ?_ ?_
   ·refine .rk 10 s [0,0,0] T.mix ?_
    intro W s
    have t:=s.to [0,0,0]
    refine .tp' 0 z z t (.tp' 1 z z t (.ts' 2 z (λW t=>ixv s.p2.lv hx4 u94 t97 z z z) t z (.ts' 3 z (λW t=>uy (RV.flat (cs:=cQ x4) t.p2.lv hx4 (qE λ_=>z)) t97 (eO _) z z) t z (.tp' 4 z z t (.tp' 5 z z t (.ts' 6 z (λW t=>ixv (s.keep q_0) hx5 u33 t62 z z z) t z (.ts' 7 z (λW t=>lde (RV.flat (t.keep q_0) hx5 z) t62 z z z z z) t z (.by [8,9] ⟨⟨_,z,?_⟩,⟨_,z,?_⟩,trivial⟩))))))))
    ·refine (.cO s func104 (kQ hy8) z z ?_)
     intro W s
     refine s.an [0,0,0] λt=>.by1 9 z (.alloc t97 s ?_)
     intro g2 W s
     have s:Sep _ _ _ [.box g2 97 (cQ (λ_=>0)),ac (sv v7) 3 1 (D.int .i64) r5,ac (sv v2) 4 1 D.bool s2.2.1,ac (sv v1) 97 12 (arD 12 (D.int .i64)) s2.2.2]:=id s
     refine s.an [1,1,1] λt=>.by1 10 z (.sta t97 s eO nl z z z ?_)
     intro W s
     refine ⟨λh=>absurd z h,?_⟩
     exact .done (⟨z,g2,sb z,s.tk [1,1,1,0]⟩)
    refine (.alloc t97 s ?_)
    intro g3 W s
    have s:Sep _ _ _ [.box g3 97 (cQ (λ_=>0)),ac (sv v7) 3 1 (D.int .i64) r5,ac (sv v2) 4 1 D.bool s2.2.1,ac (sv v1) 97 12 (arD 12 (D.int .i64)) s2.2.2]:=id s
    refine s.an [1,1,1] λt=>.by1 8 z (.cO s func104 (kQ hy8) z z ?_)
    intro W s
    refine s.an [1,1,1] λt=>.by1 10 z (.sta t97 s eO nl z z z ?_)
    intro W s
    refine ⟨λh=>absurd z h,?_⟩
    exact .done (⟨z,g3,sb z,s.tk [1,1,1,0]⟩)
   intro x E W hJ
   obtain ⟨rfl,g4,hE,s⟩:=hJ
   refine ⟨_,hE.sub,?_⟩
   refine .g (.q z (.q z (bv h λx6 hx6 h=>.s (ixv (s.keep q_0) hx6 u33 t62 z z z) z (.s (lde (RV.flat (s.keep q_0) hx6 z) t62 z z z z z) z (.q z (bv h λy9 hy9 h=>.c (.cV s func105 (kG hy9) z z ?_)))))))
   intro v8 W s
   refine .s (aE s.lv u23 z z) z (.qn z (.block (bv h λy10 hy10 h=>?_)))
   refine .via (.iter (λs3 E' W'=>∃ (v11:Hd),ak E' [(0,(sv v_0)),(3,(sv v1)),(4,(sv v2)),(6,(sv v11)),(8,Pt g4),(59,(sv v8)),(60,vi (y9.length:Int)),(61,vi s3.2.1)]/\Sep No w W' [ac (sv v8) 3 1 (D.int .i64) y9,ac (sv v2) 4 1 D.bool s3.2.2.1,ac (sv v1) 97 12 (arD 12 (D.int .i64)) s3.2.2.2,.box g4 97 (cQ y8),ac (sv v11) 3 1 (D.int .i64) s3.1]) (λy11 x E' W'=>x=.exit 4/\∃ (v12:Hd),ak E' [(0,(sv v_0)),(3,(sv v1)),(4,(sv v2)),(6,(sv v12))]/\Sep No w W' [ac (sv v8) 3 1 (D.int .i64) y9,ac (sv v2) 4 1 D.bool y11.2.1,ac (sv v1) 97 12 (arD 12 (D.int .i64)) y11.2.2,.box g4 97 (cQ y8),ac (sv v12) 3 1 (D.int .i64) y11.1]) hy10 ⟨v7,sb z,s.tk [0,1,1,1,0]⟩ ?_) ?_
   ·intro s3 y12 E W h hI
    obtain ⟨v10,hE,s⟩:=hI
    refine CW.sub hE ?_
    unfold fj at h
    refine .g (.qn z (.seq ?_))
    refine .cs z h ?_ ?_ <;> intro h
    ·refine .skip (bv h λy13 hy13 h=>?_)
     refine .seq (CW.via (R':=λx E' W'=>x=.normal/\∃ (v13:Hd),ak E' [(0,(sv v_0)),(3,(sv v1)),(4,(sv v2)),(6,(sv v13)),(8,Pt g4),(59,(sv v8)),(60,vi (y9.length:Int)),(61,vi s3.2.1)]/\Sep No w W' [ac (sv v8) 3 1 (D.int .i64) y9,ac (sv v2) 4 1 D.bool y13.2.1,ac (sv v1) 97 12 (arD 12 (D.int .i64)) y13.2.2,.box g4 97 (cQ y8),ac (sv v13) 3 1 (D.int .i64) y13.1]) ?_ ?_)
     ·have h:=hy13
      refine .block (.g (bv h λx7 hx7 h=>.s (ixv s.lv hx7 u23 t3 z z z) z (.s (lde (RV.flat s.lv hx7 z) t3 z z z z z) z (.qn z (.g (.s (lda t97 s.p3 (eO _) z z) z (.c (.alloc t97 s ?_))))))))
      intro g5 W s
      have s:Sep _ _ _ [.box g5 97 (cQ (λ_=>0)),ac (sv v8) 3 1 (D.int .i64) y9,ac (sv v2) 4 1 D.bool s3.2.2.1,ac (sv v1) 97 12 (arD 12 (D.int .i64)) s3.2.2.2,.box g4 97 (cQ y8),ac (sv v10) 3 1 (D.int .i64) s3.1]:=id s
      refine .c (.sta t97 s eO nl z z z ?_)
      intro W s
      refine .nil (bv h λy14 hy14 h=>?_)
      refine .seq (CW.via (R':=λx E' W'=>x=.normal/\ak E' [(0,(sv v_0)),(3,(sv v1)),(4,(sv v2)),(6,(sv v10)),(8,Pt g4),(10,vi x7),(11,Pt g5),(59,(sv v8)),(60,vi (y9.length:Int)),(61,vi s3.2.1)]/\Sep No w W' [.box g5 97 (cQ y14),ac (sv v8) 3 1 (D.int .i64) y9,ac (sv v2) 4 1 D.bool s3.2.2.1,ac (sv v1) 97 12 (arD 12 (D.int .i64)) s3.2.2.2,.box g4 97 (cQ y8),ac (sv v10) 3 1 (D.int .i64) s3.1]) ?_ ?_)
      ·have h:=hy14
       refine .g (.q z (.q z (bv h λx8 hx8 h=>.s (ixv s.p2.lv hx8 u102 t4 z z z) z (.s (lde (RV.flat s.p2.lv hx8 z) t4 z z z z z) z (.nil ?_)))))
       refine .cs z h ?_ ?_ <;> intro h
       ·refine .rk 6 s [0,0,0,0,0,0] T.mix ?_
        intro W s
        have t:=s.to [0,0,0,0,0,0]
        refine .tp' 0 z z t (.tp' 1 z z t (bv h λx9 hx9 h=>.ts' 2 z (λW t=>ixv s.p3.lv hx9 u94 t97 z z z) t z (.ts' 3 z (λW t=>uy (RV.flat (cs:=cQ x9) t.p3.lv hx9 (qE λ_=>z)) t97 (eO _) z z) t z (.ts' 4 z (λW t=>lda t97 t.p4 (eO _) z z) t z (bv h λy15 hy15 h=>.by1 5 z (.cO s func106 (oH hy15) z z ?_))))))
        intro W s
        refine s.an [0,0,0,0,0,0] λt=>.by1 6 z (.sta t97 s eO nl z z z ?_)
        intro W s
        refine ⟨λh=>absurd z h,?_⟩
        refine .done ?_
        obtain rfl:=o9 h
        exact ⟨z,sb z,s.tk [0,0,0,0,0,0]⟩
       refine .skip ?_
       obtain rfl:=o9 h
       exact ⟨z,sb z,s.tk [0,0,0,0,0,0]⟩
      intro x E W hJ
      obtain ⟨rfl,hE,s⟩:=hJ
      refine ⟨_,hE.sub,?_⟩
      refine .seq (bv h λx10 hx10 h=>bv h λb1 hb1 h=>?_)
      refine .via (R':=λx E' W'=>x=.normal/\ak E' [(0,(sv v_0)),(3,(sv v1)),(4,(sv v2)),(6,(sv v10)),(8,Pt g4),(10,vi x7),(11,Pt g5),(59,(sv v8)),(60,vi (y9.length:Int)),(61,vi s3.2.1),(88,.bool b1)]/\Sep No w W' [.box g5 97 (cQ y14),ac (sv v8) 3 1 (D.int .i64) y9,ac (sv v2) 4 1 D.bool s3.2.2.1,ac (sv v1) 97 12 (arD 12 (D.int .i64)) s3.2.2.2,.box g4 97 (cQ y8),ac (sv v10) 3 1 (D.int .i64) s3.1]) ?_ ?_
      ·refine .rk 13 s [0,0,0,0,0,0] T.mix ?_
       intro W s
       have t:=s.to [0,0,0,0,0,0]
       refine .tp' 0 z z t (.tp' 1 z z t (.ts' 2 z (λW t=>ixv s.p2.lv hx10 u102 t4 z z z) t z (.ts' 3 z (λW t=>lde (RV.flat t.p2.lv hx10 z) t4 z z z z z) t z (.tp' 4 z z t (.tp' 5 z z t (.both (!x10) (λb=>?_) (λb=>?_)))))))
       ·exact .off 6 z b t (.off 7 z b t (.off 8 z b t (.off 9 z b t (.off 10 z b t (.off 11 z b t (.ts' 12 z (λW t=>pkt b z z z) t z (.eqv 88 z (lu (aJ b hb1)) (.done (⟨z,sb z,s.tk [0,0,0,0,0,0]⟩)))) (by kernel_rfl) z z) (by kernel_rfl) z z) (by kernel_rfl) z z) (by kernel_rfl) z z) (by kernel_rfl) z z) (by kernel_rfl) z z
       have hg1:=b
       have h_b1:=aK b hb1
       exact .t1g 6 z hg1 (λW t=>lda t97 t (eO _) z z) t (.t1g 7 z hg1 (λW t=>pr z) t (.t1g 8 z hg1 (λW t=>pr z) t (bv h_b1 λx11 hx11 h_b1=>.t1g 9 z hg1 (λW t=>ixv s.p3.lv hx11 u94 t97 z z z) t (.t1g 10 z hg1 (λW t=>uy (RV.flat (cs:=cQ x11) t.p3.lv hx11 (qE λ_=>z)) t97 (eO _) z z) t (.t1g 11 z hg1 (λW t=>nea (q:=(λ(x y:Int)=>x==y)) T.q97 u97 t3 (λ_=>z) z (eqI u3) z z z) t (.ts' 12 z (λW t=>pkf hg1 z z z) t z (.eqv 88 z (lu h_b1) (.done (⟨z,sb z,s.tk [0,0,0,0,0,0]⟩)))) (by kernel_rfl) z z) (by kernel_rfl) z z) (by kernel_rfl) z z) (by kernel_rfl) z z) (by kernel_rfl) z z) (by kernel_rfl) z z
      intro x E W hJ
      obtain ⟨rfl,hE,s⟩:=hJ
      refine ⟨_,hE.sub,?_⟩
      refine .cs z h ?_ ?_ <;> intro h
      ·refine .g (.q z (.q z (bv h λx12 hx12 h=>.s (ixv s.p2.lv hx12 u102 t4 z z z) z (bv h λr6 hr6 h=>.c (.sev hr6 hx12 s.p2 t4 z z z z z z ?_)))))
       intro W s
       refine .nil (.g (.q z (.q z (.s (lda t97 s.p1 (eO _) z z) z (bv h λx13 hx13 h=>.s (ixv s.p3.lv hx13 u94 t97 z z z) z (bv h λr7 hr7 h=>.c (.seva hr7 hx13 s.p3 t97 (λ_=>z) eO nl z z z ?_)))))))
       intro W s
       refine .nil (.region (.q z (.q z (.c (.liv [x7] (D.int .i64) u23 t3 s z z z z ?_ z (λ_=>z))))))
       intro v14 W s
       refine bv h λr8 hr8 h=>?_
       have hT0:=s.p6
       refine .c (.av hr8 hT0 hT0.p1.lv (λ_=>z) u23 t3 z z z ?_)
       intro v15 W s
       refine .q z (.nil ?_)
       cases h
       exact ⟨z,v15,sb z,s.tk [5,3,2,3,0]⟩
      refine .skip ?_
      cases h
      exact ⟨z,v10,sb z,s.tk [1,1,1,1,1]⟩
     intro x E W hJ
     obtain ⟨rfl,v16,hE,s⟩:=hJ
     refine ⟨_,hE.sub,?_⟩
     refine .region (.q z (.q z (.nil ?_)))
     cases h
     exact ⟨z,v16,sb z,s.tk [0,0,0,0,0]⟩
    refine .exit ?_
    cases h
    exact ⟨by simp,z,v10,sb z,s.tk [0,0,0,0,0]⟩
   intro x E W hJ
   obtain ⟨rfl,v17,hE,s⟩:=hJ
   refine ⟨_,hE.sub,?_⟩
   cases h
   exact ⟨z,v17,sb z,s.tk [1,1,2]⟩
  refine .exit ?_
  cases h
  exact ⟨by simp,z,sb z,s.tk [0,0]⟩
 intro x E W hJ
 obtain ⟨rfl,hE,s⟩:=hJ
 refine ⟨_,hE.sub,?_⟩
 cases h
 exact .g (.q z (.qn z (.ret (aa v1 (rt z rn) z (s.tk [1])))))
theorem qY {a0:List ab} {v_0:Hd} {w:World} {r:(List ab)×Bool} (h:jz a0=some r) (q_0:RO w v_0 62 5 ah a0):CL 34 #[sv v_0] w (Ret No w (λs:Hd=>.tuple #[sv s,.bool r.2]) (λs=>[ac (sv s) 62 5 ah r.1])):=by
 unfold jz at h
 refine au func34 z z ?_
 have s:=Sep.start w
 refine .g (.q z (.qn z (.seq (.g (.q z (bv h λy1 hy1 h=>.c (.cO s func31 (bZ hy1 (s.keep q_0)) z z ?_)))))))
 intro W s
 refine .q z (.nil ?_)
 refine .cs z h ?_ ?_ <;> intro h
 ·refine .g (.q z (.qn z (.ret ?_)))
  have s:=s.nilv 62 5 ah
  cases h
  exact aa (vs:=[_,_]) aF (rt z (rt z rn)) z (s.tk [0])
 refine .skip (.g (.q z (bv h λy2 hy2 h=>.c (.cV s func32 (aV hy2 (s.keep q_0)) z z ?_))))
 intro v1 W s
 refine .qn z (.seq (.g (.q z (bv h λy3 hy3 h=>.c (.cV s func65 (n3 hy3 (s.keep q_0)) z z ?_)))))
 intro v2 W s
 refine .s (aE s.lv u94 z z) z (.qn z (.block (bv h λy4 hy4 h=>?_)))
 refine .via (.iter (λs1 E' W'=>ak E' [(0,(sv v_0)),(4,(sv v1)),(14,(sv v2)),(15,vi (y3.length:Int)),(16,vi s1.1)]/\Sep No w W' [ac (sv v2) 97 12 (arD 12 (D.int .i64)) y3,ac (sv v1) 62 5 ah s1.2]) (λy5 x E' W'=>x=.exit 0/\ak E' [(4,(sv v1))]/\Sep No w W' [ac (sv v2) 97 12 (arD 12 (D.int .i64)) y3,ac (sv v1) 62 5 ah y5]) hy4 ⟨sb z,s.tk [0,0]⟩ ?_) ?_
 ·intro s1 y6 E W h hI
  obtain ⟨hE,s⟩:=hI
  refine CW.sub hE ?_
  unfold f0 at h
  refine .g (.qn z (.seq ?_))
  refine .cs z h ?_ ?_ <;> intro h
  ·refine .skip (bv h λy7 hy7 h=>?_)
   refine .seq (CW.via (R':=λx E' W'=>x=.normal/\ak E' [(0,(sv v_0)),(4,(sv v1)),(14,(sv v2)),(15,vi (y3.length:Int)),(16,vi s1.1)]/\Sep No w W' [ac (sv v2) 97 12 (arD 12 (D.int .i64)) y3,ac (sv v1) 62 5 ah y7]) ?_ ?_)
   ·have h:=hy7
    refine .block (.g (.q z (bv h λx1 hx1 h=>.s (ixv s.lv hx1 u94 t97 z z z) z (.s (uy (RV.flat (cs:=cQ x1) s.lv hx1 (qE λ_=>z)) t97 (eO _) z z) z (.c (.alloc t97 s ?_))))))
    intro g1 W s
    have s:Sep _ _ _ [.box g1 97 (cQ (λ_=>0)),ac (sv v2) 97 12 (arD 12 (D.int .i64)) y3,ac (sv v1) 62 5 ah s1.2]:=id s
    refine .q z (.c (.sta t97 s eO nl z z z ?_))
    intro W s
    refine .nil (.g (.q z (.q z (bv h λx2 hx2 h=>.s (ixv (s.keep q_0) hx2 u33 t62 z z z) z (.s (lde (RV.flat (s.keep q_0) hx2 z) t62 z z z z z) z (bv h λy8 hy8 h=>.c (.cO s func66 (nW hy8) z z ?_)))))))
    intro W s
    refine .qn z (bv h λy9 hy9 h=>?_)
    refine .seq (CW.via (R':=λx E' W'=>x=.normal/\ak E' [(0,(sv v_0)),(4,(sv v1)),(5,vi s1.1),(6,Pt g1),(14,(sv v2)),(15,vi (y3.length:Int)),(16,vi s1.1)]/\Sep No w W' [.box g1 97 (cQ x1),ac (sv v2) 97 12 (arD 12 (D.int .i64)) y3,ac (sv v1) 62 5 ah y9]) ?_ ?_)
    ·have h:=hy9
     refine .g (.q z (.q z (.nil ?_)))
     refine .cs z h ?_ ?_ <;> intro h
     ·refine .region (.q z (.q z (.q z (.q z (bv h λx3 hx3 h=>.s (ixv (s.keep q_0) hx3 u33 t62 z z z) z (.s (fe f62_2 z z z) z (.s (lde (RV.flat (s.keep q_0) hx3 z) t3 z z z z z) z (bv h λx4 hx4 h=>.s (ixa hx4 u97 t3 z z z) z (.s (ldx s hx4 (λ_=>z) t3 z z z z z) z (bv h λx5 hx5 h=>.s (ixv s.p2.lv hx5 u33 t62 z z z) z (.s (fe f62_2 z z z) z (bv h λr1 hr1 h=>.c (.sev hr1 hx5 s.p2 t3 z z z z z z ?_)))))))))))))
      intro W s
      refine .nil ?_
      obtain rfl:=o9 h
      exact ⟨z,sb z,s.tk [1,1,0]⟩
     refine .skip ?_
     cases h
     exact ⟨z,sb z,s.tk [0,0,0]⟩
    intro x E W hJ
    obtain ⟨rfl,hE,s⟩:=hJ
    refine ⟨_,hE.sub,?_⟩
    refine .g (.q z (.q z (bv h λx6 hx6 h=>.s (ixv (s.keep q_0) hx6 u33 t62 z z z) z (.s (fe f62_0 z z z) z (.s (lde (RV.flat (s.keep q_0) hx6 z) t3 z z z z z) z (.q z (.nil ?_)))))))
    refine .cs z h ?_ ?_ <;> intro h
    ·refine .region (.q z (.q z (.q z (.q z (bv h λx7 hx7 h=>.s (ixv (s.keep q_0) hx7 u33 t62 z z z) z (.s (fe f62_3 z z z) z (.s (lde (RV.flat (s.keep q_0) hx7 z) t3 z z z z z) z (bv h λx8 hx8 h=>.s (ixa hx8 u97 t3 z z z) z (.s (ldx s hx8 (λ_=>z) t3 z z z z z) z (bv h λx9 hx9 h=>.s (ixv s.p2.lv hx9 u33 t62 z z z) z (.s (fe f62_3 z z z) z (bv h λr2 hr2 h=>.c (.sev hr2 hx9 s.p2 t3 z z z z z z ?_)))))))))))))
     intro W s
     refine .nil ?_
     obtain rfl:=o9 h
     exact ⟨z,sb z,s.tk [2,0]⟩
    refine .skip ?_
    obtain rfl:=o9 h
    exact ⟨z,sb z,s.tk [1,1]⟩
   intro x E W hJ
   obtain ⟨rfl,hE,s⟩:=hJ
   refine ⟨_,hE.sub,?_⟩
   refine .region (.q z (.q z (.nil ?_)))
   cases h
   exact ⟨z,sb z,s.tk [0,0]⟩
  refine .exit ?_
  cases h
  exact ⟨by simp,z,sb z,s.tk [0,0]⟩
 intro x E W hJ
 obtain ⟨rfl,hE,s⟩:=hJ
 refine ⟨_,hE.sub,?_⟩
 cases h
 exact .g (.q z (.q z (.qn z (.ret (aa (vs:=[_,_]) v1 (rt z (rt z rn)) z (s.tk [1]))))))
theorem kI {a0:ab} {w:World} {r:Bool} (h:dt a0=some r):CL 67 #[.agg #[vi a0.Op,vi a0.Dst,vi a0.A,vi a0.B,vi a0.N]] w (RU w (.bool r)):=by
 unfold dt at h
 refine au func67 z z ?_
 have s:=Sep.start w
 refine .g (.c (.box s z z ?_))
 intro g1 W s
 refine .qn z (.g (.s (fa f62_0 z z z) z (.s (ld t3 s z z z z z) z (.q z (.q z (.cu 4 10 ((a0.Op==4)||(a0.Op==5)) s ?_ ?_))))))
 ·refine .both (a0.Op==4) (λb=>?_) (λb=>?_)
  ·exact .xx b z (.xx b z (.xx b z (.s (pkt b z z z) z (.nil (ck 4 s z (jr b))))))
  have hg1:=b
  exact .g hg1 (.s (fa f62_0 z z z) z (.g hg1 (.s (ld t3 s z z z z z) z (.g hg1 (.q z (.s (pkf hg1 z z z) z (.nil (ck 4 s z (iR hg1)))))))))
 intro W s
 cases h
 exact .qn z (.ret (aa () (rt z rn) z (s.to [])))
def qj (w:World) (r:Int):Env->World->Prop:=Fin Tryz.prog Tryz.f68 No w (λs:Unit=>.int .i64 r) (λs=>[]) .ret
theorem pK {a0:List ab} {a1:Int} {v_0:Hd} {w:World} {r:Int} (h:jK a0 a1=some r) (q_0:RO w v_0 62 5 ah a0):CL 68 #[sv v_0,vi a1] w (RU w (.int .i64 r)):=by
 unfold jK at h
 refine au func68 z z ?_
 have s:=Sep.start w
 refine .g (.qn z (.g (.q z (.qn z (.seq (.g (.q z (.s (aE (s.keep q_0) u33 z z) z (.qn z (.block (bv h λy1 hy1 h=>?_)))))))))))
 refine .via (.iter (λs1 E' W'=>ak E' [(0,(sv v_0)),(1,vi a1),(5,vi s1.1),(8,vi (a0.length:Int)),(9,vi s1.2)]/\Sep No w W' []) (λy2 x E' W'=>(match y2 with | .inl o1=>x=.ret/\qj w o1 E' W' | .inr o2=>x=.exit 0/\ak E' [(1,vi a1)]/\Sep No w W' [])) hy1 ⟨sb rfl,s.to [] rfl⟩ ?_) ?_
 ·intro s1 y3 E W h hI
  obtain ⟨hE,s⟩:=hI
  refine CW.sub hE ?_
  unfold mj at h
  refine .g (.qn z (.seq ?_))
  refine .cs z h ?_ ?_ <;> intro h
  ·refine .skip (.seq (.block (.seq (.g (.q z (.q z (bv h λx1 hx1 h=>.s (ixv (s.keep q_0) hx1 u33 t62 z z z) z (.s (fe f62_0 z z z) z (.s (lde (RV.flat (s.keep q_0) hx1 z) t3 z z z z z) z (.q z (.nil ?_)))))))))))
   refine .cs z h ?_ ?_ <;> intro h
   ·refine .g (.q z (.qn z (.ret ?_)))
    cases h
    exact ⟨by simp,z,aa (vs:=[_]) () (rt z rn) z (s.to [])⟩
   refine .skip (.region (.q z (.q z (bv h λx2 hx2 h=>.s (ixv (s.keep q_0) hx2 u33 t62 z z z) z (.s (fe f62_4 z z z) z (.s (lde (RV.flat (s.keep q_0) hx2 z) t3 z z z z z) z (.qn z (.region (.q z (.q z (.nil ?_)))))))))))
   cases h
   exact ⟨z,sb z,s.to []⟩
  refine .exit ?_
  cases h
  exact ⟨by simp,z,sb z,s.to []⟩
 intro x E W hJ
 rcases y1 with o3 | o4
 ·have h:=dl h
  obtain ⟨rfl,hF⟩:=hJ
  refine ⟨_,λ_ _ h=>h,?_⟩
  cases h
  exact hF
 have h:=dm h
 obtain ⟨rfl,hE,s⟩:=hJ
 refine ⟨_,hE.sub,?_⟩
 obtain rfl:=o9 h
 exact .g (.q z (.qn z (.ret (aa () (rt z rn) z (s.to [])))))
end
noncomputable section
theorem qZ {a0:List ab} {v_0:Hd} {w:World} {r:(List ab)×Bool} (h:jA a0=some r) (q_0:RO w v_0 62 5 ah a0):CL 35 #[sv v_0] w (Ret No w (λs:Hd=>.tuple #[sv s,.bool r.2]) (λs=>[ac (sv s) 62 5 ah r.1])):=by
 unfold jA at h
 refine au func35 z z ?_
 have s:=Sep.start w
 refine .g (.q z (.qn z (.seq (.g (.q z (bv h λy1 hy1 h=>.c (.cO s func31 (bZ hy1 (s.keep q_0)) z z ?_)))))))
 intro W s
 refine .q z (.nil ?_)
 refine .cs z h ?_ ?_ <;> intro h
 ·refine .g (.q z (.qn z (.ret ?_)))
  have s:=s.nilv 62 5 ah
  cases h
  exact aa (vs:=[_,_]) aF (rt z (rt z rn)) z (s.tk [0])
 refine .skip (.g (.q z (bv h λy2 hy2 h=>.c (.cV s func32 (aV hy2 (s.keep q_0)) z z ?_))))
 intro v1 W s
 refine .qn z (.seq (.g (.q z (.s (aE (s.keep q_0) u33 z z) z (.qn z (.block (bv h λy3 hy3 h=>?_)))))))
 refine .via (.iter (λs1 E' W'=>ak E' [(0,(sv v_0)),(4,(sv v1)),(12,(sv v_0)),(13,vi (a0.length:Int)),(14,vi s1.1)]/\Sep No w W' [ac (sv v1) 62 5 ah s1.2]) (λy4 x E' W'=>x=.exit 0/\ak E' [(4,(sv v1))]/\Sep No w W' [ac (sv v1) 62 5 ah y4]) hy3 ⟨sb z,s.tk [0]⟩ ?_) ?_
 ·intro s1 y5 E W h hI
  obtain ⟨hE,s⟩:=hI
  refine CW.sub hE ?_
  unfold f5 at h
  refine .g (.qn z (.seq ?_))
  refine .cs z h ?_ ?_ <;> intro h
  ·refine .skip (bv h λy6 hy6 h=>?_)
   refine .seq (CW.via (R':=λx E' W'=>x=.normal/\ak E' [(0,(sv v_0)),(4,(sv v1)),(12,(sv v_0)),(13,vi (a0.length:Int)),(14,vi s1.1)]/\Sep No w W' [ac (sv v1) 62 5 ah y6]) ?_ ?_)
   ·have h:=hy6
    refine .block (.g (.q z (bv h λx1 hx1 h=>.s (ixv (s.keep q_0) hx1 u33 t62 z z z) z (.s (lde (RV.flat (s.keep q_0) hx1 z) t62 z z z z z) z (.c (.alloc t62 s ?_))))))
    intro g1 W s
    refine .q z (.c (.st t62 s z z z ?_))
    intro W s
    refine .nil (.g (.s (ld t62 s z z z z z) z (bv h λy7 hy7 h=>.c (.cO s func67 (kI hy7) z z ?_))))
    intro W s
    refine .nil ?_
    refine .cs z h ?_ ?_ <;> intro h
    ·refine .region (.q z (.q z (.q z (.s (fa f62_4 z z z) z (.s (ld t3 s z z z z z) z (bv h λy8 hy8 h=>.c (.cO s func68 (pK hy8 (s.keep q_0)) z z ?_)))))))
     intro W s
     refine bv h λx2 hx2 h=>.s (ixv s.p1.lv hx2 u33 t62 z z z) z (.s (fe f62_4 z z z) z (bv h λr1 hr1 h=>.c (.sev hr1 hx2 s.p1 t3 z z z z z z ?_)))
     intro W s
     refine .nil ?_
     obtain rfl:=o9 h
     exact ⟨z,sb z,s.tk [0]⟩
    refine .skip ?_
    cases h
    exact ⟨z,sb z,s.tk [1]⟩
   intro x E W hJ
   obtain ⟨rfl,hE,s⟩:=hJ
   refine ⟨_,hE.sub,?_⟩
   refine .region (.q z (.q z (.nil ?_)))
   cases h
   exact ⟨z,sb z,s.tk [0]⟩
  refine .exit ?_
  cases h
  exact ⟨by simp,z,sb z,s.tk [0]⟩
 intro x E W hJ
 obtain ⟨rfl,hE,s⟩:=hJ
 refine ⟨_,hE.sub,?_⟩
 cases h
 exact .g (.q z (.q z (.qn z (.ret (aa (vs:=[_,_]) v1 (rt z (rt z rn)) z (s.tk [0]))))))
theorem qk {a0:List ab} {v_0:Hd} {w:World} {r:(List Int)} (h:ku a0=some r) (q_0:RO w v_0 62 5 ah a0):CL 69 #[sv v_0] w (Ret No w (λs:Hd=>(sv s)) (λs=>[ac (sv s) 3 1 (D.int .i64) r])):=by
 unfold ku at h
 refine au func69 z z ?_
 have s:=Sep.start w
 refine .g (.qn z (.g (.qn z (.g (.q z (bv h λy1 hy1 h=>.c (.cV s func107 (mq hy1 (s.keep q_0)) z z ?_)))))))
 intro v1 W s
 refine .qn z (.seq (.g (.q z (.s (aE (s.keep q_0) u33 z z) z (.qn z (.block ?_))))))
 have s:=s.nilv 3 1 (D.int .i64)
 refine bv h λy2 hy2 h=>?_
 refine .via (.iter (λs1 E' W'=>∃ (v4:Hd),ak E' [(0,(sv v_0)),(3,(sv v4)),(4,(sv v1)),(10,(sv v_0)),(11,vi (a0.length:Int)),(12,vi s1.2)]/\Sep No w W' [ac (sv v1) 99 1 (D.int .u16) y1,ac (sv v4) 3 1 (D.int .i64) s1.1]) (λy3 x E' W'=>x=.exit 0/\∃ (v5:Hd),ak E' [(3,(sv v5))]/\Sep No w W' [ac (sv v1) 99 1 (D.int .u16) y1,ac (sv v5) 3 1 (D.int .i64) y3]) hy2 ⟨aF,sb z,s.tk [1,0]⟩ ?_) ?_
 ·intro s1 y4 E W h hI
  obtain ⟨v3,hE,s⟩:=hI
  refine CW.sub hE ?_
  unfold g8 at h
  refine .g (.qn z (.seq ?_))
  refine .cs z h ?_ ?_ <;> intro h
  ·refine .skip (bv h λy5 hy5 h=>?_)
   refine .seq (CW.via (R':=λx E' W'=>x=.normal/\∃ (v6:Hd),ak E' [(0,(sv v_0)),(3,(sv v6)),(4,(sv v1)),(10,(sv v_0)),(11,vi (a0.length:Int)),(12,vi s1.2)]/\Sep No w W' [ac (sv v1) 99 1 (D.int .u16) y1,ac (sv v6) 3 1 (D.int .i64) y5]) ?_ ?_)
   ·have h:=hy5
    refine .block (.g (.q z (bv h λx1 hx1 h=>.s (ixv (s.keep q_0) hx1 u33 t62 z z z) z (.s (lde (RV.flat (s.keep q_0) hx1 z) t62 z z z z z) z (.c (.alloc t62 s ?_))))))
    intro g1 W s
    refine .q z (.c (.st t62 s z z z ?_))
    intro W s
    refine .nil (.g (.s (ld t62 s z z z z z) z (bv h λy6 hy6 h=>.c (.cO s func108 (iO hy6) z z ?_))))
    intro W s
    refine .qn z (.g (.q z (.q z (.q z (.cu 4 25 ((decide (y6>=0))&&(x1.Op !=7)) s ?_ ?_)))))
    ·refine .both (decide (y6>=0)) (λb=>?_) (λb=>?_)
     ·have hg1:=b
      exact .g hg1 (.s (fa f62_0 z z z) z (.g hg1 (.s (ld t3 s z z z z z) z (.g hg1 (.q z (.s (pkt hg1 z z z) z (.nil (ck 4 s z (bh hg1)))))))))
     exact .xx b z (.xx b z (.xx b z (.s (pkf b z z z) z (.nil (ck 4 s z (bi b))))))
    intro W s
    refine .q z (bv h λb1 hb1 h=>.cu 8 34 (b1) s ?_ ?_)
    ·refine .both ((decide (y6>=0))&&(x1.Op !=7)) (λb=>?_) (λb=>?_)
     ·have hg2:=b
      have h:=aJ b hb1
      refine .g hg2 (.q z (.g hg2 (.q z (.g hg2 (.q z (bv h λy7 hy7 h=>.g hg2 (.c (.cO s func109 (j4 hy7 (s.keep q_0) s.p1.lv) z z ?_))))))))
      intro W s
      refine .g hg2 (.q z (bv h λy8 hy8 h=>.g hg2 (.c (.cO s func73 (gI hy8) z z ?_))))
      intro W s
      refine .g hg2 (.q z (.s (pkt hg2 z z z) z ?_))
      cases h
      exact .nil (ck 8 s)
     refine .xx b z (.xx b z (.xx b z (.xx b z (.xx b z (.xx b z (.xx b z ?_))))))
     cases aK b hb1
     exact .s (pkf b z z z) z (.nil (ck 8 s))
    intro W s
    refine .nil ?_
    refine .cs z h ?_ ?_ <;> intro h
    ·refine .region (.q z (.q z (.c (.liv [s1.2] (D.int .i64) u23 t3 s z z z z ?_ z (λ_=>z)))))
     intro v7 W s
     refine bv h λr1 hr1 h=>?_
     have hT0:=s.p3
     refine .c (.av hr1 hT0 hT0.p1.lv (λ_=>z) u23 t3 z z z ?_)
     intro v8 W s
     refine .q z (.nil ?_)
     obtain rfl:=o9 h
     exact ⟨z,v8,sb z,s.tk [3,0]⟩
    refine .skip ?_
    cases h
    exact ⟨z,v3,sb z,s.tk [1,1]⟩
   intro x E W hJ
   obtain ⟨rfl,v9,hE,s⟩:=hJ
   refine ⟨_,hE.sub,?_⟩
   refine .region (.q z (.q z (.nil ?_)))
   cases h
   exact ⟨z,v9,sb z,s.tk [0,0]⟩
  refine .exit ?_
  cases h
  exact ⟨by simp,z,v3,sb z,s.tk [0,0]⟩
 intro x E W hJ
 obtain ⟨rfl,v10,hE,s⟩:=hJ
 refine ⟨_,hE.sub,?_⟩
 obtain rfl:=o9 h
 exact .g (.q z (.qn z (.ret (aa v10 (rt z rn) z (s.tk [1])))))
theorem q8 {a0:List ab} {v_0:Hd} {w:World} {r:(List ab)×Bool} (h:jB a0=some r) (q_0:RO w v_0 62 5 ah a0):CL 36 #[sv v_0] w (Ret No w (λs:Hd=>.tuple #[sv s,.bool r.2]) (λs=>[ac (sv s) 62 5 ah r.1])):=by
 unfold jB at h
 refine au func36 z z ?_
 have s:=Sep.start w
 refine .g (.q z (.qn z (.seq (.g (.q z (bv h λy1 hy1 h=>.c (.cO s func31 (bZ hy1 (s.keep q_0)) z z ?_)))))))
 intro W s
 refine .q z (.nil ?_)
 refine .cs z h ?_ ?_ <;> intro h
 ·refine .g (.q z (.qn z (.ret ?_)))
  have s:=s.nilv 62 5 ah
  cases h
  exact aa (vs:=[_,_]) aF (rt z (rt z rn)) z (s.tk [0])
 refine .skip (.g (.q z (bv h λy2 hy2 h=>.c (.cV s func32 (aV hy2 (s.keep q_0)) z z ?_))))
 intro v1 W s
 refine .qn z (.seq (.g (.q z (bv h λy3 hy3 h=>.c (.cV s func69 (qk hy3 (s.keep q_0)) z z ?_)))))
 intro v2 W s
 refine .s (aE s.lv u23 z z) z (.qn z (.block (bv h λy4 hy4 h=>?_)))
 refine .via (.iter (λs1 E' W'=>ak E' [(4,(sv v1)),(13,(sv v2)),(14,vi (y3.length:Int)),(15,vi s1.1)]/\Sep No w W' [ac (sv v2) 3 1 (D.int .i64) y3,ac (sv v1) 62 5 ah s1.2]) (λy5 x E' W'=>x=.exit 0/\ak E' [(4,(sv v1))]/\Sep No w W' [ac (sv v2) 3 1 (D.int .i64) y3,ac (sv v1) 62 5 ah y5]) hy4 ⟨sb z,s.tk [0,0]⟩ ?_) ?_
 ·intro s1 y6 E W h hI
  obtain ⟨hE,s⟩:=hI
  refine CW.sub hE ?_
  unfold iY at h
  refine .g (.qn z (.seq ?_))
  refine .cs z h ?_ ?_ <;> intro h
  ·refine .skip (.seq (.block (.g (bv h λx1 hx1 h=>.s (ixv s.lv hx1 u23 t3 z z z) z (.s (lde (RV.flat s.lv hx1 z) t3 z z z z z) z (.qn z (.region (.q z (.q z (.q z (.q z (.s (bs T.s62 z z) z (bv h λx2 hx2 h=>.s (ixv s.p1.lv hx2 u33 t62 z z z) z (bv h λr1 hr1 h=>.c (.sev hr1 hx2 s.p1 t62 z z z z z z ?_)))))))))))))))
   intro W s
   refine .nil (.region (.q z (.q z (.nil ?_))))
   cases h
   exact ⟨z,sb z,s.tk [1,0]⟩
  refine .exit ?_
  cases h
  exact ⟨by simp,z,sb z,s.tk [0,0]⟩
 intro x E W hJ
 obtain ⟨rfl,hE,s⟩:=hJ
 refine ⟨_,hE.sub,?_⟩
 cases h
 exact .g (.q z (.q z (.qn z (.ret (aa (vs:=[_,_]) v1 (rt z (rt z rn)) z (s.tk [1]))))))
theorem ql {a0:List ab} {v_0:Hd} {w:World} {r:(List Bool)} (h:f7 a0=some r) (q_0:RO w v_0 62 5 ah a0):CL 70 #[sv v_0] w (Ret No w (λs:Hd=>(sv s)) (λs=>[ac (sv s) 4 1 D.bool r])):=by
 unfold f7 at h
 refine au func70 z z ?_
 have s:=Sep.start w
 refine .g (.qn z (.seq (.g (.q z (bv h λy1 hy1 h=>.c (.cO s func31 (bZ hy1 (s.keep q_0)) z z ?_))))))
 intro W s
 refine .q z (.nil ?_)
 refine .cs z h ?_ ?_ <;> intro h
 ·refine .g (.qn z (.ret ?_))
  have s:=s.nilv 4 1 D.bool
  cases h
  exact aa aF (rt z rn) z (s.tk [0])
 refine .skip (.g (.q z (.s (aE (s.keep q_0) u33 z z) z (bv h λr1 hr1 h=>.c (.mkv false D.bool hr1 u102 t4 s z z z z z (λ_=>z) ?_)))))
 intro v1 W s
 refine .qn z (.g (.q z (bv h λx1 hx1 h=>.s (ixv s.lv hx1 u102 t4 z z z) z (bv h λr2 hr2 h=>.c (.sev hr2 hx1 s t4 z z z z z z ?_)))))
 intro W s
 refine .nil (.seq (.g (.c (.liv [0] (D.int .i64) u23 t3 s z z z z ?_ z (λ_=>z)))))
 intro v2 W s
 refine .qn z (.block (bv h λy2 hy2 h=>?_))
 refine .via (.iter (λs1 E' W'=>∃ (v5:Hd),ak E' [(0,(sv v_0)),(3,(sv v1)),(4,(sv v5))]/\Sep No w W' [ac (sv v1) 4 1 D.bool s1.2,ac (sv v5) 3 1 (D.int .i64) s1.1]) (λy3 x E' W'=>x=.exit 0/\ak E' [(3,(sv v1))]/\Sep No w W' [ac (sv v1) 4 1 D.bool y3]) hy2 ⟨v2,sb z,s.tk [1,0]⟩ ?_) ?_
 ·intro s1 y4 E W h hI
  obtain ⟨v4,hE,s⟩:=hI
  refine CW.sub hE ?_
  unfold kx at h
  refine .seq (.g (.q z (.s (aE s.p1.lv u23 z z) z (.q z (.nil ?_)))))
  refine .cs z h ?_ ?_ <;> intro h
  ·refine .skip (.block (.g (.q z (.q z (.s (aE s.p1.lv u23 z z) z (.q z (bv h λx2 hx2 h=>.s (ixv s.p1.lv hx2 u23 t3 z z z) z (.s (lde (RV.flat s.p1.lv hx2 z) t3 z z z z z) z (.qn z (.g (.q z (.q z (.s (aE s.p1.lv u23 z z) z (.q z (bv h λr3 hr3 h=>.c (.cuto hr3 s.p1 u23 t3 z z z z ?_))))))))))))))))
   intro v6 s
   refine .qn z (.g (.q z (.q z (bv h λx3 hx3 h=>.s (ixv (s.keep q_0) hx3 u33 t62 z z z) z (.s (lde (RV.flat (s.keep q_0) hx3 z) t62 z z z z z) z (.q z (bv h λy5 hy5 h=>.c (.cV s func105 (kG hy5) z z ?_))))))))
   intro v7 W s
   refine .s (aE s.lv u23 z z) z (.qn z (.block (bv h λy6 hy6 h=>?_)))
   refine .via (.iter (λs2 E' W'=>∃ (v10:Hd),ak E' [(0,(sv v_0)),(3,(sv v1)),(4,(sv v10)),(36,(sv v7)),(37,vi (y5.length:Int)),(38,vi s2.2.1)]/\Sep No w W' [ac (sv v7) 3 1 (D.int .i64) y5,ac (sv v1) 4 1 D.bool s2.2.2,ac (sv v10) 3 1 (D.int .i64) s2.1]) (λy7 x E' W'=>x=.exit 2/\∃ (v11:Hd),ak E' [(0,(sv v_0)),(3,(sv v1)),(4,(sv v11))]/\Sep No w W' [ac (sv v7) 3 1 (D.int .i64) y5,ac (sv v1) 4 1 D.bool y7.2,ac (sv v11) 3 1 (D.int .i64) y7.1]) hy6 ⟨v6,sb z,s.tk [0,1,0]⟩ ?_) ?_
   ·intro s2 y8 E W h hI
    obtain ⟨v9,hE,s⟩:=hI
    refine CW.sub hE ?_
    unfold kw at h
    refine .g (.qn z (.seq ?_))
    refine .cs z h ?_ ?_ <;> intro h
    ·refine .skip (bv h λy9 hy9 h=>?_)
     refine .seq (CW.via (R':=λx E' W'=>x=.normal/\∃ (v12:Hd),ak E' [(0,(sv v_0)),(3,(sv v1)),(4,(sv v12)),(36,(sv v7)),(37,vi (y5.length:Int)),(38,vi s2.2.1)]/\Sep No w W' [ac (sv v7) 3 1 (D.int .i64) y5,ac (sv v1) 4 1 D.bool y9.2,ac (sv v12) 3 1 (D.int .i64) y9.1]) ?_ ?_)
     ·have h:=hy9
      refine .block (.g (bv h λx4 hx4 h=>.s (ixv s.lv hx4 u23 t3 z z z) z (.s (lde (RV.flat s.lv hx4 z) t3 z z z z z) z (.qn z (.g (.q z (.q z (bv h λx5 hx5 h=>.s (ixv s.p1.lv hx5 u102 t4 z z z) z (.s (lde (RV.flat s.p1.lv hx5 z) t4 z z z z z) z (.q z (.nil ?_)))))))))))
      refine .cs z h ?_ ?_ <;> intro h
      ·refine .g (.q z (.q z (bv h λx6 hx6 h=>.s (ixv s.p1.lv hx6 u102 t4 z z z) z (bv h λr4 hr4 h=>.c (.sev hr4 hx6 s.p1 t4 z z z z z z ?_)))))
       intro W s
       refine .nil (.region (.q z (.q z (.c (.liv [x4] (D.int .i64) u23 t3 s z z z z ?_ z (λ_=>z))))))
       intro v13 W s
       refine bv h λr5 hr5 h=>?_
       have hT0:=s.p3
       refine .c (.av hr5 hT0 hT0.p1.lv (λ_=>z) u23 t3 z z z ?_)
       intro v14 W s
       refine .q z (.nil ?_)
       cases h
       exact ⟨z,v14,sb z,s.tk [3,2,0]⟩
      refine .skip ?_
      cases h
      exact ⟨z,v9,sb z,s.tk [0,0,0]⟩
     intro x E W hJ
     obtain ⟨rfl,v15,hE,s⟩:=hJ
     refine ⟨_,hE.sub,?_⟩
     refine .region (.q z (.q z (.nil ?_)))
     cases h
     exact ⟨z,v15,sb z,s.tk [0,0,0]⟩
    refine .exit ?_
    cases h
    exact ⟨by simp,z,v9,sb z,s.tk [0,0,0]⟩
   intro x E W hJ
   obtain ⟨rfl,v16,hE,s⟩:=hJ
   refine ⟨_,hE.sub,?_⟩
   cases h
   exact ⟨z,v16,sb z,s.tk [1,1]⟩
  refine .exit ?_
  cases h
  exact ⟨by simp,z,sb z,s.tk [0]⟩
 intro x E W hJ
 obtain ⟨rfl,hE,s⟩:=hJ
 refine ⟨_,hE.sub,?_⟩
 obtain rfl:=o9 h
 exact .g (.q z (.qn z (.ret (aa v1 (rt z rn) z (s.tk [0])))))
theorem qm {a0:ab} {a1:Int} {w:World} {r:Bool} (h:iC a0 a1=some r):CL 71 #[.agg #[vi a0.Op,vi a0.Dst,vi a0.A,vi a0.B,vi a0.N],vi a1] w (RU w (.bool r)):=by
 unfold iC at h
 refine au func71 z z ?_
 have s:=Sep.start w
 refine .g (.c (.box s z z ?_))
 intro g1 W s
 refine .qn z (.g (.s (ld t62 s z z z z z) z (bv h λy1 hy1 h=>.c (.cO s func67 (kI hy1) z z ?_))))
 intro W s
 refine .q z (.cu 6 13 (y1&&(a0.N==(w64 (a1+1)))) s ?_ ?_)
 ·refine .both (y1) (λb=>?_) (λb=>?_)
  ·have hg1:=b
   exact .g hg1 (.s (fa f62_4 z z z) z (.g hg1 (.s (ld t3 s z z z z z) z (.g hg1 (.q z (.g hg1 (.q z (.g hg1 (.q z (.s (pkt hg1 z z z) z (.nil (ck 6 s z (bh hg1)))))))))))))
  exact .xx b z (.xx b z (.xx b z (.xx b z (.xx b z (.s (pkf b z z z) z (.nil (ck 6 s z (bi b))))))))
 intro W s
 refine .q z (.q z (.cu 12 27 ((!(y1&&(a0.N==(w64 (a1+1)))))&&(!((a0.Op==2)&&(a0.Dst==a0.A)))) s ?_ ?_))
 ·refine .both (!(y1&&(a0.N==(w64 (a1+1))))) (λb=>?_) (λb=>?_)
  ·have hg2:=b
   refine .g hg2 (.s (fa f62_0 z z z) z (.g hg2 (.s (ld t3 s z z z z z) z (.g hg2 (.q z (.g hg2 (.q z (.cu 6 25 ((a0.Op==2)&&(a0.Dst==a0.A)) s ?_ ?_))))))))
   ·refine .both (a0.Op==2) (λb=>?_) (λb=>?_)
    ·have hg3:=b
     exact .g hg3 (.s (fa f62_1 z z z) z (.g hg3 (.s (ld t3 s z z z z z) z (.g hg3 (.s (fa f62_2 z z z) z (.g hg3 (.s (ld t3 s z z z z z) z (.g hg3 (.q z (.g hg2 (.s (pkt hg3 z z z) z (.nil (ck 6 s z (bh hg3))))))))))))))
    exact .xx b z (.xx b z (.xx b z (.xx b z (.xx b z (.g hg2 (.s (pkf b z z z) z (.nil (ck 6 s z (bi b)))))))))
   intro W s
   exact .g hg2 (.q z (.s (pkt hg2 z z z) z (.nil (ck 7 s z (bh hg2)))))
  exact .xx b z (.xx b z (.xx b z (.xx b z (.xu (.xu (.xu (.xu (.xu (.xx b z (.xx b z (.s (pkf b z z z) z (.nil (ck 12 s z (bi b))))))))))))))
 intro W s
 cases h
 exact .qn z (.ret (aa () (rt z rn) z (s.to [])))
theorem oI {a0:List ab} {v_0:Hd} {w:World} {r:(List ab)×Bool} (h:f9 a0=some r) (q_0:RO w v_0 62 5 ah a0):CL 37 #[sv v_0] w (Ret No w (λs:Hd=>.tuple #[sv s,.bool r.2]) (λs=>[ac (sv s) 62 5 ah r.1])):=by
 unfold f9 at h
 refine au func37 z z ?_
 have s:=Sep.start w
 refine .g (.q z (.qn z (.seq (.g (.q z (bv h λy1 hy1 h=>.c (.cO s func31 (bZ hy1 (s.keep q_0)) z z ?_)))))))
 intro W s
 refine .q z (.nil ?_)
 refine .cs z h ?_ ?_ <;> intro h
 ·refine .g (.q z (.qn z (.ret ?_)))
  have s:=s.nilv 62 5 ah
  cases h
  exact aa (vs:=[_,_]) aF (rt z (rt z rn)) z (s.tk [0])
 refine .skip (.g (.q z (.s (aE (s.keep q_0) u33 z z) z (bv h λr1 hr1 h=>.c (.mkv 0 (D.int .i64) hr1 u23 t3 s z z z z z (λ_=>z) ?_)))))
 intro v1 W s
 refine .qn z (.g (.qn z (.seq (.g (.q z (bv h λy2 hy2 h=>.c (.cV s func70 (ql hy2 (s.keep q_0)) z z ?_)))))))
 intro v2 W s
 refine .s (aE s.lv u102 z z) z (.qn z (.block ?_))
 have s:=s.nilv 62 5 ah
 refine bv h λy3 hy3 h=>?_
 refine .via (.iter (λs1 E' W'=>∃ (v5:Hd),ak E' [(0,(sv v_0)),(4,(sv v1)),(5,(sv v5)),(17,(sv v2)),(18,vi (y2.length:Int)),(19,vi s1.2.1)]/\Sep No w W' [ac (sv v2) 4 1 D.bool y2,ac (sv v1) 3 1 (D.int .i64) s1.2.2,ac (sv v5) 62 5 ah s1.1]) (λy4 x E' W'=>x=.exit 0/\∃ (v6:Hd),ak E' [(4,(sv v1)),(5,(sv v6))]/\Sep No w W' [ac (sv v2) 4 1 D.bool y2,ac (sv v1) 3 1 (D.int .i64) y4.2,ac (sv v6) 62 5 ah y4.1]) hy3 ⟨aF,sb z,s.tk [1,1,0]⟩ ?_) ?_
 ·intro s1 y5 E W h hI
  obtain ⟨v4,hE,s⟩:=hI
  refine CW.sub hE ?_
  unfold fS at h
  refine .g (.qn z (.seq ?_))
  refine .cs z h ?_ ?_ <;> intro h
  ·refine .skip (bv h λy6 hy6 h=>?_)
   refine .seq (CW.via (R':=λx E' W'=>x=.normal/\∃ (v7:Hd),ak E' [(0,(sv v_0)),(4,(sv v1)),(5,(sv v7)),(17,(sv v2)),(18,vi (y2.length:Int)),(19,vi s1.2.1)]/\Sep No w W' [ac (sv v2) 4 1 D.bool y2,ac (sv v1) 3 1 (D.int .i64) y6.2,ac (sv v7) 62 5 ah y6.1]) ?_ ?_)
   ·have h:=hy6
    refine .block (.g (.q z (bv h λx1 hx1 h=>.s (ixv s.lv hx1 u102 t4 z z z) z (.s (lde (RV.flat s.lv hx1 z) t4 z z z z z) z (.q z (.qn z (.g (.q z (.q z (.q z (.s (aE s.p2.lv u33 z z) z (bv h λx2 hx2 h=>.s (ixv s.p1.lv hx2 u23 t3 z z z) z (bv h λr2 hr2 h=>.c (.sev hr2 hx2 s.p1 t3 z z z z z z ?_))))))))))))))
    intro W s
    refine .nil (.g (.q z (.q z (bv h λb1 hb1 h=>.cu 7 37 (b1) s ?_ ?_))))
    ·refine .both (x1) (λb=>?_) (λb=>?_)
     ·have hg1:=b
      have h:=aJ b hb1
      refine .g hg1 (.q z (.g hg1 (.q z (bv h λx3 hx3 h=>.g hg1 (.s (ixv (s.keep q_0) hx3 u33 t62 z z z) z (.g hg1 (.s (lde (RV.flat (s.keep q_0) hx3 z) t62 z z z z z) z (.g hg1 (.q z (bv h λy7 hy7 h=>.g hg1 (.c (.cO s func71 (qm hy7) z z ?_))))))))))))
      intro W s
      refine .s (pkt hg1 z z z) z ?_
      cases h
      exact .nil (ck 7 s)
     refine .xx b z (.xx b z (.xx b z (.xx b z (.xx b z (.xx b z ?_)))))
     cases aK b hb1
     exact .s (pkf b z z z) z (.nil (ck 7 s))
    intro W s
    refine .nil ?_
    refine .cs z h ?_ ?_ <;> intro h
    ·refine .region (.q z (.q z (.q z (bv h λx4 hx4 h=>.s (ixv (s.keep q_0) hx4 u33 t62 z z z) z (.s (lde (RV.flat (s.keep q_0) hx4 z) t62 z z z z z) z (.c (.liv [x4] ah u33 t62 s z z z z ?_ z (λ_=>z))))))))
     intro v8 W s
     refine bv h λr3 hr3 h=>?_
     have hT0:=s.p3
     refine .c (.av hr3 hT0 hT0.p1.lv (λ_=>z) u33 t62 z z z ?_)
     intro v9 W s
     refine .q z (.nil ?_)
     cases h
     exact ⟨z,v9,sb z,s.tk [3,2,0]⟩
    refine .skip ?_
    cases h
    exact ⟨z,v4,sb z,s.tk [1,0,0]⟩
   intro x E W hJ
   obtain ⟨rfl,v10,hE,s⟩:=hJ
   refine ⟨_,hE.sub,?_⟩
   refine .region (.q z (.q z (.nil ?_)))
   cases h
   exact ⟨z,v10,sb z,s.tk [0,0,0]⟩
  refine .exit ?_
  cases h
  exact ⟨by simp,z,v4,sb z,s.tk [0,0,0]⟩
 intro x E W hJ
 obtain ⟨rfl,v11,hE,s⟩:=hJ
 refine ⟨_,hE.sub,?_⟩
 refine .seq (.g (.q z (.s (aE s.p2.lv u33 z z) z (.qn z (.block (bv h λy8 hy8 h=>?_))))))
 refine .via (.iter (λs2 E' W'=>ak E' [(4,(sv v1)),(5,(sv v11)),(46,(sv v11)),(47,vi (y3.1.length:Int)),(48,vi s2.1)]/\Sep No w W' [ac (sv v2) 4 1 D.bool y2,ac (sv v1) 3 1 (D.int .i64) y3.2,ac (sv v11) 62 5 ah s2.2]) (λy9 x E' W'=>x=.exit 2/\ak E' [(5,(sv v11))]/\Sep No w W' [ac (sv v2) 4 1 D.bool y2,ac (sv v1) 3 1 (D.int .i64) y3.2,ac (sv v11) 62 5 ah y9]) hy8 ⟨sb z,s.tk [0,0,0]⟩ ?_) ?_
 ·intro s2 y10 E W h hI
  obtain ⟨hE,s⟩:=hI
  refine CW.sub hE ?_
  unfold dH at h
  refine .g (.qn z (.seq ?_))
  refine .cs z h ?_ ?_ <;> intro h
  ·refine .skip (bv h λy11 hy11 h=>?_)
   refine .seq (CW.via (R':=λx E' W'=>x=.normal/\ak E' [(4,(sv v1)),(5,(sv v11)),(46,(sv v11)),(47,vi (y3.1.length:Int)),(48,vi s2.1)]/\Sep No w W' [ac (sv v2) 4 1 D.bool y2,ac (sv v1) 3 1 (D.int .i64) y3.2,ac (sv v11) 62 5 ah y11]) ?_ ?_)
   ·have h:=hy11
    refine .block (.g (.q z (bv h λx5 hx5 h=>.s (ixv s.p2.lv hx5 u33 t62 z z z) z (.s (lde (RV.flat s.p2.lv hx5 z) t62 z z z z z) z (.c (.alloc t62 s ?_))))))
    intro g1 W s
    refine .q z (.c (.st t62 s z z z ?_))
    intro W s
    refine .nil (.g (.s (ld t62 s z z z z z) z (bv h λy12 hy12 h=>.c (.cO s func67 (kI hy12) z z ?_))))
    intro W s
    refine .nil ?_
    refine .cs z h ?_ ?_ <;> intro h
    ·refine .region (.q z (.q z (.q z (.s (fa f62_4 z z z) z (.s (ld t3 s z z z z z) z (bv h λx6 hx6 h=>.s (ixv s.p2.lv hx6 u23 t3 z z z) z (.s (lde (RV.flat s.p2.lv hx6 z) t3 z z z z z) z (bv h λx7 hx7 h=>.s (ixv s.p3.lv hx7 u33 t62 z z z) z (.s (fe f62_4 z z z) z (bv h λr4 hr4 h=>.c (.sev hr4 hx7 s.p3 t3 z z z z z z ?_)))))))))))
     intro W s
     refine .nil ?_
     obtain rfl:=o9 h
     exact ⟨z,sb z,s.tk [2,2,0]⟩
    refine .skip ?_
    cases h
    exact ⟨z,sb z,s.tk [1,1,1]⟩
   intro x E W hJ
   obtain ⟨rfl,hE,s⟩:=hJ
   refine ⟨_,hE.sub,?_⟩
   refine .region (.q z (.q z (.nil ?_)))
   cases h
   exact ⟨z,sb z,s.tk [0,0,0]⟩
  refine .exit ?_
  cases h
  exact ⟨by simp,z,sb z,s.tk [0,0,0]⟩
 intro x E W hJ
 obtain ⟨rfl,hE,s⟩:=hJ
 refine ⟨_,hE.sub,?_⟩
 cases h
 exact .g (.q z (.q z (.qn z (.ret (aa (vs:=[_,_]) v11 (rt z (rt z rn)) z (s.tk [2]))))))
def oJ (w:World) (r:(List ab)×Bool):Env->World->Prop:=Fin Tryz.prog Tryz.f10 No w (λs:Hd=>.tuple #[sv s,.bool r.2]) (λs=>[ac (sv s) 62 5 ah r.1]) .ret
theorem lN {a0:List ab} {a1:Int} {v_0:Hd} {w:World} {r:(List ab)×Bool} (h:bD a0 a1=some r) (q_0:RO w v_0 62 5 ah a0):CL 10 #[sv v_0,vi a1] w (Ret No w (λs:Hd=>.tuple #[sv s,.bool r.2]) (λs=>[ac (sv s) 62 5 ah r.1])):=by
 unfold bD at h
 refine au func10 z z ?_
 have s:=Sep.start w
 refine .g (.q z (.qn z (.seq (.g (.q z (bv h λy1 hy1 h=>.c (.cO s func31 (bZ hy1 (s.keep q_0)) z z ?_)))))))
 intro W s
 refine .q z (.q z (.cu 3 17 ((!y1)||(decide (a1<0))) s ?_ ?_))
 ·refine .both (!y1) (λb=>?_) (λb=>?_)
  ·exact .xx b z (.xx b z (.s (pkt b z z z) z (.nil (ck 3 s z (jr b)))))
  have hg1:=b
  exact .g hg1 (.q z (.g hg1 (.q z (.s (pkf hg1 z z z) z (.nil (ck 3 s z (iR hg1)))))))
 intro W s
 refine .q z (.cu 3 21 (((!y1)||(decide (a1<0)))||(decide (a1>4))) s ?_ ?_)
 ·refine .both ((!y1)||(decide (a1<0))) (λb=>?_) (λb=>?_)
  ·exact .xx b z (.xx b z (.s (pkt b z z z) z (.nil (ck 3 s z (jr b)))))
  have hg2:=b
  exact .g hg2 (.q z (.g hg2 (.q z (.s (pkf hg2 z z z) z (.nil (ck 3 s z (iR hg2)))))))
 intro W s
 refine .nil ?_
 refine .cs z h ?_ ?_ <;> intro h
 ·refine .g (.q z (.qn z (.ret ?_)))
  have s:=s.nilv 62 5 ah
  cases h
  exact aa (vs:=[_,_]) aF (rt z (rt z rn)) z (s.tk [0])
 refine .skip (.g (.q z (bv h λy2 hy2 h=>.c (.cV s func32 (aV hy2 (s.keep q_0)) z z ?_))))
 intro v1 W s
 refine .qn z (.seq (.g (.q z (.qn z (.block (bv h λy3 hy3 h=>?_))))))
 refine .via (.iter (λs1 E' W'=>∃ (v4:Hd),ak E' [(6,(sv v4)),(24,vi a1),(25,vi s1.2)]/\Sep No w W' [ac (sv v4) 62 5 ah s1.1]) (λy4 x E' W'=>(match y4 with | .inl o1=>x=.ret/\oJ w o1 E' W' | .inr o2=>x=.exit 0/\∃ (v5:Hd),ak E' [(6,(sv v5))]/\Sep No w W' [ac (sv v5) 62 5 ah o2])) hy3 ⟨v1,sb rfl,s.tk [0]⟩ ?_) ?_
 ·intro s1 y5 E W h hI
  obtain ⟨v3,hE,s⟩:=hI
  refine CW.sub hE ?_
  unfold bE at h
  refine .g (.qn z (.seq ?_))
  refine .cs z h ?_ ?_ <;> intro h
  ·refine .skip (.seq (.block (.g (.c (.lfn u63 t38 s z z z z ?_)))))
   intro g1 W s
   have s:Sep _ _ _ [.box g1 38 [.func (.func 33) #[] #[],.func (.func 34) #[] #[],.func (.func 35) #[] #[],.func (.func 36) #[] #[],.func (.func 37) #[] #[]],ac (sv v3) 62 5 ah s1.1]:=id s
   refine .s (len u63 z z) z (.qn z (.block (.rounds 6 (.step (.g (.qn z (.seq (.cond z (λb=>?_) (λb=>?_)))))))))
   ·refine .skip (.seq (.block (.g (.s (ixs (by decide) u63 t38 z z z) z (.s (ld t38 s z z z z z) z (.qn z (.g (.q z (.q z (bv h λy6 hy6 h=>.c (.callv (vs:=[sv v3]) (cap:=#[]) s ⟨_,func33,z,by kernel_rfl⟩ (qW hy6 s.p1.lv) z z z ?_)))))))))))
    rintro v6 W s
    refine .q z (.q z (.q z (.q z (.qn z (.seq (.g (.q z (.q z (.nil ?_)))))))))
    refine .cs z h ?_ ?_ <;> intro h
    ·refine .g (.q z (.qn z (.ret ?_)))
     have s:=s.nilv 62 5 ah
     cases h
     exact ⟨by simp,z,aa (vs:=[_,_]) aF (rt z (rt z rn)) z (s.tk [0])⟩
    refine .skip (.region (.q z (.qn z (.region (.q z (.qn z (.step (.g (.qn z (.seq (.cond z (λb=>?_) (λb=>?_))))))))))))
    ·refine .skip (.seq (.block (.g (.s (ixs (by decide) u63 t38 z z z) z (.s (ld t38 s.p1 z z z z z) z (.qn z (.g (.q z (.q z (bv h λy7 hy7 h=>.c (.callv (vs:=[sv v6]) (cap:=#[]) s ⟨_,func34,z,by kernel_rfl⟩ (qY hy7 s.lv) z z z ?_)))))))))))
     rintro v7 W s
     refine .q z (.q z (.q z (.q z (.qn z (.seq (.g (.q z (.q z (.nil ?_)))))))))
     refine .cs z h ?_ ?_ <;> intro h
     ·refine .g (.q z (.qn z (.ret ?_)))
      have s:=s.nilv 62 5 ah
      cases h
      exact ⟨by simp,z,aa (vs:=[_,_]) aF (rt z (rt z rn)) z (s.tk [0])⟩
     refine .skip (.region (.q z (.qn z (.region (.q z (.qn z (.step (.g (.qn z (.seq (.cond z (λb=>?_) (λb=>?_))))))))))))
     ·refine .skip (.seq (.block (.g (.s (ixs (by decide) u63 t38 z z z) z (.s (ld t38 s.p2 z z z z z) z (.qn z (.g (.q z (.q z (bv h λy8 hy8 h=>.c (.callv (vs:=[sv v7]) (cap:=#[]) s ⟨_,func35,z,by kernel_rfl⟩ (qZ hy8 s.lv) z z z ?_)))))))))))
      rintro v8 W s
      refine .q z (.q z (.q z (.q z (.qn z (.seq (.g (.q z (.q z (.nil ?_)))))))))
      refine .cs z h ?_ ?_ <;> intro h
      ·refine .g (.q z (.qn z (.ret ?_)))
       have s:=s.nilv 62 5 ah
       cases h
       exact ⟨by simp,z,aa (vs:=[_,_]) aF (rt z (rt z rn)) z (s.tk [0])⟩
      refine .skip (.region (.q z (.qn z (.region (.q z (.qn z (.step (.g (.qn z (.seq (.cond z (λb=>?_) (λb=>?_))))))))))))
      ·refine .skip (.seq (.block (.g (.s (ixs (by decide) u63 t38 z z z) z (.s (ld t38 s.p3 z z z z z) z (.qn z (.g (.q z (.q z (bv h λy9 hy9 h=>.c (.callv (vs:=[sv v8]) (cap:=#[]) s ⟨_,func36,z,by kernel_rfl⟩ (q8 hy9 s.lv) z z z ?_)))))))))))
       rintro v9 W s
       refine .q z (.q z (.q z (.q z (.qn z (.seq (.g (.q z (.q z (.nil ?_)))))))))
       refine .cs z h ?_ ?_ <;> intro h
       ·refine .g (.q z (.qn z (.ret ?_)))
        have s:=s.nilv 62 5 ah
        cases h
        exact ⟨by simp,z,aa (vs:=[_,_]) aF (rt z (rt z rn)) z (s.tk [0])⟩
       refine .skip (.region (.q z (.qn z (.region (.q z (.qn z (.step (.g (.qn z (.seq (.cond z (λb=>?_) (λb=>?_))))))))))))
       ·refine .skip (.seq (.block (.g (.s (ixs (by decide) u63 t38 z z z) z (.s (ld t38 s.p4 z z z z z) z (.qn z (.g (.q z (.q z (bv h λy10 hy10 h=>.c (.callv (vs:=[sv v9]) (cap:=#[]) s ⟨_,func37,z,by kernel_rfl⟩ (oI hy10 s.lv) z z z ?_)))))))))))
        rintro v10 W s
        refine .q z (.q z (.q z (.q z (.qn z (.seq (.g (.q z (.q z (.nil ?_)))))))))
        refine .cs z h ?_ ?_ <;> intro h
        ·refine .g (.q z (.qn z (.ret ?_)))
         have s:=s.nilv 62 5 ah
         cases h
         exact ⟨by simp,z,aa (vs:=[_,_]) aF (rt z (rt z rn)) z (s.tk [0])⟩
        refine .skip (.region (.q z (.qn z (.region (.q z (.qn z (.step (.g (.qn z (.seq (.cond z (λb=>?_) (λb=>?_))))))))))))
        ·exact absurd b (by decide)
        refine .exit (.region (.q z (.q z (.nil ?_))))
        cases h
        exact ⟨z,v10,sb z,s.tk [0]⟩
       exact absurd b (by decide)
      exact absurd b (by decide)
     exact absurd b (by decide)
    exact absurd b (by decide)
   exact absurd b (by decide)
  refine .exit ?_
  cases h
  exact ⟨by simp,z,v3,sb z,s.tk [0]⟩
 intro x E W hJ
 rcases y3 with o3 | o4
 ·have h:=dl h
  obtain ⟨rfl,hF⟩:=hJ
  refine ⟨_,λ_ _ h=>h,?_⟩
  cases h
  exact hF
 have h:=dm h
 obtain ⟨rfl,v11,hE,s⟩:=hJ
 refine ⟨_,hE.sub,?_⟩
 cases h
 exact .g (.q z (.q z (.qn z (.ret (aa (vs:=[_,_]) v11 (rt z (rt z rn)) z (s.tk [0]))))))
def pL (w:World) (r:(List (List ab))×Bool):Env->World->Prop:=Fin Tryz.prog Tryz.f25 No w (λs:Hd=>.tuple #[sv s,.bool r.2]) (λs=>[ac (sv s) 33 1 (λ(l:List ab)=>D.row 62 5 (l.map ah)) r.1]) .ret
theorem oK {a0:List (List ab)} {a1:Int} {v_0:Hd} {w:World} {r:(List (List ab))×Bool} (h:cX a0 a1=some r) (q_0:RO w v_0 33 1 (λ(l:List ab)=>D.row 62 5 (l.map ah)) a0):CL 25 #[sv v_0,vi a1] w (Ret No w (λs:Hd=>.tuple #[sv s,.bool r.2]) (λs=>[ac (sv s) 33 1 (λ(l:List ab)=>D.row 62 5 (l.map ah)) r.1])):=by
 unfold cX at h
 refine au func25 z z ?_
 have s:=Sep.start w
 refine .g (.q z (.qn z (.seq (.g (.q z (.s (aE (s.keep q_0) u29 z z) z (.q z (.q z (.cu 4 18 ((decide ((a0.length:Int)<1))||(decide ((a0.length:Int)>3))) s ?_ ?_)))))))))
 ·refine .both (decide ((a0.length:Int)<1)) (λb=>?_) (λb=>?_)
  ·exact .xx b z (.xx b z (.xx b z (.s (pkt b z z z) z (.nil (ck 4 s z (jr b))))))
  have hg1:=b
  exact .g hg1 (.q z (.g hg1 (.s (aE (s.keep q_0) u29 z z) z (.g hg1 (.q z (.s (pkf hg1 z z z) z (.nil (ck 4 s z (iR hg1)))))))))
 intro W s
 refine .nil ?_
 refine .cs z h ?_ ?_ <;> intro h
 ·refine .g (.q z (.qn z (.ret ?_)))
  have s:=s.nilv 33 1 (λ(l:List ab)=>D.row 62 5 (l.map ah))
  cases h
  exact aa (vs:=[_,_]) aF (rt z (rt z rn)) z (s.tk [0])
 refine .skip (.g (.qn z (.seq (.g (.q z (.s (aE (s.keep q_0) u29 z z) z (.qn z (.block ?_))))))))
 have s:=s.nilv 33 1 (λ(l:List ab)=>D.row 62 5 (l.map ah))
 refine bv h λy1 hy1 h=>?_
 refine .via (.iter (λs1 E' W'=>∃ (v3:Hd),ak E' [(1,vi a1),(6,(sv v3)),(19,(sv v_0)),(20,vi (a0.length:Int)),(21,vi s1.2)]/\Sep No w W' [ac (sv v3) 33 1 (λ(l:List ab)=>D.row 62 5 (l.map ah)) s1.1]) (λy2 x E' W'=>(match y2 with | .inl o1=>x=.ret/\pL w o1 E' W' | .inr o2=>x=.exit 0/\∃ (v4:Hd),ak E' [(6,(sv v4))]/\Sep No w W' [ac (sv v4) 33 1 (λ(l:List ab)=>D.row 62 5 (l.map ah)) o2])) hy1 ⟨aF,sb rfl,s.tk [0]⟩ ?_) ?_
 ·intro s1 y3 E W h hI
  obtain ⟨v2,hE,s⟩:=hI
  refine CW.sub hE ?_
  unfold cL at h
  refine .g (.qn z (.seq ?_))
  refine .cs z h ?_ ?_ <;> intro h
  ·refine .skip (.seq (.block (.g (bv h λx1 hx1 h=>?_))))
   obtain ⟨k1,hd,hck1⟩:=RV.el2 q_0 hx1
   obtain ⟨v5,k1,rfl,q5,hd1⟩:=cw q_0 hd
   obtain rfl:=kT q_0 hd1
   refine .s (ixv (s.keep q_0) hx1 u29 t33 z z z) z (.s (lde (hck1 _ s.agree) t33 z z z z z) z (.qn z (.g (.q z (.q z (bv h λy4 hy4 h=>.c (.cV s func10 (lN hy4 (s.keep (q5 _ q_0))) z z ?_)))))))
   intro v6 W s
   refine .q z (.q z (.q z (.q z (.qn z (.seq (.g (.q z (.q z (.nil ?_)))))))))
   refine .cs z h ?_ ?_ <;> intro h
   ·refine .g (.q z (.qn z (.ret ?_)))
    have s:=s.nilv 33 1 (λ(l:List ab)=>D.row 62 5 (l.map ah))
    cases h
    exact ⟨by simp,z,aa (vs:=[_,_]) aF (rt z (rt z rn)) z (s.tk [0])⟩
   refine .skip (.region (.q z (.q z (.c (.lg (L1:=[ac (sv v6) 62 5 ah y4.1]) [y4.1] (λ(l:List ab)=>D.row 62 5 (l.map ah)) u29 t33 (s.to [0,0]) z z z (.row (.nil)) ?_ z (λ_=>z))))))
   intro v7 W s
   refine bv h λr1 hr1 h=>.c (.appv hr1 (s.to [1,0]) u29 t33 z z z ?_)
   intro v8 W s
   refine .qn z (.region (.q z (.q z (.nil ?_))))
   cases h
   exact ⟨z,v8,sb z,s.tk [0]⟩
  refine .exit ?_
  cases h
  exact ⟨by simp,z,v2,sb z,s.tk [0]⟩
 intro x E W hJ
 rcases y1 with o3 | o4
 ·have h:=dl h
  obtain ⟨rfl,hF⟩:=hJ
  refine ⟨_,λ_ _ h=>h,?_⟩
  cases h
  exact hF
 have h:=dm h
 obtain ⟨rfl,v9,hE,s⟩:=hJ
 refine ⟨_,hE.sub,?_⟩
 cases h
 exact .g (.q z (.q z (.qn z (.ret (aa (vs:=[_,_]) v9 (rt z (rt z rn)) z (s.tk [0]))))))
def qo (w:World) (r:(List (List ab))×Bool):Env->World->Prop:=Fin Tryz.prog Tryz.f6 No w (λs:Hd=>.tuple #[sv s,.bool r.2]) (λs=>[ac (sv s) 33 1 (λ(l:List ab)=>D.row 62 5 (l.map ah)) r.1]) .ret
theorem pM {k:Nat} {a0:aA} {a1:Int} {ba:Hd} {a6:Hd} {w:World} {r:(List (List ab))×Bool} (h:eT k a0 a1=some r) (eg:RO w ba 3 1 (D.int .i64) a0.Rooms) (aH:RO w a6 36 1 (λ(l:List ae)=>D.row 80 8 (l.map aj)) a0.Tasks):CL 6 #[.agg #[sv ba,sv a6],vi a1] w (Ret No w (λs:Hd=>.tuple #[sv s,.bool r.2]) (λs=>[ac (sv s) 33 1 (λ(l:List ab)=>D.row 62 5 (l.map ah)) r.1])):=by
 unfold eT at h
 refine au func6 z z ?_
 have s:=Sep.start w
 refine .g (.c (.box s z z ?_))
 intro g1 W s
 refine .q z (.qn z (.g (.s (ld t26 s z z z z z) z (bv h λy1 hy1 h=>.c (.cV s func24 (ni hy1 (s.keep eg) (s.keep aH)) z z ?_)))))
 intro v1 W s
 refine .q z (.q z (.q z (.q z (.qn z (.seq (.g (.q z (.q z (.nil ?_)))))))))
 refine .cs z h ?_ ?_ <;> intro h
 ·refine .g (.q z (.qn z (.ret ?_)))
  have s:=s.nilv 33 1 (λ(l:List ab)=>D.row 62 5 (l.map ah))
  cases h
  exact aa (vs:=[_,_]) aF (rt z (rt z rn)) z (s.tk [0])
 refine .skip (.g (.q z (.q z (bv h λy2 hy2 h=>.c (.cV s func25 (oK hy2 s.lv) z z ?_)))))
 intro v2 W s
 refine .q z (.q z (.q z (.q z (.qn z (.seq (.g (.q z (.q z (.nil ?_)))))))))
 refine .cs z h ?_ ?_ <;> intro h
 ·refine .g (.q z (.qn z (.ret ?_)))
  have s:=s.nilv 33 1 (λ(l:List ab)=>D.row 62 5 (l.map ah))
  cases h
  exact aa (vs:=[_,_]) aF (rt z (rt z rn)) z (s.tk [0])
 refine .skip (.seq (.g (.q z (.s (aE s.lv u29 z z) z (.qn z (.block (bv h λy3 hy3 h=>?_)))))))
 refine .via (.iter (λs1 E' W'=>ak E' [(6,(sv v2)),(25,(sv v2)),(26,vi (y2.1.length:Int)),(27,vi s1.1)]/\Sep No w W' [ac (sv v2) 33 1 (λ(l:List ab)=>D.row 62 5 (l.map ah)) s1.2,ac (sv v1) 33 1 (λ(l:List ab)=>D.row 62 5 (l.map ah)) y1.1,.box g1 26 [sv ba,sv a6]]) (λy4 x E' W'=>(match y4 with | .inl o1=>x=.ret/\qo w o1 E' W' | .inr o2=>x=.exit 0/\ak E' [(6,(sv v2))]/\Sep No w W' [ac (sv v2) 33 1 (λ(l:List ab)=>D.row 62 5 (l.map ah)) o2,ac (sv v1) 33 1 (λ(l:List ab)=>D.row 62 5 (l.map ah)) y1.1,.box g1 26 [sv ba,sv a6]])) hy3 ⟨sb rfl,s.tk [0,0,0]⟩ ?_) ?_
 ·intro s1 y5 E W h hI
  obtain ⟨hE,s⟩:=hI
  refine CW.sub hE ?_
  unfold j2 at h
  refine .g (.qn z (.seq ?_))
  refine .cs z h ?_ ?_ <;> intro h
  ·refine .skip (.seq (.block (.g (.q z (bv h λx1 hx1 h=>.s (ixv s.lv hx1 u29 t33 z z z) z ?_)))))
   obtain ⟨k1,s⟩:=Sep.ov s hx1
   obtain ⟨v3,k1,rfl,s⟩:=s.ow
   obtain ⟨rfl,s⟩:=s.oN
   refine .s (lde (s.p1.hcellsv) t33 z z z z z) z (.q z (.qn z (.g (.q z (.q z (.q z (bv h λy6 hy6 h=>.c (.cV s func11 (mC hy6 s.lv) z z ?_))))))))
   intro v4 W s
   refine .q z (.q z (.q z (.s (ixh s.p2 hx1 u29 t33 z z z) z (.c (.sthv s.p2 t33 z z z ?_)))))
   intro W s
   refine .qn z (.g (.q z (.q z (.nil ?_))))
   refine .cs z h ?_ ?_ <;> intro h
   ·refine .g (.q z (.qn z (.ret ?_)))
    have s:=s.nilv 33 1 (λ(l:List ab)=>D.row 62 5 (l.map ah))
    cases h
    exact ⟨by simp,z,aa (vs:=[_,_]) aF (rt z (rt z rn)) z (s.tk [0])⟩
   refine .skip (.region (.q z (.q z (.nil ?_))))
   have s:=Sep.gat (ds:=[.row 62 5 (y6.1.map ah)]) (cs:=[sv v4]) (L1:=[ac (sv v4) 62 5 ah y6.1]) (.row (.nil)) (s.to [1,0,0,0,0])
   have s:Sep _ _ _ [ac (sv v2) 33 1 (λ(l:List ab)=>D.row 62 5 (l.map ah)) (s1.2.set (Int.toNat s1.1) y6.1),ac (sv v3) 62 5 ah x1,ac (sv v1) 33 1 (λ(l:List ab)=>D.row 62 5 (l.map ah)) y1.1,.box g1 26 [sv ba,sv a6]]:=s.bv
   cases h
   exact ⟨z,sb z,s.tk [0,1,1]⟩
  refine .exit ?_
  cases h
  exact ⟨by simp,z,sb z,s.tk [0,0,0]⟩
 intro x E W hJ
 rcases y3 with o3 | o4
 ·have h:=dl h
  obtain ⟨rfl,hF⟩:=hJ
  refine ⟨_,λ_ _ h=>h,?_⟩
  cases h
  exact hF
 have h:=dm h
 obtain ⟨rfl,hE,s⟩:=hJ
 refine ⟨_,hE.sub,?_⟩
 cases h
 exact .g (.q z (.q z (.qn z (.ret (aa (vs:=[_,_]) v2 (rt z (rt z rn)) z (s.tk [0]))))))
theorem bO {a0:Int} {a1:Int} {a2:Int} {w:World} {r:Bool} (h:bp a0 a1 a2=some r):CL 55 #[vi a0,vi a1,vi a2] w (RU w (.bool r)):=by
 unfold bp at h
 refine au func55 z z ?_
 have s:=Sep.start w
 refine .g (.qn z (.g (.q z (.q z (.q z (.q z (.cu 4 14 ((decide (a0>=a1))&&(decide (a0<=a2))) s ?_ ?_)))))))
 ·refine .both (decide (a0>=a1)) (λb=>?_) (λb=>?_)
  ·have hg1:=b
   exact .g hg1 (.q z (.g hg1 (.q z (.g hg1 (.q z (.s (pkt hg1 z z z) z (.nil (ck 4 s z (bh hg1)))))))))
  exact .xx b z (.xx b z (.xx b z (.s (pkf b z z z) z (.nil (ck 4 s z (bi b))))))
 intro W s
 cases h
 exact .qn z (.ret (aa () (rt z rn) z (s.to [])))
def sh (w:World) (r:Bool):Env->World->Prop:=Fin Tryz.prog Tryz.f84 No w (λs:Unit=>.bool r) (λs=>[]) .ret
theorem q9 {a0:List Int} {v_0:Hd} {w:World} {r:Bool} (h:jC a0=some r) (q_0:RO w v_0 3 1 (D.int .i64) a0):CL 84 #[sv v_0] w (RU w (.bool r)):=by
 unfold jC at h
 refine au func84 z z ?_
 have s:=Sep.start w
 refine .g (.qn z (.seq (.g (.qn z (.block (bv h λy1 hy1 h=>?_))))))
 refine .via (.iter (λs1 E' W'=>ak E' [(0,(sv v_0)),(3,vi s1)]/\Sep No w W' []) (λy2 x E' W'=>(match y2 with | .inl o1=>x=.ret/\sh w o1 E' W' | .inr o2=>x=.exit 0/\ak E' [(0,(sv v_0))]/\Sep No w W' [])) hy1 ⟨sb rfl,s.to [] rfl⟩ ?_) ?_
 ·intro s1 y3 E W h hI
  obtain ⟨hE,s⟩:=hI
  refine CW.sub hE ?_
  unfold iZ at h
  refine .seq (.g (.q z (.q z (.s (aE (s.keep q_0) u23 z z) z (.q z (.nil ?_))))))
  refine .cs z h ?_ ?_ <;> intro h
  ·refine .skip (.seq (.block (.g (.q z (.q z (bv h λx1 hx1 h=>.s (ixv (s.keep q_0) hx1 u23 t3 z z z) z (.s (lde (RV.flat (s.keep q_0) hx1 z) t3 z z z z z) z (bv h λy4 hy4 h=>.c (.cO s func55 (bO hy4) z z ?_)))))))))
   intro W s
   refine .q z (.nil ?_)
   refine .cs z h ?_ ?_ <;> intro h
   ·refine .g (.qn z (.ret ?_))
    cases h
    exact ⟨by simp,z,aa (vs:=[_]) () (rt z rn) z (s.to [])⟩
   refine .skip (.region (.q z (.q z (.q z (.nil ?_)))))
   cases h
   exact ⟨z,sb z,s.to []⟩
  refine .exit ?_
  cases h
  exact ⟨by simp,z,sb z,s.to []⟩
 intro x E W hJ
 rcases y1 with o3 | o4
 ·have h:=dl h
  obtain ⟨rfl,hF⟩:=hJ
  refine ⟨_,λ_ _ h=>h,?_⟩
  cases h
  exact hF
 have h:=dm h
 obtain ⟨rfl,hE,s⟩:=hJ
 refine ⟨_,hE.sub,?_⟩
 cases h
 exact .g (.q z (.s (aE (s.keep q_0) u23 z z) z (.q z (.qn z (.ret (aa () (rt z rn) z (s.to [])))))))
theorem gk {a0:ae} {a1:Bool} {ax:Hd} {a7:Hd} {a8:Hd} {w:World} {r:Bool} (h:dV a0 a1=some r) (aq:RO w ax 77 3 aC a0.Expr.Args) (a9:RO w a7 80 8 aj a0.Body) (aQ:RO w a8 80 8 aj a0.Else):CL 168 #[.agg #[vi a0.Kind,vi a0.Var,vi a0.Box,vi a0.Expr.Op,vi a0.Expr.N,sv ax,sv a7,sv a8],.bool a1] w (RU w (.bool r)):=by
 unfold dV at h
 refine au func168 z z ?_
 have s:=Sep.start w
 refine .g (.c (.box s z z ?_))
 intro g1 W s
 refine .qn z (.seq (.g (.q z (.nil ?_))))
 refine .cs z h ?_ ?_ <;> intro h
 ·refine .g (.s (fa f80_1 z z z) z (.s (ld t3 s z z z z z) z (bv h λy1 hy1 h=>.c (.cO s func55 (bO hy1) z z ?_))))
  intro W s
  obtain rfl:=o9 h
  exact .qn z (.ret (aa () (rt z rn) z (s.to [])))
 cases h
 exact .skip (.g (.s (fa f80_1 z z z) z (.s (ld t3 s z z z z z) z (.q z (.qn z (.ret (aa () (rt z rn) z (s.to []))))))))
theorem gm {a0:ae} {a1:Bool} {ax:Hd} {a7:Hd} {a8:Hd} {w:World} {r:Bool} (h:dW a0 a1=some r) (aq:RO w ax 77 3 aC a0.Expr.Args) (a9:RO w a7 80 8 aj a0.Body) (aQ:RO w a8 80 8 aj a0.Else):CL 169 #[.agg #[vi a0.Kind,vi a0.Var,vi a0.Box,vi a0.Expr.Op,vi a0.Expr.N,sv ax,sv a7,sv a8],.bool a1] w (RU w (.bool r)):=by
 unfold dW at h
 refine au func169 z z ?_
 have s:=Sep.start w
 refine .g (.c (.box s z z ?_))
 intro g1 W s
 refine .qn z (.seq (.g (.q z (.nil ?_))))
 refine .cs z h ?_ ?_ <;> intro h
 ·refine .g (.s (fa f80_2 z z z) z (.s (ld t3 s z z z z z) z (bv h λy1 hy1 h=>.c (.cO s func55 (bO hy1) z z ?_))))
  intro W s
  obtain rfl:=o9 h
  exact .qn z (.ret (aa () (rt z rn) z (s.to [])))
 cases h
 exact .skip (.g (.s (fa f80_2 z z z) z (.s (ld t3 s z z z z z) z (.q z (.qn z (.ret (aa () (rt z rn) z (s.to []))))))))
theorem lS {a0:Int} {w:World} {r:Bool} (h:dN a0=some r):CL 126 #[vi a0] w (RU w (.bool r)):=by
 unfold dN at h
 refine au func126 z z ?_
 have s:=Sep.start w
 refine .g (.qn z (.g (.q z (bv h λy1 hy1 h=>.c (.cO s func55 (bO hy1) z z ?_)))))
 intro W s
 obtain rfl:=o9 h
 exact .qn z (.ret (aa () (rt z rn) z (s.to [])))
def mF (F:Expr->Int->Option (Bool)):Prop:=∀ {a0:Expr} {a1:Int} {bw:Hd} {w:World} {r:Bool} (h:F a0 a1=some r) (aw:RO w bw 77 3 aC a0.Args) , CL 183 #[.agg #[vi a0.Op,vi a0.N,sv bw],vi a1] w (RU w (.bool r))
theorem vM {k:Nat} {lH:Expr->Int->Option (Bool)} (qp:mF lH):mF (fk k lH):=by
 intro a0 a1 bw w r h aw
 unfold fk at h
 refine au func183 z z ?_
 have s:=Sep.start w
 refine .g (.c (.box s z z ?_))
 intro g1 W s
 refine .qn z (.seq (.g (.q z (.q z (.nil ?_)))))
 refine .cs z h ?_ ?_ <;> intro h
 ·obtain rfl:=o9 h
  exact .g (.qn z (.ret (aa () (rt z rn) z (s.to []))))
 refine .skip (.seq (.g (.s (fa f77_0 z z z) z (.s (ld t3 s z z z z z) z (.q z (.nil ?_))))))
 refine .cs z h ?_ ?_ <;> intro h
 ·refine .g (.s (fa f77_1 z z z) z (.s (ld t3 s z z z z z) z (bv h λy1 hy1 h=>.c (.cO s func55 (bO hy1) z z ?_))))
  intro W s
  refine .q z (.cu 5 18 (y1&&((a0.Args.length:Int)==0)) s ?_ ?_)
  ·refine .both (y1) (λb=>?_) (λb=>?_)
   ·have hg1:=b
    exact .g hg1 (.s (fa f77_2 z z z) z (.g hg1 (.s (ld t75 s z z z z z) z (.g hg1 (.s (aE (s.keep aw) u75 z z) z (.g hg1 (.q z (.s (pkt hg1 z z z) z (.nil (ck 5 s z (bh hg1)))))))))))
   exact .xx b z (.xx b z (.xx b z (.xx b z (.s (pkf b z z z) z (.nil (ck 5 s z (bi b)))))))
  intro W s
  cases h
  exact .qn z (.ret (aa () (rt z rn) z (s.to [])))
 refine .skip (.seq (.g (.s (fa f77_0 z z z) z (.s (ld t3 s z z z z z) z (.q z (.nil ?_))))))
 refine .cs z h ?_ ?_ <;> intro h
 ·refine .g (.s (fa f77_1 z z z) z (.s (ld t3 s z z z z z) z (bv h λy2 hy2 h=>.c (.cO s func55 (bO hy2) z z ?_))))
  intro W s
  refine .q z (.cu 5 30 (y2&&((a0.Args.length:Int)==0)) s ?_ ?_)
  ·refine .both (y2) (λb=>?_) (λb=>?_)
   ·have hg2:=b
    exact .g hg2 (.s (fa f77_2 z z z) z (.g hg2 (.s (ld t75 s z z z z z) z (.g hg2 (.s (aE (s.keep aw) u75 z z) z (.g hg2 (.q z (.s (pkt hg2 z z z) z (.nil (ck 5 s z (bh hg2)))))))))))
   exact .xx b z (.xx b z (.xx b z (.xx b z (.s (pkf b z z z) z (.nil (ck 5 s z (bi b)))))))
  intro W s
  cases h
  exact .qn z (.ret (aa () (rt z rn) z (s.to [])))
 refine .skip (.g (.s (fa f77_0 z z z) z (.s (ld t3 s z z z z z) z (bv h λy3 hy3 h=>.c (.cO s func126 (lS hy3) z z ?_)))))
 intro W s
 refine .q z (.cu 4 38 (y3&&(a0.N==0)) s ?_ ?_)
 ·refine .both (y3) (λb=>?_) (λb=>?_)
  ·have hg3:=b
   exact .g hg3 (.s (fa f77_1 z z z) z (.g hg3 (.s (ld t3 s z z z z z) z (.g hg3 (.q z (.s (pkt hg3 z z z) z (.nil (ck 4 s z (bh hg3)))))))))
  exact .xx b z (.xx b z (.xx b z (.s (pkf b z z z) z (.nil (ck 4 s z (bi b))))))
 intro W s
 refine .q z (.cu 5 44 ((y3&&(a0.N==0))&&((a0.Args.length:Int)==2)) s ?_ ?_)
 ·refine .both (y3&&(a0.N==0)) (λb=>?_) (λb=>?_)
  ·have hg4:=b
   exact .g hg4 (.s (fa f77_2 z z z) z (.g hg4 (.s (ld t75 s z z z z z) z (.g hg4 (.s (aE (s.keep aw) u75 z z) z (.g hg4 (.q z (.s (pkt hg4 z z z) z (.nil (ck 5 s z (bh hg4)))))))))))
  exact .xx b z (.xx b z (.xx b z (.xx b z (.s (pkf b z z z) z (.nil (ck 5 s z (bi b)))))))
 intro W s
 refine .q z (bv h λb1 hb1 h=>.cu 8 53 (b1) s ?_ ?_)
 ·refine .both ((y3&&(a0.N==0))&&((a0.Args.length:Int)==2)) (λb=>?_) (λb=>?_)
  ·have hg5:=b
   have h:=aJ b hb1
   refine .g hg5 (.s (fa f77_2 z z z) z (.g hg5 (.s (ld t75 s z z z z z) z (bv h λx1 hx1 h=>?_))))
   obtain ⟨k1,hd,hck1⟩:=RV.el2 aw hx1
   have hd1:=jk (cq _) hd
   obtain ⟨k1,rfl,hd2⟩:=bK aw z hd1
   obtain ⟨k1,rfl,hd3⟩:=bK aw z hd2
   obtain ⟨v1,k1,rfl,q1,hd4⟩:=cw aw hd3
   obtain rfl:=kT aw hd4
   refine .g hg5 (.s (ixv (s.keep aw) hx1 u75 t77 z z z) z (.g hg5 (.s (lde (hck1 _ s.agree) t77 z z z z z) z (.g hg5 (.q z (.g hg5 (.q z (bv h λy4 hy4 h=>.g hg5 (.c (.cO s func183 (qp hy4 (s.keep (q1 _ aw))) z z ?_))))))))))
   intro W s
   refine .s (pkt hg5 z z z) z ?_
   cases h
   exact .nil (ck 8 s)
  refine .xx b z (.xx b z (.xx b z (.xx b z (.xx b z (.xx b z (.xx b z ?_))))))
  cases aK b hb1
  exact .s (pkf b z z z) z (.nil (ck 8 s))
 intro W s
 refine .q z (bv h λb2 hb2 h=>.cu 8 62 (b2) s ?_ ?_)
 ·refine .both (b1) (λb=>?_) (λb=>?_)
  ·have hg6:=b
   have h:=aJ b hb2
   refine .g hg6 (.s (fa f77_2 z z z) z (.g hg6 (.s (ld t75 s z z z z z) z (bv h λx2 hx2 h=>?_))))
   obtain ⟨k2,hd,hck2⟩:=RV.el2 aw hx2
   have hd1:=jk (cq _) hd
   obtain ⟨k2,rfl,hd2⟩:=bK aw z hd1
   obtain ⟨k2,rfl,hd3⟩:=bK aw z hd2
   obtain ⟨v2,k2,rfl,q2,hd4⟩:=cw aw hd3
   obtain rfl:=kT aw hd4
   refine .g hg6 (.s (ixv (s.keep aw) hx2 u75 t77 z z z) z (.g hg6 (.s (lde (hck2 _ s.agree) t77 z z z z z) z (.g hg6 (.q z (.g hg6 (.q z (bv h λy5 hy5 h=>.g hg6 (.c (.cO s func183 (qp hy5 (s.keep (q2 _ aw))) z z ?_))))))))))
   intro W s
   refine .s (pkt hg6 z z z) z ?_
   cases h
   exact .nil (ck 8 s)
  refine .xx b z (.xx b z (.xx b z (.xx b z (.xx b z (.xx b z (.xx b z ?_))))))
  cases aK b hb2
  exact .s (pkf b z z z) z (.nil (ck 8 s))
 intro W s
 obtain rfl:=o9 h
 exact .qn z (.ret (aa () (rt z rn) z (s.to [])))
theorem ra (k:Nat):mF (j7 k):=by
  induction k with
  | zero=>exact by intro a0 a1 bw w r h aw; exact no h
  | succ k ih=>exact vM (k:=k) ih
theorem uV {k:Nat}:mF (j7 k):=(ra k)
theorem ig {k:Nat} {a0:Expr} {bw:Hd} {w:World} {r:Bool} (h:bP k a0=some r) (aw:RO w bw 77 3 aC a0.Args):CL 170 #[.agg #[vi a0.Op,vi a0.N,sv bw]] w (RU w (.bool r)):=by
 unfold bP at h
 refine au func170 z z ?_
 have s:=Sep.start w
 refine .g (.c (.box s z z ?_))
 intro g1 W s
 refine .qn z (.g (.s (ld t77 s z z z z z) z (bv h λy1 hy1 h=>.c (.cO s func183 (uV hy1 (s.keep aw)) z z ?_))))
 intro W s
 obtain rfl:=o9 h
 exact .qn z (.ret (aa () (rt z rn) z (s.to [])))
theorem mZ {a0:Expr} {bw:Hd} {w:World} {r:Bool} (h:fC a0=some r) (aw:RO w bw 77 3 aC a0.Args):CL 182 #[.agg #[vi a0.Op,vi a0.N,sv bw]] w (RU w (.bool r)):=by
 unfold fC at h
 refine au func182 z z ?_
 have s:=Sep.start w
 refine .g (.c (.box s z z ?_))
 intro g1 W s
 refine .qn z (.g (.s (fa f77_0 z z z) z (.s (ld t3 s z z z z z) z (.q z (.q z (.cu 4 10 ((a0.Op==0)&&(a0.N==0)) s ?_ ?_))))))
 ·refine .both (a0.Op==0) (λb=>?_) (λb=>?_)
  ·have hg1:=b
   exact .g hg1 (.s (fa f77_1 z z z) z (.g hg1 (.s (ld t3 s z z z z z) z (.g hg1 (.q z (.s (pkt hg1 z z z) z (.nil (ck 4 s z (bh hg1)))))))))
  exact .xx b z (.xx b z (.xx b z (.s (pkf b z z z) z (.nil (ck 4 s z (bi b))))))
 intro W s
 refine .q z (.cu 5 16 (((a0.Op==0)&&(a0.N==0))&&((a0.Args.length:Int)==0)) s ?_ ?_)
 ·refine .both ((a0.Op==0)&&(a0.N==0)) (λb=>?_) (λb=>?_)
  ·have hg2:=b
   exact .g hg2 (.s (fa f77_2 z z z) z (.g hg2 (.s (ld t75 s z z z z z) z (.g hg2 (.s (aE (s.keep aw) u75 z z) z (.g hg2 (.q z (.s (pkt hg2 z z z) z (.nil (ck 5 s z (bh hg2)))))))))))
  exact .xx b z (.xx b z (.xx b z (.xx b z (.s (pkf b z z z) z (.nil (ck 5 s z (bi b)))))))
 intro W s
 cases h
 exact .qn z (.ret (aa () (rt z rn) z (s.to [])))
theorem qq {k:Nat} {a0:ae} {ax:Hd} {a7:Hd} {a8:Hd} {w:World} {r:Bool} (h:du k a0=some r) (aq:RO w ax 77 3 aC a0.Expr.Args) (a9:RO w a7 80 8 aj a0.Body) (aQ:RO w a8 80 8 aj a0.Else):CL 167 #[.agg #[vi a0.Kind,vi a0.Var,vi a0.Box,vi a0.Expr.Op,vi a0.Expr.N,sv ax,sv a7,sv a8]] w (RU w (.bool r)):=by
 unfold du at h
 refine au func167 z z ?_
 have s:=Sep.start w
 refine .g (.c (.box s z z ?_))
 intro g1 W s
 refine .qn z (.seq (.g (.s (fa f80_4 z z z) z (.s (ld t36 s z z z z z) z (.s (aE (s.keep a9) u36 z z) z (.q z (.q z (.cu 5 12 ((decide ((a0.Body.length:Int)>0))||(decide ((a0.Else.length:Int)>0))) s ?_ ?_))))))))
 ·refine .both (decide ((a0.Body.length:Int)>0)) (λb=>?_) (λb=>?_)
  ·exact .xx b z (.xx b z (.xx b z (.xx b z (.s (pkt b z z z) z (.nil (ck 5 s z (jr b)))))))
  have hg1:=b
  exact .g hg1 (.s (fa f80_5 z z z) z (.g hg1 (.s (ld t36 s z z z z z) z (.g hg1 (.s (aE (s.keep aQ) u36 z z) z (.g hg1 (.q z (.s (pkf hg1 z z z) z (.nil (ck 5 s z (iR hg1)))))))))))
 intro W s
 refine .nil ?_
 refine .cs z h ?_ ?_ <;> intro h
 ·obtain rfl:=o9 h
  exact .g (.qn z (.ret (aa () (rt z rn) z (s.to []))))
 refine .skip (.seq (.g (.s (fa f80_0 z z z) z (.s (ld t3 s z z z z z) z (.nil (.block (.g (.q z (.q z (.nil ?_))))))))))
 refine .cs z h ?_ ?_ <;> intro h
 ·refine .g (.s (ld t80 s z z z z z) z (bv h λy1 hy1 h=>.c (.cO s func168 (gk hy1 (s.keep aq) (s.keep a9) (s.keep aQ)) z z ?_)))
  intro W s
  refine .q z (bv h λb1 hb1 h=>.cu 3 22 (b1) s ?_ ?_)
  ·refine .both (y1) (λb=>?_) (λb=>?_)
   ·have hg2:=b
    have h:=aJ b hb1
    refine .g hg2 (.s (ld t80 s z z z z z) z (bv h λy2 hy2 h=>.g hg2 (.c (.cO s func169 (gm hy2 (s.keep aq) (s.keep a9) (s.keep aQ)) z z ?_))))
    intro W s
    refine .s (pkt hg2 z z z) z ?_
    cases h
    exact .nil (ck 3 s)
   refine .xx b z (.xx b z ?_)
   cases aK b hb1
   exact .s (pkf b z z z) z (.nil (ck 3 s))
  intro W s
  refine .q z (bv h λb2 hb2 h=>.cu 4 27 (b2) s ?_ ?_)
  ·refine .both (b1) (λb=>?_) (λb=>?_)
   ·have hg3:=b
    have h:=aJ b hb2
    refine .g hg3 (.s (fa f80_3 z z z) z (.g hg3 (.s (ld t77 s z z z z z) z (bv h λy3 hy3 h=>.g hg3 (.c (.cO s func170 (ig hy3 (s.keep aq)) z z ?_))))))
    intro W s
    refine .s (pkt hg3 z z z) z ?_
    cases h
    exact .nil (ck 4 s)
   refine .xx b z (.xx b z (.xx b z ?_))
   cases aK b hb2
   exact .s (pkf b z z z) z (.nil (ck 4 s))
  intro W s
  obtain rfl:=o9 h
  exact .qn z (.ret (aa () (rt z rn) z (s.to [])))
 refine .g (.q z (.q z (.nil ?_)))
 refine .cs z h ?_ ?_ <;> intro h
 ·refine .g (.s (ld t80 s z z z z z) z (bv h λy4 hy4 h=>.c (.cO s func168 (gk hy4 (s.keep aq) (s.keep a9) (s.keep aQ)) z z ?_)))
  intro W s
  refine .q z (bv h λb3 hb3 h=>.cu 3 35 (b3) s ?_ ?_)
  ·refine .both (y4) (λb=>?_) (λb=>?_)
   ·have hg4:=b
    have h:=aJ b hb3
    refine .g hg4 (.s (ld t80 s z z z z z) z (bv h λy5 hy5 h=>.g hg4 (.c (.cO s func169 (gm hy5 (s.keep aq) (s.keep a9) (s.keep aQ)) z z ?_))))
    intro W s
    refine .s (pkt hg4 z z z) z ?_
    cases h
    exact .nil (ck 3 s)
   refine .xx b z (.xx b z ?_)
   cases aK b hb3
   exact .s (pkf b z z z) z (.nil (ck 3 s))
  intro W s
  refine .q z (bv h λb4 hb4 h=>.cu 4 40 (b4) s ?_ ?_)
  ·refine .both (b3) (λb=>?_) (λb=>?_)
   ·have hg5:=b
    have h:=aJ b hb4
    refine .g hg5 (.s (fa f80_3 z z z) z (.g hg5 (.s (ld t77 s z z z z z) z (bv h λy6 hy6 h=>.g hg5 (.c (.cO s func170 (ig hy6 (s.keep aq)) z z ?_))))))
    intro W s
    refine .s (pkt hg5 z z z) z ?_
    cases h
    exact .nil (ck 4 s)
   refine .xx b z (.xx b z (.xx b z ?_))
   cases aK b hb4
   exact .s (pkf b z z z) z (.nil (ck 4 s))
  intro W s
  obtain rfl:=o9 h
  exact .qn z (.ret (aa () (rt z rn) z (s.to [])))
 refine .g (.q z (.q z (.nil ?_)))
 refine .cs z h ?_ ?_ <;> intro h
 ·refine .g (.s (ld t80 s z z z z z) z (bv h λy7 hy7 h=>.c (.cO s func168 (gk hy7 (s.keep aq) (s.keep a9) (s.keep aQ)) z z ?_)))
  intro W s
  refine .q z (bv h λb5 hb5 h=>.cu 3 48 (b5) s ?_ ?_)
  ·refine .both (y7) (λb=>?_) (λb=>?_)
   ·have hg6:=b
    have h:=aJ b hb5
    refine .g hg6 (.s (ld t80 s z z z z z) z (bv h λy8 hy8 h=>.g hg6 (.c (.cO s func169 (gm hy8 (s.keep aq) (s.keep a9) (s.keep aQ)) z z ?_))))
    intro W s
    refine .s (pkt hg6 z z z) z ?_
    cases h
    exact .nil (ck 3 s)
   refine .xx b z (.xx b z ?_)
   cases aK b hb5
   exact .s (pkf b z z z) z (.nil (ck 3 s))
  intro W s
  refine .q z (bv h λb6 hb6 h=>.cu 4 53 (b6) s ?_ ?_)
  ·refine .both (b5) (λb=>?_) (λb=>?_)
   ·have hg7:=b
    have h:=aJ b hb6
    refine .g hg7 (.s (fa f80_3 z z z) z (.g hg7 (.s (ld t77 s z z z z z) z (bv h λy9 hy9 h=>.g hg7 (.c (.cO s func182 (mZ hy9 (s.keep aq)) z z ?_))))))
    intro W s
    refine .s (pkt hg7 z z z) z ?_
    cases h
    exact .nil (ck 4 s)
   refine .xx b z (.xx b z (.xx b z ?_))
   cases aK b hb6
   exact .s (pkf b z z z) z (.nil (ck 4 s))
  intro W s
  obtain rfl:=o9 h
  exact .qn z (.ret (aa () (rt z rn) z (s.to [])))
 refine .g (.q z (.q z (.nil ?_)))
 refine .cs z h ?_ ?_ <;> intro h
 ·refine .g (.s (ld t80 s z z z z z) z (bv h λy10 hy10 h=>.c (.cO s func168 (gk hy10 (s.keep aq) (s.keep a9) (s.keep aQ)) z z ?_)))
  intro W s
  refine .q z (bv h λb7 hb7 h=>.cu 3 61 (b7) s ?_ ?_)
  ·refine .both (y10) (λb=>?_) (λb=>?_)
   ·have hg8:=b
    have h:=aJ b hb7
    refine .g hg8 (.s (ld t80 s z z z z z) z (bv h λy11 hy11 h=>.g hg8 (.c (.cO s func169 (gm hy11 (s.keep aq) (s.keep a9) (s.keep aQ)) z z ?_))))
    intro W s
    refine .s (pkt hg8 z z z) z ?_
    cases h
    exact .nil (ck 3 s)
   refine .xx b z (.xx b z ?_)
   cases aK b hb7
   exact .s (pkf b z z z) z (.nil (ck 3 s))
  intro W s
  refine .q z (bv h λb8 hb8 h=>.cu 4 66 (b8) s ?_ ?_)
  ·refine .both (b7) (λb=>?_) (λb=>?_)
   ·have hg9:=b
    have h:=aJ b hb8
    refine .g hg9 (.s (fa f80_3 z z z) z (.g hg9 (.s (ld t77 s z z z z z) z (bv h λy12 hy12 h=>.g hg9 (.c (.cO s func182 (mZ hy12 (s.keep aq)) z z ?_))))))
    intro W s
    refine .s (pkt hg9 z z z) z ?_
    cases h
    exact .nil (ck 4 s)
   refine .xx b z (.xx b z (.xx b z ?_))
   cases aK b hb8
   exact .s (pkf b z z z) z (.nil (ck 4 s))
  intro W s
  obtain rfl:=o9 h
  exact .qn z (.ret (aa () (rt z rn) z (s.to [])))
 refine .g (.q z (.q z (.nil ?_)))
 refine .cs z h ?_ ?_ <;> intro h
 ·refine .g (.s (ld t80 s z z z z z) z (bv h λy13 hy13 h=>.c (.cO s func168 (gk hy13 (s.keep aq) (s.keep a9) (s.keep aQ)) z z ?_)))
  intro W s
  refine .q z (bv h λb9 hb9 h=>.cu 3 74 (b9) s ?_ ?_)
  ·refine .both (y13) (λb=>?_) (λb=>?_)
   ·have hg10:=b
    have h:=aJ b hb9
    refine .g hg10 (.s (ld t80 s z z z z z) z (bv h λy14 hy14 h=>.g hg10 (.c (.cO s func169 (gm hy14 (s.keep aq) (s.keep a9) (s.keep aQ)) z z ?_))))
    intro W s
    refine .s (pkt hg10 z z z) z ?_
    cases h
    exact .nil (ck 3 s)
   refine .xx b z (.xx b z ?_)
   cases aK b hb9
   exact .s (pkf b z z z) z (.nil (ck 3 s))
  intro W s
  refine .q z (bv h λb10 hb10 h=>.cu 4 79 (b10) s ?_ ?_)
  ·refine .both (b9) (λb=>?_) (λb=>?_)
   ·have hg11:=b
    have h:=aJ b hb10
    refine .g hg11 (.s (fa f80_3 z z z) z (.g hg11 (.s (ld t77 s z z z z z) z (bv h λy15 hy15 h=>.g hg11 (.c (.cO s func170 (ig hy15 (s.keep aq)) z z ?_))))))
    intro W s
    refine .s (pkt hg11 z z z) z ?_
    cases h
    exact .nil (ck 4 s)
   refine .xx b z (.xx b z (.xx b z ?_))
   cases aK b hb10
   exact .s (pkf b z z z) z (.nil (ck 4 s))
  intro W s
  obtain rfl:=o9 h
  exact .qn z (.ret (aa () (rt z rn) z (s.to [])))
 obtain rfl:=o9 h
 exact .skip (.g (.qn z (.ret (aa () (rt z rn) z (s.to [])))))
def gn (F:List ae->Int->Option (Bool)):Prop:=∀ {a0:List ae} {a1:Int} {v_0:Hd} {w:World} {r:Bool} (h:F a0 a1=some r) (q_0:RO w v_0 80 8 aj a0) , CL 117 #[sv v_0,vi a1] w (RU w (.bool r))
def l9 (F:ae->Int->Option (Bool)):Prop:=∀ {a0:ae} {a1:Int} {ax:Hd} {a7:Hd} {a8:Hd} {w:World} {r:Bool} (h:F a0 a1=some r) (aq:RO w ax 77 3 aC a0.Expr.Args) (a9:RO w a7 80 8 aj a0.Body) (aQ:RO w a8 80 8 aj a0.Else) , CL 138 #[.agg #[vi a0.Kind,vi a0.Var,vi a0.Box,vi a0.Expr.Op,vi a0.Expr.N,sv ax,sv a7,sv a8],vi a1] w (RU w (.bool r))
def rb (w:World) (r:Bool):Env->World->Prop:=Fin Tryz.prog Tryz.f117 No w (λs:Unit=>.bool r) (λs=>[]) .ret
theorem re {k:Nat} {bT:List ae->Int->Option (Bool)} {dg:ae->Int->Option (Bool)} (kJ:gn bT) (pi:l9 dg):gn (cY k bT dg):=by
 intro a0 a1 v_0 w r h q_0
 unfold cY at h
 refine au func117 z z ?_
 have s:=Sep.start w
 refine .g (.qn z (.seq (.g (.qn z (.block (bv h λy1 hy1 h=>?_))))))
 refine .via (.iter (λs1 E' W'=>ak E' [(0,(sv v_0)),(1,vi a1),(5,vi s1)]/\Sep No w W' []) (λy2 x E' W'=>(match y2 with | .inl o1=>x=.ret/\rb w o1 E' W' | .inr o2=>x=.exit 0/\ak E' []/\Sep No w W' [])) hy1 ⟨sb rfl,s.to [] rfl⟩ ?_) ?_
 ·intro s1 y3 E W h hI
  obtain ⟨hE,s⟩:=hI
  refine CW.sub hE ?_
  unfold hU at h
  refine .seq (.g (.q z (.q z (.s (aE (s.keep q_0) u36 z z) z (.q z (.nil ?_))))))
  refine .cs z h ?_ ?_ <;> intro h
  ·refine .skip (.seq (.block (.g (.q z (.q z (bv h λx1 hx1 h=>?_))))))
   obtain ⟨k1,hd,hck1⟩:=RV.el2 q_0 hx1
   have hd1:=jk (dT _) hd
   obtain ⟨k1,rfl,hd2⟩:=bK q_0 z hd1
   obtain ⟨k1,rfl,hd3⟩:=bK q_0 z hd2
   obtain ⟨k1,rfl,hd4⟩:=bK q_0 z hd3
   have hd5:=jk (cq _) hd4
   obtain ⟨k1,rfl,hd6⟩:=bK q_0 z hd5
   obtain ⟨k1,rfl,hd7⟩:=bK q_0 z hd6
   obtain ⟨v1,k1,rfl,q1,hd8⟩:=cw q_0 hd7
   obtain ⟨v2,k1,rfl,q2,hd9⟩:=cw q_0 hd8
   obtain ⟨v3,k1,rfl,q3,hd10⟩:=cw q_0 hd9
   obtain rfl:=kT q_0 hd10
   refine .s (ixv (s.keep q_0) hx1 u36 t80 z z z) z (.s (lde (hck1 _ s.agree) t80 z z z z z) z (.q z (bv h λy4 hy4 h=>.c (.cO s func138 (pi hy4 (s.keep (q1 _ q_0)) (s.keep (q2 _ q_0)) (s.keep (q3 _ q_0))) z z ?_))))
   intro W s
   refine .q z (.nil ?_)
   refine .cs z h ?_ ?_ <;> intro h
   ·refine .g (.qn z (.ret ?_))
    cases h
    exact ⟨by simp,z,aa (vs:=[_]) () (rt z rn) z (s.to [])⟩
   refine .skip (.region (.q z (.q z (.q z (.nil ?_)))))
   cases h
   exact ⟨z,sb z,s.to []⟩
  refine .exit ?_
  cases h
  exact ⟨by simp,z,sb z,s.to []⟩
 intro x E W hJ
 rcases y1 with o3 | o4
 ·have h:=dl h
  obtain ⟨rfl,hF⟩:=hJ
  refine ⟨_,λ_ _ h=>h,?_⟩
  cases h
  exact hF
 have h:=dm h
 obtain ⟨rfl,hE,s⟩:=hJ
 refine ⟨_,hE.sub,?_⟩
 obtain rfl:=o9 h
 exact .g (.qn z (.ret (aa () (rt z rn) z (s.to []))))
theorem uW {k:Nat} {bT:List ae->Int->Option (Bool)} {dg:ae->Int->Option (Bool)} (kJ:gn bT) (pi:l9 dg):l9 (gz k bT dg):=by
 intro a0 a1 ax a7 a8 w r h aq a9 aQ
 unfold gz at h
 refine au func138 z z ?_
 have s:=Sep.start w
 refine .g (.c (.box s z z ?_))
 intro g1 W s
 refine .qn z (.seq (.g (.s (fa f80_0 z z z) z (.s (ld t3 s z z z z z) z (.q z (.q z (.cu 4 12 ((a0.Kind !=2)&&(a0.Kind !=3)) s ?_ ?_)))))))
 ·refine .both (a0.Kind !=2) (λb=>?_) (λb=>?_)
  ·have hg1:=b
   exact .g hg1 (.s (fa f80_0 z z z) z (.g hg1 (.s (ld t3 s z z z z z) z (.g hg1 (.q z (.s (pkt hg1 z z z) z (.nil (ck 4 s z (bh hg1)))))))))
  exact .xx b z (.xx b z (.xx b z (.s (pkf b z z z) z (.nil (ck 4 s z (bi b))))))
 intro W s
 refine .nil ?_
 refine .cs z h ?_ ?_ <;> intro h
 ·refine .g (.s (ld t80 s z z z z z) z (bv h λy1 hy1 h=>.c (.cO s func167 (qq hy1 (s.keep aq) (s.keep a9) (s.keep aQ)) z z ?_)))
  intro W s
  obtain rfl:=o9 h
  exact .qn z (.ret (aa () (rt z rn) z (s.to [])))
 refine .skip (.seq (.g (.q z (.q z (.q z (.cu 10 27 ((decide (a1<1))||((a0.Kind==3)&&(decide ((a0.Else.length:Int)>0)))) s ?_ ?_))))))
 ·refine .both (decide (a1<1)) (λb=>?_) (λb=>?_)
  ·exact .xx b z (.xx b z (.xx b z (.xx b z (.xu (.xu (.xu (.xu (.xx b z (.s (pkt b z z z) z (.nil (ck 10 s z (jr b))))))))))))
  have hg2:=b
  refine .g hg2 (.s (fa f80_0 z z z) z (.g hg2 (.s (ld t3 s z z z z z) z (.g hg2 (.q z (.g hg2 (.q z (.cu 5 26 ((a0.Kind==3)&&(decide ((a0.Else.length:Int)>0))) s ?_ ?_))))))))
  ·refine .both (a0.Kind==3) (λb=>?_) (λb=>?_)
   ·have hg3:=b
    exact .g hg3 (.s (fa f80_5 z z z) z (.g hg3 (.s (ld t36 s z z z z z) z (.g hg3 (.s (aE (s.keep aQ) u36 z z) z (.g hg3 (.q z (.g hg2 (.s (pkt hg3 z z z) z (.nil (ck 5 s z (bh hg3))))))))))))
   exact .xx b z (.xx b z (.xx b z (.xx b z (.g hg2 (.s (pkf b z z z) z (.nil (ck 5 s z (bi b))))))))
  intro W s
  exact .s (pkf hg2 z z z) z (.nil (ck 6 s z (iR hg2)))
 intro W s
 refine .nil ?_
 refine .cs z h ?_ ?_ <;> intro h
 ·obtain rfl:=o9 h
  exact .g (.qn z (.ret (aa () (rt z rn) z (s.to []))))
 refine .skip (.g (.s (ld t80 s z z z z z) z (bv h λy2 hy2 h=>.c (.cO s func168 (gk hy2 (s.keep aq) (s.keep a9) (s.keep aQ)) z z ?_))))
 intro W s
 refine .q z (bv h λb1 hb1 h=>.cu 3 33 (b1) s ?_ ?_)
 ·refine .both (y2) (λb=>?_) (λb=>?_)
  ·have hg4:=b
   have h:=aJ b hb1
   refine .g hg4 (.s (ld t80 s z z z z z) z (bv h λy3 hy3 h=>.g hg4 (.c (.cO s func169 (gm hy3 (s.keep aq) (s.keep a9) (s.keep aQ)) z z ?_))))
   intro W s
   refine .s (pkt hg4 z z z) z ?_
   cases h
   exact .nil (ck 3 s)
  refine .xx b z (.xx b z ?_)
  cases aK b hb1
  exact .s (pkf b z z z) z (.nil (ck 3 s))
 intro W s
 refine .q z (bv h λb2 hb2 h=>.cu 4 38 (b2) s ?_ ?_)
 ·refine .both (b1) (λb=>?_) (λb=>?_)
  ·have hg5:=b
   have h:=aJ b hb2
   refine .g hg5 (.s (fa f80_3 z z z) z (.g hg5 (.s (ld t77 s z z z z z) z (bv h λy4 hy4 h=>.g hg5 (.c (.cO s func170 (ig hy4 (s.keep aq)) z z ?_))))))
   intro W s
   refine .s (pkt hg5 z z z) z ?_
   cases h
   exact .nil (ck 4 s)
  refine .xx b z (.xx b z (.xx b z ?_))
  cases aK b hb2
  exact .s (pkf b z z z) z (.nil (ck 4 s))
 intro W s
 refine .q z (bv h λb3 hb3 h=>.cu 6 45 (b3) s ?_ ?_)
 ·refine .both (b2) (λb=>?_) (λb=>?_)
  ·have hg6:=b
   have h:=aJ b hb3
   refine .g hg6 (.s (fa f80_4 z z z) z (.g hg6 (.s (ld t36 s z z z z z) z (.g hg6 (.q z (.g hg6 (.q z (bv h λy5 hy5 h=>.g hg6 (.c (.cO s func117 (kJ hy5 (s.keep a9)) z z ?_))))))))))
   intro W s
   refine .s (pkt hg6 z z z) z ?_
   cases h
   exact .nil (ck 6 s)
  refine .xx b z (.xx b z (.xx b z (.xx b z (.xx b z ?_))))
  cases aK b hb3
  exact .s (pkf b z z z) z (.nil (ck 6 s))
 intro W s
 refine .q z (bv h λb4 hb4 h=>.cu 6 52 (b4) s ?_ ?_)
 ·refine .both (b3) (λb=>?_) (λb=>?_)
  ·have hg7:=b
   have h:=aJ b hb4
   refine .g hg7 (.s (fa f80_5 z z z) z (.g hg7 (.s (ld t36 s z z z z z) z (.g hg7 (.q z (.g hg7 (.q z (bv h λy6 hy6 h=>.g hg7 (.c (.cO s func117 (kJ hy6 (s.keep aQ)) z z ?_))))))))))
   intro W s
   refine .s (pkt hg7 z z z) z ?_
   cases h
   exact .nil (ck 6 s)
  refine .xx b z (.xx b z (.xx b z (.xx b z (.xx b z ?_))))
  cases aK b hb4
  exact .s (pkf b z z z) z (.nil (ck 6 s))
 intro W s
 obtain rfl:=o9 h
 exact .qn z (.ret (aa () (rt z rn) z (s.to [])))
theorem nA (k:Nat):gn (bC k)/\l9 (ml k):=by
  induction k with
  | zero=>exact ⟨by intro a0 a1 v_0 w r h q_0; exact no h,by intro a0 a1 ax a7 a8 w r h aq a9 aQ; exact no h⟩
  | succ k ih=>exact ⟨re (k:=k) ih.1 ih.2,uW (k:=k) ih.1 ih.2⟩
theorem qr {k:Nat}:gn (bC k):=(nA k).1
theorem mt {k:Nat} {a0:List ae} {v_0:Hd} {w:World} {r:Bool} (h:cj k a0=some r) (q_0:RO w v_0 80 8 aj a0):CL 85 #[sv v_0] w (RU w (.bool r)):=by
 unfold cj at h
 refine au func85 z z ?_
 have s:=Sep.start w
 refine .g (.qn z (.g (.q z (bv h λy1 hy1 h=>.c (.cO s func117 (qr hy1 (s.keep q_0)) z z ?_)))))
 intro W s
 refine .q z (bv h λb1 hb1 h=>.cu 4 9 (b1) s ?_ ?_)
 ·refine .both (y1) (λb=>?_) (λb=>?_)
  ·have hg1:=b
   have h:=aJ b hb1
   refine .g hg1 (.q z (bv h λy2 hy2 h=>.g hg1 (.c (.cO s func116 (mX hy2 (s.keep q_0)) z z ?_))))
   intro W s
   refine .g hg1 (.q z (.s (pkt hg1 z z z) z ?_))
   cases h
   exact .nil (ck 4 s)
  refine .xx b z (.xx b z (.xx b z ?_))
  cases aK b hb1
  exact .s (pkf b z z z) z (.nil (ck 4 s))
 intro W s
 obtain rfl:=o9 h
 exact .qn z (.ret (aa () (rt z rn) z (s.to [])))
def jU (F:List ae->Int->Option (Bool)):Prop:=∀ {a0:List ae} {a1:Int} {v_0:Hd} {w:World} {r:Bool} (h:F a0 a1=some r) (q_0:RO w v_0 80 8 aj a0) , CL 86 #[sv v_0,vi a1] w (RU w (.bool r))
def si (w:World) (r:Bool):Env->World->Prop:=Fin Tryz.prog Tryz.f86 No w (λs:Unit=>.bool r) (λs=>[]) .ret
theorem sj {k:Nat} {dB:List ae->Int->Option (Bool)} (m4:jU dB):jU (dC k dB):=by
 intro a0 a1 v_0 w r h q_0
 unfold dC at h
 refine au func86 z z ?_
 have s:=Sep.start w
 refine .g (.qn z (.seq (.g (.qn z (.block (bv h λy1 hy1 h=>?_))))))
 refine .via (.iter (λs1 E' W'=>ak E' [(0,(sv v_0)),(1,vi a1),(5,vi s1)]/\Sep No w W' []) (λy2 x E' W'=>(match y2 with | .inl o1=>x=.ret/\si w o1 E' W' | .inr o2=>x=.exit 0/\ak E' []/\Sep No w W' [])) hy1 ⟨sb rfl,s.to [] rfl⟩ ?_) ?_
 ·intro s1 y3 E W h hI
  obtain ⟨hE,s⟩:=hI
  refine CW.sub hE ?_
  unfold lf at h
  refine .seq (.g (.q z (.q z (.s (aE (s.keep q_0) u36 z z) z (.q z (.nil ?_))))))
  refine .cs z h ?_ ?_ <;> intro h
  ·refine .skip (.seq (.block (.g (.q z (.q z (bv h λx1 hx1 h=>?_))))))
   obtain ⟨k1,hd,hck1⟩:=RV.el2 q_0 hx1
   have hd1:=jk (dT _) hd
   obtain ⟨k1,rfl,hd2⟩:=bK q_0 z hd1
   obtain ⟨k1,rfl,hd3⟩:=bK q_0 z hd2
   obtain ⟨k1,rfl,hd4⟩:=bK q_0 z hd3
   have hd5:=jk (cq _) hd4
   obtain ⟨k1,rfl,hd6⟩:=bK q_0 z hd5
   obtain ⟨k1,rfl,hd7⟩:=bK q_0 z hd6
   obtain ⟨v1,k1,rfl,q1,hd8⟩:=cw q_0 hd7
   obtain ⟨v2,k1,rfl,q2,hd9⟩:=cw q_0 hd8
   obtain ⟨v3,k1,rfl,q3,hd10⟩:=cw q_0 hd9
   obtain rfl:=kT q_0 hd10
   refine .s (ixv (s.keep q_0) hx1 u36 t80 z z z) z (.s (lde (hck1 _ s.agree) t80 z z z z z) z (.c (.alloc t80 s ?_)))
   intro g1 W s
   refine .c (.st t80 s z z z ?_)
   intro W s
   refine .nil (.seq (.g (.s (fa f80_0 z z z) z (.s (ld t3 s z z z z z) z (.q z (.q z (.cu 4 24 ((x1.Kind==4)||(x1.Kind==5)) s ?_ ?_)))))))
   ·refine .both (x1.Kind==4) (λb=>?_) (λb=>?_)
    ·exact .xx b z (.xx b z (.xx b z (.s (pkt b z z z) z (.nil (ck 4 s z (jr b))))))
    have hg1:=b
    exact .g hg1 (.s (fa f80_0 z z z) z (.g hg1 (.s (ld t3 s z z z z z) z (.g hg1 (.q z (.s (pkf hg1 z z z) z (.nil (ck 4 s z (iR hg1)))))))))
   intro W s
   refine .q z (.cu 5 30 (((x1.Kind==4)||(x1.Kind==5))&&(decide (x1.Box>=a1))) s ?_ ?_)
   ·refine .both ((x1.Kind==4)||(x1.Kind==5)) (λb=>?_) (λb=>?_)
    ·have hg2:=b
     exact .g hg2 (.s (fa f80_2 z z z) z (.g hg2 (.s (ld t3 s z z z z z) z (.g hg2 (.q z (.g hg2 (.q z (.s (pkt hg2 z z z) z (.nil (ck 5 s z (bh hg2)))))))))))
    exact .xx b z (.xx b z (.xx b z (.xx b z (.s (pkf b z z z) z (.nil (ck 5 s z (bi b)))))))
   intro W s
   refine .nil ?_
   refine .cs z h ?_ ?_ <;> intro h
   ·refine .g (.qn z (.ret ?_))
    cases h
    exact ⟨by simp,z,aa (vs:=[_]) () (rt z rn) z (s.to [])⟩
   refine .skip (.g (.s (fa f80_4 z z z) z (.s (ld t36 s z z z z z) z (.q z (bv h λy4 hy4 h=>.c (.cO s func86 (m4 hy4 (s.keep (q2 _ q_0))) z z ?_))))))
   intro W s
   refine .q z (.q z (bv h λb1 hb1 h=>.cu 6 42 (b1) s ?_ ?_))
   ·refine .both (!y4) (λb=>?_) (λb=>?_)
    ·refine .xx b z (.xx b z (.xx b z (.xx b z (.xx b z ?_))))
     cases aJ b hb1
     exact .s (pkt b z z z) z (.nil (ck 6 s))
    have hg3:=b
    have h:=aK b hb1
    refine .g hg3 (.s (fa f80_5 z z z) z (.g hg3 (.s (ld t36 s z z z z z) z (.g hg3 (.q z (bv h λy5 hy5 h=>.g hg3 (.c (.cO s func86 (m4 hy5 (s.keep (q3 _ q_0))) z z ?_))))))))
    intro W s
    refine .g hg3 (.q z (.s (pkf hg3 z z z) z ?_))
    cases h
    exact .nil (ck 6 s)
   intro W s
   refine .nil ?_
   refine .cs z h ?_ ?_ <;> intro h
   ·refine .g (.qn z (.ret ?_))
    cases h
    exact ⟨by simp,z,aa (vs:=[_]) () (rt z rn) z (s.to [])⟩
   refine .skip (.region (.q z (.q z (.q z (.nil ?_)))))
   cases h
   exact ⟨z,sb z,s.to []⟩
  refine .exit ?_
  cases h
  exact ⟨by simp,z,sb z,s.to []⟩
 intro x E W hJ
 rcases y1 with o3 | o4
 ·have h:=dl h
  obtain ⟨rfl,hF⟩:=hJ
  refine ⟨_,λ_ _ h=>h,?_⟩
  cases h
  exact hF
 have h:=dm h
 obtain ⟨rfl,hE,s⟩:=hJ
 refine ⟨_,hE.sub,?_⟩
 obtain rfl:=o9 h
 exact .g (.qn z (.ret (aa () (rt z rn) z (s.to []))))
theorem n6 (k:Nat):jU (dX k):=by
  induction k with
  | zero=>exact by intro a0 a1 v_0 w r h q_0; exact no h
  | succ k ih=>exact sj (k:=k) ih
theorem rf {k:Nat}:jU (dX k):=(n6 k)
def oL (w:World) (r:Bool):Env->World->Prop:=Fin Tryz.prog Tryz.f53 No w (λs:Unit=>.bool r) (λs=>[]) .ret
theorem n8 {k:Nat} {a0:aA} {ba:Hd} {a6:Hd} {w:World} {r:Bool} (h:fq k a0=some r) (eg:RO w ba 3 1 (D.int .i64) a0.Rooms) (aH:RO w a6 36 1 (λ(l:List ae)=>D.row 80 8 (l.map aj)) a0.Tasks):CL 53 #[.agg #[sv ba,sv a6]] w (RU w (.bool r)):=by
 unfold fq at h
 refine au func53 z z ?_
 have s:=Sep.start w
 refine .g (.c (.box s z z ?_))
 intro g1 W s
 refine .qn z (.seq (.g (.s (fa f26_0 z z z) z (.s (ld t23 s z z z z z) z (bv h λy1 hy1 h=>.c (.cO s func84 (q9 hy1 (s.keep eg)) z z ?_))))))
 intro W s
 refine .q z (.q z (bv h λb1 hb1 h=>.cu 6 14 (b1) s ?_ ?_))
 ·refine .both (!y1) (λb=>?_) (λb=>?_)
  ·refine .xx b z (.xx b z (.xx b z (.xx b z (.xx b z ?_))))
   cases aJ b hb1
   exact .s (pkt b z z z) z (.nil (ck 6 s))
  have hg1:=b
  have h:=aK b hb1
  refine .g hg1 (.s (fa f26_1 z z z) z (.g hg1 (.s (ld t24 s z z z z z) z (.g hg1 (.s (aE (s.keep aH) u24 z z) z (bv h λy2 hy2 h=>.g hg1 (.c (.cO s func55 (bO hy2) z z ?_))))))))
  intro W s
  refine .g hg1 (.q z (.s (pkf hg1 z z z) z ?_))
  cases h
  exact .nil (ck 6 s)
 intro W s
 refine .nil ?_
 refine .cs z h ?_ ?_ <;> intro h
 ·obtain rfl:=o9 h
  exact .g (.qn z (.ret (aa () (rt z rn) z (s.to []))))
 refine .skip (.seq (.g (.qn z (.block (bv h λy3 hy3 h=>?_)))))
 refine .via (.iter (λs1 E' W'=>ak E' [(1,Pt g1),(3,vi s1)]/\Sep No w W' [.box g1 26 [sv ba,sv a6]]) (λy4 x E' W'=>(match y4 with | .inl o1=>x=.ret/\oL w o1 E' W' | .inr o2=>x=.exit 0/\ak E' []/\Sep No w W' [.box g1 26 [sv ba,sv a6]])) hy3 ⟨sb rfl,s.tk [0]⟩ ?_) ?_
 ·intro s1 y5 E W h hI
  obtain ⟨hE,s⟩:=hI
  refine CW.sub hE ?_
  unfold fp at h
  refine .seq (.g (.q z (.s (fa f26_1 z z z) z (.s (ld t24 s z z z z z) z (.s (aE (s.keep aH) u24 z z) z (.q z (.nil ?_)))))))
  refine .cs z h ?_ ?_ <;> intro h
  ·refine .skip (.seq (.block (.seq (bv h λx1 hx1 h=>bv h λy6 hy6 h=>bv h λb2 hb2 h=>?_))))
   refine .via (R':=λx E' W'=>x=.normal/\ak E' [(1,Pt g1),(3,vi s1),(40,.bool b2)]/\Sep No w W' [.box g1 26 [sv ba,sv a6]]) ?_ ?_
   ·refine .rk 19 s [0] T.mix ?_
    intro W s
    have t:=s.to [0]
    refine .ts' 0 z (λW t=>fa f26_1 z z z) t z (.ts' 1 z (λW t=>ld t24 t z z z z z) t z (.tp' 2 z z t ?_))
    obtain ⟨k1,hd,hck1⟩:=RV.el2 aH hx1
    obtain ⟨v1,k1,rfl,q1,hd1⟩:=cw aH hd
    obtain rfl:=kT aH hd1
    refine .ts' 3 z (λW t=>ixv (s.keep aH) hx1 u24 t36 z z z) t z (.ts' 4 z (λW t=>lde (hck1 _ t.agree) t36 z z z z z) t z (.by1 5 z (.cO s func85 (mt hy6 (s.keep (q1 _ aH))) z z ?_)))
    intro W s
    refine s.an [0] λt=>.tp' 6 z z t (.tp' 7 z z t (.both (!y6) (λb=>?_) (λb=>?_)))
    ·exact .off 8 z b t (.off 9 z b t (.off 10 z b t (.off 11 z b t (.off 12 z b t (.off 13 z b t (.off 14 z b t (.off 15 z b t (.off 16 z b t (.off 17 z b t (.ts' 18 z (λW t=>pkt b z z z) t z (.eqv 40 z (lu (aJ b hb2)) (.done (⟨z,sb z,s.tk [0]⟩)))) (by kernel_rfl) z z) (by kernel_rfl) z z) (by kernel_rfl) z z) (by kernel_rfl) z z) (by kernel_rfl) z z) (by kernel_rfl) z z) (by kernel_rfl) z z) (by kernel_rfl) z z) (by kernel_rfl) z z) (by kernel_rfl) z z
    have hg2:=b
    have h_b2:=aK b hb2
    refine .t1g 8 z hg2 (λW t=>fa f26_1 z z z) t (.t1g 9 z hg2 (λW t=>ld t24 t z z z z z) t (.t1g 10 z hg2 (λW t=>pr z) t (bv h_b2 λx2 hx2 h_b2=>?_) (by kernel_rfl) z z) (by kernel_rfl) z z) (by kernel_rfl) z z
    obtain ⟨k2,hd,hck2⟩:=RV.el2 aH hx2
    obtain ⟨v2,k2,rfl,q2,hd1⟩:=cw aH hd
    obtain rfl:=kT aH hd1
    refine .t1g 11 z hg2 (λW t=>ixv (s.keep aH) hx2 u24 t36 z z z) t (.t1g 12 z hg2 (λW t=>lde (hck2 _ t.agree) t36 z z z z z) t (.t1g 13 z hg2 (λW t=>fa f26_0 z z z) t (.t1g 14 z hg2 (λW t=>ld t23 t z z z z z) t (.t1g 15 z hg2 (λW t=>aE (s.keep eg) u23 z z) t (bv h_b2 λy7 hy7 h_b2=>.by1 16 z (.gd hg2 (.cO s func86 (rf hy7 (s.keep (q2 _ aH))) z z ?_))) (by kernel_rfl) z z) (by kernel_rfl) z z) (by kernel_rfl) z z) (by kernel_rfl) z z) (by kernel_rfl) z z
    intro W s
    refine s.an [0] λt=>?_
    exact .t1g 17 z hg2 (λW t=>pr z) t (.ts' 18 z (λW t=>pkf hg2 z z z) t z (.eqv 40 z (lu h_b2) (.done (⟨z,sb z,s.tk [0]⟩)))) (by kernel_rfl) z z
   intro x E W hJ
   obtain ⟨rfl,hE,s⟩:=hJ
   refine ⟨_,hE.sub,?_⟩
   refine .cs z h ?_ ?_ <;> intro h
   ·refine .g (.qn z (.ret ?_))
    cases h
    exact ⟨by simp,z,aa (vs:=[_]) () (rt z rn) z (s.to [])⟩
   refine .skip (.region (.q z (.q z (.q z (.nil ?_)))))
   cases h
   exact ⟨z,sb z,s.tk [0]⟩
  refine .exit ?_
  cases h
  exact ⟨by simp,z,sb z,s.tk [0]⟩
 intro x E W hJ
 rcases y3 with o3 | o4
 ·have h:=dl h
  obtain ⟨rfl,hF⟩:=hJ
  refine ⟨_,λ_ _ h=>h,?_⟩
  cases h
  exact hF
 have h:=dm h
 obtain ⟨rfl,hE,s⟩:=hJ
 refine ⟨_,hE.sub,?_⟩
 obtain rfl:=o9 h
 exact .g (.qn z (.ret (aa () (rt z rn) z (s.to []))))
def kK (F:Expr->Int->Option ((List ab))):Prop:=∀ {a0:Expr} {a1:Int} {bw:Hd} {w:World} {r:(List ab)} (h:F a0 a1=some r) (aw:RO w bw 77 3 aC a0.Args) , CL 139 #[.agg #[vi a0.Op,vi a0.N,sv bw],vi a1] w (Ret No w (λs:Hd=>(sv s)) (λs=>[ac (sv s) 62 5 ah r]))
end

end Go.Proofs.YtmjebmhcbnkojaaGreat.N
