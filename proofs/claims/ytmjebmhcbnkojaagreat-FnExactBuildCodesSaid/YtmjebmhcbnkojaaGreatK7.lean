/- Printed by a program of mine: that the program's functions compute it. -/
import Derived.Test.YtmjebmhcbnkojaaGreatK6
set_option linter.unusedVariables false
set_option linter.unusedSimpArgs false
set_option maxRecDepth 100000
set_option maxHeartbeats 4000000
namespace Go.Proofs.YtmjebmhcbnkojaaGreat.N
open Go.Proofs.YtmjebmhcbnkojaaGreat.X
open T Tryz
noncomputable section
theorem vk {a0:ab} {a1:ai} {a2:ai} {w:World} {r:ab} (h:i5 a0 a1 a2=some r):CL 172 #[.agg #[vi a0.Op,vi a0.Dst,vi a0.A,vi a0.B,vi a0.N],.agg #[vi a1.Kind,vi a1.N],.agg #[vi a2.Kind,vi a2.N]] w (RU w (.agg #[vi r.Op,vi r.Dst,vi r.A,vi r.B,vi r.N])):=by
 unfold i5 at h
 refine aw func172 z z ?_
 have s:=Sep.start w
 refine .g (.c (.box s z z ?_))
 intro g1 W s
 refine .c (.box s z z ?_)
 intro g2 W s
 refine .c (.box s z z ?_)
 intro g3 W s
 refine .c (.alloc t62 s ?_)
 intro g4 W s
 refine .nil (.g (.s (ld t62 s.p3 z z z z z) z (.s (ld t90 s.p2 z z z z z) z (.s (ld t90 s.p1 z z z z z) z (bv h λy1 hy1 h=>.c (.cO s func187 (nA hy1) z z ?_))))))
 intro W s
 refine .c (.alloc t90 s ?_)
 intro g5 W s
 refine .c (.st t90 s z z z ?_)
 intro W s
 refine .nil (.seq (.block (.g (.s (fa f90_0 z z z) z (.s (ld t3 s z z z z z) z (.q z (.q z (.nil ?_))))))))
 refine .cs z h ?_ ?_ <;> intro h
 ·refine .g (.s (fa f62_1 z z z) z (.s (ld t3 s.p4 z z z z z) z (.s (fa f90_1 z z z) z (.s (ld t3 s z z z z z) z (.s (bs T.s62 z z) z (.c (.st t62 s.p1 z z z ?_)))))))
  intro W s
  cases h
  exact .nil (.ret (aa () (rc s t62 z rn z z) z (s.to [])))
 refine .g (.s (ld t90 s.p2 z z z z z) z (bv h λy2 hy2 h=>.c (.cO s func173 (f7 hy2) z z ?_)))
 intro W s
 refine .q z (bv h λb1 hb1 h=>.cu 5 29 (b1) s ?_ ?_)
 ·refine .both (y2) (λb=>?_) (λb=>?_)
  ·have hg1:=b
   have h:=aW b hb1
   refine .g hg1 (.s (fa f62_4 z z z) z (.g hg1 (.s (ld t3 s.p4 z z z z z) z (.g hg1 (.c (.liv [1,2,6,7,8,9] (D.int .i64) u23 t3 s z z z z ?_ z (λ_=>z)))))))
   intro v1 W s
   refine bv h λy3 hy3 h=>.g hg1 (.c (.cO s func188 (lJ hy3 s.lv) z z ?_))
   intro W s
   refine .s (pkt hg1 z z z) z ?_
   cases h
   exact .nil (ck 5 (s.to [1,1,1,1,1]))
  refine .xx b z (.xx b z (.xx b z (.xx b z ?_)))
  cases aX b hb1
  exact .s (pkf b z z z) z (.nil (ck 5 s))
 intro W s
 refine .q z (.nil ?_)
 refine .cs z h ?_ ?_ <;> intro h
 ·refine .g (.s (fa f62_1 z z z) z (.s (ld t3 s.p4 z z z z z) z (.s (fa f62_2 z z z) z (.s (ld t3 s.p4 z z z z z) z (.s (bs T.s62 z z) z (.c (.st t62 s.p1 z z z ?_)))))))
  intro W s
  cases h
  exact .nil (.ret (aa () (rc s t62 z rn z z) z (s.to [])))
 refine .g (.s (ld t90 s.p2 z z z z z) z (bv h λy4 hy4 h=>.c (.cO s func173 (f7 hy4) z z ?_)))
 intro W s
 refine .q z (bv h λb2 hb2 h=>.cu 5 43 (b2) s ?_ ?_)
 ·refine .both (y4) (λb=>?_) (λb=>?_)
  ·have hg2:=b
   have h:=aW b hb2
   refine .g hg2 (.s (fa f62_4 z z z) z (.g hg2 (.s (ld t3 s.p4 z z z z z) z (.g hg2 (.c (.liv [10,11] (D.int .i64) u23 t3 s z z z z ?_ z (λ_=>z)))))))
   intro v2 W s
   refine bv h λy5 hy5 h=>.g hg2 (.c (.cO s func188 (lJ hy5 s.lv) z z ?_))
   intro W s
   refine .s (pkt hg2 z z z) z ?_
   cases h
   exact .nil (ck 5 (s.to [1,1,1,1,1]))
  refine .xx b z (.xx b z (.xx b z (.xx b z ?_)))
  cases aX b hb2
  exact .s (pkf b z z z) z (.nil (ck 5 s))
 intro W s
 refine .q z (.nil ?_)
 refine .cs z h ?_ ?_ <;> intro h
 ·refine .g (.s (fa f62_1 z z z) z (.s (ld t3 s.p4 z z z z z) z (.s (fa f62_2 z z z) z (.s (ld t3 s.p4 z z z z z) z (.s (bs T.s62 z z) z (.c (.st t62 s.p1 z z z ?_)))))))
  intro W s
  cases h
  exact .nil (.ret (aa () (rc s t62 z rn z z) z (s.to [])))
 refine .g (.s (ld t90 s.p3 z z z z z) z (bv h λy6 hy6 h=>.c (.cO s func173 (f7 hy6) z z ?_)))
 intro W s
 refine .q z (bv h λb3 hb3 h=>.cu 5 57 (b3) s ?_ ?_)
 ·refine .both (y6) (λb=>?_) (λb=>?_)
  ·have hg3:=b
   have h:=aW b hb3
   refine .g hg3 (.s (fa f62_4 z z z) z (.g hg3 (.s (ld t3 s.p4 z z z z z) z (.g hg3 (.c (.liv [1,2,8] (D.int .i64) u23 t3 s z z z z ?_ z (λ_=>z)))))))
   intro v3 W s
   refine bv h λy7 hy7 h=>.g hg3 (.c (.cO s func188 (lJ hy7 s.lv) z z ?_))
   intro W s
   refine .s (pkt hg3 z z z) z ?_
   cases h
   exact .nil (ck 5 (s.to [1,1,1,1,1]))
  refine .xx b z (.xx b z (.xx b z (.xx b z ?_)))
  cases aX b hb3
  exact .s (pkf b z z z) z (.nil (ck 5 s))
 intro W s
 refine .q z (.nil ?_)
 refine .cs z h ?_ ?_ <;> intro h
 ·refine .g (.s (fa f62_1 z z z) z (.s (ld t3 s.p4 z z z z z) z (.s (fa f62_3 z z z) z (.s (ld t3 s.p4 z z z z z) z (.s (bs T.s62 z z) z (.c (.st t62 s.p1 z z z ?_)))))))
  intro W s
  cases h
  exact .nil (.ret (aa () (rc s t62 z rn z z) z (s.to [])))
 refine .g (.s (ld t90 s.p3 z z z z z) z (bv h λy8 hy8 h=>.c (.cO s func173 (f7 hy8) z z ?_)))
 intro W s
 refine .q z (.cu 4 70 (y8&&(a0.N==10)) s ?_ ?_)
 ·refine .both (y8) (λb=>?_) (λb=>?_)
  ·have hg4:=b
   exact .g hg4 (.s (fa f62_4 z z z) z (.g hg4 (.s (ld t3 s.p4 z z z z z) z (.g hg4 (.q z (.s (pkt hg4 z z z) z (.nil (ck 4 s z (bc hg4)))))))))
  exact .xx b z (.xx b z (.xx b z (.s (pkf b z z z) z (.nil (ck 4 s z (be b))))))
 intro W s
 refine .q z (.nil ?_)
 refine .cs z h ?_ ?_ <;> intro h
 ·refine .g (.s (fa f62_1 z z z) z (.s (ld t3 s.p4 z z z z z) z (.s (fa f62_3 z z z) z (.s (ld t3 s.p4 z z z z z) z (.s (bs T.s62 z z) z (.c (.st t62 s.p1 z z z ?_)))))))
  intro W s
  cases h
  exact .nil (.ret (aa () (rc s t62 z rn z z) z (s.to [])))
 refine .g (.s (ld t90 s.p3 z z z z z) z (bv h λy9 hy9 h=>.c (.cO s func173 (f7 hy9) z z ?_)))
 intro W s
 refine .q z (bv h λb4 hb4 h=>.cu 3 82 (b4) s ?_ ?_)
 ·refine .both (y9) (λb=>?_) (λb=>?_)
  ·refine .xx b z (.xx b z ?_)
   cases aW b hb4
   exact .s (pkt b z z z) z (.nil (ck 3 s))
  have hg5:=b
  have h:=aX b hb4
  refine .g hg5 (.s (ld t90 s.p2 z z z z z) z (bv h λy10 hy10 h=>.g hg5 (.c (.cO s func173 (f7 hy10) z z ?_))))
  intro W s
  refine .s (pkf hg5 z z z) z ?_
  cases h
  exact .nil (ck 3 s)
 intro W s
 refine .q z (bv h λb5 hb5 h=>.cu 5 88 (b5) s ?_ ?_)
 ·refine .both (b4) (λb=>?_) (λb=>?_)
  ·have hg6:=b
   have h:=aW b hb5
   refine .g hg6 (.s (fa f62_4 z z z) z (.g hg6 (.s (ld t3 s.p4 z z z z z) z (.g hg6 (.c (.liv [3,10] (D.int .i64) u23 t3 s z z z z ?_ z (λ_=>z)))))))
   intro v4 W s
   refine bv h λy11 hy11 h=>.g hg6 (.c (.cO s func188 (lJ hy11 s.lv) z z ?_))
   intro W s
   refine .s (pkt hg6 z z z) z ?_
   cases h
   exact .nil (ck 5 (s.to [1,1,1,1,1]))
  refine .xx b z (.xx b z (.xx b z (.xx b z ?_)))
  cases aX b hb5
  exact .s (pkf b z z z) z (.nil (ck 5 s))
 intro W s
 refine .q z (.nil ?_)
 refine .cs z h ?_ ?_ <;> intro h
 ·refine .g (.s (fa f62_1 z z z) z (.s (ld t3 s.p4 z z z z z) z (.s (bs T.s62 z z) z (.c (.st t62 s.p1 z z z ?_)))))
  intro W s
  cases h
  exact .nil (.ret (aa () (rc s t62 z rn z z) z (s.to [])))
 refine .skip (.g (.s (ld t62 s.p4 z z z z z) z (.c (.st t62 s.p1 z z z ?_))))
 intro W s
 obtain rfl:=o9 h
 exact .nil (.ret (aa () (rc s t62 z rn z z) z (s.to [])))
theorem tP {a0:ab} {a1:List ai} {a2:Int} {v_1:Hd} {w:World} {r:ab} (h:dR a0 a1 a2=some r) (q_1:RO w v_1 90 2 aV a1):CL 143 #[.agg #[vi a0.Op,vi a0.Dst,vi a0.A,vi a0.B,vi a0.N],sv v_1,vi a2] w (RU w (.agg #[vi r.Op,vi r.Dst,vi r.A,vi r.B,vi r.N])):=by
 unfold dR at h
 refine aw func143 z z ?_
 have s:=Sep.start w
 refine .g (.c (.box s z z ?_))
 intro g1 W s
 refine .c (.alloc t62 s ?_)
 intro g2 W s
 refine .nil (.seq (.g (.q z (bv h λx1 hx1 h=>.s (ixv (s.keep q_1) hx1 u166 t90 z z z) z (.s (fe f90_0 z z z) z (.s (lde (RV.flat (s.keep q_1) hx1 z) t3 z z z z z) z (.q z (.nil ?_))))))))
 refine .cs z h ?_ ?_ <;> intro h
 ·refine .g (.s (ld t62 s.p1 z z z z z) z (.c (.st t62 s z z z ?_)))
  intro W s
  obtain rfl:=o9 h
  exact .nil (.ret (aa () (rc s t62 z rn z z) z (s.to [])))
 refine .skip (.seq (.g (.s (fa f62_0 z z z) z (.s (ld t3 s.p1 z z z z z) z (.nil (.block (.g (.q z (.q z (.nil ?_))))))))))
 refine .cs z h ?_ ?_ <;> intro h
 ·refine .g (.q z (.s (fa f62_2 z z z) z (.s (ld t3 s.p1 z z z z z) z (bv h λx2 hx2 h=>.s (ixv (s.keep q_1) hx2 u166 t90 z z z) z (.s (fe f90_0 z z z) z (.s (lde (RV.flat (s.keep q_1) hx2 z) t3 z z z z z) z (.q z (.nil ?_))))))))
  refine .cs z h ?_ ?_ <;> intro h
  ·refine .seq (.rk 9 s [0,0] T.mix ?_)
   intro W s
   have t:=s.to [0,0]
   refine .ts' 0 z (λW t=>fa f62_1 z z z) t z (.ts' 1 z (λW t=>ld t3 t.p1 z z z z z) t z (.tp' 2 z z t (.ts' 3 z (λW t=>fa f62_2 z z z) t z (.ts' 4 z (λW t=>ld t3 t.p1 z z z z z) t z (bv h λx3 hx3 h=>.ts' 5 z (λW t=>ixv (s.keep q_1) hx3 u166 t90 z z z) t z (.ts' 6 z (λW t=>fe f90_1 z z z) t z (.ts' 7 z (λW t=>lde (RV.flat (t.keep q_1) hx3 z) t3 z z z z z) t z (.ts' 8 z (λW t=>bs T.s62 z z) t z (.by1 9 z (.st t62 s z z z ?_))))))))))
   intro W s
   refine ⟨λh=>absurd z h,?_⟩
   cases h
   exact .done (.ret (aa () (rc s t62 z rn z z) z (s.to [])))
  refine .skip (.g (.s (ld t62 s.p1 z z z z z) z (.c (.st t62 s z z z ?_))))
  intro W s
  obtain rfl:=o9 h
  exact .nil (.ret (aa () (rc s t62 z rn z z) z (s.to [])))
 refine .g (.q z (.q z (.nil ?_)))
 refine .cs z h ?_ ?_ <;> intro h
 ·refine .seq (.rk 12 s [0,0] T.mix ?_)
  intro W s
  have t:=s.to [0,0]
  refine .ts' 0 z (λW t=>ld t62 t.p1 z z z z z) t z (.tp' 1 z z t (.ts' 2 z (λW t=>fa f62_2 z z z) t z (.ts' 3 z (λW t=>ld t3 t.p1 z z z z z) t z (bv h λx4 hx4 h=>.ts' 4 z (λW t=>ixv (s.keep q_1) hx4 u166 t90 z z z) t z (.ts' 5 z (λW t=>lde (RV.flat (t.keep q_1) hx4 z) t90 z z z z z) t z (.tp' 6 z z t (.ts' 7 z (λW t=>fa f62_3 z z z) t z (.ts' 8 z (λW t=>ld t3 t.p1 z z z z z) t z (bv h λx5 hx5 h=>.ts' 9 z (λW t=>ixv (s.keep q_1) hx5 u166 t90 z z z) t z (.ts' 10 z (λW t=>lde (RV.flat (t.keep q_1) hx5 z) t90 z z z z z) t z (bv h λy1 hy1 h=>.by1 11 z (.cO s func172 (vk hy1) z z ?_))))))))))))
  intro W s
  refine s.an [0,0] λt=>.by1 12 z (.st t62 s z z z ?_)
  intro W s
  refine ⟨λh=>absurd z h,?_⟩
  obtain rfl:=o9 h
  exact .done (.ret (aa () (rc s t62 z rn z z) z (s.to [])))
 refine .g (.q z (.q z (.nil ?_)))
 refine .cs z h ?_ ?_ <;> intro h
 ·refine .seq (.g (.q z (.s (fa f62_2 z z z) z (.s (ld t3 s.p1 z z z z z) z (bv h λx6 hx6 h=>.s (ixv (s.keep q_1) hx6 u166 t90 z z z) z (.s (lde (RV.flat (s.keep q_1) hx6 z) t90 z z z z z) z (bv h λy2 hy2 h=>.c (.cO s func173 (f7 hy2) z z ?_))))))))
  intro W s
  refine .nil ?_
  refine .cs z h ?_ ?_ <;> intro h
  ·refine .g (.s (fa f62_4 z z z) z (.s (ld t3 s.p1 z z z z z) z (.s (bs T.s62 z z) z (.c (.st t62 s z z z ?_)))))
   intro W s
   cases h
   exact .nil (.ret (aa () (rc s t62 z rn z z) z (s.to [])))
  refine .skip (.g (.q z (.s (fa f62_2 z z z) z (.s (ld t3 s.p1 z z z z z) z (bv h λx7 hx7 h=>.s (ixv (s.keep q_1) hx7 u166 t90 z z z) z (.s (fe f90_0 z z z) z (.s (lde (RV.flat (s.keep q_1) hx7 z) t3 z z z z z) z (.q z (.nil ?_)))))))))
  refine .cs z h ?_ ?_ <;> intro h
  ·refine .g (.q z (.q z (.s (bs T.s62 z z) z (.c (.st t62 s z z z ?_)))))
   intro W s
   cases h
   exact .nil (.ret (aa () (rc s t62 z rn z z) z (s.to [])))
  refine .skip (.g (.s (ld t62 s.p1 z z z z z) z (.c (.st t62 s z z z ?_))))
  intro W s
  obtain rfl:=o9 h
  exact .nil (.ret (aa () (rc s t62 z rn z z) z (s.to [])))
 refine .skip (.g (.s (ld t62 s.p1 z z z z z) z (.c (.st t62 s z z z ?_))))
 intro W s
 obtain rfl:=o9 h
 exact .nil (.ret (aa () (rc s t62 z rn z z) z (s.to [])))
theorem sV {a0:List ab} {v_0:Hd} {w:World} {r:(List ab)×Bool} (h:fQ a0=some r) (q_0:RO w v_0 62 5 ah a0):CL 119 #[sv v_0] w (Ret No w (λs:Hd=>.tuple #[sv s,.bool r.2]) (λs=>[ac (sv s) 62 5 ah r.1])):=by
 unfold fQ at h
 refine aw func119 z z ?_
 have s:=Sep.start w
 refine .g (.q z (.qn z (.g (.c (.liv [] ah u33 t62 s z z z z ?_ z (λ_=>z))))))
 intro v1 W s
 refine .qn z (.seq (.g (.q z (bv h λy1 hy1 h=>.c (.cO s func57 (bg hy1 (s.keep q_0)) z z ?_)))))
 intro W s
 refine .q z (.nil ?_)
 refine .cs z h ?_ ?_ <;> intro h
 ·cases h
  exact .g (.q z (.q z (.qn z (.ret (aa (vs:=[_,_]) v1 (rt z (rt z rn)) z (s.tk [0]))))))
 refine .skip (.g (.q z (bv h λy2 hy2 h=>.c (.cV s func142 (tN hy2 (s.keep q_0)) z z ?_))))
 intro v2 W s
 refine .qn z (.seq (.g (.qn z (.block (bv h λy3 hy3 h=>?_)))))
 refine .via (.iter (λs1 E' W'=>∃ (v5:Hd),ao E' [(0,(sv v_0)),(4,(sv v5)),(5,(sv v2)),(6,vi s1.2)]/\Sep No w W' [ac (sv v2) 166 1 (λ(l:List ai)=>D.row 90 2 (l.map aV)) y2,ac (sv v5) 62 5 ah s1.1]) (λy4 x E' W'=>x=.exit 0/\∃ (v6:Hd),ao E' [(4,(sv v6))]/\Sep No w W' [ac (sv v2) 166 1 (λ(l:List ai)=>D.row 90 2 (l.map aV)) y2,ac (sv v6) 62 5 ah y4]) hy3 ⟨v1,sb z,s.tk [0,0]⟩ ?_) ?_
 ·intro s1 y5 E W h hI
  obtain ⟨v4,hE,s⟩:=hI
  refine CW.sub hE ?_
  unfold c6 at h
  refine .seq (.g (.q z (.q z (.s (aD (s.keep q_0) u33 z z) z (.q z (.nil ?_))))))
  refine .cs z h ?_ ?_ <;> intro h
  ·refine .skip (.seq (.block (bv h λx1 hx1 h=>?_)))
   obtain ⟨k1,s⟩:=Sep.ov s hx1
   obtain ⟨v7,k1,rfl,s⟩:=s.ow
   obtain ⟨rfl,s⟩:=s.oN
   refine .rk 14 s [0,0] T.mix ?_
   intro W s
   have t:=s.to [0,0]
   refine .tp' 0 z z t (.tp' 1 z z t (.tp' 2 z z t (bv h λx3 hx3 h=>.ts' 3 z (λW t=>ixv (s.keep q_0) hx3 u33 t62 z z z) t z (.ts' 4 z (λW t=>lde (RV.flat (t.keep q_0) hx3 z) t62 z z z z z) t z (.tp' 5 z z t (.tp' 6 z z t (.ts' 7 z (λW t=>ixh t.p1 hx1 u163 t166 z z z) t z (.ts' 8 z (λW t=>lde (t.p1.hcellsv) t166 z z z z z) t z (.tp' 9 z z t (bv h λy7 hy7 h=>.by1 10 z (.cO s func143 (tP hy7 s.lv) z z ?_)))))))))))
   intro W s
   refine s.an [0,0] λt=>.by1 11 z (.liv [y7] ah u33 t62 s z z z z ?_ z (λ_=>z))
   intro v10 W s
   refine s.an [1,1] λt=>bv h λr2 hr2 h=>?_
   have hT0:=s.p3
   refine .by1 12 z (.av hr2 hT0 hT0.p1.lv (λ_=>z) u33 t62 z z z ?_)
   intro v11 W s
   refine s.an [2,2] λt=>.tp' 13 z z t (.done (.region (.q z (.q z (.q z (.nil ?_))))))
   have s:=Sep.gat (ds:=[.row 90 2 (x1.map aV)]) (cs:=[sv v7]) (L1:=[ac (sv v7) 90 2 aV x1]) (.row (.nil)) (s.to [2,2,0,0])
   have s:Sep _ _ _ [ac (sv v2) 166 1 (λ(l:List ai)=>D.row 90 2 (l.map aV)) y2,ac (sv v11) 62 5 ah r2,ac (sv v10) 62 5 ah [y7]]:=Sep.back0v hx1 s
   cases h
   exact ⟨z,v11,sb z,s.tk [0,0]⟩
  refine .exit ?_
  cases h
  exact ⟨by simp,z,v4,sb z,s.tk [0,0]⟩
 intro x E W hJ
 obtain ⟨rfl,v12,hE,s⟩:=hJ
 refine ⟨_,hE.sub,?_⟩
 cases h
 exact .g (.q z (.q z (.qn z (.ret (aa (vs:=[_,_]) v12 (rt z (rt z rn)) z (s.tk [1]))))))
theorem ou {w:World} {r:(List Int)} (h:fC=some r):CL 174 #[] w (Ret No w (λs:Hd=>(sv s)) (λs=>[ac (sv s) 3 1 (D.int .i64) r])):=by
 unfold fC at h
 refine aw func174 z z ?_
 have s:=Sep.start w
 refine .g (.qn z (.g (.c (.liv [] (D.int .i64) u23 t3 s z z z z ?_ z (λ_=>z)))))
 intro v1 W s
 refine .qn z (.seq (.g (.qn z (.block (bv h λy1 hy1 h=>?_)))))
 refine .via (.iter (λs1 E' W'=>∃ (v4:Hd),ao E' [(1,(sv v4)),(2,vi s1.2)]/\Sep No w W' [ac (sv v4) 3 1 (D.int .i64) s1.1]) (λy2 x E' W'=>x=.exit 0/\∃ (v5:Hd),ao E' [(1,(sv v5))]/\Sep No w W' [ac (sv v5) 3 1 (D.int .i64) y2]) hy1 ⟨v1,sb z,s.tk [0]⟩ ?_) ?_
 ·intro s1 y3 E W h hI
  obtain ⟨v3,hE,s⟩:=hI
  refine CW.sub hE ?_
  unfold kB at h
  refine .seq (.g (.q z (.q z (.nil ?_))))
  refine .cs z h ?_ ?_ <;> intro h
  ·refine .skip (.seq (.block (.region (.q z (.q z (.c (.liv [s1.2] (D.int .i64) u23 t3 s z z z z ?_ z (λ_=>z))))))))
   intro v6 W s
   refine bv h λr1 hr1 h=>?_
   have hT0:=s.p1
   refine .c (.av hr1 hT0 hT0.p1.lv (λ_=>z) u23 t3 z z z ?_)
   intro v7 W s
   refine .qn z (.region (.q z (.q z (.q z (.nil ?_)))))
   cases h
   exact ⟨z,v7,sb z,s.tk [0]⟩
  refine .exit ?_
  cases h
  exact ⟨by simp,z,v3,sb z,s.tk [0]⟩
 intro x E W hJ
 obtain ⟨rfl,v8,hE,s⟩:=hJ
 refine ⟨_,hE.sub,?_⟩
 obtain rfl:=o9 h
 exact .g (.q z (.qn z (.ret (aa v8 (rt z rn) z (s.tk [0])))))
theorem gO {a0:ab} {w:World} {r:Int} (h:bZ a0=some r):CL 92 #[.agg #[vi a0.Op,vi a0.Dst,vi a0.A,vi a0.B,vi a0.N]] w (RU w (.int .i64 r)):=by
 unfold bZ at h
 refine aw func92 z z ?_
 have s:=Sep.start w
 refine .g (.c (.box s z z ?_))
 intro g1 W s
 refine .qn z (.seq (.g (.s (ld t62 s z z z z z) z (bv h λy1 hy1 h=>.c (.cO s func89 (lH hy1) z z ?_)))))
 intro W s
 refine .q z (.nil ?_)
 refine .cs z h ?_ ?_ <;> intro h
 ·cases h
  exact .g (.qn z (.ret (aa () (rt z rn) z (s.to []))))
 refine .skip (.seq (.g (.s (fa f62_0 z z z) z (.s (ld t3 s z z z z z) z (.nil (.block (bv h λy2 hy2 h=>?_)))))))
 refine .seq (CW.via (R':=λx E' W'=>x=.normal/\ao E' [(1,Pt g1),(8,.bool y2)]/\Sep No w W' [.box g1 62 [vi a0.Op,vi a0.Dst,vi a0.A,vi a0.B,vi a0.N]]) ?_ ?_)
 ·have h:=hy2
  refine .g (.q z (.q z (.nil ?_)))
  refine .cs z h ?_ ?_ <;> intro h
  ·refine .skip ?_
   cases h
   exact ⟨z,sb z,s.tk [0]⟩
  refine .g (.q z (.q z (.nil ?_)))
  refine .cs z h ?_ ?_ <;> intro h
  ·refine .skip ?_
   cases h
   exact ⟨z,sb z,s.tk [0]⟩
  refine .g (.q z (.q z (.nil ?_)))
  refine .cs z h ?_ ?_ <;> intro h
  ·refine .skip ?_
   cases h
   exact ⟨z,sb z,s.tk [0]⟩
  refine .region (.q z (.q z (.nil ?_)))
  cases h
  exact ⟨z,sb z,s.tk [0]⟩
 intro x E W hJ
 obtain ⟨rfl,hE,s⟩:=hJ
 refine ⟨_,hE.sub,?_⟩
 refine .cs z h ?_ ?_ <;> intro h
 ·cases h
  exact .g (.s (fa f62_1 z z z) z (.s (ld t3 s z z z z z) z (.qn z (.ret (aa () (rt z rn) z (s.to []))))))
 cases h
 exact .skip (.g (.qn z (.ret (aa () (rt z rn) z (s.to [])))))
theorem sW {a0:ab} {a1:List Int} {v_1:Hd} {w:World} {r:(List Int)} (h:fR a0 a1=some r) (q_1:RO w v_1 3 1 (D.int .i64) a1):CL 189 #[.agg #[vi a0.Op,vi a0.Dst,vi a0.A,vi a0.B,vi a0.N],sv v_1] w (Ret No w (λs:Hd=>(sv s)) (λs=>[ac (sv s) 3 1 (D.int .i64) r])):=by
 unfold fR at h
 refine aw func189 z z ?_
 have s:=Sep.start w
 refine .g (.c (.box s z z ?_))
 intro g1 W s
 refine .qn z (.g (.c (.liv [] (D.int .i64) u23 t3 s z z z z ?_ z (λ_=>z))))
 intro v1 W s
 refine .q z (bv h λr1 hr1 h=>.c (.av hr1 s (s.keep q_1) (λ_=>z) u23 t3 z z z ?_))
 intro v2 W s
 refine .qn z (.g (.s (ld t62 s.p1 z z z z z) z (bv h λy1 hy1 h=>.c (.cO s func92 (gO hy1) z z ?_))))
 intro W s
 refine .qn z (.seq (.g (.q z (.q z (.nil ?_)))))
 refine .cs z h ?_ ?_ <;> intro h
 ·obtain rfl:=o9 h
  exact .g (.q z (.qn z (.ret (aa v2 (rt z rn) z (s.tk [0])))))
 refine .skip (.seq (.g (.qn z (.block (bv h λy2 hy2 h=>?_)))))
 refine .via (.iter (λs1 E' W'=>ao E' [(2,Pt g1),(5,(sv v2)),(6,vi y1),(7,vi s1.1)]/\Sep No w W' [ac (sv v2) 3 1 (D.int .i64) s1.2,.box g1 62 [vi a0.Op,vi a0.Dst,vi a0.A,vi a0.B,vi a0.N]]) (λy3 x E' W'=>x=.exit 0/\ao E' [(2,Pt g1),(5,(sv v2)),(6,vi y1)]/\Sep No w W' [ac (sv v2) 3 1 (D.int .i64) y3,.box g1 62 [vi a0.Op,vi a0.Dst,vi a0.A,vi a0.B,vi a0.N]]) hy2 ⟨sb z,s.tk [0,0]⟩ ?_) ?_
 ·intro s1 y4 E W h hI
  obtain ⟨hE,s⟩:=hI
  refine CW.sub hE ?_
  unfold jB at h
  refine .seq (.g (.q z (.q z (.nil ?_))))
  refine .cs z h ?_ ?_ <;> intro h
  ·refine .skip (bv h λy5 hy5 h=>?_)
   refine .seq (CW.via (R':=λx E' W'=>x=.normal/\ao E' [(2,Pt g1),(5,(sv v2)),(6,vi y1),(7,vi s1.1)]/\Sep No w W' [ac (sv v2) 3 1 (D.int .i64) y5,.box g1 62 [vi a0.Op,vi a0.Dst,vi a0.A,vi a0.B,vi a0.N]]) ?_ ?_)
   ·have h:=hy5
    refine .block (.g (.q z (.q z (bv h λx1 hx1 h=>.s (ixv s.lv hx1 u23 t3 z z z) z (.s (lde (RV.flat s.lv hx1 z) t3 z z z z z) z (.q z (.q z (.nil ?_))))))))
    refine .cs z h ?_ ?_ <;> intro h
    ·refine .region (.q z (.q z (.q z (bv h λx2 hx2 h=>.s (ixv s.lv hx2 u23 t3 z z z) z (bv h λr2 hr2 h=>.c (.sev hr2 hx2 s t3 z z z z z z ?_))))))
     intro W s
     refine .nil ?_
     obtain rfl:=o9 h
     exact ⟨z,sb z,s.tk [0,0]⟩
    refine .skip ?_
    cases h
    exact ⟨z,sb z,s.tk [0,0]⟩
   intro x E W hJ
   obtain ⟨rfl,hE,s⟩:=hJ
   refine ⟨_,hE.sub,?_⟩
   refine .region (.q z (.q z (.q z (.nil ?_))))
   cases h
   exact ⟨z,sb z,s.tk [0,0]⟩
  refine .exit ?_
  cases h
  exact ⟨by simp,z,sb z,s.tk [0,0]⟩
 intro x E W hJ
 obtain ⟨rfl,hE,s⟩:=hJ
 refine ⟨_,hE.sub,?_⟩
 refine .g (.q z (.q z (.q z (bv h λx3 hx3 h=>.s (ixv s.lv hx3 u23 t3 z z z) z (bv h λr3 hr3 h=>.c (.sev hr3 hx3 s t3 z z z z z z ?_))))))
 intro W s
 refine .nil (.seq (.g (.s (fa f62_0 z z z) z (.s (ld t3 s.p1 z z z z z) z (.q z (.nil ?_))))))
 refine .cs z h ?_ ?_ <;> intro h
 ·refine .region (.q z (.q z (.s (fa f62_2 z z z) z (.s (ld t3 s.p1 z z z z z) z (bv h λx4 hx4 h=>.s (ixv s.lv hx4 u23 t3 z z z) z (bv h λr4 hr4 h=>.c (.sev hr4 hx4 s t3 z z z z z z ?_)))))))
  intro W s
  obtain rfl:=o9 h
  exact .nil (.g (.q z (.qn z (.ret (aa v2 (rt z rn) z (s.tk [0]))))))
 obtain rfl:=o9 h
 exact .skip (.g (.q z (.qn z (.ret (aa v2 (rt z rn) z (s.tk [0]))))))
theorem sX {a0:List (List Int)} {a1:Int} {a2:List Int} {v_0:Hd} {v_2:Hd} {S:Nat->Prop} {w:World} {r:Bool×(List (List Int))} (h:fS a0 a1 a2=some r) (q_2:RV w (Old S w) (sv v_2) 3 1 (D.int .i64) a2) (hO:bG w [ac (sv v_0) 23 1 (λ(l:List Int)=>D.row 3 1 (l.map (D.int .i64))) a0] S) (hlt:∀ b,S b->b<w.heap.size):CL 190 #[sv v_0,vi a1,sv v_2] w (Ret S w (λs:Unit=>.bool r.1) (λs=>[ac (sv v_0) 23 1 (λ(l:List Int)=>D.row 3 1 (l.map (D.int .i64))) r.2])):=by
 unfold fS at h
 refine aw func190 z z ?_
 have s:=Sep.sm hO hlt
 refine .g (.qn z (.seq (.g (.q z (.q z (bv h λx1 hx1 h=>.s (ixv s.lv hx1 u167 t23 z z z) z ?_))))))
 obtain ⟨k1,s⟩:=Sep.ov s hx1
 obtain ⟨v1,k1,rfl,s⟩:=s.ow
 obtain ⟨rfl,s⟩:=s.oN
 refine .s (lde (s.p1.hcellsv) t23 z z z z z) z (.s (aD s.lv u23 z z) z (.q z (.nil ?_)))
 refine .cs z h ?_ ?_ <;> intro h
 ·refine .g (.q z (.q z (.c (.liv [] (D.int .i64) u23 t3 s z z z z ?_ z (λ_=>z)))))
  intro v2 W s
  refine .q z (bv h λr1 hr1 h=>.c (.av hr1 s (s.keep q_2) (λ_=>z) u23 t3 z z z ?_))
  intro v3 W s
  refine .s (ixh s.p2 hx1 u167 t23 z z z) z (.c (.sthv s.p2 t23 z z z ?_))
  intro W s
  refine .nil (.g (.qn z (.ret ?_)))
  have s:=Sep.gat (ds:=[.row 3 1 (r1.map (D.int .i64))]) (cs:=[sv v3]) (L1:=[ac (sv v3) 3 1 (D.int .i64) r1]) (.row (.nil)) (s.to [1,0,0])
  have s:Sep _ _ _ [ac (sv v_0) 23 1 (λ(l:List Int)=>D.row 3 1 (l.map (D.int .i64))) (a0.set (Int.toNat a1) r1),ac (sv v1) 3 1 (D.int .i64) x1]:=s.bv
  cases h
  exact aa () (rt z rn) z (s.tk [0])
 refine .skip (.g (.qn z (.seq (.g (.qn z (.block ?_))))))
 have s:=Sep.gat (ds:=[.row 3 1 (x1.map (D.int .i64))]) (cs:=[sv v1]) (L1:=[ac (sv v1) 3 1 (D.int .i64) x1]) (.row (.nil)) (s.to [0,0])
 have s:Sep _ _ _ [ac (sv v_0) 23 1 (λ(l:List Int)=>D.row 3 1 (l.map (D.int .i64))) a0]:=Sep.back0v hx1 s
 refine bv h λy1 hy1 h=>?_
 refine .via (.iter (λs1 E' W'=>ao E' [(0,(sv v_0)),(1,vi a1),(2,(sv v_2)),(7,.bool s1.1),(8,vi s1.2.1)]/\Sep S w W' [ac (sv v_0) 23 1 (λ(l:List Int)=>D.row 3 1 (l.map (D.int .i64))) s1.2.2]) (λy2 x E' W'=>x=.exit 0/\ao E' [(7,.bool y2.1)]/\Sep S w W' [ac (sv v_0) 23 1 (λ(l:List Int)=>D.row 3 1 (l.map (D.int .i64))) y2.2]) hy1 ⟨sb z,s.tk [0]⟩ ?_) ?_
 ·intro s1 y3 E W h hI
  obtain ⟨hE,s⟩:=hI
  refine CW.sub hE ?_
  unfold jC at h
  refine .seq (.g (.q z (.q z (.nil ?_))))
  refine .cs z h ?_ ?_ <;> intro h
  ·refine .skip (bv h λy4 hy4 h=>?_)
   refine .seq (CW.via (R':=λx E' W'=>x=.normal/\ao E' [(0,(sv v_0)),(1,vi a1),(2,(sv v_2)),(7,.bool y4.1),(8,vi s1.2.1)]/\Sep S w W' [ac (sv v_0) 23 1 (λ(l:List Int)=>D.row 3 1 (l.map (D.int .i64))) y4.2]) ?_ ?_)
   ·have h:=hy4
    refine .block (.seq (bv h λx2 hx2 h=>?_))
    obtain ⟨k2,s⟩:=Sep.ov s hx2
    obtain ⟨v4,k2,rfl,s⟩:=s.ow
    obtain ⟨rfl,s⟩:=s.oN
    refine bv h λx6 hx6 h=>bv h λb2 hb2 h=>?_
    refine .via (R':=λx E' W'=>x=.normal/\ao E' [(0,(sv v_0)),(1,vi a1),(2,(sv v_2)),(7,.bool s1.1),(8,vi s1.2.1),(47,.bool b2)]/\Sep S w W' [ac (sv v_0) 23 1 (λ(l:List Int)=>D.row 3 1 (l.map (D.int .i64))) s1.2.2]) ?_ ?_
    ·refine .rk 23 s [0,0] T.mix ?_
     intro W s
     have t:=s.to [0,0]
     refine .tp' 0 z z t (.tp' 1 z z t (.ts' 2 z (λW t=>ixh t.p1 hx2 u167 t23 z z z) t z (.ts' 3 z (λW t=>lde (t.p1.hcellsv) t23 z z z z z) t z (.tp' 4 z z t (.ts' 5 z (λW t=>ixv s.lv hx6 u23 t3 z z z) t z (.ts' 6 z (λW t=>lde (RV.flat t.lv hx6 z) t3 z z z z z) t z (.tp' 7 z z t (.tp' 8 z z t (.tp' 9 z z t (.both (x6 !=s1.2.1) (λb=>?_) (λb=>?_)))))))))))
     ·have hg2:=b
      have h_b2:=aW b hb2
      refine .t1g 10 z hg2 (λW t=>pr z) t (.t1g 11 z hg2 (λW t=>pr z) t (.t1g 12 z hg2 (λW t=>ixh t.p1 hx2 u167 t23 z z z) t (.t1g 13 z hg2 (λW t=>lde (t.p1.hcellsv) t23 z z z z z) t (.t1g 14 z hg2 (λW t=>pr z) t (bv h_b2 λx7 hx7 h_b2=>.t1g 15 z hg2 (λW t=>ixv s.lv hx7 u23 t3 z z z) t (.t1g 16 z hg2 (λW t=>lde (RV.flat t.lv hx7 z) t3 z z z z z) t (.t1g 17 z hg2 (λW t=>pr z) t (.t1g 18 z hg2 (λW t=>pr z) t (bv h_b2 λx8 hx8 h_b2=>.t1g 19 z hg2 (λW t=>ixv (s.keep q_2) hx8 u23 t3 z z z) t (.t1g 20 z hg2 (λW t=>lde (RV.flat (t.keep q_2) hx8 z) t3 z z z z z) t (.t1g 21 z hg2 (λW t=>pr z) t (.ts' 22 z (λW t=>pkt hg2 z z z) t z (.eqv 47 z (me h_b2) (.done ?_))) (by kernel_rfl) z z) (by kernel_rfl) z z) (by kernel_rfl) z z) (by kernel_rfl) z z) (by kernel_rfl) z z) (by kernel_rfl) z z) (by kernel_rfl) z z) (by kernel_rfl) z z) (by kernel_rfl) z z) (by kernel_rfl) z z) (by kernel_rfl) z z) (by kernel_rfl) z z
      have s:=Sep.gat (ds:=[.row 3 1 (x2.map (D.int .i64))]) (cs:=[sv v4]) (L1:=[ac (sv v4) 3 1 (D.int .i64) x2]) (.row (.nil)) (s.to [0,0])
      have s:Sep _ _ _ [ac (sv v_0) 23 1 (λ(l:List Int)=>D.row 3 1 (l.map (D.int .i64))) s1.2.2]:=Sep.back0v hx2 s
      exact ⟨z,sb z,s.tk [0]⟩
     refine .off 10 z b t (.off 11 z b t (.off 12 z b t (.off 13 z b t (.off 14 z b t (.off 15 z b t (.off 16 z b t (.off 17 z b t (.off 18 z b t (.off 19 z b t (.off 20 z b t (.off 21 z b t (.ts' 22 z (λW t=>pkf b z z z) t z (.eqv 47 z (me (aX b hb2)) (.done ?_))) (by kernel_rfl) z z) (by kernel_rfl) z z) (by kernel_rfl) z z) (by kernel_rfl) z z) (by kernel_rfl) z z) (by kernel_rfl) z z) (by kernel_rfl) z z) (by kernel_rfl) z z) (by kernel_rfl) z z) (by kernel_rfl) z z) (by kernel_rfl) z z) (by kernel_rfl) z z
     have s:=Sep.gat (ds:=[.row 3 1 (x2.map (D.int .i64))]) (cs:=[sv v4]) (L1:=[ac (sv v4) 3 1 (D.int .i64) x2]) (.row (.nil)) (s.to [0,0])
     have s:Sep _ _ _ [ac (sv v_0) 23 1 (λ(l:List Int)=>D.row 3 1 (l.map (D.int .i64))) s1.2.2]:=Sep.back0v hx2 s
     exact ⟨z,sb z,s.tk [0]⟩
    intro x E W hJ
    obtain ⟨rfl,hE,s⟩:=hJ
    refine ⟨_,hE.sub,?_⟩
    refine .cs z h ?_ ?_ <;> intro h
    ·refine .g (.q z (.q z (bv h λx9 hx9 h=>.s (ixv s.lv hx9 u167 t23 z z z) z ?_)))
     obtain ⟨k3,s⟩:=Sep.ov s hx9
     obtain ⟨v5,k3,rfl,s⟩:=s.ow
     obtain ⟨rfl,s⟩:=s.oN
     refine .s (lde (s.p1.hcellsv) t23 z z z z z) z (.q z (.q z (bv h λx10 hx10 h=>.s (ixv s.lv hx10 u23 t3 z z z) z (bv h λr2 hr2 h=>.c (.sev hr2 hx10 s t3 z z z z z z ?_)))))
     intro W s
     refine .nil (.region (.q z (.nil ?_)))
     have s:=Sep.gat (ds:=[.row 3 1 (r2.map (D.int .i64))]) (cs:=[sv v5]) (L1:=[ac (sv v5) 3 1 (D.int .i64) r2]) (.row (.nil)) (s.to [0,0])
     have s:Sep _ _ _ [ac (sv v_0) 23 1 (λ(l:List Int)=>D.row 3 1 (l.map (D.int .i64))) (s1.2.2.set (Int.toNat a1) r2)]:=s.bv
     cases h
     exact ⟨z,sb z,s.tk [0]⟩
    refine .skip ?_
    cases h
    exact ⟨z,sb z,s.tk [0]⟩
   intro x E W hJ
   obtain ⟨rfl,hE,s⟩:=hJ
   refine ⟨_,hE.sub,?_⟩
   refine .region (.q z (.q z (.q z (.nil ?_))))
   cases h
   exact ⟨z,sb z,s.tk [0]⟩
  refine .exit ?_
  cases h
  exact ⟨by simp,z,sb z,s.tk [0]⟩
 intro x E W hJ
 obtain ⟨rfl,hE,s⟩:=hJ
 refine ⟨_,hE.sub,?_⟩
 cases h
 exact .g (.q z (.qn z (.ret (aa () (rt z rn) z (s.tk [0])))))
theorem sY {a0:List ab} {a1:List (List Int)} {v_0:Hd} {v_1:Hd} {S:Nat->Prop} {w:World} {r:Bool×(List (List Int))} (h:fT a0 a1=some r) (q_0:RV w (Old S w) (sv v_0) 62 5 ah a0) (hO:bG w [ac (sv v_1) 23 1 (λ(l:List Int)=>D.row 3 1 (l.map (D.int .i64))) a1] S) (hlt:∀ b,S b->b<w.heap.size):CL 175 #[sv v_0,sv v_1] w (Ret S w (λs:Unit=>.bool r.1) (λs=>[ac (sv v_1) 23 1 (λ(l:List Int)=>D.row 3 1 (l.map (D.int .i64))) r.2])):=by
 unfold fT at h
 refine aw func175 z z ?_
 have s:=Sep.sm hO hlt
 refine .g (.qn z (.g (.qn z (.seq (.g (.qn z (.block (bv h λy1 hy1 h=>?_))))))))
 refine .via (.iter (λs1 E' W'=>ao E' [(0,(sv v_0)),(1,(sv v_1)),(5,.bool s1.1),(6,vi s1.2.1)]/\Sep S w W' [ac (sv v_1) 23 1 (λ(l:List Int)=>D.row 3 1 (l.map (D.int .i64))) s1.2.2]) (λy2 x E' W'=>x=.exit 0/\ao E' [(5,.bool y2.1)]/\Sep S w W' [ac (sv v_1) 23 1 (λ(l:List Int)=>D.row 3 1 (l.map (D.int .i64))) y2.2]) hy1 ⟨sb z,s.tk [0]⟩ ?_) ?_
 ·intro s1 y3 E W h hI
  obtain ⟨hE,s⟩:=hI
  refine CW.sub hE ?_
  unfold jE at h
  refine .seq (.g (.q z (.q z (.s (aD (s.keep q_0) u33 z z) z (.q z (.nil ?_))))))
  refine .cs z h ?_ ?_ <;> intro h
  ·refine .skip (bv h λy4 hy4 h=>?_)
   refine .seq (CW.via (R':=λx E' W'=>x=.normal/\ao E' [(0,(sv v_0)),(1,(sv v_1)),(5,.bool y4.1),(6,vi s1.2.1)]/\Sep S w W' [ac (sv v_1) 23 1 (λ(l:List Int)=>D.row 3 1 (l.map (D.int .i64))) y4.2]) ?_ ?_)
   ·have h:=hy4
    refine .block (.seq (.g (.q z (.q z (bv h λx1 hx1 h=>.s (ixv s.lv hx1 u167 t23 z z z) z ?_)))))
    obtain ⟨k1,s⟩:=Sep.ov s hx1
    obtain ⟨v1,k1,rfl,s⟩:=s.ow
    obtain ⟨rfl,s⟩:=s.oN
    refine .s (lde (s.p1.hcellsv) t23 z z z z z) z (.s (aD s.lv u23 z z) z (.q z (.nil ?_)))
    refine .cs z h ?_ ?_ <;> intro h
    ·refine .exit ?_
     have s:=Sep.gat (ds:=[.row 3 1 (x1.map (D.int .i64))]) (cs:=[sv v1]) (L1:=[ac (sv v1) 3 1 (D.int .i64) x1]) (.row (.nil)) (s.to [0,0])
     have s:Sep _ _ _ [ac (sv v_1) 23 1 (λ(l:List Int)=>D.row 3 1 (l.map (D.int .i64))) s1.2.2]:=Sep.back0v hx1 s
     cases h
     exact ⟨z,sb z,s.tk [0]⟩
    refine .skip (.g (.q z (.q z (bv h λy5 hy5 h=>.c (.cV s func153 (kJ hy5 (s.keep q_0)) z z ?_)))))
    intro v2 W s
    refine .qn z (.seq (.rk 10 s [0,0,0] T.mix ?_))
    intro W s
    have t:=s.to [0,0,0]
    refine .tp' 0 z z t (.tp' 1 z z t (bv h λx2 hx2 h=>.ts' 2 z (λW t=>ixv (s.keep q_0) hx2 u33 t62 z z z) t z (.ts' 3 z (λW t=>lde (RV.flat (t.keep q_0) hx2 z) t62 z z z z z) t z (.tp' 4 z z t (.tp' 5 z z t (.ts' 6 z (λW t=>ixh t.p2 hx1 u167 t23 z z z) t z (.ts' 7 z (λW t=>lde (t.p2.hcellsv) t23 z z z z z) t z (bv h λy6 hy6 h=>.by1 8 z (.cV s func189 (sW hy6 s.p1.lv) z z ?_)))))))))
    intro v3 W s
    refine s.an [1,1,1] λt=>.tp' 9 z z t (.done (.g (.qn z (.block ?_))))
    have s:=Sep.gat (ds:=[.row 3 1 (x1.map (D.int .i64))]) (cs:=[sv v1]) (L1:=[ac (sv v1) 3 1 (D.int .i64) x1]) (.row (.nil)) (s.to [2,2,0,0])
    have s:Sep _ _ _ [ac (sv v_1) 23 1 (λ(l:List Int)=>D.row 3 1 (l.map (D.int .i64))) s1.2.2,ac (sv v3) 3 1 (D.int .i64) y6,ac (sv v2) 3 1 (D.int .i64) y5]:=Sep.back0v hx1 s
    refine bv h λy7 hy7 h=>?_
    refine .via (.iter (λs2 E' W'=>ao E' [(0,(sv v_0)),(1,(sv v_1)),(5,.bool s2.1),(6,vi s1.2.1),(7,(sv v2)),(8,(sv v3)),(9,vi s2.2.1)]/\Sep S w W' [ac (sv v_1) 23 1 (λ(l:List Int)=>D.row 3 1 (l.map (D.int .i64))) s2.2.2,ac (sv v3) 3 1 (D.int .i64) y6,ac (sv v2) 3 1 (D.int .i64) y5]) (λy8 x E' W'=>x=.exit 2/\ao E' [(0,(sv v_0)),(1,(sv v_1)),(5,.bool y8.1),(6,vi s1.2.1)]/\Sep S w W' [ac (sv v_1) 23 1 (λ(l:List Int)=>D.row 3 1 (l.map (D.int .i64))) y8.2,ac (sv v3) 3 1 (D.int .i64) y6,ac (sv v2) 3 1 (D.int .i64) y5]) hy7 ⟨sb z,s.tk [0,0,0]⟩ ?_) ?_
    ·intro s2 y9 E W h hI
     obtain ⟨hE,s⟩:=hI
     refine CW.sub hE ?_
     unfold jD at h
     refine .seq (.g (.q z (.q z (.s (aD s.p2.lv u23 z z) z (.qn z (.cond z (λb=>?_) (λb=>?_)))))))
     ·have h:=aW b h
      refine .skip (bv h λy10 hy10 h=>?_)
      refine .seq (CW.via (R':=λx E' W'=>x=.normal/\ao E' [(0,(sv v_0)),(1,(sv v_1)),(5,.bool y10.1),(6,vi s1.2.1),(7,(sv v2)),(8,(sv v3)),(9,vi s2.2.1)]/\Sep S w W' [ac (sv v_1) 23 1 (λ(l:List Int)=>D.row 3 1 (l.map (D.int .i64))) y10.2,ac (sv v3) 3 1 (D.int .i64) y6,ac (sv v2) 3 1 (D.int .i64) y5]) ?_ ?_)
      ·have h:=hy10
       refine .block (.g (.q z (.q z (.q z (bv h λx3 hx3 h=>.s (ixv s.p2.lv hx3 u23 t3 z z z) z (.s (lde (RV.flat s.p2.lv hx3 z) t3 z z z z z) z (.q z (bv h λy11 hy11 h=>.c (.cS (L0:=[ac (sv v_1) 23 1 (λ(l:List Int)=>D.row 3 1 (l.map (D.int .i64))) s2.2.2]) s func190 (λS h1 h2 h3=>(sX hy11 (h3.rdv (k:=0) z) h2 (zz h1))) z z ?_)))))))))
       rintro ⟨⟩ W s
       refine .nil ?_
       refine .cs z h ?_ ?_ <;> intro h
       ·refine .region (.q z (.nil ?_))
        cases h
        exact ⟨z,sb z,s.tk [0,0,0]⟩
       refine .skip ?_
       cases h
       exact ⟨z,sb z,s.tk [0,0,0]⟩
      intro x E W hJ
      obtain ⟨rfl,hE,s⟩:=hJ
      refine ⟨_,hE.sub,?_⟩
      refine .region (.q z (.q z (.q z (.nil ?_))))
      cases h
      exact ⟨z,sb z,s.tk [0,0,0]⟩
     have h:=aX b h
     refine .exit ?_
     cases h
     exact ⟨by simp,z,sb z,s.tk [0,0,0]⟩
    intro x E W hJ
    obtain ⟨rfl,hE,s⟩:=hJ
    refine ⟨_,hE.sub,?_⟩
    cases h
    exact ⟨z,sb z,s.tk [0]⟩
   intro x E W hJ
   obtain ⟨rfl,hE,s⟩:=hJ
   refine ⟨_,hE.sub,?_⟩
   refine .region (.q z (.q z (.q z (.nil ?_))))
   cases h
   exact ⟨z,sb z,s.tk [0]⟩
  refine .exit ?_
  cases h
  exact ⟨by simp,z,sb z,s.tk [0]⟩
 intro x E W hJ
 obtain ⟨rfl,hE,s⟩:=hJ
 refine ⟨_,hE.sub,?_⟩
 cases h
 exact .g (.q z (.qn z (.ret (aa () (rt z rn) z (s.tk [0])))))
theorem sZ {a0:List ab} {v_0:Hd} {w:World} {r:(List (List Int))} (h:dY a0=some r) (q_0:RO w v_0 62 5 ah a0):CL 144 #[sv v_0] w (Ret No w (λs:Hd=>(sv s)) (λs=>[ac (sv s) 23 1 (λ(l:List Int)=>D.row 3 1 (l.map (D.int .i64))) r])):=by
 unfold dY at h
 refine aw func144 z z ?_
 have s:=Sep.start w
 refine .g (.qn z (.g (.c (.lg (L1:=[]) [] (λ(l:List Int)=>D.row 3 1 (l.map (D.int .i64))) u167 t23 (s.to []) z z z (.nil) ?_ z (λ_=>z)))))
 intro v1 W s
 refine .qn z (.seq (.g (.q z (bv h λy1 hy1 h=>.c (.cO s func57 (bg hy1 (s.keep q_0)) z z ?_)))))
 intro W s
 refine .qn z (.cond z (λb=>?_) (λb=>?_))
 ·have h:=aW b h
  cases h
  exact .g (.q z (.qn z (.ret (aa v1 (rt z rn) z (s.tk [0])))))
 have h:=aX b h
 refine .skip (.seq (.g (.qn z (.block (bv h λy2 hy2 h=>?_)))))
 refine .via (.iter (λs1 E' W'=>∃ (v4:Hd),ao E' [(0,(sv v_0)),(3,(sv v4)),(4,vi s1.2)]/\Sep No w W' [ac (sv v4) 23 1 (λ(l:List Int)=>D.row 3 1 (l.map (D.int .i64))) s1.1]) (λy3 x E' W'=>x=.exit 0/\∃ (v5:Hd),ao E' [(0,(sv v_0)),(3,(sv v5))]/\Sep No w W' [ac (sv v5) 23 1 (λ(l:List Int)=>D.row 3 1 (l.map (D.int .i64))) y3]) hy2 ⟨v1,sb z,s.tk [0]⟩ ?_) ?_
 ·intro s1 y4 E W h hI
  obtain ⟨v3,hE,s⟩:=hI
  refine CW.sub hE ?_
  unfold jF at h
  refine .seq (.g (.q z (.q z (.s (aD (s.keep q_0) u33 z z) z (.q z (.nil ?_))))))
  refine .cs z h ?_ ?_ <;> intro h
  ·refine .skip (.seq (.block (.region (.q z (.c (.liv [] (D.int .i64) u23 t3 s z z z z ?_ z (λ_=>z)))))))
   intro v6 W s
   refine .c (.lg (L1:=[ac (sv v6) 3 1 (D.int .i64) []]) [[]] (λ(l:List Int)=>D.row 3 1 (l.map (D.int .i64))) u167 t23 (s.to [0,0]) z z z (.row (.nil)) ?_ z (λ_=>z))
   intro v7 W s
   refine bv h λr1 hr1 h=>.c (.appv hr1 (s.to [1,0]) u167 t23 z z z ?_)
   intro v8 W s
   refine .qn z (.region (.q z (.q z (.q z (.nil ?_)))))
   cases h
   exact ⟨z,v8,sb z,s.tk [0]⟩
  refine .exit ?_
  cases h
  exact ⟨by simp,z,v3,sb z,s.tk [0]⟩
 intro x E W hJ
 obtain ⟨rfl,v9,hE,s⟩:=hJ
 refine ⟨_,hE.sub,?_⟩
 refine .g (.q z (bv h λy5 hy5 h=>.c (.cV s func174 (ou hy5) z z ?_)))
 intro v10 W s
 refine bv h λx1 hx1 h=>.s (ixv s.p1.lv hx1 u167 t23 z z z) z ?_
 obtain ⟨k1,s⟩:=Sep.ov s.p1 hx1
 obtain ⟨v11,k1,rfl,s⟩:=s.ow
 obtain ⟨rfl,s⟩:=s.oN
 refine .c (.sthv s.p1 t23 z z z ?_)
 intro W s
 refine .nil (.seq (.block ?_))
 have s:=Sep.gat (ds:=[.row 3 1 (y5.map (D.int .i64))]) (cs:=[sv v10]) (L1:=[ac (sv v10) 3 1 (D.int .i64) y5]) (.row (.nil)) (s.to [2,0,0])
 have s:Sep _ _ _ [ac (sv v9) 23 1 (λ(l:List Int)=>D.row 3 1 (l.map (D.int .i64))) (y2.set (Int.toNat 0) y5),ac (sv v11) 3 1 (D.int .i64) x1]:=s.bv
 refine bv h λy6 hy6 h=>?_
 refine .via (.iter (λs2 E' W'=>ao E' [(0,(sv v_0)),(3,(sv v9))]/\Sep No w W' [ac (sv v9) 23 1 (λ(l:List Int)=>D.row 3 1 (l.map (D.int .i64))) s2,ac (sv v11) 3 1 (D.int .i64) x1]) (λy7 x E' W'=>x=.exit 2/\ao E' [(0,(sv v_0)),(3,(sv v9))]/\Sep No w W' [ac (sv v9) 23 1 (λ(l:List Int)=>D.row 3 1 (l.map (D.int .i64))) y7,ac (sv v11) 3 1 (D.int .i64) x1]) hy6 ⟨sb z,s.tk [0,0]⟩ ?_) ?_
 ·intro s2 y8 E W h hI
  obtain ⟨hE,s⟩:=hI
  refine CW.sub hE ?_
  unfold jG at h
  refine .seq (.g (.q z (.q z (bv h λy9 hy9 h=>.c (.cS (L0:=[ac (sv v9) 23 1 (λ(l:List Int)=>D.row 3 1 (l.map (D.int .i64))) s2]) s func175 (λS h1 h2 h3=>(sY hy9 (s.ks q_0 h1) h2 (zz h1))) z z ?_)))))
  rintro ⟨⟩ W s
  refine .nil ?_
  refine .cs z h ?_ ?_ <;> intro h
  ·refine .skip (.block (.skip ?_))
   cases h
   exact ⟨z,sb z,s.tk [0,0]⟩
  refine .exit ?_
  cases h
  exact ⟨by simp,z,sb z,s.tk [0,0]⟩
 intro x E W hJ
 obtain ⟨rfl,hE,s⟩:=hJ
 refine ⟨_,hE.sub,?_⟩
 refine .seq (.g (.qn z (.block (bv h λy10 hy10 h=>?_))))
 refine .via (.iter (λs3 E' W'=>ao E' [(0,(sv v_0)),(3,(sv v9)),(5,vi s3.1)]/\Sep No w W' [ac (sv v9) 23 1 (λ(l:List Int)=>D.row 3 1 (l.map (D.int .i64))) s3.2,ac (sv v11) 3 1 (D.int .i64) x1]) (λy11 x E' W'=>x=.exit 4/\ao E' [(3,(sv v9))]/\Sep No w W' [ac (sv v9) 23 1 (λ(l:List Int)=>D.row 3 1 (l.map (D.int .i64))) y11,ac (sv v11) 3 1 (D.int .i64) x1]) hy10 ⟨sb z,s.tk [0,0]⟩ ?_) ?_
 ·intro s3 y12 E W h hI
  obtain ⟨hE,s⟩:=hI
  refine CW.sub hE ?_
  unfold jH at h
  refine .seq (.g (.q z (.q z (.s (aD (s.keep q_0) u33 z z) z (.q z (.nil ?_))))))
  refine .cs z h ?_ ?_ <;> intro h
  ·refine .skip (bv h λy13 hy13 h=>?_)
   refine .seq (CW.via (R':=λx E' W'=>x=.normal/\ao E' [(0,(sv v_0)),(3,(sv v9)),(5,vi s3.1)]/\Sep No w W' [ac (sv v9) 23 1 (λ(l:List Int)=>D.row 3 1 (l.map (D.int .i64))) y13,ac (sv v11) 3 1 (D.int .i64) x1]) ?_ ?_)
   ·have h:=hy13
    refine .block (.g (.q z (.q z (bv h λx2 hx2 h=>.s (ixv s.lv hx2 u167 t23 z z z) z ?_))))
    obtain ⟨k2,s⟩:=Sep.ov s hx2
    obtain ⟨v12,k2,rfl,s⟩:=s.ow
    obtain ⟨rfl,s⟩:=s.oN
    refine .s (lde (s.p1.hcellsv) t23 z z z z z) z (.s (aD s.lv u23 z z) z (.q z (.nil ?_)))
    refine .cs z h ?_ ?_ <;> intro h
    ·refine .region (.q z (.q z (bv h λy14 hy14 h=>.c (.cV s func174 (ou hy14) z z ?_))))
     intro v13 W s
     refine .s (ixh s.p2 hx2 u167 t23 z z z) z (.c (.sthv s.p2 t23 z z z ?_))
     intro W s
     refine .nil ?_
     have s:=Sep.gat (ds:=[.row 3 1 (y14.map (D.int .i64))]) (cs:=[sv v13]) (L1:=[ac (sv v13) 3 1 (D.int .i64) y14]) (.row (.nil)) (s.to [1,0,0,0])
     have s:Sep _ _ _ [ac (sv v9) 23 1 (λ(l:List Int)=>D.row 3 1 (l.map (D.int .i64))) (s3.2.set (Int.toNat s3.1) y14),ac (sv v12) 3 1 (D.int .i64) x2,ac (sv v11) 3 1 (D.int .i64) x1]:=s.bv
     cases h
     exact ⟨z,sb z,s.tk [0,1]⟩
    refine .skip ?_
    have s:=Sep.gat (ds:=[.row 3 1 (x2.map (D.int .i64))]) (cs:=[sv v12]) (L1:=[ac (sv v12) 3 1 (D.int .i64) x2]) (.row (.nil)) (s.to [0,0,0])
    have s:Sep _ _ _ [ac (sv v9) 23 1 (λ(l:List Int)=>D.row 3 1 (l.map (D.int .i64))) s3.2,ac (sv v11) 3 1 (D.int .i64) x1]:=Sep.back0v hx2 s
    cases h
    exact ⟨z,sb z,s.tk [0,0]⟩
   intro x E W hJ
   obtain ⟨rfl,hE,s⟩:=hJ
   refine ⟨_,hE.sub,?_⟩
   refine .region (.q z (.q z (.q z (.nil ?_))))
   cases h
   exact ⟨z,sb z,s.tk [0,0]⟩
  refine .exit ?_
  cases h
  exact ⟨by simp,z,sb z,s.tk [0,0]⟩
 intro x E W hJ
 obtain ⟨rfl,hE,s⟩:=hJ
 refine ⟨_,hE.sub,?_⟩
 obtain rfl:=o9 h
 exact .g (.q z (.qn z (.ret (aa v9 (rt z rn) z (s.tk [0])))))
theorem tQ {a0:ab} {a1:List Int} {v_1:Hd} {w:World} {r:ab} (h:g7 a0 a1=some r) (q_1:RO w v_1 3 1 (D.int .i64) a1):CL 145 #[.agg #[vi a0.Op,vi a0.Dst,vi a0.A,vi a0.B,vi a0.N],sv v_1] w (RU w (.agg #[vi r.Op,vi r.Dst,vi r.A,vi r.B,vi r.N])):=by
 unfold g7 at h
 refine aw func145 z z ?_
 have s:=Sep.start w
 refine .g (.c (.box s z z ?_))
 intro g1 W s
 refine .c (.alloc t62 s ?_)
 intro g2 W s
 refine .nil (.seq (.g (.s (fa f62_0 z z z) z (.s (ld t3 s.p1 z z z z z) z (.nil (.block (bv h λy1 hy1 h=>?_)))))))
 refine .seq (CW.via (R':=λx E' W'=>x=.normal/\ao E' [(1,(sv v_1)),(2,Pt g1),(4,Pt g2),(6,vi a0.Op),(7,.bool y1)]/\Sep No w W' [.box g2 62 [vi 0,vi 0,vi 0,vi 0,vi 0],.box g1 62 [vi a0.Op,vi a0.Dst,vi a0.A,vi a0.B,vi a0.N]]) ?_ ?_)
 ·have h:=hy1
  refine .g (.q z (.q z (.nil ?_)))
  refine .cs z h ?_ ?_ <;> intro h
  ·refine .skip ?_
   cases h
   exact ⟨z,sb z,s.tk [0,0]⟩
  refine .g (.q z (.q z (.nil ?_)))
  refine .cs z h ?_ ?_ <;> intro h
  ·refine .skip ?_
   cases h
   exact ⟨z,sb z,s.tk [0,0]⟩
  refine .g (.q z (.q z (.nil ?_)))
  refine .cs z h ?_ ?_ <;> intro h
  ·refine .skip ?_
   cases h
   exact ⟨z,sb z,s.tk [0,0]⟩
  refine .region (.q z (.q z (.nil ?_)))
  cases h
  exact ⟨z,sb z,s.tk [0,0]⟩
 intro x E W hJ
 obtain ⟨rfl,hE,s⟩:=hJ
 refine ⟨_,hE.sub,?_⟩
 refine .cs z h ?_ ?_ <;> intro h
 ·refine .region (.q z (.s (fa f62_2 z z z) z (.s (ld t3 s.p1 z z z z z) z (bv h λx1 hx1 h=>.s (ixv (s.keep q_1) hx1 u23 t3 z z z) z (.s (lde (RV.flat (s.keep q_1) hx1 z) t3 z z z z z) z (.s (fa f62_2 z z z) z (.c (.st t3 s.p1 z z z ?_))))))))
  intro W s
  refine .nil (.g (.s (ld t62 s z z z z z) z (.c (.st t62 s.p1 z z z ?_))))
  intro W s
  cases h
  exact .nil (.ret (aa () (rc s t62 z rn z z) z (s.to [])))
 refine .g (.q z (.q z (.nil ?_)))
 refine .cs z h ?_ ?_ <;> intro h
 ·refine .g (.q z (.s (fa f62_2 z z z) z (.s (ld t3 s.p1 z z z z z) z (bv h λx2 hx2 h=>.s (ixv (s.keep q_1) hx2 u23 t3 z z z) z (.s (lde (RV.flat (s.keep q_1) hx2 z) t3 z z z z z) z (.s (fa f62_2 z z z) z (.c (.st t3 s.p1 z z z ?_))))))))
  intro W s
  refine .nil (.region (.q z (.s (fa f62_3 z z z) z (.s (ld t3 s z z z z z) z (bv h λx3 hx3 h=>.s (ixv (s.keep q_1) hx3 u23 t3 z z z) z (.s (lde (RV.flat (s.keep q_1) hx3 z) t3 z z z z z) z (.s (fa f62_3 z z z) z (.c (.st t3 s z z z ?_)))))))))
  intro W s
  refine .nil (.g (.s (ld t62 s z z z z z) z (.c (.st t62 s.p1 z z z ?_))))
  intro W s
  cases h
  exact .nil (.ret (aa () (rc s t62 z rn z z) z (s.to [])))
 refine .skip (.g (.s (ld t62 s.p1 z z z z z) z (.c (.st t62 s z z z ?_))))
 intro W s
 obtain rfl:=o9 h
 exact .nil (.ret (aa () (rc s t62 z rn z z) z (s.to [])))
theorem s5 {a0:List ab} {v_0:Hd} {w:World} {r:(List ab)×Bool} (h:fU a0=some r) (q_0:RO w v_0 62 5 ah a0):CL 120 #[sv v_0] w (Ret No w (λs:Hd=>.tuple #[sv s,.bool r.2]) (λs=>[ac (sv s) 62 5 ah r.1])):=by
 unfold fU at h
 refine aw func120 z z ?_
 have s:=Sep.start w
 refine .g (.q z (.qn z (.g (.c (.liv [] ah u33 t62 s z z z z ?_ z (λ_=>z))))))
 intro v1 W s
 refine .qn z (.seq (.g (.q z (bv h λy1 hy1 h=>.c (.cO s func57 (bg hy1 (s.keep q_0)) z z ?_)))))
 intro W s
 refine .q z (.nil ?_)
 refine .cs z h ?_ ?_ <;> intro h
 ·cases h
  exact .g (.q z (.q z (.qn z (.ret (aa (vs:=[_,_]) v1 (rt z (rt z rn)) z (s.tk [0]))))))
 refine .skip (.g (.q z (bv h λy2 hy2 h=>.c (.cV s func144 (sZ hy2 (s.keep q_0)) z z ?_))))
 intro v2 W s
 refine .qn z (.seq (.g (.qn z (.block (bv h λy3 hy3 h=>?_)))))
 refine .via (.iter (λs1 E' W'=>∃ (v5:Hd),ao E' [(0,(sv v_0)),(4,(sv v5)),(5,(sv v2)),(6,vi s1.2)]/\Sep No w W' [ac (sv v2) 23 1 (λ(l:List Int)=>D.row 3 1 (l.map (D.int .i64))) y2,ac (sv v5) 62 5 ah s1.1]) (λy4 x E' W'=>x=.exit 0/\∃ (v6:Hd),ao E' [(4,(sv v6))]/\Sep No w W' [ac (sv v2) 23 1 (λ(l:List Int)=>D.row 3 1 (l.map (D.int .i64))) y2,ac (sv v6) 62 5 ah y4]) hy3 ⟨v1,sb z,s.tk [0,0]⟩ ?_) ?_
 ·intro s1 y5 E W h hI
  obtain ⟨v4,hE,s⟩:=hI
  refine CW.sub hE ?_
  unfold c7 at h
  refine .seq (.g (.q z (.q z (.s (aD (s.keep q_0) u33 z z) z (.q z (.nil ?_))))))
  refine .cs z h ?_ ?_ <;> intro h
  ·refine .skip (.seq (.block (bv h λx1 hx1 h=>?_)))
   obtain ⟨k1,s⟩:=Sep.ov s hx1
   obtain ⟨v7,k1,rfl,s⟩:=s.ow
   obtain ⟨rfl,s⟩:=s.oN
   refine .rk 13 s [0,0] T.mix ?_
   intro W s
   have t:=s.to [0,0]
   refine .tp' 0 z z t (.tp' 1 z z t (.tp' 2 z z t (bv h λx3 hx3 h=>.ts' 3 z (λW t=>ixv (s.keep q_0) hx3 u33 t62 z z z) t z (.ts' 4 z (λW t=>lde (RV.flat (t.keep q_0) hx3 z) t62 z z z z z) t z (.tp' 5 z z t (.tp' 6 z z t (.ts' 7 z (λW t=>ixh t.p1 hx1 u167 t23 z z z) t z (.ts' 8 z (λW t=>lde (t.p1.hcellsv) t23 z z z z z) t z (bv h λy7 hy7 h=>.by1 9 z (.cO s func145 (tQ hy7 s.lv) z z ?_))))))))))
   intro W s
   refine s.an [0,0] λt=>.by1 10 z (.liv [y7] ah u33 t62 s z z z z ?_ z (λ_=>z))
   intro v10 W s
   refine s.an [1,1] λt=>bv h λr2 hr2 h=>?_
   have hT0:=s.p3
   refine .by1 11 z (.av hr2 hT0 hT0.p1.lv (λ_=>z) u33 t62 z z z ?_)
   intro v11 W s
   refine s.an [2,2] λt=>.tp' 12 z z t (.done (.region (.q z (.q z (.q z (.nil ?_))))))
   have s:=Sep.gat (ds:=[.row 3 1 (x1.map (D.int .i64))]) (cs:=[sv v7]) (L1:=[ac (sv v7) 3 1 (D.int .i64) x1]) (.row (.nil)) (s.to [2,2,0,0])
   have s:Sep _ _ _ [ac (sv v2) 23 1 (λ(l:List Int)=>D.row 3 1 (l.map (D.int .i64))) y2,ac (sv v11) 62 5 ah r2,ac (sv v10) 62 5 ah [y7]]:=Sep.back0v hx1 s
   cases h
   exact ⟨z,v11,sb z,s.tk [0,0]⟩
  refine .exit ?_
  cases h
  exact ⟨by simp,z,v4,sb z,s.tk [0,0]⟩
 intro x E W hJ
 obtain ⟨rfl,v12,hE,s⟩:=hJ
 refine ⟨_,hE.sub,?_⟩
 cases h
 exact .g (.q z (.q z (.qn z (.ret (aa (vs:=[_,_]) v12 (rt z (rt z rn)) z (s.tk [1]))))))
def s6 (w:World) (r:Int):Env->World->Prop:=Fin Tryz.prog Tryz.f146 No w (λs:Unit=>.int .i64 r) (λs=>[]) .ret
theorem rI {a0:List ab} {a1:Int} {v_0:Hd} {w:World} {r:Int} (h:eL a0 a1=some r) (q_0:RO w v_0 62 5 ah a0):CL 146 #[sv v_0,vi a1] w (RU w (.int .i64 r)):=by
 unfold eL at h
 refine aw func146 z z ?_
 have s:=Sep.start w
 refine .g (.qn z (.g (.q z (.qn z (.seq (.g (.qn z (.block (bv h λy1 hy1 h=>?_)))))))))
 refine .via (.iter (λs1 E' W'=>ao E' [(0,(sv v_0)),(1,vi a1),(5,vi s1.1),(6,vi s1.2)]/\Sep No w W' []) (λy2 x E' W'=>(match y2 with | .inl o1=>x=.ret/\s6 w o1 E' W' | .inr o2=>x=.exit 0/\ao E' [(1,vi a1)]/\Sep No w W' [])) hy1 ⟨sb rfl,s.to [] rfl⟩ ?_) ?_
 ·intro s1 y3 E W h hI
  obtain ⟨hE,s⟩:=hI
  refine CW.sub hE ?_
  unfold lc at h
  refine .seq (.g (.q z (.q z (.s (aD (s.keep q_0) u33 z z) z (.q z (.nil ?_))))))
  refine .cs z h ?_ ?_ <;> intro h
  ·refine .skip (.seq (.block (.seq (.g (.q z (.q z (bv h λx1 hx1 h=>.s (ixv (s.keep q_0) hx1 u33 t62 z z z) z (.s (fe f62_0 z z z) z (.s (lde (RV.flat (s.keep q_0) hx1 z) t3 z z z z z) z (.q z (.nil ?_)))))))))))
   refine .cs z h ?_ ?_ <;> intro h
   ·refine .g (.q z (.qn z (.ret ?_)))
    cases h
    exact ⟨by simp,z,aa (vs:=[_]) () (rt z rn) z (s.to [])⟩
   refine .skip (.region (.q z (.q z (bv h λx2 hx2 h=>.s (ixv (s.keep q_0) hx2 u33 t62 z z z) z (.s (fe f62_4 z z z) z (.s (lde (RV.flat (s.keep q_0) hx2 z) t3 z z z z z) z (.qn z (.region (.q z (.q z (.q z (.nil ?_))))))))))))
   cases h
   exact ⟨z,sb z,s.to []⟩
  refine .exit ?_
  cases h
  exact ⟨by simp,z,sb z,s.to []⟩
 intro x E W hJ
 rcases y1 with o3 | o4
 ·have h:=bQ h
  obtain ⟨rfl,hF⟩:=hJ
  refine ⟨_,λ_ _ h=>h,?_⟩
  cases h
  exact hF
 have h:=bR h
 obtain ⟨rfl,hE,s⟩:=hJ
 refine ⟨_,hE.sub,?_⟩
 obtain rfl:=o9 h
 exact .g (.q z (.qn z (.ret (aa () (rt z rn) z (s.to [])))))
theorem s7 {a0:List ab} {v_0:Hd} {w:World} {r:(List ab)×Bool} (h:fV a0=some r) (q_0:RO w v_0 62 5 ah a0):CL 121 #[sv v_0] w (Ret No w (λs:Hd=>.tuple #[sv s,.bool r.2]) (λs=>[ac (sv s) 62 5 ah r.1])):=by
 unfold fV at h
 refine aw func121 z z ?_
 have s:=Sep.start w
 refine .g (.q z (.qn z (.g (.c (.liv [] ah u33 t62 s z z z z ?_ z (λ_=>z))))))
 intro v1 W s
 refine .qn z (.seq (.g (.q z (bv h λy1 hy1 h=>.c (.cO s func57 (bg hy1 (s.keep q_0)) z z ?_)))))
 intro W s
 refine .q z (.nil ?_)
 refine .cs z h ?_ ?_ <;> intro h
 ·cases h
  exact .g (.q z (.q z (.qn z (.ret (aa (vs:=[_,_]) v1 (rt z (rt z rn)) z (s.tk [0]))))))
 refine .skip (.seq (.g (.qn z (.block (bv h λy2 hy2 h=>?_)))))
 refine .via (.iter (λs1 E' W'=>∃ (v4:Hd),ao E' [(0,(sv v_0)),(4,(sv v4)),(5,vi s1.2)]/\Sep No w W' [ac (sv v4) 62 5 ah s1.1]) (λy3 x E' W'=>x=.exit 0/\∃ (v5:Hd),ao E' [(4,(sv v5))]/\Sep No w W' [ac (sv v5) 62 5 ah y3]) hy2 ⟨v1,sb z,s.tk [0]⟩ ?_) ?_
 ·intro s1 y4 E W h hI
  obtain ⟨v3,hE,s⟩:=hI
  refine CW.sub hE ?_
  unfold c8 at h
  refine .seq (.g (.q z (.q z (.s (aD (s.keep q_0) u33 z z) z (.q z (.nil ?_))))))
  refine .cs z h ?_ ?_ <;> intro h
  ·refine .skip (.seq (.block (.g (.q z (.q z (bv h λx1 hx1 h=>.s (ixv (s.keep q_0) hx1 u33 t62 z z z) z (.s (lde (RV.flat (s.keep q_0) hx1 z) t62 z z z z z) z (.c (.alloc t62 s ?_)))))))))
   intro g1 W s
   refine .c (.st t62 s z z z ?_)
   intro W s
   refine .nil (bv h λy5 hy5 h=>?_)
   refine .seq (CW.via (R':=λx E' W'=>x=.normal/\ao E' [(0,(sv v_0)),(4,(sv v3)),(5,vi s1.2),(6,Pt g1)]/\Sep No w W' [.box g1 62 [vi y5.Op,vi y5.Dst,vi y5.A,vi y5.B,vi y5.N],ac (sv v3) 62 5 ah s1.1]) ?_ ?_)
   ·have h:=hy5
    refine .g (.s (fa f62_0 z z z) z (.s (ld t3 s z z z z z) z (.q z (.q z (.cu 4 29 ((x1.Op==4)||(x1.Op==5)) s ?_ ?_)))))
    ·refine .both (x1.Op==4) (λb=>?_) (λb=>?_)
     ·exact .xx b z (.xx b z (.xx b z (.s (pkt b z z z) z (.nil (ck 4 s z (kK b))))))
     have hg1:=b
     exact .g hg1 (.s (fa f62_0 z z z) z (.g hg1 (.s (ld t3 s z z z z z) z (.g hg1 (.q z (.s (pkf hg1 z z z) z (.nil (ck 4 s z (jT hg1)))))))))
    intro W s
    refine .nil ?_
    refine .cs z h ?_ ?_ <;> intro h
    ·refine .region (.q z (.s (fa f62_4 z z z) z (.s (ld t3 s z z z z z) z (bv h λy6 hy6 h=>.c (.cO s func146 (rI hy6 (s.keep q_0)) z z ?_)))))
     intro W s
     refine .s (fa f62_4 z z z) z (.c (.st t3 s z z z ?_))
     intro W s
     refine .nil ?_
     cases h
     exact ⟨z,sb z,s.tk [0,0]⟩
    refine .skip ?_
    obtain rfl:=o9 h
    exact ⟨z,sb z,s.tk [0,0]⟩
   intro x E W hJ
   obtain ⟨rfl,hE,s⟩:=hJ
   refine ⟨_,hE.sub,?_⟩
   refine .region (.q z (.s (ld t62 s z z z z z) z (.c (.liv [y5] ah u33 t62 s z z z z ?_ z (λ_=>z)))))
   intro v6 W s
   refine bv h λr1 hr1 h=>?_
   have hT0:=s.p2
   refine .c (.av hr1 hT0 hT0.p1.lv (λ_=>z) u33 t62 z z z ?_)
   intro v7 W s
   refine .qn z (.region (.q z (.q z (.q z (.nil ?_)))))
   cases h
   exact ⟨z,v7,sb z,s.tk [0]⟩
  refine .exit ?_
  cases h
  exact ⟨by simp,z,v3,sb z,s.tk [0]⟩
 intro x E W hJ
 obtain ⟨rfl,v8,hE,s⟩:=hJ
 refine ⟨_,hE.sub,?_⟩
 cases h
 exact .g (.q z (.q z (.qn z (.ret (aa (vs:=[_,_]) v8 (rt z (rt z rn)) z (s.tk [0]))))))
theorem mc {a0:List ab} {a1:List (List Bool)} {a2:Int} {v_0:Hd} {v_1:Hd} {w:World} {r:(List Bool)} (h:fW a0 a1 a2=some r) (q_0:RO w v_0 62 5 ah a0) (q_1:RO w v_1 102 1 (λ(l:List Bool)=>D.row 4 1 (l.map D.bool)) a1):CL 128 #[sv v_0,sv v_1,vi a2] w (Ret No w (λs:Hd=>(sv s)) (λs=>[ac (sv s) 4 1 D.bool r])):=by
 unfold fW at h
 refine aw func128 z z ?_
 have s:=Sep.start w
 refine .g (.qn z (.g (bv h λr1 hr1 h=>.c (.mkv false D.bool hr1 u102 t4 s z z z z z (λ_=>z) ?_))))
 intro v1 W s
 refine .qn z (.g (.q z (.q z (bv h λy1 hy1 h=>.c (.cV s func153 (kJ hy1 (s.keep q_0)) z z ?_)))))
 intro v2 W s
 refine .qn z (.seq (.g (.qn z (.block (bv h λy2 hy2 h=>?_)))))
 refine .via (.iter (λs1 E' W'=>ao E' [(1,(sv v_1)),(7,(sv v1)),(8,(sv v2)),(9,vi s1.1)]/\Sep No w W' [ac (sv v2) 3 1 (D.int .i64) y1,ac (sv v1) 4 1 D.bool s1.2]) (λy3 x E' W'=>x=.exit 0/\ao E' [(7,(sv v1))]/\Sep No w W' [ac (sv v2) 3 1 (D.int .i64) y1,ac (sv v1) 4 1 D.bool y3]) hy2 ⟨sb z,s.tk [0,0]⟩ ?_) ?_
 ·intro s1 y4 E W h hI
  obtain ⟨hE,s⟩:=hI
  refine CW.sub hE ?_
  unfold l6 at h
  refine .seq (.g (.q z (.q z (.s (aD s.lv u23 z z) z (.q z (.nil ?_))))))
  refine .cs z h ?_ ?_ <;> intro h
  ·refine .skip (.seq (.block (.g (.qn z (.block (bv h λy5 hy5 h=>?_))))))
   refine .via (.iter (λs2 E' W'=>ao E' [(1,(sv v_1)),(7,(sv v1)),(8,(sv v2)),(9,vi s1.1),(10,vi s2.1)]/\Sep No w W' [ac (sv v2) 3 1 (D.int .i64) y1,ac (sv v1) 4 1 D.bool s2.2]) (λy6 x E' W'=>x=.exit 2/\ao E' [(1,(sv v_1)),(7,(sv v1)),(8,(sv v2)),(9,vi s1.1)]/\Sep No w W' [ac (sv v2) 3 1 (D.int .i64) y1,ac (sv v1) 4 1 D.bool y6]) hy5 ⟨sb z,s.tk [0,0]⟩ ?_) ?_
   ·intro s2 y7 E W h hI
    obtain ⟨hE,s⟩:=hI
    refine CW.sub hE ?_
    unfold l5 at h
    refine .seq (.g (.q z (.q z (.nil ?_))))
    refine .cs z h ?_ ?_ <;> intro h
    ·refine .skip (.seq (.block (.region (.q z (.q z (.q z (.q z (bv h λx1 hx1 h=>.s (ixv s.p1.lv hx1 u102 t4 z z z) z (.s (lde (RV.flat s.p1.lv hx1 z) t4 z z z z z) z (.q z (bv h λb1 hb1 h=>.cu 11 42 (b1) s ?_ ?_)))))))))))
     ·refine .both (x1) (λb=>?_) (λb=>?_)
      ·refine .xx b z (.xx b z (.xx b z (.xx b z (.xx b z (.xx b z (.xx b z (.xx b z (.xx b z (.xx b z ?_)))))))))
       cases aW b hb1
       exact .s (pkt b z z z) z (.nil (ck 11 s))
      have hg1:=b
      have h:=aX b hb1
      refine .g hg1 (.q z (.g hg1 (.q z (.g hg1 (.q z (bv h λx2 hx2 h=>.g hg1 (.s (ixv s.lv hx2 u23 t3 z z z) z (.g hg1 (.s (lde (RV.flat s.lv hx2 z) t3 z z z z z) z (bv h λx3 hx3 h=>?_))))))))))
      obtain ⟨k1,hd,hck1⟩:=RV.el2 q_1 hx3
      obtain ⟨v3,k1,rfl,q1,hd1⟩:=bf q_1 hd
      obtain rfl:=gc q_1 hd1
      refine .g hg1 (.s (ixv (s.keep q_1) hx3 u119 t102 z z z) z (.g hg1 (.s (lde (hck1 _ s.agree) t102 z z z z z) z (.g hg1 (.q z (bv h λx4 hx4 h=>.g hg1 (.s (ixv (s.keep (q1 _ q_1)) hx4 u102 t4 z z z) z (.g hg1 (.s (lde (RV.flat (s.keep (q1 _ q_1)) hx4 z) t4 z z z z z) z (.s (pkf hg1 z z z) z ?_))))))))))
      cases h
      exact .nil (ck 11 s)
     intro W s
     refine bv h λx5 hx5 h=>.s (ixv s.p1.lv hx5 u102 t4 z z z) z (bv h λr2 hr2 h=>.c (.sev hr2 hx5 s.p1 t4 z z z z z z ?_))
     intro W s
     refine .nil (.region (.q z (.q z (.q z (.nil ?_)))))
     cases h
     exact ⟨z,sb z,s.tk [1,0]⟩
    refine .exit ?_
    cases h
    exact ⟨by simp,z,sb z,s.tk [0,0]⟩
   intro x E W hJ
   obtain ⟨rfl,hE,s⟩:=hJ
   refine ⟨_,hE.sub,?_⟩
   refine .region (.q z (.q z (.q z (.nil ?_))))
   cases h
   exact ⟨z,sb z,s.tk [0,0]⟩
  refine .exit ?_
  cases h
  exact ⟨by simp,z,sb z,s.tk [0,0]⟩
 intro x E W hJ
 obtain ⟨rfl,hE,s⟩:=hJ
 refine ⟨_,hE.sub,?_⟩
 obtain rfl:=o9 h
 exact .g (.q z (.qn z (.ret (aa v1 (rt z rn) z (s.tk [1])))))
theorem s8 {a0:ab} {w:World} {r:(List Int)} (h:j8 a0=some r):CL 191 #[.agg #[vi a0.Op,vi a0.Dst,vi a0.A,vi a0.B,vi a0.N]] w (Ret No w (λs:Hd=>(sv s)) (λs=>[ac (sv s) 3 1 (D.int .i64) r])):=by
 unfold j8 at h
 refine aw func191 z z ?_
 have s:=Sep.start w
 refine .g (.c (.box s z z ?_))
 intro g1 W s
 refine .qn z (.seq (.g (.s (ld t62 s z z z z z) z (bv h λy1 hy1 h=>.c (.cO s func89 (lH hy1) z z ?_)))))
 intro W s
 refine .q z (.nil ?_)
 refine .cs z h ?_ ?_ <;> intro h
 ·refine .g (.c (.liv [] (D.int .i64) u23 t3 s z z z z ?_ z (λ_=>z)))
  intro v1 W s
  cases h
  exact .qn z (.ret (aa v1 (rt z rn) z (s.tk [0])))
 refine .skip (.seq (.g (.s (fa f62_0 z z z) z (.s (ld t3 s z z z z z) z (.nil (.block (bv h λy2 hy2 h=>?_)))))))
 refine .seq (CW.via (R':=λx E' W'=>x=.normal/\ao E' [(1,Pt g1),(8,vi a0.Op),(9,.bool y2)]/\Sep No w W' [.box g1 62 [vi a0.Op,vi a0.Dst,vi a0.A,vi a0.B,vi a0.N]]) ?_ ?_)
 ·have h:=hy2
  refine .g (.q z (.q z (.nil ?_)))
  refine .cs z h ?_ ?_ <;> intro h
  ·refine .skip ?_
   cases h
   exact ⟨z,sb z,s.tk [0]⟩
  refine .g (.q z (.q z (.nil ?_)))
  refine .cs z h ?_ ?_ <;> intro h
  ·refine .skip ?_
   cases h
   exact ⟨z,sb z,s.tk [0]⟩
  refine .g (.q z (.q z (.nil ?_)))
  refine .cs z h ?_ ?_ <;> intro h
  ·refine .skip ?_
   cases h
   exact ⟨z,sb z,s.tk [0]⟩
  refine .region (.q z (.q z (.nil ?_)))
  cases h
  exact ⟨z,sb z,s.tk [0]⟩
 intro x E W hJ
 obtain ⟨rfl,hE,s⟩:=hJ
 refine ⟨_,hE.sub,?_⟩
 refine .cs z h ?_ ?_ <;> intro h
 ·refine .g (.s (fa f62_2 z z z) z (.s (ld t3 s z z z z z) z (.c (.liv [a0.A] (D.int .i64) u23 t3 s z z z z ?_ z (λ_=>z)))))
  intro v2 W s
  cases h
  exact .qn z (.ret (aa v2 (rt z rn) z (s.tk [0])))
 refine .g (.q z (.q z (.nil ?_)))
 refine .cs z h ?_ ?_ <;> intro h
 ·refine .seq (.g (.s (fa f62_2 z z z) z (.s (ld t3 s z z z z z) z (.s (fa f62_3 z z z) z (.s (ld t3 s z z z z z) z (.q z (.nil ?_)))))))
  refine .cs z h ?_ ?_ <;> intro h
  ·refine .g (.s (fa f62_2 z z z) z (.s (ld t3 s z z z z z) z (.c (.liv [a0.A] (D.int .i64) u23 t3 s z z z z ?_ z (λ_=>z)))))
   intro v3 W s
   cases h
   exact .qn z (.ret (aa v3 (rt z rn) z (s.tk [0])))
  refine .skip (.g (.s (fa f62_2 z z z) z (.s (ld t3 s z z z z z) z (.s (fa f62_3 z z z) z (.s (ld t3 s z z z z z) z (.s (mnv z z z) z (.s (fa f62_2 z z z) z (.s (ld t3 s z z z z z) z (.s (fa f62_3 z z z) z (.s (ld t3 s z z z z z) z (.s (mxv z z z) z (.c (.liv [min a0.A a0.B,max a0.A a0.B] (D.int .i64) u23 t3 s z z z z ?_ z (λ_=>z))))))))))))))
  intro v4 W s
  cases h
  exact .qn z (.ret (aa v4 (rt z rn) z (s.tk [0])))
 refine .skip (.g (.c (.liv [] (D.int .i64) u23 t3 s z z z z ?_ z (λ_=>z))))
 intro v5 W s
 cases h
 exact .qn z (.ret (aa v5 (rt z rn) z (s.tk [0])))
theorem rJ {a0:ab} {a1:List Bool} {v_1:Hd} {w:World} {r:(List Bool)} (h:i6 a0 a1=some r) (q_1:RO w v_1 4 1 D.bool a1):CL 177 #[.agg #[vi a0.Op,vi a0.Dst,vi a0.A,vi a0.B,vi a0.N],sv v_1] w (Ret No w (λs:Hd=>(sv s)) (λs=>[ac (sv s) 4 1 D.bool r])):=by
 unfold i6 at h
 refine aw func177 z z ?_
 have s:=Sep.start w
 refine .g (.c (.box s z z ?_))
 intro g1 W s
 refine .qn z (.g (.c (.liv [] D.bool u102 t4 s z z z z ?_ z (λ_=>z))))
 intro v1 W s
 refine .q z (bv h λr1 hr1 h=>.c (.av hr1 s (s.keep q_1) (λ_=>z) u102 t4 z z z ?_))
 intro v2 W s
 refine .qn z (bv h λy1 hy1 h=>?_)
 refine .seq (CW.via (R':=λx E' W'=>x=.normal/\ao E' [(2,Pt g1),(5,(sv v2))]/\Sep No w W' [ac (sv v2) 4 1 D.bool y1,.box g1 62 [vi a0.Op,vi a0.Dst,vi a0.A,vi a0.B,vi a0.N]]) ?_ ?_)
 ·have h:=hy1
  refine .g (.s (ld t62 s.p1 z z z z z) z (bv h λy2 hy2 h=>.c (.cO s func92 (gO hy2) z z ?_)))
  intro W s
  refine .q z (.nil ?_)
  refine .cs z h ?_ ?_ <;> intro h
  ·refine .region (.q z (.s (ld t62 s.p1 z z z z z) z (bv h λy3 hy3 h=>.c (.cO s func92 (gO hy3) z z ?_))))
   intro W s
   refine bv h λx1 hx1 h=>.s (ixv s.lv hx1 u102 t4 z z z) z (bv h λr2 hr2 h=>.c (.sev hr2 hx1 s t4 z z z z z z ?_))
   intro W s
   refine .nil ?_
   obtain rfl:=o9 h
   exact ⟨z,sb z,s.tk [0,0]⟩
  refine .skip ?_
  obtain rfl:=o9 h
  exact ⟨z,sb z,s.tk [0,0]⟩
 intro x E W hJ
 obtain ⟨rfl,hE,s⟩:=hJ
 refine ⟨_,hE.sub,?_⟩
 refine .g (.s (ld t62 s.p1 z z z z z) z (bv h λy4 hy4 h=>.c (.cV s func191 (s8 hy4) z z ?_)))
 intro v3 W s
 refine .qn z (.seq (.g (.qn z (.block (bv h λy5 hy5 h=>?_)))))
 refine .via (.iter (λs1 E' W'=>ao E' [(5,(sv v2)),(6,(sv v3)),(7,vi s1.1)]/\Sep No w W' [ac (sv v3) 3 1 (D.int .i64) y4,ac (sv v2) 4 1 D.bool s1.2,.box g1 62 [vi a0.Op,vi a0.Dst,vi a0.A,vi a0.B,vi a0.N]]) (λy6 x E' W'=>x=.exit 0/\ao E' [(5,(sv v2))]/\Sep No w W' [ac (sv v3) 3 1 (D.int .i64) y4,ac (sv v2) 4 1 D.bool y6,.box g1 62 [vi a0.Op,vi a0.Dst,vi a0.A,vi a0.B,vi a0.N]]) hy5 ⟨sb z,s.tk [0,0,0]⟩ ?_) ?_
 ·intro s1 y7 E W h hI
  obtain ⟨hE,s⟩:=hI
  refine CW.sub hE ?_
  unfold lf at h
  refine .seq (.g (.q z (.q z (.s (aD s.lv u23 z z) z (.q z (.nil ?_))))))
  refine .cs z h ?_ ?_ <;> intro h
  ·refine .skip (.seq (.block (.region (.q z (.q z (.q z (bv h λx2 hx2 h=>.s (ixv s.lv hx2 u23 t3 z z z) z (.s (lde (RV.flat s.lv hx2 z) t3 z z z z z) z (bv h λx3 hx3 h=>.s (ixv s.p1.lv hx3 u102 t4 z z z) z (bv h λr3 hr3 h=>.c (.sev hr3 hx3 s.p1 t4 z z z z z z ?_)))))))))))
   intro W s
   refine .nil (.region (.q z (.q z (.q z (.nil ?_)))))
   cases h
   exact ⟨z,sb z,s.tk [1,0,0]⟩
  refine .exit ?_
  cases h
  exact ⟨by simp,z,sb z,s.tk [0,0,0]⟩
 intro x E W hJ
 obtain ⟨rfl,hE,s⟩:=hJ
 refine ⟨_,hE.sub,?_⟩
 obtain rfl:=o9 h
 exact .g (.q z (.qn z (.ret (aa v2 (rt z rn) z (s.tk [1])))))
def vl (w:World) (r:Bool):Env->World->Prop:=Fin Tryz.prog Tryz.f178 No w (λs:Unit=>.bool r) (λs=>[]) .ret
theorem tR {a0:List Bool} {a1:List Bool} {v_0:Hd} {v_1:Hd} {w:World} {r:Bool} (h:lh a0 a1=some r) (q_0:RO w v_0 4 1 D.bool a0) (q_1:RO w v_1 4 1 D.bool a1):CL 178 #[sv v_0,sv v_1] w (RU w (.bool r)):=by
 unfold lh at h
 refine aw func178 z z ?_
 have s:=Sep.start w
 refine .g (.qn z (.seq (.g (.qn z (.block (bv h λy1 hy1 h=>?_))))))
 refine .via (.iter (λs1 E' W'=>ao E' [(0,(sv v_0)),(1,(sv v_1)),(5,vi s1)]/\Sep No w W' []) (λy2 x E' W'=>(match y2 with | .inl o1=>x=.ret/\vl w o1 E' W' | .inr o2=>x=.exit 0/\ao E' [(0,(sv v_0)),(1,(sv v_1))]/\Sep No w W' [])) hy1 ⟨sb rfl,s.to [] rfl⟩ ?_) ?_
 ·intro s1 y3 E W h hI
  obtain ⟨hE,s⟩:=hI
  refine CW.sub hE ?_
  unfold mA at h
  refine .seq (.g (.q z (.q z (.s (aD (s.keep q_0) u102 z z) z (.q z (.nil ?_))))))
  refine .cs z h ?_ ?_ <;> intro h
  ·refine .skip (.seq (.block (.seq (.rk 9 s [] T.mix ?_))))
   intro W s
   have t:=s.to []
   refine .tp' 0 z z t (.tp' 1 z z t (bv h λx1 hx1 h=>.ts' 2 z (λW t=>ixv (s.keep q_0) hx1 u102 t4 z z z) t z (.ts' 3 z (λW t=>lde (RV.flat (t.keep q_0) hx1 z) t4 z z z z z) t z (.tp' 4 z z t (.tp' 5 z z t (bv h λx2 hx2 h=>.ts' 6 z (λW t=>ixv (s.keep q_1) hx2 u102 t4 z z z) t z (.ts' 7 z (λW t=>lde (RV.flat (t.keep q_1) hx2 z) t4 z z z z z) t z (.ts' 8 z (λW t=>neb u4 z z z) t z (.done ?_)))))))))
   refine .cs z h ?_ ?_ <;> intro h
   ·refine .g (.qn z (.ret ?_))
    cases h
    exact ⟨by simp,z,aa (vs:=[_]) () (rt z rn) z (s.to [])⟩
   refine .skip (.region (.q z (.q z (.q z (.nil ?_)))))
   cases h
   exact ⟨z,sb z,s.to []⟩
  refine .exit ?_
  cases h
  exact ⟨by simp,z,sb z,s.to []⟩
 intro x E W hJ
 rcases y1 with o3 | o4
 ·have h:=bQ h
  obtain ⟨rfl,hF⟩:=hJ
  refine ⟨_,λ_ _ h=>h,?_⟩
  cases h
  exact hF
 have h:=bR h
 obtain ⟨rfl,hE,s⟩:=hJ
 refine ⟨_,hE.sub,?_⟩
 cases h
 exact .g (.q z (.s (aD (s.keep q_0) u102 z z) z (.q z (.s (aD (s.keep q_1) u102 z z) z (.q z (.qn z (.ret (aa () (rt z rn) z (s.to [])))))))))
theorem s9 {a0:List ab} {a1:List (List Bool)} {v_0:Hd} {v_1:Hd} {S:Nat->Prop} {w:World} {r:Bool×(List (List Bool))} (h:di a0 a1=some r) (q_0:RV w (Old S w) (sv v_0) 62 5 ah a0) (hO:bG w [ac (sv v_1) 102 1 (λ(l:List Bool)=>D.row 4 1 (l.map D.bool)) a1] S) (hlt:∀ b,S b->b<w.heap.size):CL 152 #[sv v_0,sv v_1] w (Ret S w (λs:Unit=>.bool r.1) (λs=>[ac (sv v_1) 102 1 (λ(l:List Bool)=>D.row 4 1 (l.map D.bool)) r.2])):=by
 unfold di at h
 refine aw func152 z z ?_
 have s:=Sep.sm hO hlt
 refine .g (.qn z (.g (.qn z (.seq (.g (.q z (.s (aD (s.keep q_0) u33 z z) z (.q z (.qn z (.block (bv h λy1 hy1 h=>?_)))))))))))
 refine .via (.iter (λs1 E' W'=>ao E' [(0,(sv v_0)),(1,(sv v_1)),(5,.bool s1.1),(6,vi s1.2.1)]/\Sep S w W' [ac (sv v_1) 102 1 (λ(l:List Bool)=>D.row 4 1 (l.map D.bool)) s1.2.2]) (λy2 x E' W'=>x=.exit 0/\ao E' [(5,.bool y2.1)]/\Sep S w W' [ac (sv v_1) 102 1 (λ(l:List Bool)=>D.row 4 1 (l.map D.bool)) y2.2]) hy1 ⟨sb z,s.tk [0]⟩ ?_) ?_
 ·intro s1 y3 E W h hI
  obtain ⟨hE,s⟩:=hI
  refine CW.sub hE ?_
  unfold ed at h
  refine .seq (.g (.q z (.q z (.nil ?_))))
  refine .cs z h ?_ ?_ <;> intro h
  ·refine .skip (bv h λy4 hy4 h=>?_)
   refine .seq (CW.via (R':=λx E' W'=>x=.normal/\ao E' [(0,(sv v_0)),(1,(sv v_1)),(5,.bool y4.1),(6,vi s1.2.1)]/\Sep S w W' [ac (sv v_1) 102 1 (λ(l:List Bool)=>D.row 4 1 (l.map D.bool)) y4.2]) ?_ ?_)
   ·have h:=hy4
    refine .block (.seq (.rk 10 s [0] T.mix ?_))
    intro W s
    have t:=s.to [0]
    refine .tp' 0 z z t (.tp' 1 z z t (bv h λx1 hx1 h=>.ts' 2 z (λW t=>ixv (s.keep q_0) hx1 u33 t62 z z z) t z (.ts' 3 z (λW t=>lde (RV.flat (t.keep q_0) hx1 z) t62 z z z z z) t z (.tp' 4 z z t (.tp' 5 z z t (.tp' 6 z z t (bv h λy5 hy5 h=>.by1 7 z (.cV s func128 (mc hy5 (s.keep q_0) s.lv) z z ?_))))))))
    intro v1 W s
    refine s.an [1] λt=>bv h λy6 hy6 h=>.by1 8 z (.cV s func177 (rJ hy6 s.lv) z z ?_)
    intro v2 W s
    refine s.an [2] λt=>.tp' 9 z z t (.done (.g (.q z (.q z (.q z (bv h λx2 hx2 h=>.s (ixv s.p2.lv hx2 u119 t102 z z z) z ?_))))))
    obtain ⟨k1,s⟩:=Sep.ov s.p2 hx2
    obtain ⟨v3,k1,rfl,s⟩:=s.ow
    obtain ⟨rfl,s⟩:=s.oN
    refine .s (lde (s.p1.hcellsv) t102 z z z z z) z (bv h λy7 hy7 h=>.c (.cO s func178 (tR hy7 s.p2.lv s.lv) z z ?_))
    intro W s
    refine .q z (.nil ?_)
    refine .cs z h ?_ ?_ <;> intro h
    ·refine .g (.q z (.q z (.q z (.s (ixh s.p1 hx2 u119 t102 z z z) z (.c (.sthv s.p1 t102 z z z ?_))))))
     intro W s
     refine .nil (.region (.q z (.nil ?_)))
     have s:=Sep.gat (ds:=[.row 4 1 (y6.map D.bool)]) (cs:=[sv v2]) (L1:=[ac (sv v2) 4 1 D.bool y6]) (.row (.nil)) (s.to [2,0,0,0])
     have s:Sep _ _ _ [ac (sv v_1) 102 1 (λ(l:List Bool)=>D.row 4 1 (l.map D.bool)) (s1.2.2.set (Int.toNat s1.2.1) y6),ac (sv v3) 4 1 D.bool x2,ac (sv v1) 4 1 D.bool y5]:=s.bv
     cases h
     exact ⟨z,sb z,s.tk [0]⟩
    refine .skip ?_
    have s:=Sep.gat (ds:=[.row 4 1 (x2.map D.bool)]) (cs:=[sv v3]) (L1:=[ac (sv v3) 4 1 D.bool x2]) (.row (.nil)) (s.to [0,0,0,0])
    have s:Sep _ _ _ [ac (sv v_1) 102 1 (λ(l:List Bool)=>D.row 4 1 (l.map D.bool)) s1.2.2,ac (sv v2) 4 1 D.bool y6,ac (sv v1) 4 1 D.bool y5]:=Sep.back0v hx2 s
    cases h
    exact ⟨z,sb z,s.tk [0]⟩
   intro x E W hJ
   obtain ⟨rfl,hE,s⟩:=hJ
   refine ⟨_,hE.sub,?_⟩
   refine .region (.q z (.q z (.q z (.nil ?_))))
   cases h
   exact ⟨z,sb z,s.tk [0]⟩
  refine .exit ?_
  cases h
  exact ⟨by simp,z,sb z,s.tk [0]⟩
 intro x E W hJ
 obtain ⟨rfl,hE,s⟩:=hJ
 refine ⟨_,hE.sub,?_⟩
 cases h
 exact .g (.q z (.qn z (.ret (aa () (rt z rn) z (s.tk [0])))))
theorem pp {a0:List ab} {v_0:Hd} {w:World} {r:(List (List Bool))} (h:dZ a0=some r) (q_0:RO w v_0 62 5 ah a0):CL 127 #[sv v_0] w (Ret No w (λs:Hd=>(sv s)) (λs=>[ac (sv s) 102 1 (λ(l:List Bool)=>D.row 4 1 (l.map D.bool)) r])):=by
 unfold dZ at h
 refine aw func127 z z ?_
 have s:=Sep.start w
 refine .g (.qn z (.g (.c (.lg (L1:=[]) [] (λ(l:List Bool)=>D.row 4 1 (l.map D.bool)) u119 t102 (s.to []) z z z (.nil) ?_ z (λ_=>z)))))
 intro v1 W s
 refine .qn z (.seq (.g (.q z (bv h λy1 hy1 h=>.c (.cO s func57 (bg hy1 (s.keep q_0)) z z ?_)))))
 intro W s
 refine .qn z (.cond z (λb=>?_) (λb=>?_))
 ·have h:=aW b h
  cases h
  exact .g (.q z (.qn z (.ret (aa v1 (rt z rn) z (s.tk [0])))))
 have h:=aX b h
 refine .skip (.seq (.g (.qn z (.block (bv h λy2 hy2 h=>?_)))))
 refine .via (.iter (λs1 E' W'=>∃ (v4:Hd),ao E' [(0,(sv v_0)),(3,(sv v4)),(4,vi s1.2)]/\Sep No w W' [ac (sv v4) 102 1 (λ(l:List Bool)=>D.row 4 1 (l.map D.bool)) s1.1]) (λy3 x E' W'=>x=.exit 0/\∃ (v5:Hd),ao E' [(0,(sv v_0)),(3,(sv v5))]/\Sep No w W' [ac (sv v5) 102 1 (λ(l:List Bool)=>D.row 4 1 (l.map D.bool)) y3]) hy2 ⟨v1,sb z,s.tk [0]⟩ ?_) ?_
 ·intro s1 y4 E W h hI
  obtain ⟨v3,hE,s⟩:=hI
  refine CW.sub hE ?_
  unfold i7 at h
  refine .seq (.g (.q z (.q z (.s (aD (s.keep q_0) u33 z z) z (.q z (.nil ?_))))))
  refine .cs z h ?_ ?_ <;> intro h
  ·refine .skip (.seq (.block (.region (.q z (bv h λr1 hr1 h=>.c (.mkv false D.bool hr1 u102 t4 s z z z z z (λ_=>z) ?_))))))
   intro v6 W s
   refine .c (.lg (L1:=[ac (sv v6) 4 1 D.bool r1]) [r1] (λ(l:List Bool)=>D.row 4 1 (l.map D.bool)) u119 t102 (s.to [0,0]) z z z (.row (.nil)) ?_ z (λ_=>z))
   intro v7 W s
   refine bv h λr2 hr2 h=>.c (.appv hr2 (s.to [1,0]) u119 t102 z z z ?_)
   intro v8 W s
   refine .qn z (.region (.q z (.q z (.q z (.nil ?_)))))
   cases h
   exact ⟨z,v8,sb z,s.tk [0]⟩
  refine .exit ?_
  cases h
  exact ⟨by simp,z,v3,sb z,s.tk [0]⟩
 intro x E W hJ
 obtain ⟨rfl,v9,hE,s⟩:=hJ
 refine ⟨_,hE.sub,?_⟩
 refine .seq (.block (bv h λy5 hy5 h=>?_))
 refine .via (.iter (λs2 E' W'=>ao E' [(0,(sv v_0)),(3,(sv v9))]/\Sep No w W' [ac (sv v9) 102 1 (λ(l:List Bool)=>D.row 4 1 (l.map D.bool)) s2]) (λy6 x E' W'=>x=.exit 2/\ao E' [(3,(sv v9))]/\Sep No w W' [ac (sv v9) 102 1 (λ(l:List Bool)=>D.row 4 1 (l.map D.bool)) y6]) hy5 ⟨sb z,s.tk [0]⟩ ?_) ?_
 ·intro s2 y7 E W h hI
  obtain ⟨hE,s⟩:=hI
  refine CW.sub hE ?_
  unfold bD at h
  refine .seq (.g (.q z (.q z (bv h λy8 hy8 h=>.c (.cS (L0:=[ac (sv v9) 102 1 (λ(l:List Bool)=>D.row 4 1 (l.map D.bool)) s2]) s func152 (λS h1 h2 h3=>(s9 hy8 (s.ks q_0 h1) h2 (zz h1))) z z ?_)))))
  rintro ⟨⟩ W s
  refine .nil ?_
  refine .cs z h ?_ ?_ <;> intro h
  ·refine .skip (.block (.skip ?_))
   cases h
   exact ⟨z,sb z,s.tk [0]⟩
  refine .exit ?_
  cases h
  exact ⟨by simp,z,sb z,s.tk [0]⟩
 intro x E W hJ
 obtain ⟨rfl,hE,s⟩:=hJ
 refine ⟨_,hE.sub,?_⟩
 obtain rfl:=o9 h
 exact .g (.q z (.qn z (.ret (aa v9 (rt z rn) z (s.tk [0])))))
theorem tS {a0:ab} {a1:List Bool} {v_1:Hd} {w:World} {r:Bool} (h:g8 a0 a1=some r) (q_1:RO w v_1 4 1 D.bool a1):CL 147 #[.agg #[vi a0.Op,vi a0.Dst,vi a0.A,vi a0.B,vi a0.N],sv v_1] w (RU w (.bool r)):=by
 unfold g8 at h
 refine aw func147 z z ?_
 have s:=Sep.start w
 refine .g (.c (.box s z z ?_))
 intro g1 W s
 refine .qn z (.seq (.g (.s (fa f62_0 z z z) z (.s (ld t3 s z z z z z) z (.nil (.block (bv h λy1 hy1 h=>?_)))))))
 refine .seq (CW.via (R':=λx E' W'=>x=.normal/\ao E' [(1,(sv v_1)),(2,Pt g1),(7,.bool y1)]/\Sep No w W' [.box g1 62 [vi a0.Op,vi a0.Dst,vi a0.A,vi a0.B,vi a0.N]]) ?_ ?_)
 ·have h:=hy1
  refine .g (.q z (.q z (.nil ?_)))
  refine .cs z h ?_ ?_ <;> intro h
  ·refine .skip ?_
   cases h
   exact ⟨z,sb z,s.tk [0]⟩
  refine .g (.q z (.q z (.nil ?_)))
  refine .cs z h ?_ ?_ <;> intro h
  ·refine .skip ?_
   cases h
   exact ⟨z,sb z,s.tk [0]⟩
  refine .region (.q z (.q z (.nil ?_)))
  cases h
  exact ⟨z,sb z,s.tk [0]⟩
 intro x E W hJ
 obtain ⟨rfl,hE,s⟩:=hJ
 refine ⟨_,hE.sub,?_⟩
 refine .cs z h ?_ ?_ <;> intro h
 ·refine .g (.q z (.s (fa f62_1 z z z) z (.s (ld t3 s z z z z z) z (bv h λx1 hx1 h=>.s (ixv (s.keep q_1) hx1 u102 t4 z z z) z (.s (lde (RV.flat (s.keep q_1) hx1 z) t4 z z z z z) z (.q z (.qn z (.ret ?_))))))))
  cases h
  exact aa () (rt z rn) z (s.to [])
 obtain rfl:=o9 h
 exact .skip (.g (.qn z (.ret (aa () (rt z rn) z (s.to [])))))
theorem ta {a0:List ab} {v_0:Hd} {w:World} {r:(List ab)×Bool} (h:fX a0=some r) (q_0:RO w v_0 62 5 ah a0):CL 122 #[sv v_0] w (Ret No w (λs:Hd=>.tuple #[sv s,.bool r.2]) (λs=>[ac (sv s) 62 5 ah r.1])):=by
 unfold fX at h
 refine aw func122 z z ?_
 have s:=Sep.start w
 refine .g (.q z (.qn z (.g (.c (.liv [] ah u33 t62 s z z z z ?_ z (λ_=>z))))))
 intro v1 W s
 refine .qn z (.seq (.g (.q z (bv h λy1 hy1 h=>.c (.cO s func57 (bg hy1 (s.keep q_0)) z z ?_)))))
 intro W s
 refine .q z (.nil ?_)
 refine .cs z h ?_ ?_ <;> intro h
 ·cases h
  exact .g (.q z (.q z (.qn z (.ret (aa (vs:=[_,_]) v1 (rt z (rt z rn)) z (s.tk [0]))))))
 refine .skip (.g (.q z (bv h λy2 hy2 h=>.c (.cV s func127 (pp hy2 (s.keep q_0)) z z ?_))))
 intro v2 W s
 refine .qn z (.seq (.g (.qn z (.block (bv h λy3 hy3 h=>?_)))))
 refine .via (.iter (λs1 E' W'=>∃ (v5:Hd),ao E' [(0,(sv v_0)),(4,(sv v5)),(5,(sv v2)),(6,vi s1.2)]/\Sep No w W' [ac (sv v2) 102 1 (λ(l:List Bool)=>D.row 4 1 (l.map D.bool)) y2,ac (sv v5) 62 5 ah s1.1]) (λy4 x E' W'=>x=.exit 0/\∃ (v6:Hd),ao E' [(4,(sv v6))]/\Sep No w W' [ac (sv v2) 102 1 (λ(l:List Bool)=>D.row 4 1 (l.map D.bool)) y2,ac (sv v6) 62 5 ah y4]) hy3 ⟨v1,sb z,s.tk [0,0]⟩ ?_) ?_
 ·intro s1 y5 E W h hI
  obtain ⟨v4,hE,s⟩:=hI
  refine CW.sub hE ?_
  unfold c9 at h
  refine .seq (.g (.q z (.q z (.s (aD (s.keep q_0) u33 z z) z (.q z (.nil ?_))))))
  refine .cs z h ?_ ?_ <;> intro h
  ·refine .skip (.seq (.block (.g (.q z (.q z (bv h λx1 hx1 h=>.s (ixv (s.keep q_0) hx1 u33 t62 z z z) z (.s (lde (RV.flat (s.keep q_0) hx1 z) t62 z z z z z) z (.c (.alloc t62 s ?_)))))))))
   intro g1 W s
   refine .c (.st t62 s z z z ?_)
   intro W s
   refine .nil (bv h λy6 hy6 h=>?_)
   refine .seq (CW.via (R':=λx E' W'=>x=.normal/\ao E' [(0,(sv v_0)),(4,(sv v4)),(5,(sv v2)),(6,vi s1.2),(7,Pt g1)]/\Sep No w W' [.box g1 62 [vi y6.Op,vi y6.Dst,vi y6.A,vi y6.B,vi y6.N],ac (sv v2) 102 1 (λ(l:List Bool)=>D.row 4 1 (l.map D.bool)) y2,ac (sv v4) 62 5 ah s1.1]) ?_ ?_)
   ·have h:=hy6
    refine .seq (.rk 6 s [0,0,0] T.mix ?_)
    intro W s
    have t:=s.to [0,0,0]
    refine .ts' 0 z (λW t=>ld t62 t z z z z z) t z (.tp' 1 z z t (.tp' 2 z z t (.tp' 3 z z t (bv h λy7 hy7 h=>.by1 4 z (.cV s func128 (mc hy7 (s.keep q_0) s.p1.lv) z z ?_)))))
    intro v7 W s
    refine s.an [1,1,1] λt=>bv h λy8 hy8 h=>.by1 5 z (.cO s func147 (tS hy8 s.lv) z z ?_)
    intro W s
    refine s.an [1,1,1] λt=>.done ?_
    refine .cs z h ?_ ?_ <;> intro h
    ·refine .region (.q z (.q z (.s (bs T.s62 z z) z (.c (.st t62 s.p1 z z z ?_)))))
     intro W s
     refine .nil ?_
     cases h
     exact ⟨z,sb z,s.tk [0,1,1]⟩
    refine .skip ?_
    obtain rfl:=o9 h
    exact ⟨z,sb z,s.tk [1,1,1]⟩
   intro x E W hJ
   obtain ⟨rfl,hE,s⟩:=hJ
   refine ⟨_,hE.sub,?_⟩
   refine .region (.q z (.s (ld t62 s z z z z z) z (.c (.liv [y6] ah u33 t62 s z z z z ?_ z (λ_=>z)))))
   intro v8 W s
   refine bv h λr1 hr1 h=>?_
   have hT0:=s.p3
   refine .c (.av hr1 hT0 hT0.p1.lv (λ_=>z) u33 t62 z z z ?_)
   intro v9 W s
   refine .qn z (.region (.q z (.q z (.q z (.nil ?_)))))
   cases h
   exact ⟨z,v9,sb z,s.tk [3,0]⟩
  refine .exit ?_
  cases h
  exact ⟨by simp,z,v4,sb z,s.tk [0,0]⟩
 intro x E W hJ
 obtain ⟨rfl,v10,hE,s⟩:=hJ
 refine ⟨_,hE.sub,?_⟩
 cases h
 exact .g (.q z (.q z (.qn z (.ret (aa (vs:=[_,_]) v10 (rt z (rt z rn)) z (s.tk [1]))))))
end
noncomputable section
theorem rK {a0:List ab} {a1:List Bool} {v_0:Hd} {v_1:Hd} {S:Nat->Prop} {w:World} {r:Bool×(List Bool)} (h:eM a0 a1=some r) (q_0:RV w (Old S w) (sv v_0) 62 5 ah a0) (hO:bG w [ac (sv v_1) 4 1 D.bool a1] S) (hlt:∀ b,S b->b<w.heap.size):CL 176 #[sv v_0,sv v_1] w (Ret S w (λs:Unit=>.bool r.1) (λs=>[ac (sv v_1) 4 1 D.bool r.2])):=by
 unfold eM at h
 refine aw func176 z z ?_
 have s:=Sep.sm hO hlt
 refine .g (.qn z (.g (.qn z (.seq (.g (.qn z (.block (bv h λy1 hy1 h=>?_))))))))
 refine .via (.iter (λs1 E' W'=>ao E' [(0,(sv v_0)),(1,(sv v_1)),(5,.bool s1.1),(6,vi s1.2.1)]/\Sep S w W' [ac (sv v_1) 4 1 D.bool s1.2.2]) (λy2 x E' W'=>x=.exit 0/\ao E' [(5,.bool y2.1)]/\Sep S w W' [ac (sv v_1) 4 1 D.bool y2.2]) hy1 ⟨sb z,s.tk [0]⟩ ?_) ?_
 ·intro s1 y3 E W h hI
  obtain ⟨hE,s⟩:=hI
  refine CW.sub hE ?_
  unfold iE at h
  refine .seq (.g (.q z (.q z (.s (aD (s.keep q_0) u33 z z) z (.q z (.nil ?_))))))
  refine .cs z h ?_ ?_ <;> intro h
  ·refine .skip (bv h λy4 hy4 h=>?_)
   refine .seq (CW.via (R':=λx E' W'=>x=.normal/\ao E' [(0,(sv v_0)),(1,(sv v_1)),(5,.bool y4.1),(6,vi s1.2.1)]/\Sep S w W' [ac (sv v_1) 4 1 D.bool y4.2]) ?_ ?_)
   ·have h:=hy4
    refine .block (.seq (.g (.q z (.q z (bv h λx1 hx1 h=>.s (ixv s.lv hx1 u102 t4 z z z) z (.s (lde (RV.flat s.lv hx1 z) t4 z z z z z) z (.q z (.nil ?_))))))))
    refine .cs z h ?_ ?_ <;> intro h
    ·refine .exit ?_
     cases h
     exact ⟨z,sb z,s.tk [0]⟩
    refine .skip (.g (.q z (.q z (bv h λy5 hy5 h=>.c (.cV s func153 (kJ hy5 (s.keep q_0)) z z ?_)))))
    intro v1 W s
    refine .qn z (.g (.qn z (.block (bv h λy6 hy6 h=>?_))))
    refine .via (.iter (λs2 E' W'=>ao E' [(0,(sv v_0)),(1,(sv v_1)),(5,.bool s2.1),(6,vi s1.2.1),(7,(sv v1)),(8,vi s2.2.1)]/\Sep S w W' [ac (sv v1) 3 1 (D.int .i64) y5,ac (sv v_1) 4 1 D.bool s2.2.2]) (λy7 x E' W'=>x=.exit 2/\ao E' [(0,(sv v_0)),(1,(sv v_1)),(5,.bool y7.1),(6,vi s1.2.1)]/\Sep S w W' [ac (sv v1) 3 1 (D.int .i64) y5,ac (sv v_1) 4 1 D.bool y7.2]) hy6 ⟨sb z,s.tk [0,0]⟩ ?_) ?_
    ·intro s2 y8 E W h hI
     obtain ⟨hE,s⟩:=hI
     refine CW.sub hE ?_
     unfold iC at h
     refine .seq (.g (.q z (.q z (.s (aD s.lv u23 z z) z (.q z (.nil ?_))))))
     refine .cs z h ?_ ?_ <;> intro h
     ·refine .skip (bv h λy9 hy9 h=>?_)
      refine .seq (CW.via (R':=λx E' W'=>x=.normal/\ao E' [(0,(sv v_0)),(1,(sv v_1)),(5,.bool y9.1),(6,vi s1.2.1),(7,(sv v1)),(8,vi s2.2.1)]/\Sep S w W' [ac (sv v1) 3 1 (D.int .i64) y5,ac (sv v_1) 4 1 D.bool y9.2]) ?_ ?_)
      ·have h:=hy9
       refine .block (.g (.q z (.q z (.q z (bv h λx2 hx2 h=>.s (ixv s.lv hx2 u23 t3 z z z) z (.s (lde (RV.flat s.lv hx2 z) t3 z z z z z) z (bv h λx3 hx3 h=>.s (ixv s.p1.lv hx3 u102 t4 z z z) z (.s (lde (RV.flat s.p1.lv hx3 z) t4 z z z z z) z (.q z (.nil ?_))))))))))
       refine .cs z h ?_ ?_ <;> intro h
       ·refine .g (.q z (.q z (.q z (bv h λx4 hx4 h=>.s (ixv s.lv hx4 u23 t3 z z z) z (.s (lde (RV.flat s.lv hx4 z) t3 z z z z z) z (bv h λx5 hx5 h=>.s (ixv s.p1.lv hx5 u102 t4 z z z) z (bv h λr1 hr1 h=>.c (.sev hr1 hx5 s.p1 t4 z z z z z z ?_))))))))
        intro W s
        refine .nil (.region (.q z (.nil ?_)))
        cases h
        exact ⟨z,sb z,s.tk [1,0]⟩
       refine .skip ?_
       cases h
       exact ⟨z,sb z,s.tk [0,0]⟩
      intro x E W hJ
      obtain ⟨rfl,hE,s⟩:=hJ
      refine ⟨_,hE.sub,?_⟩
      refine .region (.q z (.q z (.q z (.nil ?_))))
      cases h
      exact ⟨z,sb z,s.tk [0,0]⟩
     refine .exit ?_
     cases h
     exact ⟨by simp,z,sb z,s.tk [0,0]⟩
    intro x E W hJ
    obtain ⟨rfl,hE,s⟩:=hJ
    refine ⟨_,hE.sub,?_⟩
    cases h
    exact ⟨z,sb z,s.tk [1]⟩
   intro x E W hJ
   obtain ⟨rfl,hE,s⟩:=hJ
   refine ⟨_,hE.sub,?_⟩
   refine .region (.q z (.q z (.q z (.nil ?_))))
   cases h
   exact ⟨z,sb z,s.tk [0]⟩
  refine .exit ?_
  cases h
  exact ⟨by simp,z,sb z,s.tk [0]⟩
 intro x E W hJ
 obtain ⟨rfl,hE,s⟩:=hJ
 refine ⟨_,hE.sub,?_⟩
 cases h
 exact .g (.q z (.qn z (.ret (aa () (rt z rn) z (s.tk [0])))))
theorem rL {a0:List ab} {v_0:Hd} {w:World} {r:(List Bool)} (h:cH a0=some r) (q_0:RO w v_0 62 5 ah a0):CL 148 #[sv v_0] w (Ret No w (λs:Hd=>(sv s)) (λs=>[ac (sv s) 4 1 D.bool r])):=by
 unfold cH at h
 refine aw func148 z z ?_
 have s:=Sep.start w
 refine .g (.qn z (.seq (.g (.q z (bv h λy1 hy1 h=>.c (.cO s func57 (bg hy1 (s.keep q_0)) z z ?_))))))
 intro W s
 refine .qn z (.cond z (λb=>?_) (λb=>?_))
 ·have h:=aW b h
  refine .g (.c (.liv [] D.bool u102 t4 s z z z z ?_ z (λ_=>z)))
  intro v1 W s
  cases h
  exact .qn z (.ret (aa v1 (rt z rn) z (s.tk [0])))
 have h:=aX b h
 refine .skip (.g (.q z (.s (aD (s.keep q_0) u33 z z) z (bv h λr1 hr1 h=>.c (.mkv false D.bool hr1 u102 t4 s z z z z z (λ_=>z) ?_)))))
 intro v2 W s
 refine .qn z (.g (.q z (bv h λx1 hx1 h=>.s (ixv s.lv hx1 u102 t4 z z z) z (bv h λr2 hr2 h=>.c (.sev hr2 hx1 s t4 z z z z z z ?_)))))
 intro W s
 refine .nil (.seq (.block (bv h λy2 hy2 h=>?_)))
 refine .via (.iter (λs1 E' W'=>ao E' [(0,(sv v_0)),(3,(sv v2))]/\Sep No w W' [ac (sv v2) 4 1 D.bool s1]) (λy3 x E' W'=>x=.exit 0/\ao E' [(3,(sv v2))]/\Sep No w W' [ac (sv v2) 4 1 D.bool y3]) hy2 ⟨sb z,s.tk [0]⟩ ?_) ?_
 ·intro s1 y4 E W h hI
  obtain ⟨hE,s⟩:=hI
  refine CW.sub hE ?_
  unfold iG at h
  refine .seq (.g (.q z (.q z (bv h λy5 hy5 h=>.c (.cS (L0:=[ac (sv v2) 4 1 D.bool s1]) s func176 (λS h1 h2 h3=>(rK hy5 (s.ks q_0 h1) h2 (zz h1))) z z ?_)))))
  rintro ⟨⟩ W s
  refine .nil ?_
  refine .cs z h ?_ ?_ <;> intro h
  ·refine .skip (.block (.skip ?_))
   cases h
   exact ⟨z,sb z,s.tk [0]⟩
  refine .exit ?_
  cases h
  exact ⟨by simp,z,sb z,s.tk [0]⟩
 intro x E W hJ
 obtain ⟨rfl,hE,s⟩:=hJ
 refine ⟨_,hE.sub,?_⟩
 obtain rfl:=o9 h
 exact .g (.q z (.qn z (.ret (aa v2 (rt z rn) z (s.tk [0])))))
theorem tT {a0:ab} {a1:Int} {w:World} {r:Bool} (h:lj a0 a1=some r):CL 149 #[.agg #[vi a0.Op,vi a0.Dst,vi a0.A,vi a0.B,vi a0.N],vi a1] w (RU w (.bool r)):=by
 unfold lj at h
 refine aw func149 z z ?_
 have s:=Sep.start w
 refine .g (.c (.box s z z ?_))
 intro g1 W s
 refine .qn z (.seq (.g (.s (fa f62_0 z z z) z (.s (ld t3 s z z z z z) z (.nil (.block (bv h λy1 hy1 h=>?_)))))))
 refine .seq (CW.via (R':=λx E' W'=>x=.normal/\ao E' [(1,vi a1),(2,Pt g1),(6,vi a0.Op),(7,.bool y1)]/\Sep No w W' [.box g1 62 [vi a0.Op,vi a0.Dst,vi a0.A,vi a0.B,vi a0.N]]) ?_ ?_)
 ·have h:=hy1
  refine .g (.q z (.q z (.nil ?_)))
  refine .cs z h ?_ ?_ <;> intro h
  ·refine .skip ?_
   cases h
   exact ⟨z,sb z,s.tk [0]⟩
  refine .region (.q z (.q z (.nil ?_)))
  cases h
  exact ⟨z,sb z,s.tk [0]⟩
 intro x E W hJ
 obtain ⟨rfl,hE,s⟩:=hJ
 refine ⟨_,hE.sub,?_⟩
 refine .cs z h ?_ ?_ <;> intro h
 ·cases h
  exact .g (.s (fa f62_4 z z z) z (.s (ld t3 s z z z z z) z (.q z (.q z (.q z (.qn z (.ret (aa () (rt z rn) z (s.to [])))))))))
 refine .g (.q z (.q z (.nil ?_)))
 refine .cs z h ?_ ?_ <;> intro h
 ·cases h
  exact .g (.s (fa f62_1 z z z) z (.s (ld t3 s z z z z z) z (.s (fa f62_2 z z z) z (.s (ld t3 s z z z z z) z (.q z (.qn z (.ret (aa () (rt z rn) z (s.to [])))))))))
 obtain rfl:=o9 h
 exact .skip (.g (.qn z (.ret (aa () (rt z rn) z (s.to [])))))
theorem tc {a0:List Bool} {a1:Int} {v_0:Hd} {w:World} {r:Int} (h:j9 a0 a1=some r) (q_0:RO w v_0 4 1 D.bool a0):CL 150 #[sv v_0,vi a1] w (RU w (.int .i64 r)):=by
 unfold j9 at h
 refine aw func150 z z ?_
 have s:=Sep.start w
 refine .g (.qn z (.g (.qn z (.seq (.g (.qn z (.block (bv h λy1 hy1 h=>?_))))))))
 refine .via (.iter (λs1 E' W'=>ao E' [(0,(sv v_0)),(1,vi a1),(5,vi s1.1),(6,vi s1.2)]/\Sep No w W' []) (λy2 x E' W'=>x=.exit 0/\ao E' [(5,vi y2)]/\Sep No w W' []) hy1 ⟨sb z,s.to []⟩ ?_) ?_
 ·intro s1 y3 E W h hI
  obtain ⟨hE,s⟩:=hI
  refine CW.sub hE ?_
  unfold l7 at h
  refine .seq (.g (.q z (.q z (.q z (.nil ?_)))))
  refine .cs z h ?_ ?_ <;> intro h
  ·refine .skip (bv h λy4 hy4 h=>?_)
   refine .seq (CW.via (R':=λx E' W'=>x=.normal/\ao E' [(0,(sv v_0)),(1,vi a1),(5,vi y4),(6,vi s1.2)]/\Sep No w W' []) ?_ ?_)
   ·have h:=hy4
    refine .block (.g (.q z (.q z (bv h λx1 hx1 h=>.s (ixv (s.keep q_0) hx1 u102 t4 z z z) z (.s (lde (RV.flat (s.keep q_0) hx1 z) t4 z z z z z) z (.nil ?_))))))
    refine .cs z h ?_ ?_ <;> intro h
    ·refine .region (.q z (.q z (.q z (.nil ?_))))
     cases h
     exact ⟨z,sb z,s.to []⟩
    refine .skip ?_
    cases h
    exact ⟨z,sb z,s.to []⟩
   intro x E W hJ
   obtain ⟨rfl,hE,s⟩:=hJ
   refine ⟨_,hE.sub,?_⟩
   refine .region (.q z (.q z (.q z (.nil ?_))))
   cases h
   exact ⟨z,sb z,s.to []⟩
  refine .exit ?_
  cases h
  exact ⟨by simp,z,sb z,s.to []⟩
 intro x E W hJ
 obtain ⟨rfl,hE,s⟩:=hJ
 refine ⟨_,hE.sub,?_⟩
 obtain rfl:=o9 h
 exact .g (.q z (.qn z (.ret (aa () (rt z rn) z (s.to [])))))
theorem qb {a0:List ab} {v_0:Hd} {w:World} {r:(List ab)×Bool} (h:da a0=some r) (q_0:RO w v_0 62 5 ah a0):CL 123 #[sv v_0] w (Ret No w (λs:Hd=>.tuple #[sv s,.bool r.2]) (λs=>[ac (sv s) 62 5 ah r.1])):=by
 unfold da at h
 refine aw func123 z z ?_
 have s:=Sep.start w
 refine .g (.q z (.qn z (.g (.c (.liv [] ah u33 t62 s z z z z ?_ z (λ_=>z))))))
 intro v1 W s
 refine .qn z (.seq (.g (.q z (bv h λy1 hy1 h=>.c (.cO s func57 (bg hy1 (s.keep q_0)) z z ?_)))))
 intro W s
 refine .q z (.nil ?_)
 refine .cs z h ?_ ?_ <;> intro h
 ·cases h
  exact .g (.q z (.q z (.qn z (.ret (aa (vs:=[_,_]) v1 (rt z (rt z rn)) z (s.tk [0]))))))
 refine .skip (.g (.q z (bv h λy2 hy2 h=>.c (.cV s func148 (rL hy2 (s.keep q_0)) z z ?_))))
 intro v2 W s
 refine .qn z (.seq (.g (.qn z (.block (bv h λy3 hy3 h=>?_)))))
 refine .via (.iter (λs1 E' W'=>ao E' [(0,(sv v_0)),(4,(sv v1)),(5,(sv v2)),(6,vi s1.1)]/\Sep No w W' [ac (sv v2) 4 1 D.bool s1.2,ac (sv v1) 62 5 ah []]) (λy4 x E' W'=>x=.exit 0/\ao E' [(0,(sv v_0)),(4,(sv v1)),(5,(sv v2))]/\Sep No w W' [ac (sv v2) 4 1 D.bool y4,ac (sv v1) 62 5 ah []]) hy3 ⟨sb z,s.tk [0,0]⟩ ?_) ?_
 ·intro s1 y5 E W h hI
  obtain ⟨hE,s⟩:=hI
  refine CW.sub hE ?_
  unfold dK at h
  refine .seq (.g (.q z (.q z (.s (aD (s.keep q_0) u33 z z) z (.q z (.nil ?_))))))
  refine .cs z h ?_ ?_ <;> intro h
  ·refine .skip (.seq (.block (.region (.q z (.q z (.q z (.q z (bv h λx1 hx1 h=>.s (ixv s.lv hx1 u102 t4 z z z) z (.s (lde (RV.flat s.lv hx1 z) t4 z z z z z) z (.q z (bv h λb1 hb1 h=>.cu 8 36 (b1) s ?_ ?_)))))))))))
   ·refine .both (x1) (λb=>?_) (λb=>?_)
    ·have hg1:=b
     have h:=aW b hb1
     refine .g hg1 (.q z (.g hg1 (.q z (bv h λx2 hx2 h=>.g hg1 (.s (ixv (s.keep q_0) hx2 u33 t62 z z z) z (.g hg1 (.s (lde (RV.flat (s.keep q_0) hx2 z) t62 z z z z z) z (.g hg1 (.q z (bv h λy6 hy6 h=>.g hg1 (.c (.cO s func149 (tT hy6) z z ?_))))))))))))
     intro W s
     refine .g hg1 (.q z (.s (pkt hg1 z z z) z ?_))
     cases h
     exact .nil (ck 8 s)
    refine .xx b z (.xx b z (.xx b z (.xx b z (.xx b z (.xx b z (.xx b z ?_))))))
    cases aX b hb1
    exact .s (pkf b z z z) z (.nil (ck 8 s))
   intro W s
   refine bv h λx3 hx3 h=>.s (ixv s.lv hx3 u102 t4 z z z) z (bv h λr1 hr1 h=>.c (.sev hr1 hx3 s t4 z z z z z z ?_))
   intro W s
   refine .nil (.region (.q z (.q z (.q z (.nil ?_)))))
   cases h
   exact ⟨z,sb z,s.tk [0,0]⟩
  refine .exit ?_
  cases h
  exact ⟨by simp,z,sb z,s.tk [0,0]⟩
 intro x E W hJ
 obtain ⟨rfl,hE,s⟩:=hJ
 refine ⟨_,hE.sub,?_⟩
 refine .seq (.g (.qn z (.block (bv h λy7 hy7 h=>?_))))
 refine .via (.iter (λs2 E' W'=>∃ (v5:Hd),ao E' [(0,(sv v_0)),(4,(sv v5)),(5,(sv v2)),(7,vi s2.2)]/\Sep No w W' [ac (sv v2) 4 1 D.bool y3,ac (sv v5) 62 5 ah s2.1]) (λy8 x E' W'=>x=.exit 2/\∃ (v6:Hd),ao E' [(4,(sv v6))]/\Sep No w W' [ac (sv v2) 4 1 D.bool y3,ac (sv v6) 62 5 ah y8]) hy7 ⟨v1,sb z,s.tk [0,0]⟩ ?_) ?_
 ·intro s2 y9 E W h hI
  obtain ⟨v4,hE,s⟩:=hI
  refine CW.sub hE ?_
  unfold dL at h
  refine .seq (.g (.q z (.q z (.s (aD (s.keep q_0) u33 z z) z (.q z (.nil ?_))))))
  refine .cs z h ?_ ?_ <;> intro h
  ·refine .skip (bv h λy10 hy10 h=>?_)
   refine .seq (CW.via (R':=λx E' W'=>x=.normal/\∃ (v7:Hd),ao E' [(0,(sv v_0)),(4,(sv v7)),(5,(sv v2)),(7,vi s2.2)]/\Sep No w W' [ac (sv v2) 4 1 D.bool y3,ac (sv v7) 62 5 ah y10]) ?_ ?_)
   ·have h:=hy10
    refine .block (.g (.q z (.q z (bv h λx4 hx4 h=>.s (ixv (s.keep q_0) hx4 u33 t62 z z z) z (.s (lde (RV.flat (s.keep q_0) hx4 z) t62 z z z z z) z (.c (.alloc t62 s ?_)))))))
    intro g1 W s
    refine .c (.st t62 s z z z ?_)
    intro W s
    refine .nil (.seq (.g (.q z (.q z (bv h λx5 hx5 h=>.s (ixv s.p1.lv hx5 u102 t4 z z z) z (.s (lde (RV.flat s.p1.lv hx5 z) t4 z z z z z) z (.q z (.nil ?_))))))))
    refine .cs z h ?_ ?_ <;> intro h
    ·refine .exit ?_
     cases h
     exact ⟨z,v4,sb z,s.tk [1,1]⟩
    refine .skip (bv h λy11 hy11 h=>?_)
    refine .seq (CW.via (R':=λx E' W'=>x=.normal/\ao E' [(0,(sv v_0)),(4,(sv v4)),(5,(sv v2)),(7,vi s2.2),(8,Pt g1)]/\Sep No w W' [.box g1 62 [vi y11.Op,vi y11.Dst,vi y11.A,vi y11.B,vi y11.N],ac (sv v2) 4 1 D.bool y3,ac (sv v4) 62 5 ah s2.1]) ?_ ?_)
    ·have h:=hy11
     refine .g (.s (fa f62_0 z z z) z (.s (ld t3 s z z z z z) z (.q z (.q z (.cu 4 60 ((x4.Op==4)||(x4.Op==5)) s ?_ ?_)))))
     ·refine .both (x4.Op==4) (λb=>?_) (λb=>?_)
      ·exact .xx b z (.xx b z (.xx b z (.s (pkt b z z z) z (.nil (ck 4 s z (kK b))))))
      have hg2:=b
      exact .g hg2 (.s (fa f62_0 z z z) z (.g hg2 (.s (ld t3 s z z z z z) z (.g hg2 (.q z (.s (pkf hg2 z z z) z (.nil (ck 4 s z (jT hg2)))))))))
     intro W s
     refine .nil ?_
     refine .cs z h ?_ ?_ <;> intro h
     ·refine .region (.q z (.s (fa f62_4 z z z) z (.s (ld t3 s z z z z z) z (bv h λy12 hy12 h=>.c (.cO s func150 (tc hy12 s.p1.lv) z z ?_)))))
      intro W s
      refine .s (fa f62_4 z z z) z (.c (.st t3 s z z z ?_))
      intro W s
      refine .nil ?_
      cases h
      exact ⟨z,sb z,s.tk [0,0,0]⟩
     refine .skip ?_
     obtain rfl:=o9 h
     exact ⟨z,sb z,s.tk [0,0,0]⟩
    intro x E W hJ
    obtain ⟨rfl,hE,s⟩:=hJ
    refine ⟨_,hE.sub,?_⟩
    refine .region (.q z (.s (ld t62 s z z z z z) z (.c (.liv [y11] ah u33 t62 s z z z z ?_ z (λ_=>z)))))
    intro v8 W s
    refine bv h λr2 hr2 h=>?_
    have hT0:=s.p3
    refine .c (.av hr2 hT0 hT0.p1.lv (λ_=>z) u33 t62 z z z ?_)
    intro v9 W s
    refine .q z (.nil ?_)
    obtain rfl:=o9 h
    exact ⟨z,v9,sb z,s.tk [3,0]⟩
   intro x E W hJ
   obtain ⟨rfl,v10,hE,s⟩:=hJ
   refine ⟨_,hE.sub,?_⟩
   refine .region (.q z (.q z (.q z (.nil ?_))))
   cases h
   exact ⟨z,v10,sb z,s.tk [0,0]⟩
  refine .exit ?_
  cases h
  exact ⟨by simp,z,v4,sb z,s.tk [0,0]⟩
 intro x E W hJ
 obtain ⟨rfl,v11,hE,s⟩:=hJ
 refine ⟨_,hE.sub,?_⟩
 cases h
 exact .g (.q z (.q z (.qn z (.ret (aa (vs:=[_,_]) v11 (rt z (rt z rn)) z (s.tk [1]))))))
theorem tU {a0:List ab} {v_0:Hd} {w:World} {r:(List ab)} (h:mP a0=some r) (q_0:RO w v_0 62 5 ah a0):CL 88 #[sv v_0] w (Ret No w (λs:Hd=>(sv s)) (λs=>[ac (sv s) 62 5 ah r])):=by
 unfold mP at h
 refine aw func88 z z ?_
 have s:=Sep.start w
 refine .g (.qn z (.g (.q z (bv h λy1 hy1 h=>.c (.cV s func119 (sV hy1 (s.keep q_0)) z z ?_)))))
 intro v1 W s
 refine .q z (.q z (.q z (.q z (.qn z (.g (.q z (bv h λy2 hy2 h=>.c (.cV s func120 (s5 hy2 s.lv) z z ?_))))))))
 intro v2 W s
 refine .q z (.q z (.q z (.q z (.qn z (.g (.q z (bv h λy3 hy3 h=>.c (.cV s func121 (s7 hy3 s.lv) z z ?_))))))))
 intro v3 W s
 refine .q z (.q z (.q z (.q z (.qn z (.g (.q z (bv h λy4 hy4 h=>.c (.cV s func122 (ta hy4 s.lv) z z ?_))))))))
 intro v4 W s
 refine .q z (.q z (.q z (.q z (.qn z (.g (.q z (bv h λy5 hy5 h=>.c (.cV s func123 (qb hy5 s.lv) z z ?_))))))))
 intro v5 W s
 cases h
 exact .q z (.q z (.q z (.q z (.qn z (.g (.q z (.qn z (.ret (aa v5 (rt z rn) z (s.tk [0]))))))))))
theorem pt {a0:List ab} {a1:Int} {v_0:Hd} {w:World} {r:(List ab)×Bool} (h:bT a0 a1=some r) (q_0:RO w v_0 62 5 ah a0):CL 56 #[sv v_0,vi a1] w (Ret No w (λs:Hd=>.tuple #[sv s,.bool r.2]) (λs=>[ac (sv s) 62 5 ah r.1])):=by
 unfold bT at h
 refine aw func56 z z ?_
 have s:=Sep.start w
 refine .g (.q z (.qn z (.seq (.g (.q z (bv h λy1 hy1 h=>.c (.cO s func57 (bg hy1 (s.keep q_0)) z z ?_)))))))
 intro W s
 refine .q z (.q z (bv h λb1 hb1 h=>.cu 4 15 (b1) s ?_ ?_))
 ·refine .both (!y1) (λb=>?_) (λb=>?_)
  ·refine .xx b z (.xx b z (.xx b z ?_))
   cases aW b hb1
   exact .s (pkt b z z z) z (.nil (ck 4 s))
  have hg1:=b
  have h:=aX b hb1
  refine .g hg1 (.q z (bv h λy2 hy2 h=>.g hg1 (.c (.cO s func55 (bJ hy2) z z ?_))))
  intro W s
  refine .g hg1 (.q z (.s (pkf hg1 z z z) z ?_))
  cases h
  exact .nil (ck 4 s)
 intro W s
 refine .nil ?_
 refine .cs z h ?_ ?_ <;> intro h
 ·refine .g (.c (.liv [] ah u33 t62 s z z z z ?_ z (λ_=>z)))
  intro v1 W s
  cases h
  exact .q z (.qn z (.ret (aa (vs:=[_,_]) v1 (rt z (rt z rn)) z (s.tk [0]))))
 refine .skip (.g (.c (.liv [] ah u33 t62 s z z z z ?_ z (λ_=>z))))
 intro v2 W s
 refine .q z (bv h λr1 hr1 h=>.c (.av hr1 s (s.keep q_0) (λ_=>z) u33 t62 z z z ?_))
 intro v3 W s
 refine .qn z (.seq (.g (.qn z (.block (bv h λy3 hy3 h=>?_)))))
 refine .via (.iter (λs1 E' W'=>∃ (v6:Hd),ao E' [(1,vi a1),(6,(sv v6)),(7,vi s1.2)]/\Sep No w W' [ac (sv v6) 62 5 ah s1.1]) (λy4 x E' W'=>x=.exit 0/\∃ (v7:Hd),ao E' [(6,(sv v7))]/\Sep No w W' [ac (sv v7) 62 5 ah y4]) hy3 ⟨v3,sb z,s.tk [0]⟩ ?_) ?_
 ·intro s1 y5 E W h hI
  obtain ⟨v5,hE,s⟩:=hI
  refine CW.sub hE ?_
  unfold bw at h
  refine .seq (.g (.q z (.q z (.q z (.nil ?_)))))
  refine .cs z h ?_ ?_ <;> intro h
  ·refine .skip (.seq (.block (.region (.q z (bv h λy6 hy6 h=>.c (.cV s func88 (tU hy6 s.lv) z z ?_))))))
   intro v8 W s
   refine .qn z (.region (.q z (.q z (.q z (.nil ?_)))))
   cases h
   exact ⟨z,v8,sb z,s.tk [0]⟩
  refine .exit ?_
  cases h
  exact ⟨by simp,z,v5,sb z,s.tk [0]⟩
 intro x E W hJ
 obtain ⟨rfl,v9,hE,s⟩:=hJ
 refine ⟨_,hE.sub,?_⟩
 cases h
 exact .g (.q z (.q z (.qn z (.ret (aa (vs:=[_,_]) v9 (rt z (rt z rn)) z (s.tk [0]))))))
def qR (w:World) (r:(List (List ab))×Bool):Env->World->Prop:=Fin Tryz.prog Tryz.f27 No w (λs:Hd=>.tuple #[sv s,.bool r.2]) (λs=>[ac (sv s) 33 1 (λ(l:List ab)=>D.row 62 5 (l.map ah)) r.1]) .ret
theorem qc {a0:List (List ab)} {a1:Int} {v_0:Hd} {w:World} {r:(List (List ab))×Bool} (h:db a0 a1=some r) (q_0:RO w v_0 33 1 (λ(l:List ab)=>D.row 62 5 (l.map ah)) a0):CL 27 #[sv v_0,vi a1] w (Ret No w (λs:Hd=>.tuple #[sv s,.bool r.2]) (λs=>[ac (sv s) 33 1 (λ(l:List ab)=>D.row 62 5 (l.map ah)) r.1])):=by
 unfold db at h
 refine aw func27 z z ?_
 have s:=Sep.start w
 refine .g (.q z (.qn z (.g (.c (.lg (L1:=[]) [] (λ(l:List ab)=>D.row 62 5 (l.map ah)) u29 t33 (s.to []) z z z (.nil) ?_ z (λ_=>z))))))
 intro v1 W s
 refine .qn z (.seq (.g (.q z (.s (aD (s.keep q_0) u29 z z) z (bv h λy1 hy1 h=>.c (.cO s func55 (bJ hy1) z z ?_))))))
 intro W s
 refine .q z (.nil ?_)
 refine .cs z h ?_ ?_ <;> intro h
 ·cases h
  exact .g (.q z (.q z (.qn z (.ret (aa (vs:=[_,_]) v1 (rt z (rt z rn)) z (s.tk [0]))))))
 refine .skip (.seq (.g (.qn z (.block (bv h λy2 hy2 h=>?_)))))
 refine .via (.iter (λs1 E' W'=>∃ (v4:Hd),ao E' [(0,(sv v_0)),(1,vi a1),(6,(sv v4)),(7,vi s1.2)]/\Sep No w W' [ac (sv v4) 33 1 (λ(l:List ab)=>D.row 62 5 (l.map ah)) s1.1]) (λy3 x E' W'=>(match y3 with | .inl o1=>x=.ret/\qR w o1 E' W' | .inr o2=>x=.exit 0/\∃ (v5:Hd),ao E' [(6,(sv v5))]/\Sep No w W' [ac (sv v5) 33 1 (λ(l:List ab)=>D.row 62 5 (l.map ah)) o2])) hy2 ⟨v1,sb rfl,s.tk [0]⟩ ?_) ?_
 ·intro s1 y4 E W h hI
  obtain ⟨v3,hE,s⟩:=hI
  refine CW.sub hE ?_
  unfold cP at h
  refine .seq (.g (.q z (.q z (.s (aD (s.keep q_0) u29 z z) z (.q z (.nil ?_))))))
  refine .cs z h ?_ ?_ <;> intro h
  ·refine .skip (.seq (.block (.g (.q z (.q z (bv h λx1 hx1 h=>?_))))))
   obtain ⟨k1,hd,hck1⟩:=RV.el2 q_0 hx1
   obtain ⟨v6,k1,rfl,q5,hd1⟩:=bf q_0 hd
   obtain rfl:=gc q_0 hd1
   refine .s (ixv (s.keep q_0) hx1 u29 t33 z z z) z (.s (lde (hck1 _ s.agree) t33 z z z z z) z (.q z (bv h λy5 hy5 h=>.c (.cV s func56 (pt hy5 (s.keep (q5 _ q_0))) z z ?_))))
   intro v7 W s
   refine .q z (.q z (.q z (.q z (.qn z (.seq (.g (.q z (.q z (.nil ?_)))))))))
   refine .cs z h ?_ ?_ <;> intro h
   ·refine .g (.c (.lg (L1:=[]) [] (λ(l:List ab)=>D.row 62 5 (l.map ah)) u29 t33 (s.to [0,0]) z z z (.nil) ?_ z (λ_=>z)))
    intro v8 W s
    refine .q z (.qn z (.ret ?_))
    cases h
    exact ⟨by simp,z,aa (vs:=[_,_]) v8 (rt z (rt z rn)) z (s.tk [0])⟩
   refine .skip (.region (.q z (.q z (.c (.lg (L1:=[ac (sv v7) 62 5 ah y5.1]) [y5.1] (λ(l:List ab)=>D.row 62 5 (l.map ah)) u29 t33 (s.to [0,0]) z z z (.row (.nil)) ?_ z (λ_=>z))))))
   intro v9 W s
   refine bv h λr1 hr1 h=>.c (.appv hr1 (s.to [1,0]) u29 t33 z z z ?_)
   intro v10 W s
   refine .qn z (.region (.q z (.q z (.q z (.nil ?_)))))
   cases h
   exact ⟨z,v10,sb z,s.tk [0]⟩
  refine .exit ?_
  cases h
  exact ⟨by simp,z,v3,sb z,s.tk [0]⟩
 intro x E W hJ
 rcases y2 with o3 | o4
 ·have h:=bQ h
  obtain ⟨rfl,hF⟩:=hJ
  refine ⟨_,λ_ _ h=>h,?_⟩
  cases h
  exact hF
 have h:=bR h
 obtain ⟨rfl,v11,hE,s⟩:=hJ
 refine ⟨_,hE.sub,?_⟩
 cases h
 exact .g (.q z (.q z (.qn z (.ret (aa (vs:=[_,_]) v11 (rt z (rt z rn)) z (s.tk [0]))))))
theorem tf {a0:List ab} {v_0:Hd} {w:World} {r:(List (List Bool))} (h:kc a0=some r) (q_0:RO w v_0 62 5 ah a0):CL 90 #[sv v_0] w (Ret No w (λs:Hd=>(sv s)) (λs=>[ac (sv s) 102 1 (λ(l:List Bool)=>D.row 4 1 (l.map D.bool)) r])):=by
 unfold kc at h
 refine aw func90 z z ?_
 have s:=Sep.start w
 refine .g (.qn z (.g (.q z (bv h λy1 hy1 h=>.c (.cV s func127 (pp hy1 (s.keep q_0)) z z ?_)))))
 intro v1 W s
 refine .qn z (.g (.c (.lg (L1:=[]) [] (λ(l:List Bool)=>D.row 4 1 (l.map D.bool)) u119 t102 (s.to [0]) z z z (.nil) ?_ z (λ_=>z))))
 intro v2 W s
 refine .qn z (.seq (.g (.qn z (.block (bv h λy2 hy2 h=>?_)))))
 refine .via (.iter (λs1 E' W'=>∃ (v5:Hd),ao E' [(0,(sv v_0)),(3,(sv v1)),(4,(sv v5)),(5,vi s1.2)]/\Sep No w W' [ac (sv v1) 102 1 (λ(l:List Bool)=>D.row 4 1 (l.map D.bool)) y1,ac (sv v5) 102 1 (λ(l:List Bool)=>D.row 4 1 (l.map D.bool)) s1.1]) (λy3 x E' W'=>x=.exit 0/\∃ (v6:Hd),ao E' [(4,(sv v6))]/\Sep No w W' [ac (sv v1) 102 1 (λ(l:List Bool)=>D.row 4 1 (l.map D.bool)) y1,ac (sv v6) 102 1 (λ(l:List Bool)=>D.row 4 1 (l.map D.bool)) y3]) hy2 ⟨v2,sb z,s.tk [1,0]⟩ ?_) ?_
 ·intro s1 y4 E W h hI
  obtain ⟨v4,hE,s⟩:=hI
  refine CW.sub hE ?_
  unfold l8 at h
  refine .seq (.g (.q z (.q z (.s (aD (s.keep q_0) u33 z z) z (.q z (.nil ?_))))))
  refine .cs z h ?_ ?_ <;> intro h
  ·refine .skip (.seq (.block (.region (.q z (.q z (.q z (.q z (bv h λy5 hy5 h=>.c (.cV s func128 (mc hy5 (s.keep q_0) s.lv) z z ?_)))))))))
   intro v7 W s
   refine .c (.lg (L1:=[ac (sv v7) 4 1 D.bool y5]) [y5] (λ(l:List Bool)=>D.row 4 1 (l.map D.bool)) u119 t102 (s.to [0,0,0]) z z z (.row (.nil)) ?_ z (λ_=>z))
   intro v8 W s
   refine bv h λr1 hr1 h=>.c (.appv hr1 (s.to [2,0,0]) u119 t102 z z z ?_)
   intro v9 W s
   refine .qn z (.region (.q z (.q z (.q z (.nil ?_)))))
   cases h
   exact ⟨z,v9,sb z,s.tk [1,0]⟩
  refine .exit ?_
  cases h
  exact ⟨by simp,z,v4,sb z,s.tk [0,0]⟩
 intro x E W hJ
 obtain ⟨rfl,v10,hE,s⟩:=hJ
 refine ⟨_,hE.sub,?_⟩
 obtain rfl:=o9 h
 exact .g (.q z (.qn z (.ret (aa v10 (rt z rn) z (s.tk [1])))))
theorem nV {a0:ab} {a1:List Bool} {a2:Int} {a3:Int} {v_1:Hd} {w:World} {r:Bool} (h:iu a0 a1 a2 a3=some r) (q_1:RO w v_1 4 1 D.bool a1):CL 154 #[.agg #[vi a0.Op,vi a0.Dst,vi a0.A,vi a0.B,vi a0.N],sv v_1,vi a2,vi a3] w (RU w (.bool r)):=by
 unfold iu at h
 refine aw func154 z z ?_
 have s:=Sep.start w
 refine .g (.c (.box s z z ?_))
 intro g1 W s
 refine .qn z (.seq (.g (.s (ld t62 s z z z z z) z (bv h λy1 hy1 h=>.c (.cO s func92 (gO hy1) z z ?_)))))
 intro W s
 refine .q z (.q z (.q z (bv h λb1 hb1 h=>.cu 6 19 (b1) s ?_ ?_)))
 ·refine .both (y1 !=a2) (λb=>?_) (λb=>?_)
  ·refine .xx b z (.xx b z (.xx b z (.xx b z (.xx b z ?_))))
   cases aW b hb1
   exact .s (pkt b z z z) z (.nil (ck 6 s))
  have hg1:=b
  have h:=aX b hb1
  refine .g hg1 (.q z (.g hg1 (.q z (bv h λx1 hx1 h=>.g hg1 (.s (ixv (s.keep q_1) hx1 u102 t4 z z z) z (.g hg1 (.s (lde (RV.flat (s.keep q_1) hx1 z) t4 z z z z z) z (.g hg1 (.q z (.s (pkf hg1 z z z) z ?_))))))))))
  cases h
  exact .nil (ck 6 s)
 intro W s
 refine .nil ?_
 refine .cs z h ?_ ?_ <;> intro h
 ·obtain rfl:=o9 h
  exact .g (.qn z (.ret (aa () (rt z rn) z (s.to []))))
 refine .skip (.g (.s (fa f62_0 z z z) z (.s (ld t3 s z z z z z) z (.q z (.q z (.cu 5 28 ((a0.Op !=2)||(a0.A !=a3)) s ?_ ?_))))))
 ·refine .both (a0.Op !=2) (λb=>?_) (λb=>?_)
  ·exact .xx b z (.xx b z (.xx b z (.xx b z (.s (pkt b z z z) z (.nil (ck 5 s z (kK b)))))))
  have hg2:=b
  exact .g hg2 (.s (fa f62_2 z z z) z (.g hg2 (.s (ld t3 s z z z z z) z (.g hg2 (.q z (.g hg2 (.q z (.s (pkf hg2 z z z) z (.nil (ck 5 s z (jT hg2)))))))))))
 intro W s
 cases h
 exact .qn z (.ret (aa () (rt z rn) z (s.to [])))
def vm (w:World) (r:Bool):Env->World->Prop:=Fin Tryz.prog Tryz.f129 No w (λs:Unit=>.bool r) (λs=>[]) .ret
theorem tV {a0:List ab} {a1:List (List Bool)} {a2:Int} {a3:Int} {v_0:Hd} {v_1:Hd} {w:World} {r:Bool} (h:lk a0 a1 a2 a3=some r) (q_0:RO w v_0 62 5 ah a0) (q_1:RO w v_1 102 1 (λ(l:List Bool)=>D.row 4 1 (l.map D.bool)) a1):CL 129 #[sv v_0,sv v_1,vi a2,vi a3] w (RU w (.bool r)):=by
 unfold lk at h
 refine aw func129 z z ?_
 have s:=Sep.start w
 refine .g (.qn z (.seq (.g (.q z (.q z (.q z (.nil ?_)))))))
 refine .cs z h ?_ ?_ <;> intro h
 ·obtain rfl:=o9 h
  exact .g (.qn z (.ret (aa () (rt z rn) z (s.to []))))
 refine .skip (.seq (.g (.qn z (.block (bv h λy1 hy1 h=>?_)))))
 refine .via (.iter (λs1 E' W'=>ao E' [(0,(sv v_0)),(1,(sv v_1)),(2,vi a2),(3,vi a3),(9,vi s1)]/\Sep No w W' []) (λy2 x E' W'=>(match y2 with | .inl o1=>x=.ret/\vm w o1 E' W' | .inr o2=>x=.exit 0/\ao E' []/\Sep No w W' [])) hy1 ⟨sb rfl,s.to [] rfl⟩ ?_) ?_
 ·intro s1 y3 E W h hI
  obtain ⟨hE,s⟩:=hI
  refine CW.sub hE ?_
  unfold mB at h
  refine .seq (.g (.q z (.q z (.s (aD (s.keep q_0) u33 z z) z (.q z (.nil ?_))))))
  refine .cs z h ?_ ?_ <;> intro h
  ·refine .skip (.seq (.block (.seq (bv h λx1 hx1 h=>bv h λx2 hx2 h=>bv h λy4 hy4 h=>bv h λb1 hb1 h=>?_))))
   refine .via (R':=λx E' W'=>x=.normal/\ao E' [(0,(sv v_0)),(1,(sv v_1)),(2,vi a2),(3,vi a3),(9,vi s1),(42,.bool b1)]/\Sep No w W' []) ?_ ?_
   ·refine .rk 24 s [] T.mix ?_
    intro W s
    have t:=s.to []
    refine .tp' 0 z z t (.tp' 1 z z t (.ts' 2 z (λW t=>ixv (s.keep q_0) hx1 u33 t62 z z z) t z (.ts' 3 z (λW t=>lde (RV.flat (t.keep q_0) hx1 z) t62 z z z z z) t z (.tp' 4 z z t (.tp' 5 z z t ?_)))))
    obtain ⟨k1,hd,hck1⟩:=RV.el2 q_1 hx2
    obtain ⟨v1,k1,rfl,q1,hd1⟩:=bf q_1 hd
    obtain rfl:=gc q_1 hd1
    refine .ts' 6 z (λW t=>ixv (s.keep q_1) hx2 u119 t102 z z z) t z (.ts' 7 z (λW t=>lde (hck1 _ t.agree) t102 z z z z z) t z (.tp' 8 z z t (.tp' 9 z z t (.by1 10 z (.cO s func154 (nV hy4 (s.keep (q1 _ q_1))) z z ?_)))))
    intro W s
    refine s.an [] λt=>.tp' 11 z z t (.both (y4) (λb=>?_) (λb=>?_))
    ·exact .off 12 z b t (.off 13 z b t (.off 14 z b t (.off 15 z b t (.off 16 z b t (.off 17 z b t (.off 18 z b t (.off 19 z b t (.off 20 z b t (.off 21 z b t (.off 22 z b t (.ts' 23 z (λW t=>pkt b z z z) t z (.eqv 42 z (me (aW b hb1)) (.done (⟨z,sb z,s.to []⟩)))) (by kernel_rfl) z z) (by kernel_rfl) z z) (by kernel_rfl) z z) (by kernel_rfl) z z) (by kernel_rfl) z z) (by kernel_rfl) z z) (by kernel_rfl) z z) (by kernel_rfl) z z) (by kernel_rfl) z z) (by kernel_rfl) z z) (by kernel_rfl) z z
    have hg1:=b
    have h_b1:=aX b hb1
    refine .t1g 12 z hg1 (λW t=>pr z) t (.t1g 13 z hg1 (λW t=>pr z) t (bv h_b1 λx3 hx3 h_b1=>.t1g 14 z hg1 (λW t=>ixv (s.keep q_0) hx3 u33 t62 z z z) t (.t1g 15 z hg1 (λW t=>lde (RV.flat (t.keep q_0) hx3 z) t62 z z z z z) t (.t1g 16 z hg1 (λW t=>pr z) t (.t1g 17 z hg1 (λW t=>pr z) t (bv h_b1 λx4 hx4 h_b1=>?_) (by kernel_rfl) z z) (by kernel_rfl) z z) (by kernel_rfl) z z) (by kernel_rfl) z z) (by kernel_rfl) z z) (by kernel_rfl) z z
    obtain ⟨k2,hd,hck2⟩:=RV.el2 q_1 hx4
    obtain ⟨v2,k2,rfl,q2,hd1⟩:=bf q_1 hd
    obtain rfl:=gc q_1 hd1
    refine .t1g 18 z hg1 (λW t=>ixv (s.keep q_1) hx4 u119 t102 z z z) t (.t1g 19 z hg1 (λW t=>lde (hck2 _ t.agree) t102 z z z z z) t (.t1g 20 z hg1 (λW t=>pr z) t (.t1g 21 z hg1 (λW t=>pr z) t (bv h_b1 λy5 hy5 h_b1=>.by1 22 z (.gd hg1 (.cO s func154 (nV hy5 (s.keep (q2 _ q_1))) z z ?_))) (by kernel_rfl) z z) (by kernel_rfl) z z) (by kernel_rfl) z z) (by kernel_rfl) z z
    intro W s
    refine s.an [] λt=>?_
    exact .ts' 23 z (λW t=>pkf hg1 z z z) t z (.eqv 42 z (me h_b1) (.done (⟨z,sb z,s.to []⟩)))
   intro x E W hJ
   obtain ⟨rfl,hE,s⟩:=hJ
   refine ⟨_,hE.sub,?_⟩
   refine .cs z h ?_ ?_ <;> intro h
   ·refine .g (.qn z (.ret ?_))
    cases h
    exact ⟨by simp,z,aa (vs:=[_]) () (rt z rn) z (s.to [])⟩
   refine .skip (.region (.q z (.q z (.q z (.nil ?_)))))
   cases h
   exact ⟨z,sb z,s.to []⟩
  refine .exit ?_
  cases h
  exact ⟨by simp,z,sb z,s.to []⟩
 intro x E W hJ
 rcases y1 with o3 | o4
 ·have h:=bQ h
  obtain ⟨rfl,hF⟩:=hJ
  refine ⟨_,λ_ _ h=>h,?_⟩
  cases h
  exact hF
 have h:=bR h
 obtain ⟨rfl,hE,s⟩:=hJ
 refine ⟨_,hE.sub,?_⟩
 obtain rfl:=o9 h
 exact .g (.qn z (.ret (aa () (rt z rn) z (s.to []))))
def tW (w:World) (r:Int):Env->World->Prop:=Fin Tryz.prog Tryz.f91 No w (λs:Unit=>.int .i64 r) (λs=>[]) .ret
theorem tg {a0:List ab} {a1:List (List Bool)} {a2:List Int} {v_0:Hd} {v_1:Hd} {v_2:Hd} {w:World} {r:Int} (h:ke a0 a1 a2=some r) (q_0:RO w v_0 62 5 ah a0) (q_1:RO w v_1 102 1 (λ(l:List Bool)=>D.row 4 1 (l.map D.bool)) a1) (q_2:RO w v_2 3 1 (D.int .i64) a2):CL 91 #[sv v_0,sv v_1,sv v_2] w (RU w (.int .i64 r)):=by
 unfold ke at h
 refine aw func91 z z ?_
 have s:=Sep.start w
 refine .g (.qn z (.g (.q z (.s (aD (s.keep q_2) u23 z z) z (.qn z (.seq (.g (.qn z (.block (bv h λy1 hy1 h=>?_))))))))))
 refine .via (.iter (λs1 E' W'=>ao E' [(0,(sv v_0)),(1,(sv v_1)),(2,(sv v_2)),(7,vi (a2.length:Int)),(8,vi s1)]/\Sep No w W' []) (λy2 x E' W'=>(match y2 with | .inl o1=>x=.ret/\tW w o1 E' W' | .inr o2=>x=.exit 0/\ao E' [(7,vi (a2.length:Int))]/\Sep No w W' [])) hy1 ⟨sb rfl,s.to [] rfl⟩ ?_) ?_
 ·intro s1 y3 E W h hI
  obtain ⟨hE,s⟩:=hI
  refine CW.sub hE ?_
  unfold l9 at h
  refine .seq (.g (.q z (.q z (.q z (.nil ?_)))))
  refine .cs z h ?_ ?_ <;> intro h
  ·refine .skip (.seq (.block (.g (.qn z (.seq (.g (.qn z (.block (bv h λy4 hy4 h=>?_)))))))))
   refine .via (.iter (λs2 E' W'=>ao E' [(0,(sv v_0)),(1,(sv v_1)),(2,(sv v_2)),(7,vi (a2.length:Int)),(8,vi s1),(9,.bool s2.1),(10,vi s2.2)]/\Sep No w W' []) (λy5 x E' W'=>x=.exit 2/\ao E' [(0,(sv v_0)),(1,(sv v_1)),(2,(sv v_2)),(7,vi (a2.length:Int)),(8,vi s1),(9,.bool y5)]/\Sep No w W' []) hy4 ⟨sb z,s.to []⟩ ?_) ?_
   ·intro s2 y6 E W h hI
    obtain ⟨hE,s⟩:=hI
    refine CW.sub hE ?_
    unfold jI at h
    refine .seq (.g (.q z (.q z (.q z (.nil ?_)))))
    refine .cs z h ?_ ?_ <;> intro h
    ·refine .skip (bv h λy7 hy7 h=>?_)
     refine .seq (CW.via (R':=λx E' W'=>x=.normal/\ao E' [(0,(sv v_0)),(1,(sv v_1)),(2,(sv v_2)),(7,vi (a2.length:Int)),(8,vi s1),(9,.bool y7),(10,vi s2.2)]/\Sep No w W' []) ?_ ?_)
     ·have h:=hy7
      refine .block (.g (.q z (.q z (bv h λx1 hx1 h=>.s (ixv (s.keep q_2) hx1 u23 t3 z z z) z (.s (lde (RV.flat (s.keep q_2) hx1 z) t3 z z z z z) z (.q z (.q z (.q z (bv h λb1 hb1 h=>.cu 6 35 (b1) s ?_ ?_)))))))))
      ·refine .both (x1==s1) (λb=>?_) (λb=>?_)
       ·have hg1:=b
        have h:=aW b hb1
        refine .g hg1 (.q z (.g hg1 (.q z (.g hg1 (.q z (.g hg1 (.q z (bv h λy8 hy8 h=>.g hg1 (.c (.cO s func129 (tV hy8 (s.keep q_0) (s.keep q_1)) z z ?_))))))))))
        intro W s
        refine .s (pkt hg1 z z z) z ?_
        cases h
        exact .nil (ck 6 s)
       refine .xx b z (.xx b z (.xx b z (.xx b z (.xx b z ?_))))
       cases aX b hb1
       exact .s (pkf b z z z) z (.nil (ck 6 s))
      intro W s
      refine .nil ?_
      refine .cs z h ?_ ?_ <;> intro h
      ·refine .region (.q z (.nil ?_))
       obtain rfl:=o9 h
       exact ⟨z,sb z,s.to []⟩
      refine .skip ?_
      cases h
      exact ⟨z,sb z,s.to []⟩
     intro x E W hJ
     obtain ⟨rfl,hE,s⟩:=hJ
     refine ⟨_,hE.sub,?_⟩
     refine .region (.q z (.q z (.q z (.nil ?_))))
     cases h
     exact ⟨z,sb z,s.to []⟩
    refine .exit ?_
    cases h
    exact ⟨by simp,z,sb z,s.to []⟩
   intro x E W hJ
   obtain ⟨rfl,hE,s⟩:=hJ
   refine ⟨_,hE.sub,?_⟩
   refine .g (.q z (.nil ?_))
   refine .cs z h ?_ ?_ <;> intro h
   ·refine .g (.q z (.qn z (.ret ?_)))
    cases h
    exact ⟨by simp,z,aa (vs:=[_]) () (rt z rn) z (s.to [])⟩
   refine .skip (.region (.q z (.q z (.q z (.nil ?_)))))
   cases h
   exact ⟨z,sb z,s.to []⟩
  refine .exit ?_
  cases h
  exact ⟨by simp,z,sb z,s.to []⟩
 intro x E W hJ
 rcases y1 with o3 | o4
 ·have h:=bQ h
  obtain ⟨rfl,hF⟩:=hJ
  refine ⟨_,λ_ _ h=>h,?_⟩
  cases h
  exact hF
 have h:=bR h
 obtain ⟨rfl,hE,s⟩:=hJ
 refine ⟨_,hE.sub,?_⟩
 cases h
 exact .g (.q z (.qn z (.ret (aa () (rt z rn) z (s.to [])))))
theorem th {a0:List ab} {v_0:Hd} {w:World} {r:(List Int)} (h:iv a0=some r) (q_0:RO w v_0 62 5 ah a0):CL 58 #[sv v_0] w (Ret No w (λs:Hd=>(sv s)) (λs=>[ac (sv s) 3 1 (D.int .i64) r])):=by
 unfold iv at h
 refine aw func58 z z ?_
 have s:=Sep.start w
 refine .g (.qn z (.g (.c (.liv [] (D.int .i64) u23 t3 s z z z z ?_ z (λ_=>z)))))
 intro v1 W s
 refine .qn z (.seq (.g (.q z (bv h λy1 hy1 h=>.c (.cO s func57 (bg hy1 (s.keep q_0)) z z ?_)))))
 intro W s
 refine .q z (.nil ?_)
 refine .cs z h ?_ ?_ <;> intro h
 ·cases h
  exact .g (.q z (.qn z (.ret (aa v1 (rt z rn) z (s.tk [0])))))
 refine .skip (.g (.q z (bv h λy2 hy2 h=>.c (.cV s func90 (tf hy2 (s.keep q_0)) z z ?_))))
 intro v2 W s
 refine .qn z (.seq (.g (.qn z (.block (bv h λy3 hy3 h=>?_)))))
 refine .via (.iter (λs1 E' W'=>∃ (v5:Hd),ao E' [(0,(sv v_0)),(3,(sv v5)),(4,(sv v2)),(5,vi s1.2)]/\Sep No w W' [ac (sv v2) 102 1 (λ(l:List Bool)=>D.row 4 1 (l.map D.bool)) y2,ac (sv v5) 3 1 (D.int .i64) s1.1]) (λy4 x E' W'=>x=.exit 0/\∃ (v6:Hd),ao E' [(3,(sv v6))]/\Sep No w W' [ac (sv v2) 102 1 (λ(l:List Bool)=>D.row 4 1 (l.map D.bool)) y2,ac (sv v6) 3 1 (D.int .i64) y4]) hy3 ⟨v1,sb z,s.tk [0,0]⟩ ?_) ?_
 ·intro s1 y5 E W h hI
  obtain ⟨v4,hE,s⟩:=hI
  refine CW.sub hE ?_
  unfold ma at h
  refine .seq (.g (.q z (.q z (.nil ?_))))
  refine .cs z h ?_ ?_ <;> intro h
  ·refine .skip (.seq (.block (.region (.q z (.q z (.q z (.q z (bv h λy6 hy6 h=>.c (.cO s func91 (tg hy6 (s.keep q_0) s.lv s.p1.lv) z z ?_)))))))))
   intro W s
   refine .c (.liv [y6] (D.int .i64) u23 t3 s z z z z ?_ z (λ_=>z))
   intro v7 W s
   refine bv h λr1 hr1 h=>?_
   have hT0:=s.p2
   refine .c (.av hr1 hT0 hT0.p1.lv (λ_=>z) u23 t3 z z z ?_)
   intro v8 W s
   refine .qn z (.region (.q z (.q z (.q z (.nil ?_)))))
   cases h
   exact ⟨z,v8,sb z,s.tk [2,0]⟩
  refine .exit ?_
  cases h
  exact ⟨by simp,z,v4,sb z,s.tk [0,0]⟩
 intro x E W hJ
 obtain ⟨rfl,v9,hE,s⟩:=hJ
 refine ⟨_,hE.sub,?_⟩
 obtain rfl:=o9 h
 exact .g (.q z (.qn z (.ret (aa v9 (rt z rn) z (s.tk [1])))))
theorem rM {a0:ab} {a1:List Int} {v_1:Hd} {w:World} {r:ab} (h:i9 a0 a1=some r) (q_1:RO w v_1 3 1 (D.int .i64) a1):CL 59 #[.agg #[vi a0.Op,vi a0.Dst,vi a0.A,vi a0.B,vi a0.N],sv v_1] w (RU w (.agg #[vi r.Op,vi r.Dst,vi r.A,vi r.B,vi r.N])):=by
 unfold i9 at h
 refine aw func59 z z ?_
 have s:=Sep.start w
 refine .g (.c (.box s z z ?_))
 intro g1 W s
 refine .c (.alloc t62 s ?_)
 intro g2 W s
 refine .nil (bv h λy1 hy1 h=>?_)
 refine .seq (CW.via (R':=λx E' W'=>x=.normal/\ao E' [(1,(sv v_1)),(2,Pt g1),(4,Pt g2)]/\Sep No w W' [.box g2 62 [vi 0,vi 0,vi 0,vi 0,vi 0],.box g1 62 [vi y1.Op,vi y1.Dst,vi y1.A,vi y1.B,vi y1.N]]) ?_ ?_)
 ·have h:=hy1
  refine .g (.s (ld t62 s.p1 z z z z z) z (bv h λy2 hy2 h=>.c (.cO s func92 (gO hy2) z z ?_)))
  intro W s
  refine .q z (.nil ?_)
  refine .cs z h ?_ ?_ <;> intro h
  ·refine .region (.q z (.s (fa f62_1 z z z) z (.s (ld t3 s.p1 z z z z z) z (bv h λx1 hx1 h=>.s (ixv (s.keep q_1) hx1 u23 t3 z z z) z (.s (lde (RV.flat (s.keep q_1) hx1 z) t3 z z z z z) z (.s (fa f62_1 z z z) z (.c (.st t3 s.p1 z z z ?_))))))))
   intro W s
   refine .nil ?_
   cases h
   exact ⟨z,sb z,s.tk [1,0]⟩
  refine .skip ?_
  obtain rfl:=o9 h
  exact ⟨z,sb z,s.tk [0,0]⟩
 intro x E W hJ
 obtain ⟨rfl,hE,s⟩:=hJ
 refine ⟨_,hE.sub,?_⟩
 refine .seq (.g (.s (fa f62_0 z z z) z (.s (ld t3 s.p1 z z z z z) z (.nil (.block (bv h λy3 hy3 h=>?_))))))
 refine .seq (CW.via (R':=λx E' W'=>x=.normal/\ao E' [(1,(sv v_1)),(2,Pt g1),(4,Pt g2),(15,vi y1.Op),(16,.bool y3)]/\Sep No w W' [.box g2 62 [vi 0,vi 0,vi 0,vi 0,vi 0],.box g1 62 [vi y1.Op,vi y1.Dst,vi y1.A,vi y1.B,vi y1.N]]) ?_ ?_)
 ·have h:=hy3
  refine .g (.q z (.q z (.nil ?_)))
  refine .cs z h ?_ ?_ <;> intro h
  ·refine .skip ?_
   cases h
   exact ⟨z,sb z,s.tk [0,0]⟩
  refine .g (.q z (.q z (.nil ?_)))
  refine .cs z h ?_ ?_ <;> intro h
  ·refine .skip ?_
   cases h
   exact ⟨z,sb z,s.tk [0,0]⟩
  refine .g (.q z (.q z (.nil ?_)))
  refine .cs z h ?_ ?_ <;> intro h
  ·refine .skip ?_
   cases h
   exact ⟨z,sb z,s.tk [0,0]⟩
  refine .region (.q z (.q z (.nil ?_)))
  cases h
  exact ⟨z,sb z,s.tk [0,0]⟩
 intro x E W hJ
 obtain ⟨rfl,hE,s⟩:=hJ
 refine ⟨_,hE.sub,?_⟩
 refine .cs z h ?_ ?_ <;> intro h
 ·refine .region (.q z (.s (fa f62_2 z z z) z (.s (ld t3 s.p1 z z z z z) z (bv h λx2 hx2 h=>.s (ixv (s.keep q_1) hx2 u23 t3 z z z) z (.s (lde (RV.flat (s.keep q_1) hx2 z) t3 z z z z z) z (.s (fa f62_2 z z z) z (.c (.st t3 s.p1 z z z ?_))))))))
  intro W s
  refine .nil (.g (.s (ld t62 s z z z z z) z (.c (.st t62 s.p1 z z z ?_))))
  intro W s
  cases h
  exact .nil (.ret (aa () (rc s t62 z rn z z) z (s.to [])))
 refine .g (.q z (.q z (.nil ?_)))
 refine .cs z h ?_ ?_ <;> intro h
 ·refine .g (.q z (.s (fa f62_2 z z z) z (.s (ld t3 s.p1 z z z z z) z (bv h λx3 hx3 h=>.s (ixv (s.keep q_1) hx3 u23 t3 z z z) z (.s (lde (RV.flat (s.keep q_1) hx3 z) t3 z z z z z) z (.s (fa f62_2 z z z) z (.c (.st t3 s.p1 z z z ?_))))))))
  intro W s
  refine .nil (.region (.q z (.s (fa f62_3 z z z) z (.s (ld t3 s z z z z z) z (bv h λx4 hx4 h=>.s (ixv (s.keep q_1) hx4 u23 t3 z z z) z (.s (lde (RV.flat (s.keep q_1) hx4 z) t3 z z z z z) z (.s (fa f62_3 z z z) z (.c (.st t3 s z z z ?_)))))))))
  intro W s
  refine .nil (.g (.s (ld t62 s z z z z z) z (.c (.st t62 s.p1 z z z ?_))))
  intro W s
  cases h
  exact .nil (.ret (aa () (rc s t62 z rn z z) z (s.to [])))
 refine .skip (.g (.s (ld t62 s.p1 z z z z z) z (.c (.st t62 s z z z ?_))))
 intro W s
 obtain rfl:=o9 h
 exact .nil (.ret (aa () (rc s t62 z rn z z) z (s.to [])))
theorem rN {a0:List ab} {v_0:Hd} {w:World} {r:(List ab)×Bool} (h:gv a0=some r) (q_0:RO w v_0 62 5 ah a0):CL 28 #[sv v_0] w (Ret No w (λs:Hd=>.tuple #[sv s,.bool r.2]) (λs=>[ac (sv s) 62 5 ah r.1])):=by
 unfold gv at h
 refine aw func28 z z ?_
 have s:=Sep.start w
 refine .g (.q z (.qn z (.g (.c (.liv [] ah u33 t62 s z z z z ?_ z (λ_=>z))))))
 intro v1 W s
 refine .qn z (.seq (.g (.q z (bv h λy1 hy1 h=>.c (.cO s func57 (bg hy1 (s.keep q_0)) z z ?_)))))
 intro W s
 refine .q z (.nil ?_)
 refine .cs z h ?_ ?_ <;> intro h
 ·cases h
  exact .g (.q z (.q z (.qn z (.ret (aa (vs:=[_,_]) v1 (rt z (rt z rn)) z (s.tk [0]))))))
 refine .skip (.g (.q z (bv h λy2 hy2 h=>.c (.cV s func58 (th hy2 (s.keep q_0)) z z ?_))))
 intro v2 W s
 refine .qn z (.seq (.g (.qn z (.block (bv h λy3 hy3 h=>?_)))))
 refine .via (.iter (λs1 E' W'=>∃ (v5:Hd),ao E' [(0,(sv v_0)),(4,(sv v5)),(5,(sv v2)),(6,vi s1.2)]/\Sep No w W' [ac (sv v2) 3 1 (D.int .i64) y2,ac (sv v5) 62 5 ah s1.1]) (λy4 x E' W'=>x=.exit 0/\∃ (v6:Hd),ao E' [(4,(sv v6))]/\Sep No w W' [ac (sv v2) 3 1 (D.int .i64) y2,ac (sv v6) 62 5 ah y4]) hy3 ⟨v1,sb z,s.tk [0,0]⟩ ?_) ?_
 ·intro s1 y5 E W h hI
  obtain ⟨v4,hE,s⟩:=hI
  refine CW.sub hE ?_
  unfold fD at h
  refine .seq (.g (.q z (.q z (.s (aD (s.keep q_0) u33 z z) z (.q z (.nil ?_))))))
  refine .cs z h ?_ ?_ <;> intro h
  ·refine .skip (.seq (.block (.region (.q z (.q z (.q z (bv h λx1 hx1 h=>.s (ixv (s.keep q_0) hx1 u33 t62 z z z) z (.s (lde (RV.flat (s.keep q_0) hx1 z) t62 z z z z z) z (.q z (bv h λy6 hy6 h=>.c (.cO s func59 (rM hy6 s.lv) z z ?_)))))))))))
   intro W s
   refine .c (.liv [y6] ah u33 t62 s z z z z ?_ z (λ_=>z))
   intro v7 W s
   refine bv h λr1 hr1 h=>?_
   have hT0:=s.p2
   refine .c (.av hr1 hT0 hT0.p1.lv (λ_=>z) u33 t62 z z z ?_)
   intro v8 W s
   refine .qn z (.region (.q z (.q z (.q z (.nil ?_)))))
   cases h
   exact ⟨z,v8,sb z,s.tk [2,0]⟩
  refine .exit ?_
  cases h
  exact ⟨by simp,z,v4,sb z,s.tk [0,0]⟩
 intro x E W hJ
 obtain ⟨rfl,v9,hE,s⟩:=hJ
 refine ⟨_,hE.sub,?_⟩
 cases h
 exact .g (.q z (.q z (.qn z (.ret (aa (vs:=[_,_]) v9 (rt z (rt z rn)) z (s.tk [1]))))))
theorem qS {k:Nat} {a0:aJ} {a1:Int} {aC:Hd} {az:Hd} {w:World} {r:(List (List ab))×Bool} (h:dH k a0 a1=some r) (bi:RO w aC 3 1 (D.int .i64) a0.Rooms) (ay:RO w az 36 1 (λ(l:List ae)=>D.row 80 8 (l.map aL)) a0.Tasks):CL 7 #[.agg #[sv aC,sv az],vi a1] w (Ret No w (λs:Hd=>.tuple #[sv s,.bool r.2]) (λs=>[ac (sv s) 33 1 (λ(l:List ab)=>D.row 62 5 (l.map ah)) r.1])):=by
 unfold dH at h
 refine aw func7 z z ?_
 have s:=Sep.start w
 refine .g (.c (.box s z z ?_))
 intro g1 W s
 refine .q z (.qn z (.g (.s (ld t26 s z z z z z) z (bv h λy1 hy1 h=>.c (.cV s func26 (ob hy1 (s.keep bi) (s.keep ay)) z z ?_)))))
 intro v1 W s
 refine .q z (.q z (.q z (.q z (.qn z (.seq (.g (.q z (.q z (.nil ?_)))))))))
 refine .cs z h ?_ ?_ <;> intro h
 ·refine .g (.c (.lg (L1:=[]) [] (λ(l:List ab)=>D.row 62 5 (l.map ah)) u29 t33 (s.to [0,0]) z z z (.nil) ?_ z (λ_=>z)))
  intro v2 W s
  cases h
  exact .q z (.qn z (.ret (aa (vs:=[_,_]) v2 (rt z (rt z rn)) z (s.tk [0]))))
 refine .skip (.g (.q z (.q z (bv h λy2 hy2 h=>.c (.cV s func27 (qc hy2 s.lv) z z ?_)))))
 intro v3 W s
 refine .q z (.q z (.q z (.q z (.qn z (.seq (.g (.q z (.q z (.nil ?_)))))))))
 refine .cs z h ?_ ?_ <;> intro h
 ·refine .g (.c (.lg (L1:=[]) [] (λ(l:List ab)=>D.row 62 5 (l.map ah)) u29 t33 (s.to [0,0,0]) z z z (.nil) ?_ z (λ_=>z)))
  intro v4 W s
  cases h
  exact .q z (.qn z (.ret (aa (vs:=[_,_]) v4 (rt z (rt z rn)) z (s.tk [0]))))
 refine .skip (.g (.c (.lg (L1:=[]) [] (λ(l:List ab)=>D.row 62 5 (l.map ah)) u29 t33 (s.to [0,0,0]) z z z (.nil) ?_ z (λ_=>z))))
 intro v5 W s
 refine .qn z (.seq (.g (.qn z (.block (bv h λy3 hy3 h=>?_)))))
 refine .via (.iter (λs1 E' W'=>∃ (v8:Hd),ao E' [(8,(sv v3)),(10,(sv v8)),(11,vi s1.2)]/\Sep No w W' [ac (sv v3) 33 1 (λ(l:List ab)=>D.row 62 5 (l.map ah)) y2.1,ac (sv v1) 33 1 (λ(l:List ab)=>D.row 62 5 (l.map ah)) y1.1,.box g1 26 [sv aC,sv az],ac (sv v8) 33 1 (λ(l:List ab)=>D.row 62 5 (l.map ah)) s1.1]) (λy4 x E' W'=>x=.exit 0/\∃ (v9:Hd),ao E' [(10,(sv v9))]/\Sep No w W' [ac (sv v3) 33 1 (λ(l:List ab)=>D.row 62 5 (l.map ah)) y2.1,ac (sv v1) 33 1 (λ(l:List ab)=>D.row 62 5 (l.map ah)) y1.1,.box g1 26 [sv aC,sv az],ac (sv v9) 33 1 (λ(l:List ab)=>D.row 62 5 (l.map ah)) y4]) hy3 ⟨v5,sb z,s.tk [1,1,1,0]⟩ ?_) ?_
 ·intro s1 y5 E W h hI
  obtain ⟨v7,hE,s⟩:=hI
  refine CW.sub hE ?_
  unfold g9 at h
  refine .seq (.g (.q z (.q z (.s (aD s.lv u29 z z) z (.q z (.nil ?_))))))
  refine .cs z h ?_ ?_ <;> intro h
  ·refine .skip (.seq (.block (.g (.q z (.q z (bv h λx1 hx1 h=>.s (ixv s.lv hx1 u29 t33 z z z) z ?_))))))
   obtain ⟨k1,s⟩:=Sep.ov s hx1
   obtain ⟨v10,k1,rfl,s⟩:=s.ow
   obtain ⟨rfl,s⟩:=s.oN
   refine .s (lde (s.p1.hcellsv) t33 z z z z z) z (bv h λy6 hy6 h=>.c (.cV s func28 (rN hy6 s.lv) z z ?_))
   intro v11 W s
   refine .q z (.q z (.q z (.q z (.qn z (.region (.q z (.q z (.c (.lg (L1:=[ac (sv v11) 62 5 ah y6.1]) [y6.1] (λ(l:List ab)=>D.row 62 5 (l.map ah)) u29 t33 (s.to [0,0,0,0,0,0]) z z z (.row (.nil)) ?_ z (λ_=>z))))))))))
   intro v12 W s
   refine bv h λr1 hr1 h=>.c (.appv hr1 (s.to [5,0,0,0,0,0]) u29 t33 z z z ?_)
   intro v13 W s
   refine .qn z (.region (.q z (.q z (.q z (.nil ?_)))))
   have s:=Sep.gat (ds:=[.row 62 5 (x1.map ah)]) (cs:=[sv v10]) (L1:=[ac (sv v10) 62 5 ah x1]) (.row (.nil)) (s.to [1,1,0,0,0])
   have s:Sep _ _ _ [ac (sv v3) 33 1 (λ(l:List ab)=>D.row 62 5 (l.map ah)) y2.1,ac (sv v13) 33 1 (λ(l:List ab)=>D.row 62 5 (l.map ah)) r1,ac (sv v1) 33 1 (λ(l:List ab)=>D.row 62 5 (l.map ah)) y1.1,.box g1 26 [sv aC,sv az]]:=Sep.back0v hx1 s
   cases h
   exact ⟨z,v13,sb z,s.tk [0,1,1,0]⟩
  refine .exit ?_
  cases h
  exact ⟨by simp,z,v7,sb z,s.tk [0,0,0,0]⟩
 intro x E W hJ
 obtain ⟨rfl,v14,hE,s⟩:=hJ
 refine ⟨_,hE.sub,?_⟩
 cases h
 exact .g (.q z (.q z (.qn z (.ret (aa (vs:=[_,_]) v14 (rt z (rt z rn)) z (s.tk [3]))))))
theorem vn {a0:List Int} {a1:Int} {v_0:Hd} {w:World} {r:Int} (h:mr a0 a1=some r) (q_0:RO w v_0 3 1 (D.int .i64) a0):CL 39 #[sv v_0,vi a1] w (RU w (.int .i64 r)):=by
 unfold mr at h
 refine aw func39 z z ?_
 have s:=Sep.start w
 refine .g (.qn z (.g (.q z (.q z (.s (aD (s.keep q_0) u23 z z) z (.q z (.qn z (.seq (.g (.q z (.q z (.nil ?_))))))))))))
 refine .cs z h ?_ ?_ <;> intro h
 ·cases h
  exact .g (.qn z (.ret (aa () (rt z rn) z (s.to []))))
 cases h
 exact .skip (.g (.q z (.qn z (.ret (aa () (rt z rn) z (s.to []))))))
def kr (F:ax->Int->Option (Int)):Prop:=∀ {a0:ax} {a1:Int} {aP:Hd} {w:World} {r:Int} (h:F a0 a1=some r) (ar:RO w aP 141 3 gS a0.Args) , CL 134 #[.agg #[vi a0.Op,vi a0.N,sv aP],vi a1] w (RU w (.int .i64 r))
def lK (F:List ax->Int->Option (Int)):Prop:=∀ {a0:List ax} {a1:Int} {v_0:Hd} {w:World} {r:Int} (h:F a0 a1=some r) (q_0:RO w v_0 141 3 gS a0) , CL 159 #[sv v_0,vi a1] w (RU w (.int .i64 r))
theorem vS {k:Nat} {cq:ax->Int->Option (Int)} {dn:List ax->Int->Option (Int)} (pu:kr cq) (ox:lK dn):kr (fY k cq dn):=by
 intro a0 a1 aP w r h ar
 unfold fY at h
 refine aw func134 z z ?_
 have s:=Sep.start w
 refine .g (.c (.box s z z ?_))
 intro g1 W s
 refine .qn z (.g (.s (fa f141_2 z z z) z (.s (ld t139 s z z z z z) z (.q z (bv h λy1 hy1 h=>.c (.cO s func159 (ox hy1 (s.keep ar)) z z ?_))))))
 intro W s
 refine .qn z (.seq (.g (.q z (.q z (.nil ?_)))))
 refine .cs z h ?_ ?_ <;> intro h
 ·cases h
  exact .g (.qn z (.ret (aa () (rt z rn) z (s.to []))))
 obtain rfl:=o9 h
 exact .skip (.g (.q z (.qn z (.ret (aa () (rt z rn) z (s.to []))))))
def vo (w:World) (r:Int):Env->World->Prop:=Fin Tryz.prog Tryz.f159 No w (λs:Unit=>.int .i64 r) (λs=>[]) .ret
theorem vp {k:Nat} {cq:ax->Int->Option (Int)} {dn:List ax->Int->Option (Int)} (pu:kr cq) (ox:lK dn):lK (ja k cq dn):=by
 intro a0 a1 v_0 w r h q_0
 unfold ja at h
 refine aw func159 z z ?_
 have s:=Sep.start w
 refine .g (.qn z (.g (.q z (.q z (.s (aD (s.keep q_0) u139 z z) z (.q z (.qn z (.seq (.g (.q z (.q z (.nil ?_))))))))))))
 refine .cs z h ?_ ?_ <;> intro h
 ·cases h
  exact .g (.qn z (.ret (aa () (rt z rn) z (s.to []))))
 refine .skip (.seq (.g (.qn z (.block (bv h λy1 hy1 h=>?_)))))
 refine .via (.iter (λs1 E' W'=>ao E' [(0,(sv v_0)),(1,vi s1.1),(5,vi s1.2)]/\Sep No w W' []) (λy2 x E' W'=>(match y2 with | .inl o1=>x=.ret/\vo w o1 E' W' | .inr o2=>x=.exit 0/\ao E' [(1,vi o2)]/\Sep No w W' [])) hy1 ⟨sb rfl,s.to [] rfl⟩ ?_) ?_
 ·intro s1 y3 E W h hI
  obtain ⟨hE,s⟩:=hI
  refine CW.sub hE ?_
  unfold kC at h
  refine .seq (.g (.q z (.q z (.s (aD (s.keep q_0) u139 z z) z (.q z (.nil ?_))))))
  refine .cs z h ?_ ?_ <;> intro h
  ·refine .skip (.seq (.block (.g (.q z (.q z (bv h λx1 hx1 h=>?_))))))
   obtain ⟨k1,hd,hck1⟩:=RV.el2 q_0 hx1
   have hd1:=dx (uz _) hd
   obtain ⟨k1,rfl,hd2⟩:=aY q_0 z hd1
   obtain ⟨k1,rfl,hd3⟩:=aY q_0 z hd2
   obtain ⟨v1,k1,rfl,q1,hd4⟩:=bf q_0 hd3
   obtain rfl:=gc q_0 hd4
   refine .s (ixv (s.keep q_0) hx1 u139 t141 z z z) z (.s (lde (hck1 _ s.agree) t141 z z z z z) z (.q z (bv h λy4 hy4 h=>.c (.cO s func134 (pu hy4 (s.keep (q1 _ q_0))) z z ?_))))
   intro W s
   refine .qn z (.g (.q z (.q z (.nil ?_))))
   refine .cs z h ?_ ?_ <;> intro h
   ·refine .g (.qn z (.ret ?_))
    cases h
    exact ⟨by simp,z,aa (vs:=[_]) () (rt z rn) z (s.to [])⟩
   refine .skip (.region (.q z (.q z (.q z (.nil ?_)))))
   cases h
   exact ⟨z,sb z,s.to []⟩
  refine .exit ?_
  cases h
  exact ⟨by simp,z,sb z,s.to []⟩
 intro x E W hJ
 rcases y1 with o3 | o4
 ·have h:=bQ h
  obtain ⟨rfl,hF⟩:=hJ
  refine ⟨_,λ_ _ h=>h,?_⟩
  cases h
  exact hF
 have h:=bR h
 obtain ⟨rfl,hE,s⟩:=hJ
 refine ⟨_,hE.sub,?_⟩
 obtain rfl:=o9 h
 exact .g (.q z (.qn z (.ret (aa () (rt z rn) z (s.to [])))))
theorem qT (k:Nat):kr (jb k)/\lK (lm k):=by
  induction k with
  | zero=>exact ⟨by intro a0 a1 aP w r h ar; exact no h,by intro a0 a1 v_0 w r h q_0; exact no h⟩
  | succ k ih=>exact ⟨vS (k:=k) ih.1 ih.2,vp (k:=k) ih.1 ih.2⟩
theorem vq {k:Nat}:kr (jb k):=(qT k).1
def jp (F:List aq->Int->Option (Int)):Prop:=∀ {a0:List aq} {a1:Int} {v_0:Hd} {w:World} {r:Int} (h:F a0 a1=some r) (q_0:RO w v_0 143 8 cB a0) , CL 74 #[sv v_0,vi a1] w (RU w (.int .i64 r))
def mi (F:aq->Int->Option (Int)):Prop:=∀ {a0:aq} {a1:Int} {al:Hd} {aE:Hd} {aF:Hd} {w:World} {r:Int} (h:F a0 a1=some r) (ak:RO w al 141 3 gS a0.Expr.Args) (aI:RO w aE 143 8 cB a0.Body) (aG:RO w aF 143 8 cB a0.Else) , CL 111 #[.agg #[vi a0.Kind,vi a0.Var,vi a0.Box,vi a0.Expr.Op,vi a0.Expr.N,sv al,sv aE,sv aF],vi a1] w (RU w (.int .i64 r))
def vr (w:World) (r:Int):Env->World->Prop:=Fin Tryz.prog Tryz.f74 No w (λs:Unit=>.int .i64 r) (λs=>[]) .ret
theorem vt {k:Nat} {cI:List aq->Int->Option (Int)} {cr:aq->Int->Option (Int)} (mG:jp cI) (pw:mi cr):jp (jc k cI cr):=by
 intro a0 a1 v_0 w r h q_0
 unfold jc at h
 refine aw func74 z z ?_
 have s:=Sep.start w
 refine .g (.qn z (.g (.q z (.q z (.s (aD (s.keep q_0) u108 z z) z (.q z (.qn z (.seq (.g (.q z (.q z (.nil ?_))))))))))))
 refine .cs z h ?_ ?_ <;> intro h
 ·cases h
  exact .g (.qn z (.ret (aa () (rt z rn) z (s.to []))))
 refine .skip (.seq (.g (.qn z (.block (bv h λy1 hy1 h=>?_)))))
 refine .via (.iter (λs1 E' W'=>ao E' [(0,(sv v_0)),(1,vi s1.1),(5,vi s1.2)]/\Sep No w W' []) (λy2 x E' W'=>(match y2 with | .inl o1=>x=.ret/\vr w o1 E' W' | .inr o2=>x=.exit 0/\ao E' [(1,vi o2)]/\Sep No w W' [])) hy1 ⟨sb rfl,s.to [] rfl⟩ ?_) ?_
 ·intro s1 y3 E W h hI
  obtain ⟨hE,s⟩:=hI
  refine CW.sub hE ?_
  unfold kD at h
  refine .seq (.g (.q z (.q z (.s (aD (s.keep q_0) u108 z z) z (.q z (.nil ?_))))))
  refine .cs z h ?_ ?_ <;> intro h
  ·refine .skip (.seq (.block (.g (.q z (.q z (bv h λx1 hx1 h=>?_))))))
   obtain ⟨k1,hd,hck1⟩:=RV.el2 q_0 hx1
   have hd1:=dx (yr _) hd
   obtain ⟨k1,rfl,hd2⟩:=aY q_0 z hd1
   obtain ⟨k1,rfl,hd3⟩:=aY q_0 z hd2
   obtain ⟨k1,rfl,hd4⟩:=aY q_0 z hd3
   have hd5:=dx (uz _) hd4
   obtain ⟨k1,rfl,hd6⟩:=aY q_0 z hd5
   obtain ⟨k1,rfl,hd7⟩:=aY q_0 z hd6
   obtain ⟨v1,k1,rfl,q1,hd8⟩:=bf q_0 hd7
   obtain ⟨v2,k1,rfl,q2,hd9⟩:=bf q_0 hd8
   obtain ⟨v3,k1,rfl,q3,hd10⟩:=bf q_0 hd9
   obtain rfl:=gc q_0 hd10
   refine .s (ixv (s.keep q_0) hx1 u108 t143 z z z) z (.s (lde (hck1 _ s.agree) t143 z z z z z) z (.q z (bv h λy4 hy4 h=>.c (.cO s func111 (pw hy4 (s.keep (q1 _ q_0)) (s.keep (q2 _ q_0)) (s.keep (q3 _ q_0))) z z ?_))))
   intro W s
   refine .qn z (.g (.q z (.q z (.nil ?_))))
   refine .cs z h ?_ ?_ <;> intro h
   ·refine .g (.qn z (.ret ?_))
    cases h
    exact ⟨by simp,z,aa (vs:=[_]) () (rt z rn) z (s.to [])⟩
   refine .skip (.region (.q z (.q z (.q z (.nil ?_)))))
   cases h
   exact ⟨z,sb z,s.to []⟩
  refine .exit ?_
  cases h
  exact ⟨by simp,z,sb z,s.to []⟩
 intro x E W hJ
 rcases y1 with o3 | o4
 ·have h:=bQ h
  obtain ⟨rfl,hF⟩:=hJ
  refine ⟨_,λ_ _ h=>h,?_⟩
  cases h
  exact hF
 have h:=bR h
 obtain ⟨rfl,hE,s⟩:=hJ
 refine ⟨_,hE.sub,?_⟩
 obtain rfl:=o9 h
 exact .g (.q z (.qn z (.ret (aa () (rt z rn) z (s.to [])))))
theorem vT {k:Nat} {cI:List aq->Int->Option (Int)} {cr:aq->Int->Option (Int)} (mG:jp cI) (pw:mi cr):mi (kg k cI cr):=by
 intro a0 a1 al aE aF w r h ak aI aG
 unfold kg at h
 refine aw func111 z z ?_
 have s:=Sep.start w
 refine .g (.c (.box s z z ?_))
 intro g1 W s
 refine .qn z (.g (.s (fa f143_3 z z z) z (.s (ld t141 s z z z z z) z (.q z (bv h λy1 hy1 h=>.c (.cO s func134 (vq hy1 (s.keep ak)) z z ?_))))))
 intro W s
 refine .qn z (.seq (.g (.q z (.q z (.nil ?_)))))
 refine .cs z h ?_ ?_ <;> intro h
 ·cases h
  exact .g (.qn z (.ret (aa () (rt z rn) z (s.to []))))
 refine .skip (.g (.s (fa f143_4 z z z) z (.s (ld t108 s z z z z z) z (.q z (bv h λy2 hy2 h=>.c (.cO s func74 (mG hy2 (s.keep aI)) z z ?_))))))
 intro W s
 refine .qn z (.seq (.g (.q z (.q z (.nil ?_)))))
 refine .cs z h ?_ ?_ <;> intro h
 ·cases h
  exact .g (.qn z (.ret (aa () (rt z rn) z (s.to []))))
 refine .skip (.g (.s (fa f143_5 z z z) z (.s (ld t108 s z z z z z) z (.q z (bv h λy3 hy3 h=>.c (.cO s func74 (mG hy3 (s.keep aG)) z z ?_))))))
 intro W s
 refine .qn z (.seq (.g (.q z (.q z (.nil ?_)))))
 refine .cs z h ?_ ?_ <;> intro h
 ·cases h
  exact .g (.qn z (.ret (aa () (rt z rn) z (s.to []))))
 obtain rfl:=o9 h
 exact .skip (.g (.q z (.qn z (.ret (aa () (rt z rn) z (s.to []))))))
theorem qd (k:Nat):jp (jJ k)/\mi (oO k):=by
  induction k with
  | zero=>exact ⟨by intro a0 a1 v_0 w r h q_0; exact no h,by intro a0 a1 al aE aF w r h ak aI aG; exact no h⟩
  | succ k ih=>exact ⟨vt (k:=k) ih.1 ih.2,vT (k:=k) ih.1 ih.2⟩
theorem tX {k:Nat}:jp (jJ k):=(qd k).1
def tY (w:World) (r:Int):Env->World->Prop:=Fin Tryz.prog Tryz.f40 No w (λs:Unit=>.int .i64 r) (λs=>[]) .ret
theorem ti {k:Nat} {a0:List (List aq)} {a1:Int} {v_0:Hd} {w:World} {r:Int} (h:kh k a0 a1=some r) (q_0:RO w v_0 108 1 (λ(l:List aq)=>D.row 143 8 (l.map cB)) a0):CL 40 #[sv v_0,vi a1] w (RU w (.int .i64 r)):=by
 unfold kh at h
 refine aw func40 z z ?_
 have s:=Sep.start w
 refine .g (.qn z (.g (.q z (.q z (.s (aD (s.keep q_0) u42 z z) z (.q z (.qn z (.seq (.g (.q z (.q z (.nil ?_))))))))))))
 refine .cs z h ?_ ?_ <;> intro h
 ·cases h
  exact .g (.qn z (.ret (aa () (rt z rn) z (s.to []))))
 refine .skip (.seq (.g (.qn z (.block (bv h λy1 hy1 h=>?_)))))
 refine .via (.iter (λs1 E' W'=>ao E' [(0,(sv v_0)),(1,vi s1.1),(5,vi s1.2)]/\Sep No w W' []) (λy2 x E' W'=>(match y2 with | .inl o1=>x=.ret/\tY w o1 E' W' | .inr o2=>x=.exit 0/\ao E' [(1,vi o2)]/\Sep No w W' [])) hy1 ⟨sb rfl,s.to [] rfl⟩ ?_) ?_
 ·intro s1 y3 E W h hI
  obtain ⟨hE,s⟩:=hI
  refine CW.sub hE ?_
  unfold jK at h
  refine .seq (.g (.q z (.q z (.s (aD (s.keep q_0) u42 z z) z (.q z (.nil ?_))))))
  refine .cs z h ?_ ?_ <;> intro h
  ·refine .skip (.seq (.block (.g (.q z (.q z (bv h λx1 hx1 h=>?_))))))
   obtain ⟨k1,hd,hck1⟩:=RV.el2 q_0 hx1
   obtain ⟨v1,k1,rfl,q1,hd1⟩:=bf q_0 hd
   obtain rfl:=gc q_0 hd1
   refine .s (ixv (s.keep q_0) hx1 u42 t108 z z z) z (.s (lde (hck1 _ s.agree) t108 z z z z z) z (.q z (bv h λy4 hy4 h=>.c (.cO s func74 (tX hy4 (s.keep (q1 _ q_0))) z z ?_))))
   intro W s
   refine .qn z (.g (.q z (.q z (.nil ?_))))
   refine .cs z h ?_ ?_ <;> intro h
   ·refine .g (.qn z (.ret ?_))
    cases h
    exact ⟨by simp,z,aa (vs:=[_]) () (rt z rn) z (s.to [])⟩
   refine .skip (.region (.q z (.q z (.q z (.nil ?_)))))
   cases h
   exact ⟨z,sb z,s.to []⟩
  refine .exit ?_
  cases h
  exact ⟨by simp,z,sb z,s.to []⟩
 intro x E W hJ
 rcases y1 with o3 | o4
 ·have h:=bQ h
  obtain ⟨rfl,hF⟩:=hJ
  refine ⟨_,λ_ _ h=>h,?_⟩
  cases h
  exact hF
 have h:=bR h
 obtain ⟨rfl,hE,s⟩:=hJ
 refine ⟨_,hE.sub,?_⟩
 obtain rfl:=o9 h
 exact .g (.q z (.qn z (.ret (aa () (rt z rn) z (s.to [])))))
theorem rO {k:Nat} {a0:aN} {a1:Int} {aC:Hd} {az:Hd} {w:World} {r:Int} (h:jd k a0 a1=some r) (bi:RO w aC 3 1 (D.int .i64) a0.Rooms) (ay:RO w az 108 1 (λ(l:List aq)=>D.row 143 8 (l.map cB)) a0.Tasks):CL 14 #[.agg #[sv aC,sv az],vi a1] w (RU w (.int .i64 r)):=by
 unfold jd at h
 refine aw func14 z z ?_
 have s:=Sep.start w
 refine .g (.c (.box s z z ?_))
 intro g1 W s
 refine .qn z (.g (.s (fa f44_0 z z z) z (.s (ld t23 s z z z z z) z (.q z (bv h λy1 hy1 h=>.c (.cO s func39 (vn hy1 (s.keep bi)) z z ?_))))))
 intro W s
 refine .qn z (.seq (.g (.q z (.q z (.nil ?_)))))
 refine .cs z h ?_ ?_ <;> intro h
 ·cases h
  exact .g (.qn z (.ret (aa () (rt z rn) z (s.to []))))
 refine .skip (.g (.s (fa f44_1 z z z) z (.s (ld t42 s z z z z z) z (.q z (bv h λy2 hy2 h=>.c (.cO s func40 (ti hy2 (s.keep ay)) z z ?_))))))
 intro W s
 refine .qn z (.seq (.g (.q z (.q z (.nil ?_)))))
 refine .cs z h ?_ ?_ <;> intro h
 ·cases h
  exact .g (.qn z (.ret (aa () (rt z rn) z (s.to []))))
 obtain rfl:=o9 h
 exact .skip (.g (.q z (.qn z (.ret (aa () (rt z rn) z (s.to []))))))
end
noncomputable section
theorem vu {a0:List Int} {v_0:Hd} {w:World} {r:(List Int)} (h:ms a0=some r) (q_0:RO w v_0 3 1 (D.int .i64) a0):CL 41 #[sv v_0] w (Ret No w (λs:Hd=>(sv s)) (λs=>[ac (sv s) 3 1 (D.int .i64) r])):=by
 unfold ms at h
 refine aw func41 z z ?_
 have s:=Sep.start w
 refine .g (.qn z (.g (.q z (.s (aD (s.keep q_0) u23 z z) z (bv h λr1 hr1 h=>.c (.mkv 0 (D.int .i64) hr1 u23 t3 s z z z z z (λ_=>z) ?_))))))
 intro v1 W s
 refine .qn z (.seq (.g (.qn z (.block (bv h λy1 hy1 h=>?_)))))
 refine .via (.iter (λs1 E' W'=>ao E' [(0,(sv v_0)),(3,(sv v1)),(4,vi s1.1)]/\Sep No w W' [ac (sv v1) 3 1 (D.int .i64) s1.2]) (λy2 x E' W'=>x=.exit 0/\ao E' [(3,(sv v1))]/\Sep No w W' [ac (sv v1) 3 1 (D.int .i64) y2]) hy1 ⟨sb z,s.tk [0]⟩ ?_) ?_
 ·intro s1 y3 E W h hI
  obtain ⟨hE,s⟩:=hI
  refine CW.sub hE ?_
  unfold ln at h
  refine .seq (.g (.q z (.q z (.s (aD (s.keep q_0) u23 z z) z (.q z (.nil ?_))))))
  refine .cs z h ?_ ?_ <;> intro h
  ·refine .skip (.seq (.block (.region (.q z (.q z (.q z (.q z (bv h λx1 hx1 h=>.s (ixv (s.keep q_0) hx1 u23 t3 z z z) z (.s (lde (RV.flat (s.keep q_0) hx1 z) t3 z z z z z) z (bv h λx2 hx2 h=>.s (ixv s.lv hx2 u23 t3 z z z) z (bv h λr2 hr2 h=>.c (.sev hr2 hx2 s t3 z z z z z z ?_))))))))))))
   intro W s
   refine .nil (.region (.q z (.q z (.q z (.nil ?_)))))
   cases h
   exact ⟨z,sb z,s.tk [0]⟩
  refine .exit ?_
  cases h
  exact ⟨by simp,z,sb z,s.tk [0]⟩
 intro x E W hJ
 obtain ⟨rfl,hE,s⟩:=hJ
 refine ⟨_,hE.sub,?_⟩
 obtain rfl:=o9 h
 exact .g (.q z (.qn z (.ret (aa v1 (rt z rn) z (s.tk [0])))))
def kt (F:ax->Option (Expr)):Prop:=∀ {a0:ax} {aP:Hd} {w:World} {r:Expr} (h:F a0=some r) (ar:RO w aP 141 3 gS a0.Args) , CL 135 #[.agg #[vi a0.Op,vi a0.N,sv aP]] w (Ret No w (λs:Hd=>.agg #[vi r.Op,vi r.N,sv s]) (λs=>[ac (sv s) 77 3 bB r.Args]))
def lL (F:List ax->Option ((List Expr))):Prop:=∀ {a0:List ax} {v_0:Hd} {w:World} {r:(List Expr)} (h:F a0=some r) (q_0:RO w v_0 141 3 gS a0) , CL 160 #[sv v_0] w (Ret No w (λs:Hd=>(sv s)) (λs=>[ac (sv s) 77 3 bB r]))
theorem vU {k:Nat} {cw:ax->Option (Expr)} {dt:List ax->Option ((List Expr))} (px:kt cw) (oy:lL dt):kt (fZ k cw dt):=by
 intro a0 aP w r h ar
 unfold fZ at h
 refine aw func135 z z ?_
 have s:=Sep.start w
 refine .g (.c (.box s z z ?_))
 intro g1 W s
 refine .c (.alloc t77 s ?_)
 intro g2 W s
 refine .nil (.g (.c (.alloc t77 s ?_)))
 intro g3 W s
 refine .nil (.g (.s (fa f141_0 z z z) z (.s (ld t3 s.p2 z z z z z) z (.s (fa f77_0 z z z) z (.c (.st t3 s z z z ?_))))))
 intro W s
 refine .nil (.g (.s (fa f141_1 z z z) z (.s (ld t3 s.p2 z z z z z) z (.s (fa f77_1 z z z) z (.c (.st t3 s z z z ?_))))))
 intro W s
 refine .nil (.g (.s (fa f141_2 z z z) z (.s (ld t139 s.p2 z z z z z) z (bv h λy1 hy1 h=>.c (.cV s func160 (oy hy1 (s.keep ar)) z z ?_)))))
 intro v1 W s
 refine .s (fa f77_2 z z z) z (.c (.st t75 s.p1 z z z ?_))
 intro W s
 refine .nil (.g (.s (ld t77 s z z z z z) z (.c (.st t77 s.p2 z z z ?_))))
 intro W s
 cases h
 exact .nil (.ret (aa v1 (rc s t77 z rn z z) z (s.tk [2])))
theorem vw {k:Nat} {cw:ax->Option (Expr)} {dt:List ax->Option ((List Expr))} (px:kt cw) (oy:lL dt):lL (je k cw dt):=by
 intro a0 v_0 w r h q_0
 unfold je at h
 refine aw func160 z z ?_
 have s:=Sep.start w
 refine .g (.qn z (.g (.q z (.s (aD (s.keep q_0) u139 z z) z (bv h λr1 hr1 h=>.c (.mkv (Expr.mk 0 0 []) bB hr1 u75 t77 s z z z z z B8 ?_))))))
 intro v1 W s
 refine .qn z (.seq (.g (.qn z (.block (bv h λy1 hy1 h=>?_)))))
 refine .via (.iter (λs1 E' W'=>ao E' [(0,(sv v_0)),(3,(sv v1)),(4,vi s1.1)]/\Sep No w W' [ac (sv v1) 77 3 bB s1.2]) (λy2 x E' W'=>x=.exit 0/\ao E' [(3,(sv v1))]/\Sep No w W' [ac (sv v1) 77 3 bB y2]) hy1 ⟨sb z,s.tk [0]⟩ ?_) ?_
 ·intro s1 y3 E W h hI
  obtain ⟨hE,s⟩:=hI
  refine CW.sub hE ?_
  unfold kE at h
  refine .seq (.g (.q z (.q z (.s (aD (s.keep q_0) u139 z z) z (.q z (.nil ?_))))))
  refine .cs z h ?_ ?_ <;> intro h
  ·refine .skip (.seq (.block (.region (.q z (.q z (.q z (.q z (bv h λx1 hx1 h=>?_))))))))
   obtain ⟨k1,hd,hck1⟩:=RV.el2 q_0 hx1
   have hd1:=dx (uz _) hd
   obtain ⟨k1,rfl,hd2⟩:=aY q_0 z hd1
   obtain ⟨k1,rfl,hd3⟩:=aY q_0 z hd2
   obtain ⟨v2,k1,rfl,q1,hd4⟩:=bf q_0 hd3
   obtain rfl:=gc q_0 hd4
   refine .s (ixv (s.keep q_0) hx1 u139 t141 z z z) z (.s (lde (hck1 _ s.agree) t141 z z z z z) z (bv h λy4 hy4 h=>.c (.cV s func135 (px hy4 (s.keep (q1 _ q_0))) z z ?_)))
   intro v3 W s
   refine bv h λx2 hx2 h=>.s (ixv s.p1.lv hx2 u75 t77 z z z) z ?_
   obtain ⟨k2,s⟩:=Sep.ov s.p1 hx2
   have s:=s.oaggE (f9 _)
   obtain ⟨k2,rfl,s⟩:=Sep.oF z s
   obtain ⟨k2,rfl,s⟩:=Sep.oF z s
   obtain ⟨v4,k2,rfl,s⟩:=s.ow
   obtain ⟨rfl,s⟩:=s.oN
   refine .c (.sthv s.p1 t77 z z z ?_)
   intro W s
   refine .nil (.region (.q z (.q z (.q z (.nil ?_)))))
   have s:=Sep.gat (ds:=[bB (Expr.mk y4.Op y4.N y4.Args)]) (cs:=[vi y4.Op,vi y4.N,sv v3]) (L1:=[ac (sv v3) 77 3 bB y4.Args]) (.aggE (f9 _) (.flat (c1:=[vi y4.Op]) z (.flat (c1:=[vi y4.N]) z (.row .nil)))) (s.to [2,0,0])
   have s:Sep _ _ _ [ac (sv v1) 77 3 bB (s1.2.set (Int.toNat s1.1) (Expr.mk y4.Op y4.N y4.Args)),ac (sv v4) 77 3 bB x2.Args]:=s.bv
   cases h
   exact ⟨z,sb z,s.tk [0]⟩
  refine .exit ?_
  cases h
  exact ⟨by simp,z,sb z,s.tk [0]⟩
 intro x E W hJ
 obtain ⟨rfl,hE,s⟩:=hJ
 refine ⟨_,hE.sub,?_⟩
 obtain rfl:=o9 h
 exact .g (.q z (.qn z (.ret (aa v1 (rt z rn) z (s.tk [0])))))
theorem qU (k:Nat):kt (jf k)/\lL (lp k):=by
  induction k with
  | zero=>exact ⟨by intro a0 aP w r h ar; exact no h,by intro a0 v_0 w r h q_0; exact no h⟩
  | succ k ih=>exact ⟨vU (k:=k) ih.1 ih.2,vw (k:=k) ih.1 ih.2⟩
theorem vx {k:Nat}:kt (jf k):=(qU k).1
def jq (F:List aq->Option ((List ae))):Prop:=∀ {a0:List aq} {v_0:Hd} {w:World} {r:(List ae)} (h:F a0=some r) (q_0:RO w v_0 143 8 cB a0) , CL 75 #[sv v_0] w (Ret No w (λs:Hd=>(sv s)) (λs=>[ac (sv s) 80 8 aL r]))
def mj (F:aq->Option (ae)):Prop:=∀ {a0:aq} {al:Hd} {aE:Hd} {aF:Hd} {w:World} {r:ae} (h:F a0=some r) (ak:RO w al 141 3 gS a0.Expr.Args) (aI:RO w aE 143 8 cB a0.Body) (aG:RO w aF 143 8 cB a0.Else) , CL 112 #[.agg #[vi a0.Kind,vi a0.Var,vi a0.Box,vi a0.Expr.Op,vi a0.Expr.N,sv al,sv aE,sv aF]] w (Ret No w (λs:Hd×Hd×Hd=>.agg #[vi r.Kind,vi r.Var,vi r.Box,vi r.Expr.Op,vi r.Expr.N,(sv s.1),(sv s.2.1),(sv s.2.2)]) (λs=>[ac (sv s.1) 77 3 bB r.Expr.Args,ac (sv s.2.1) 80 8 aL r.Body,ac (sv s.2.2) 80 8 aL r.Else]))
theorem vy {k:Nat} {cJ:List aq->Option ((List ae))} {cy:aq->Option (ae)} (mH:jq cJ) (py:mj cy):jq (jg k cJ cy):=by
 intro a0 v_0 w r h q_0
 unfold jg at h
 refine aw func75 z z ?_
 have s:=Sep.start w
 refine .g (.qn z (.g (.q z (.s (aD (s.keep q_0) u108 z z) z (bv h λr1 hr1 h=>.c (.mkv (ae.mk 0 0 0 (Expr.mk 0 0 []) [] []) aL hr1 u36 t80 s z z z z z CU ?_))))))
 intro v1 W s
 refine .qn z (.seq (.g (.qn z (.block (bv h λy1 hy1 h=>?_)))))
 refine .via (.iter (λs1 E' W'=>ao E' [(0,(sv v_0)),(3,(sv v1)),(4,vi s1.1)]/\Sep No w W' [ac (sv v1) 80 8 aL s1.2]) (λy2 x E' W'=>x=.exit 0/\ao E' [(3,(sv v1))]/\Sep No w W' [ac (sv v1) 80 8 aL y2]) hy1 ⟨sb z,s.tk [0]⟩ ?_) ?_
 ·intro s1 y3 E W h hI
  obtain ⟨hE,s⟩:=hI
  refine CW.sub hE ?_
  unfold kF at h
  refine .seq (.g (.q z (.q z (.s (aD (s.keep q_0) u108 z z) z (.q z (.nil ?_))))))
  refine .cs z h ?_ ?_ <;> intro h
  ·refine .skip (.seq (.block (.region (.q z (.q z (.q z (.q z (bv h λx1 hx1 h=>?_))))))))
   obtain ⟨k1,hd,hck1⟩:=RV.el2 q_0 hx1
   have hd1:=dx (yr _) hd
   obtain ⟨k1,rfl,hd2⟩:=aY q_0 z hd1
   obtain ⟨k1,rfl,hd3⟩:=aY q_0 z hd2
   obtain ⟨k1,rfl,hd4⟩:=aY q_0 z hd3
   have hd5:=dx (uz _) hd4
   obtain ⟨k1,rfl,hd6⟩:=aY q_0 z hd5
   obtain ⟨k1,rfl,hd7⟩:=aY q_0 z hd6
   obtain ⟨v2,k1,rfl,q1,hd8⟩:=bf q_0 hd7
   obtain ⟨v3,k1,rfl,q2,hd9⟩:=bf q_0 hd8
   obtain ⟨v4,k1,rfl,q3,hd10⟩:=bf q_0 hd9
   obtain rfl:=gc q_0 hd10
   refine .s (ixv (s.keep q_0) hx1 u108 t143 z z z) z (.s (lde (hck1 _ s.agree) t143 z z z z z) z (bv h λy4 hy4 h=>.c (.call s func112 (py hy4 (s.keep (q1 _ q_0)) (s.keep (q2 _ q_0)) (s.keep (q3 _ q_0))) z z ?_)))
   rintro ⟨v5,v6,v7⟩ W s
   refine bv h λx2 hx2 h=>.s (ixv s.p3.lv hx2 u36 t80 z z z) z ?_
   obtain ⟨k2,s⟩:=Sep.ov s.p3 hx2
   have s:=s.oaggE (np _)
   obtain ⟨k2,rfl,s⟩:=Sep.oF z s
   obtain ⟨k2,rfl,s⟩:=Sep.oF z s
   obtain ⟨k2,rfl,s⟩:=Sep.oF z s
   have s:=s.oaggE (f9 _)
   obtain ⟨k2,rfl,s⟩:=Sep.oF z s
   obtain ⟨k2,rfl,s⟩:=Sep.oF z s
   obtain ⟨v8,k2,rfl,s⟩:=s.ow
   obtain ⟨v9,k2,rfl,s⟩:=s.ow
   obtain ⟨v10,k2,rfl,s⟩:=s.ow
   obtain ⟨rfl,s⟩:=s.oN
   refine .c (.sthv s.p3 t80 z z z ?_)
   intro W s
   refine .nil (.region (.q z (.q z (.q z (.nil ?_)))))
   have s:=Sep.gat (ds:=[aL (ae.mk y4.Kind y4.Var y4.Box (Expr.mk y4.Expr.Op y4.Expr.N y4.Expr.Args) y4.Body y4.Else)]) (cs:=[vi y4.Kind,vi y4.Var,vi y4.Box,vi y4.Expr.Op,vi y4.Expr.N,sv v5,sv v6,sv v7]) (L1:=[ac (sv v5) 77 3 bB y4.Expr.Args,ac (sv v6) 80 8 aL y4.Body,ac (sv v7) 80 8 aL y4.Else]) (.aggE (np _) (.flat (c1:=[vi y4.Kind]) z (.flat (c1:=[vi y4.Var]) z (.flat (c1:=[vi y4.Box]) z (.aggE (f9 _) (.flat (c1:=[vi y4.Expr.Op]) z (.flat (c1:=[vi y4.Expr.N]) z (.row (.row (.row .nil)))))))))) (s.to [4,4,4,0,0,0,0])
   have s:Sep _ _ _ [ac (sv v1) 80 8 aL (s1.2.set (Int.toNat s1.1) (ae.mk y4.Kind y4.Var y4.Box (Expr.mk y4.Expr.Op y4.Expr.N y4.Expr.Args) y4.Body y4.Else)),ac (sv v10) 80 8 aL x2.Else,ac (sv v9) 80 8 aL x2.Body,ac (sv v8) 77 3 bB x2.Expr.Args]:=s.bv
   cases h
   exact ⟨z,sb z,s.tk [0]⟩
  refine .exit ?_
  cases h
  exact ⟨by simp,z,sb z,s.tk [0]⟩
 intro x E W hJ
 obtain ⟨rfl,hE,s⟩:=hJ
 refine ⟨_,hE.sub,?_⟩
 obtain rfl:=o9 h
 exact .g (.q z (.qn z (.ret (aa v1 (rt z rn) z (s.tk [0])))))
theorem vV {k:Nat} {cJ:List aq->Option ((List ae))} {cy:aq->Option (ae)} (mH:jq cJ) (py:mj cy):mj (ki k cJ cy):=by
 intro a0 al aE aF w r h ak aI aG
 unfold ki at h
 refine aw func112 z z ?_
 have s:=Sep.start w
 refine .g (.c (.box s z z ?_))
 intro g1 W s
 refine .c (.alloc t80 s ?_)
 intro g2 W s
 refine .nil (.g (.c (.alloc t80 s ?_)))
 intro g3 W s
 refine .nil (.g (.s (fa f143_0 z z z) z (.s (ld t3 s.p2 z z z z z) z (.s (fa f80_0 z z z) z (.c (.st t3 s z z z ?_))))))
 intro W s
 refine .nil (.g (.s (fa f143_1 z z z) z (.s (ld t3 s.p2 z z z z z) z (.s (fa f80_1 z z z) z (.c (.st t3 s z z z ?_))))))
 intro W s
 refine .nil (.g (.s (fa f143_2 z z z) z (.s (ld t3 s.p2 z z z z z) z (.s (fa f80_2 z z z) z (.c (.st t3 s z z z ?_))))))
 intro W s
 refine .nil (.g (.s (fa f143_3 z z z) z (.s (ld t141 s.p2 z z z z z) z (bv h λy1 hy1 h=>.c (.cV s func135 (vx hy1 (s.keep ak)) z z ?_)))))
 intro v1 W s
 refine .s (fa f80_3 z z z) z (.c (.st t77 s.p1 z z z ?_))
 intro W s
 refine .nil (.g (.s (fa f143_4 z z z) z (.s (ld t108 s.p3 z z z z z) z (bv h λy2 hy2 h=>.c (.cV s func75 (mH hy2 (s.keep aI)) z z ?_)))))
 intro v2 W s
 refine .s (fa f80_4 z z z) z (.c (.st t36 s.p1 z z z ?_))
 intro W s
 refine .nil (.g (.s (fa f143_5 z z z) z (.s (ld t108 s.p4 z z z z z) z (bv h λy3 hy3 h=>.c (.cV s func75 (mH hy3 (s.keep aG)) z z ?_)))))
 intro v3 W s
 refine .s (fa f80_5 z z z) z (.c (.st t36 s.p1 z z z ?_))
 intro W s
 refine .nil (.g (.s (ld t80 s z z z z z) z (.c (.st t80 s.p4 z z z ?_))))
 intro W s
 cases h
 exact .nil (.ret (aa (v1,v2,v3) (rc s t80 z rn z z) z (s.tk [4,3,2])))
theorem qe (k:Nat):jq (jL k)/\mj (oP k):=by
  induction k with
  | zero=>exact ⟨by intro a0 v_0 w r h q_0; exact no h,by intro a0 al aE aF w r h ak aI aG; exact no h⟩
  | succ k ih=>exact ⟨vy (k:=k) ih.1 ih.2,vV (k:=k) ih.1 ih.2⟩
theorem tZ {k:Nat}:jq (jL k):=(qe k).1
theorem tj {k:Nat} {a0:List (List aq)} {v_0:Hd} {w:World} {r:(List (List ae))} (h:kj k a0=some r) (q_0:RO w v_0 108 1 (λ(l:List aq)=>D.row 143 8 (l.map cB)) a0):CL 42 #[sv v_0] w (Ret No w (λs:Hd=>(sv s)) (λs=>[ac (sv s) 36 1 (λ(l:List ae)=>D.row 80 8 (l.map aL)) r])):=by
 unfold kj at h
 refine aw func42 z z ?_
 have s:=Sep.start w
 refine .g (.qn z (.g (.q z (.s (aD (s.keep q_0) u42 z z) z (bv h λr1 hr1 h=>.c (.mkv [] (λ(l:List ae)=>D.row 80 8 (l.map aL)) hr1 u24 t36 s z z z z z (λ_=>z) ?_))))))
 intro v1 W s
 refine .qn z (.seq (.g (.qn z (.block (bv h λy1 hy1 h=>?_)))))
 refine .via (.iter (λs1 E' W'=>ao E' [(0,(sv v_0)),(3,(sv v1)),(4,vi s1.1)]/\Sep No w W' [ac (sv v1) 36 1 (λ(l:List ae)=>D.row 80 8 (l.map aL)) s1.2]) (λy2 x E' W'=>x=.exit 0/\ao E' [(3,(sv v1))]/\Sep No w W' [ac (sv v1) 36 1 (λ(l:List ae)=>D.row 80 8 (l.map aL)) y2]) hy1 ⟨sb z,s.tk [0]⟩ ?_) ?_
 ·intro s1 y3 E W h hI
  obtain ⟨hE,s⟩:=hI
  refine CW.sub hE ?_
  unfold jM at h
  refine .seq (.g (.q z (.q z (.s (aD (s.keep q_0) u42 z z) z (.q z (.nil ?_))))))
  refine .cs z h ?_ ?_ <;> intro h
  ·refine .skip (.seq (.block (.region (.q z (.q z (.q z (.q z (bv h λx1 hx1 h=>?_))))))))
   obtain ⟨k1,hd,hck1⟩:=RV.el2 q_0 hx1
   obtain ⟨v2,k1,rfl,q1,hd1⟩:=bf q_0 hd
   obtain rfl:=gc q_0 hd1
   refine .s (ixv (s.keep q_0) hx1 u42 t108 z z z) z (.s (lde (hck1 _ s.agree) t108 z z z z z) z (bv h λy4 hy4 h=>.c (.cV s func75 (tZ hy4 (s.keep (q1 _ q_0))) z z ?_)))
   intro v3 W s
   refine bv h λx2 hx2 h=>.s (ixv s.p1.lv hx2 u24 t36 z z z) z ?_
   obtain ⟨k2,s⟩:=Sep.ov s.p1 hx2
   obtain ⟨v4,k2,rfl,s⟩:=s.ow
   obtain ⟨rfl,s⟩:=s.oN
   refine .c (.sthv s.p1 t36 z z z ?_)
   intro W s
   refine .nil (.region (.q z (.q z (.q z (.nil ?_)))))
   have s:=Sep.gat (ds:=[.row 80 8 (y4.map aL)]) (cs:=[sv v3]) (L1:=[ac (sv v3) 80 8 aL y4]) (.row (.nil)) (s.to [2,0,0])
   have s:Sep _ _ _ [ac (sv v1) 36 1 (λ(l:List ae)=>D.row 80 8 (l.map aL)) (s1.2.set (Int.toNat s1.1) y4),ac (sv v4) 80 8 aL x2]:=s.bv
   cases h
   exact ⟨z,sb z,s.tk [0]⟩
  refine .exit ?_
  cases h
  exact ⟨by simp,z,sb z,s.tk [0]⟩
 intro x E W hJ
 obtain ⟨rfl,hE,s⟩:=hJ
 refine ⟨_,hE.sub,?_⟩
 obtain rfl:=o9 h
 exact .g (.q z (.qn z (.ret (aa v1 (rt z rn) z (s.tk [0])))))
theorem iJ {k:Nat} {a0:aN} {aC:Hd} {az:Hd} {w:World} {r:aJ} (h:du k a0=some r) (bi:RO w aC 3 1 (D.int .i64) a0.Rooms) (ay:RO w az 108 1 (λ(l:List aq)=>D.row 143 8 (l.map cB)) a0.Tasks):CL 15 #[.agg #[sv aC,sv az]] w (Ret No w (λs:Hd×Hd=>.agg #[(sv s.1),(sv s.2)]) (λs=>[ac (sv s.1) 3 1 (D.int .i64) r.Rooms,ac (sv s.2) 36 1 (λ(l:List ae)=>D.row 80 8 (l.map aL)) r.Tasks])):=by
 unfold du at h
 refine aw func15 z z ?_
 have s:=Sep.start w
 refine .g (.c (.box s z z ?_))
 intro g1 W s
 refine .c (.alloc t26 s ?_)
 intro g2 W s
 refine .nil (.g (.c (.alloc t26 s ?_)))
 intro g3 W s
 refine .nil (.g (.s (fa f44_0 z z z) z (.s (ld t23 s.p2 z z z z z) z (bv h λy1 hy1 h=>.c (.cV s func41 (vu hy1 (s.keep bi)) z z ?_)))))
 intro v1 W s
 refine .s (fa f26_0 z z z) z (.c (.st t23 s.p1 z z z ?_))
 intro W s
 refine .nil (.g (.s (fa f44_1 z z z) z (.s (ld t42 s.p3 z z z z z) z (bv h λy2 hy2 h=>.c (.cV s func42 (tj hy2 (s.keep ay)) z z ?_)))))
 intro v2 W s
 refine .s (fa f26_1 z z z) z (.c (.st t24 s.p1 z z z ?_))
 intro W s
 refine .nil (.g (.s (ld t26 s z z z z z) z (.c (.st t26 s.p3 z z z ?_))))
 intro W s
 cases h
 exact .nil (.ret (aa (v1,v2) (rc s t26 z rn z z) z (s.tk [3,2])))
theorem vz {a0:ab} {a1:ab} {w:World} {r:Bool} (h:mt a0 a1=some r):CL 76 #[.agg #[vi a0.Op,vi a0.Dst,vi a0.A,vi a0.B,vi a0.N],.agg #[vi a1.Op,vi a1.Dst,vi a1.A,vi a1.B,vi a1.N]] w (RU w (.bool r)):=by
 unfold mt at h
 refine aw func76 z z ?_
 have s:=Sep.start w
 refine .g (.c (.box s z z ?_))
 intro g1 W s
 refine .c (.box s z z ?_)
 intro g2 W s
 refine .qn z (.seq (.g (.s (fa f62_0 z z z) z (.s (ld t3 s.p1 z z z z z) z (.s (fa f62_0 z z z) z (.s (ld t3 s z z z z z) z (.q z (.nil ?_))))))))
 refine .cs z h ?_ ?_ <;> intro h
 ·obtain rfl:=o9 h
  exact .g (.qn z (.ret (aa () (rt z rn) z (s.to []))))
 refine .skip (.seq (.g (.s (fa f62_1 z z z) z (.s (ld t3 s.p1 z z z z z) z (.s (fa f62_1 z z z) z (.s (ld t3 s z z z z z) z (.q z (.nil ?_))))))))
 refine .cs z h ?_ ?_ <;> intro h
 ·obtain rfl:=o9 h
  exact .g (.qn z (.ret (aa () (rt z rn) z (s.to []))))
 refine .skip (.seq (.g (.s (fa f62_2 z z z) z (.s (ld t3 s.p1 z z z z z) z (.s (fa f62_2 z z z) z (.s (ld t3 s z z z z z) z (.q z (.nil ?_))))))))
 refine .cs z h ?_ ?_ <;> intro h
 ·obtain rfl:=o9 h
  exact .g (.qn z (.ret (aa () (rt z rn) z (s.to []))))
 refine .skip (.seq (.g (.s (fa f62_3 z z z) z (.s (ld t3 s.p1 z z z z z) z (.s (fa f62_3 z z z) z (.s (ld t3 s z z z z z) z (.q z (.nil ?_))))))))
 refine .cs z h ?_ ?_ <;> intro h
 ·obtain rfl:=o9 h
  exact .g (.qn z (.ret (aa () (rt z rn) z (s.to []))))
 refine .skip (.seq (.g (.s (fa f62_4 z z z) z (.s (ld t3 s.p1 z z z z z) z (.s (fa f62_4 z z z) z (.s (ld t3 s z z z z z) z (.q z (.nil ?_))))))))
 refine .cs z h ?_ ?_ <;> intro h
 ·obtain rfl:=o9 h
  exact .g (.qn z (.ret (aa () (rt z rn) z (s.to []))))
 obtain rfl:=o9 h
 exact .skip (.g (.qn z (.ret (aa () (rt z rn) z (s.to [])))))
def vA (w:World) (r:Bool):Env->World->Prop:=Fin Tryz.prog Tryz.f43 No w (λs:Unit=>.bool r) (λs=>[]) .ret
theorem t5 {a0:List ab} {a1:List ab} {v_0:Hd} {v_1:Hd} {w:World} {r:Bool} (h:lq a0 a1=some r) (q_0:RO w v_0 62 5 ah a0) (q_1:RO w v_1 62 5 ah a1):CL 43 #[sv v_0,sv v_1] w (RU w (.bool r)):=by
 unfold lq at h
 refine aw func43 z z ?_
 have s:=Sep.start w
 refine .g (.qn z (.seq (.g (.q z (.s (aD (s.keep q_0) u33 z z) z (.q z (.s (aD (s.keep q_1) u33 z z) z (.q z (.nil ?_)))))))))
 refine .cs z h ?_ ?_ <;> intro h
 ·obtain rfl:=o9 h
  exact .g (.qn z (.ret (aa () (rt z rn) z (s.to []))))
 refine .skip (.seq (.g (.qn z (.block (bv h λy1 hy1 h=>?_)))))
 refine .via (.iter (λs1 E' W'=>ao E' [(0,(sv v_0)),(1,(sv v_1)),(5,vi s1)]/\Sep No w W' []) (λy2 x E' W'=>(match y2 with | .inl o1=>x=.ret/\vA w o1 E' W' | .inr o2=>x=.exit 0/\ao E' []/\Sep No w W' [])) hy1 ⟨sb rfl,s.to [] rfl⟩ ?_) ?_
 ·intro s1 y3 E W h hI
  obtain ⟨hE,s⟩:=hI
  refine CW.sub hE ?_
  unfold ig at h
  refine .seq (.g (.q z (.q z (.s (aD (s.keep q_0) u33 z z) z (.q z (.nil ?_))))))
  refine .cs z h ?_ ?_ <;> intro h
  ·refine .skip (.seq (.block (.seq (.rk 10 s [] T.mix ?_))))
   intro W s
   have t:=s.to []
   refine .tp' 0 z z t (.tp' 1 z z t (bv h λx1 hx1 h=>.ts' 2 z (λW t=>ixv (s.keep q_0) hx1 u33 t62 z z z) t z (.ts' 3 z (λW t=>lde (RV.flat (t.keep q_0) hx1 z) t62 z z z z z) t z (.tp' 4 z z t (.tp' 5 z z t (bv h λx2 hx2 h=>.ts' 6 z (λW t=>ixv (s.keep q_1) hx2 u33 t62 z z z) t z (.ts' 7 z (λW t=>lde (RV.flat (t.keep q_1) hx2 z) t62 z z z z z) t z (bv h λy4 hy4 h=>.by1 8 z (.cO s func76 (vz hy4) z z ?_)))))))))
   intro W s
   refine s.an [] λt=>.tp' 9 z z t (.done ?_)
   refine .cs z h ?_ ?_ <;> intro h
   ·refine .g (.qn z (.ret ?_))
    cases h
    exact ⟨by simp,z,aa (vs:=[_]) () (rt z rn) z (s.to [])⟩
   refine .skip (.region (.q z (.q z (.q z (.nil ?_)))))
   cases h
   exact ⟨z,sb z,s.to []⟩
  refine .exit ?_
  cases h
  exact ⟨by simp,z,sb z,s.to []⟩
 intro x E W hJ
 rcases y1 with o3 | o4
 ·have h:=bQ h
  obtain ⟨rfl,hF⟩:=hJ
  refine ⟨_,λ_ _ h=>h,?_⟩
  cases h
  exact hF
 have h:=bR h
 obtain ⟨rfl,hE,s⟩:=hJ
 refine ⟨_,hE.sub,?_⟩
 obtain rfl:=o9 h
 exact .g (.qn z (.ret (aa () (rt z rn) z (s.to []))))
def t6 (w:World) (r:Bool):Env->World->Prop:=Fin Tryz.prog Tryz.f16 No w (λs:Unit=>.bool r) (λs=>[]) .ret
theorem md {a0:List (List ab)} {a1:List (List ab)} {v_0:Hd} {v_1:Hd} {w:World} {r:Bool} (h:f0 a0 a1=some r) (q_0:RO w v_0 33 1 (λ(l:List ab)=>D.row 62 5 (l.map ah)) a0) (q_1:RO w v_1 33 1 (λ(l:List ab)=>D.row 62 5 (l.map ah)) a1):CL 16 #[sv v_0,sv v_1] w (RU w (.bool r)):=by
 unfold f0 at h
 refine aw func16 z z ?_
 have s:=Sep.start w
 refine .g (.qn z (.seq (.g (.q z (.s (aD (s.keep q_0) u29 z z) z (.q z (.s (aD (s.keep q_1) u29 z z) z (.q z (.nil ?_)))))))))
 refine .cs z h ?_ ?_ <;> intro h
 ·obtain rfl:=o9 h
  exact .g (.qn z (.ret (aa () (rt z rn) z (s.to []))))
 refine .skip (.seq (.g (.qn z (.block (bv h λy1 hy1 h=>?_)))))
 refine .via (.iter (λs1 E' W'=>ao E' [(0,(sv v_0)),(1,(sv v_1)),(5,vi s1)]/\Sep No w W' []) (λy2 x E' W'=>(match y2 with | .inl o1=>x=.ret/\t6 w o1 E' W' | .inr o2=>x=.exit 0/\ao E' []/\Sep No w W' [])) hy1 ⟨sb rfl,s.to [] rfl⟩ ?_) ?_
 ·intro s1 y3 E W h hI
  obtain ⟨hE,s⟩:=hI
  refine CW.sub hE ?_
  unfold gw at h
  refine .seq (.g (.q z (.q z (.s (aD (s.keep q_0) u29 z z) z (.q z (.nil ?_))))))
  refine .cs z h ?_ ?_ <;> intro h
  ·refine .skip (.seq (.block (.seq (.rk 10 s [] T.mix ?_))))
   intro W s
   have t:=s.to []
   refine .tp' 0 z z t (.tp' 1 z z t (bv h λx1 hx1 h=>?_))
   obtain ⟨k1,hd,hck1⟩:=RV.el2 q_0 hx1
   obtain ⟨v1,k1,rfl,q1,hd1⟩:=bf q_0 hd
   obtain rfl:=gc q_0 hd1
   refine .ts' 2 z (λW t=>ixv (s.keep q_0) hx1 u29 t33 z z z) t z (.ts' 3 z (λW t=>lde (hck1 _ t.agree) t33 z z z z z) t z (.tp' 4 z z t (.tp' 5 z z t (bv h λx2 hx2 h=>?_))))
   obtain ⟨k2,hd,hck2⟩:=RV.el2 q_1 hx2
   obtain ⟨v2,k2,rfl,q2,hd1⟩:=bf q_1 hd
   obtain rfl:=gc q_1 hd1
   refine .ts' 6 z (λW t=>ixv (s.keep q_1) hx2 u29 t33 z z z) t z (.ts' 7 z (λW t=>lde (hck2 _ t.agree) t33 z z z z z) t z (bv h λy4 hy4 h=>.by1 8 z (.cO s func43 (t5 hy4 (s.keep (q1 _ q_0)) (s.keep (q2 _ q_1))) z z ?_)))
   intro W s
   refine s.an [] λt=>.tp' 9 z z t (.done ?_)
   refine .cs z h ?_ ?_ <;> intro h
   ·refine .g (.qn z (.ret ?_))
    cases h
    exact ⟨by simp,z,aa (vs:=[_]) () (rt z rn) z (s.to [])⟩
   refine .skip (.region (.q z (.q z (.q z (.nil ?_)))))
   cases h
   exact ⟨z,sb z,s.to []⟩
  refine .exit ?_
  cases h
  exact ⟨by simp,z,sb z,s.to []⟩
 intro x E W hJ
 rcases y1 with o3 | o4
 ·have h:=bQ h
  obtain ⟨rfl,hF⟩:=hJ
  refine ⟨_,λ_ _ h=>h,?_⟩
  cases h
  exact hF
 have h:=bR h
 obtain ⟨rfl,hE,s⟩:=hJ
 refine ⟨_,hE.sub,?_⟩
 obtain rfl:=o9 h
 exact .g (.qn z (.ret (aa () (rt z rn) z (s.to []))))
def vW (w:World) (r:Bool):Env->World->Prop:=Fin Tryz.prog Tryz.f44 No w (λs:Unit=>.bool r) (λs=>[]) .ret
theorem vB {a0:List Int} {a1:List Int} {v_0:Hd} {v_1:Hd} {w:World} {r:Bool} (h:mu a0 a1=some r) (q_0:RO w v_0 3 1 (D.int .i64) a0) (q_1:RO w v_1 3 1 (D.int .i64) a1):CL 44 #[sv v_0,sv v_1] w (RU w (.bool r)):=by
 unfold mu at h
 refine aw func44 z z ?_
 have s:=Sep.start w
 refine .g (.qn z (.seq (.g (.q z (.s (aD (s.keep q_0) u23 z z) z (.q z (.s (aD (s.keep q_1) u23 z z) z (.q z (.nil ?_)))))))))
 refine .cs z h ?_ ?_ <;> intro h
 ·obtain rfl:=o9 h
  exact .g (.qn z (.ret (aa () (rt z rn) z (s.to []))))
 refine .skip (.seq (.g (.qn z (.block (bv h λy1 hy1 h=>?_)))))
 refine .via (.iter (λs1 E' W'=>ao E' [(0,(sv v_0)),(1,(sv v_1)),(5,vi s1)]/\Sep No w W' []) (λy2 x E' W'=>(match y2 with | .inl o1=>x=.ret/\vW w o1 E' W' | .inr o2=>x=.exit 0/\ao E' []/\Sep No w W' [])) hy1 ⟨sb rfl,s.to [] rfl⟩ ?_) ?_
 ·intro s1 y3 E W h hI
  obtain ⟨hE,s⟩:=hI
  refine CW.sub hE ?_
  unfold jh at h
  refine .seq (.g (.q z (.q z (.s (aD (s.keep q_0) u23 z z) z (.q z (.nil ?_))))))
  refine .cs z h ?_ ?_ <;> intro h
  ·refine .skip (.seq (.block (.seq (.rk 9 s [] T.mix ?_))))
   intro W s
   have t:=s.to []
   refine .tp' 0 z z t (.tp' 1 z z t (bv h λx1 hx1 h=>.ts' 2 z (λW t=>ixv (s.keep q_0) hx1 u23 t3 z z z) t z (.ts' 3 z (λW t=>lde (RV.flat (t.keep q_0) hx1 z) t3 z z z z z) t z (.tp' 4 z z t (.tp' 5 z z t (bv h λx2 hx2 h=>.ts' 6 z (λW t=>ixv (s.keep q_1) hx2 u23 t3 z z z) t z (.ts' 7 z (λW t=>lde (RV.flat (t.keep q_1) hx2 z) t3 z z z z z) t z (.tp' 8 z z t (.done ?_)))))))))
   refine .cs z h ?_ ?_ <;> intro h
   ·refine .g (.qn z (.ret ?_))
    cases h
    exact ⟨by simp,z,aa (vs:=[_]) () (rt z rn) z (s.to [])⟩
   refine .skip (.region (.q z (.q z (.q z (.nil ?_)))))
   cases h
   exact ⟨z,sb z,s.to []⟩
  refine .exit ?_
  cases h
  exact ⟨by simp,z,sb z,s.to []⟩
 intro x E W hJ
 rcases y1 with o3 | o4
 ·have h:=bQ h
  obtain ⟨rfl,hF⟩:=hJ
  refine ⟨_,λ_ _ h=>h,?_⟩
  cases h
  exact hF
 have h:=bR h
 obtain ⟨rfl,hE,s⟩:=hJ
 refine ⟨_,hE.sub,?_⟩
 obtain rfl:=o9 h
 exact .g (.qn z (.ret (aa () (rt z rn) z (s.to []))))
def ku (F:Expr->Expr->Option (Bool)):Prop:=∀ {a0:Expr} {a1:Expr} {aP:Hd} {rP:Hd} {w:World} {r:Bool} (h:F a0 a1=some r) (ar:RO w aP 77 3 bB a0.Args) (vC:RO w rP 77 3 bB a1.Args) , CL 136 #[.agg #[vi a0.Op,vi a0.N,sv aP],.agg #[vi a1.Op,vi a1.N,sv rP]] w (RU w (.bool r))
def lM (F:List Expr->List Expr->Option (Bool)):Prop:=∀ {a0:List Expr} {a1:List Expr} {v_0:Hd} {v_1:Hd} {w:World} {r:Bool} (h:F a0 a1=some r) (q_0:RO w v_0 77 3 bB a0) (q_1:RO w v_1 77 3 bB a1) , CL 161 #[sv v_0,sv v_1] w (RU w (.bool r))
theorem vX {k:Nat} {cz:Expr->Expr->Option (Bool)} {dv:List Expr->List Expr->Option (Bool)} (pz:ku cz) (oz:lM dv):ku (f5 k cz dv):=by
 intro a0 a1 aP rP w r h ar vC
 unfold f5 at h
 refine aw func136 z z ?_
 have s:=Sep.start w
 refine .g (.c (.box s z z ?_))
 intro g1 W s
 refine .c (.box s z z ?_)
 intro g2 W s
 refine .qn z (.seq (.g (.s (fa f77_0 z z z) z (.s (ld t3 s.p1 z z z z z) z (.s (fa f77_0 z z z) z (.s (ld t3 s z z z z z) z (.q z (.nil ?_))))))))
 refine .cs z h ?_ ?_ <;> intro h
 ·obtain rfl:=o9 h
  exact .g (.qn z (.ret (aa () (rt z rn) z (s.to []))))
 refine .skip (.seq (.g (.s (fa f77_1 z z z) z (.s (ld t3 s.p1 z z z z z) z (.s (fa f77_1 z z z) z (.s (ld t3 s z z z z z) z (.q z (.nil ?_))))))))
 refine .cs z h ?_ ?_ <;> intro h
 ·obtain rfl:=o9 h
  exact .g (.qn z (.ret (aa () (rt z rn) z (s.to []))))
 refine .skip (.seq (.g (.s (fa f77_2 z z z) z (.s (ld t75 s.p1 z z z z z) z (.s (fa f77_2 z z z) z (.s (ld t75 s z z z z z) z (bv h λy1 hy1 h=>.c (.cO s func161 (oz hy1 (s.keep ar) (s.keep vC)) z z ?_))))))))
 intro W s
 refine .q z (.nil ?_)
 refine .cs z h ?_ ?_ <;> intro h
 ·obtain rfl:=o9 h
  exact .g (.qn z (.ret (aa () (rt z rn) z (s.to []))))
 obtain rfl:=o9 h
 exact .skip (.g (.qn z (.ret (aa () (rt z rn) z (s.to [])))))
def vD (w:World) (r:Bool):Env->World->Prop:=Fin Tryz.prog Tryz.f161 No w (λs:Unit=>.bool r) (λs=>[]) .ret
theorem vE {k:Nat} {cz:Expr->Expr->Option (Bool)} {dv:List Expr->List Expr->Option (Bool)} (pz:ku cz) (oz:lM dv):lM (ji k cz dv):=by
 intro a0 a1 v_0 v_1 w r h q_0 q_1
 unfold ji at h
 refine aw func161 z z ?_
 have s:=Sep.start w
 refine .g (.qn z (.seq (.g (.q z (.s (aD (s.keep q_0) u75 z z) z (.q z (.s (aD (s.keep q_1) u75 z z) z (.q z (.nil ?_)))))))))
 refine .cs z h ?_ ?_ <;> intro h
 ·obtain rfl:=o9 h
  exact .g (.qn z (.ret (aa () (rt z rn) z (s.to []))))
 refine .skip (.seq (.g (.qn z (.block (bv h λy1 hy1 h=>?_)))))
 refine .via (.iter (λs1 E' W'=>ao E' [(0,(sv v_0)),(1,(sv v_1)),(5,vi s1)]/\Sep No w W' []) (λy2 x E' W'=>(match y2 with | .inl o1=>x=.ret/\vD w o1 E' W' | .inr o2=>x=.exit 0/\ao E' []/\Sep No w W' [])) hy1 ⟨sb rfl,s.to [] rfl⟩ ?_) ?_
 ·intro s1 y3 E W h hI
  obtain ⟨hE,s⟩:=hI
  refine CW.sub hE ?_
  unfold ij at h
  refine .seq (.g (.q z (.q z (.s (aD (s.keep q_0) u75 z z) z (.q z (.nil ?_))))))
  refine .cs z h ?_ ?_ <;> intro h
  ·refine .skip (.seq (.block (.seq (.rk 10 s [] T.mix ?_))))
   intro W s
   have t:=s.to []
   refine .tp' 0 z z t (.tp' 1 z z t (bv h λx1 hx1 h=>?_))
   obtain ⟨k1,hd,hck1⟩:=RV.el2 q_0 hx1
   have hd1:=dx (f9 _) hd
   obtain ⟨k1,rfl,hd2⟩:=aY q_0 z hd1
   obtain ⟨k1,rfl,hd3⟩:=aY q_0 z hd2
   obtain ⟨v1,k1,rfl,q1,hd4⟩:=bf q_0 hd3
   obtain rfl:=gc q_0 hd4
   refine .ts' 2 z (λW t=>ixv (s.keep q_0) hx1 u75 t77 z z z) t z (.ts' 3 z (λW t=>lde (hck1 _ t.agree) t77 z z z z z) t z (.tp' 4 z z t (.tp' 5 z z t (bv h λx2 hx2 h=>?_))))
   obtain ⟨k2,hd,hck2⟩:=RV.el2 q_1 hx2
   have hd1:=dx (f9 _) hd
   obtain ⟨k2,rfl,hd2⟩:=aY q_1 z hd1
   obtain ⟨k2,rfl,hd3⟩:=aY q_1 z hd2
   obtain ⟨v2,k2,rfl,q2,hd4⟩:=bf q_1 hd3
   obtain rfl:=gc q_1 hd4
   refine .ts' 6 z (λW t=>ixv (s.keep q_1) hx2 u75 t77 z z z) t z (.ts' 7 z (λW t=>lde (hck2 _ t.agree) t77 z z z z z) t z (bv h λy4 hy4 h=>.by1 8 z (.cO s func136 (pz hy4 (s.keep (q1 _ q_0)) (s.keep (q2 _ q_1))) z z ?_)))
   intro W s
   refine s.an [] λt=>.tp' 9 z z t (.done ?_)
   refine .cs z h ?_ ?_ <;> intro h
   ·refine .g (.qn z (.ret ?_))
    cases h
    exact ⟨by simp,z,aa (vs:=[_]) () (rt z rn) z (s.to [])⟩
   refine .skip (.region (.q z (.q z (.q z (.nil ?_)))))
   cases h
   exact ⟨z,sb z,s.to []⟩
  refine .exit ?_
  cases h
  exact ⟨by simp,z,sb z,s.to []⟩
 intro x E W hJ
 rcases y1 with o3 | o4
 ·have h:=bQ h
  obtain ⟨rfl,hF⟩:=hJ
  refine ⟨_,λ_ _ h=>h,?_⟩
  cases h
  exact hF
 have h:=bR h
 obtain ⟨rfl,hE,s⟩:=hJ
 refine ⟨_,hE.sub,?_⟩
 obtain rfl:=o9 h
 exact .g (.qn z (.ret (aa () (rt z rn) z (s.to []))))
theorem qV (k:Nat):ku (gQ k)/\lM (lr k):=by
  induction k with
  | zero=>exact ⟨by intro a0 a1 aP rP w r h ar vC; exact no h,by intro a0 a1 v_0 v_1 w r h q_0 q_1; exact no h⟩
  | succ k ih=>exact ⟨vX (k:=k) ih.1 ih.2,vE (k:=k) ih.1 ih.2⟩
theorem vF {k:Nat}:ku (gQ k):=(qV k).1
def jr (F:List ae->List ae->Option (Bool)):Prop:=∀ {a0:List ae} {a1:List ae} {v_0:Hd} {v_1:Hd} {w:World} {r:Bool} (h:F a0 a1=some r) (q_0:RO w v_0 80 8 aL a0) (q_1:RO w v_1 80 8 aL a1) , CL 77 #[sv v_0,sv v_1] w (RU w (.bool r))
def ml (F:ae->ae->Option (Bool)):Prop:=∀ {a0:ae} {a1:ae} {al:Hd} {aE:Hd} {aF:Hd} {mm:Hd} {rQ:Hd} {rR:Hd} {w:World} {r:Bool} (h:F a0 a1=some r) (ak:RO w al 77 3 bB a0.Expr.Args) (aI:RO w aE 80 8 aL a0.Body) (aG:RO w aF 80 8 aL a0.Else) (nF:RO w mm 77 3 bB a1.Expr.Args) (vG:RO w rQ 80 8 aL a1.Body) (vH:RO w rR 80 8 aL a1.Else) , CL 113 #[.agg #[vi a0.Kind,vi a0.Var,vi a0.Box,vi a0.Expr.Op,vi a0.Expr.N,sv al,sv aE,sv aF],.agg #[vi a1.Kind,vi a1.Var,vi a1.Box,vi a1.Expr.Op,vi a1.Expr.N,sv mm,sv rQ,sv rR]] w (RU w (.bool r))
def vI (w:World) (r:Bool):Env->World->Prop:=Fin Tryz.prog Tryz.f77 No w (λs:Unit=>.bool r) (λs=>[]) .ret
theorem vJ {k:Nat} {cK:List ae->List ae->Option (Bool)} {cA:ae->ae->Option (Bool)} (mI:jr cK) (pA:ml cA):jr (jj k cK cA):=by
 intro a0 a1 v_0 v_1 w r h q_0 q_1
 unfold jj at h
 refine aw func77 z z ?_
 have s:=Sep.start w
 refine .g (.qn z (.seq (.g (.q z (.s (aD (s.keep q_0) u36 z z) z (.q z (.s (aD (s.keep q_1) u36 z z) z (.q z (.nil ?_)))))))))
 refine .cs z h ?_ ?_ <;> intro h
 ·obtain rfl:=o9 h
  exact .g (.qn z (.ret (aa () (rt z rn) z (s.to []))))
 refine .skip (.seq (.g (.qn z (.block (bv h λy1 hy1 h=>?_)))))
 refine .via (.iter (λs1 E' W'=>ao E' [(0,(sv v_0)),(1,(sv v_1)),(5,vi s1)]/\Sep No w W' []) (λy2 x E' W'=>(match y2 with | .inl o1=>x=.ret/\vI w o1 E' W' | .inr o2=>x=.exit 0/\ao E' []/\Sep No w W' [])) hy1 ⟨sb rfl,s.to [] rfl⟩ ?_) ?_
 ·intro s1 y3 E W h hI
  obtain ⟨hE,s⟩:=hI
  refine CW.sub hE ?_
  unfold ik at h
  refine .seq (.g (.q z (.q z (.s (aD (s.keep q_0) u36 z z) z (.q z (.nil ?_))))))
  refine .cs z h ?_ ?_ <;> intro h
  ·refine .skip (.seq (.block (.seq (.rk 10 s [] T.mix ?_))))
   intro W s
   have t:=s.to []
   refine .tp' 0 z z t (.tp' 1 z z t (bv h λx1 hx1 h=>?_))
   obtain ⟨k1,hd,hck1⟩:=RV.el2 q_0 hx1
   have hd1:=dx (np _) hd
   obtain ⟨k1,rfl,hd2⟩:=aY q_0 z hd1
   obtain ⟨k1,rfl,hd3⟩:=aY q_0 z hd2
   obtain ⟨k1,rfl,hd4⟩:=aY q_0 z hd3
   have hd5:=dx (f9 _) hd4
   obtain ⟨k1,rfl,hd6⟩:=aY q_0 z hd5
   obtain ⟨k1,rfl,hd7⟩:=aY q_0 z hd6
   obtain ⟨v1,k1,rfl,q1,hd8⟩:=bf q_0 hd7
   obtain ⟨v2,k1,rfl,q2,hd9⟩:=bf q_0 hd8
   obtain ⟨v3,k1,rfl,q3,hd10⟩:=bf q_0 hd9
   obtain rfl:=gc q_0 hd10
   refine .ts' 2 z (λW t=>ixv (s.keep q_0) hx1 u36 t80 z z z) t z (.ts' 3 z (λW t=>lde (hck1 _ t.agree) t80 z z z z z) t z (.tp' 4 z z t (.tp' 5 z z t (bv h λx2 hx2 h=>?_))))
   obtain ⟨k2,hd,hck2⟩:=RV.el2 q_1 hx2
   have hd1:=dx (np _) hd
   obtain ⟨k2,rfl,hd2⟩:=aY q_1 z hd1
   obtain ⟨k2,rfl,hd3⟩:=aY q_1 z hd2
   obtain ⟨k2,rfl,hd4⟩:=aY q_1 z hd3
   have hd5:=dx (f9 _) hd4
   obtain ⟨k2,rfl,hd6⟩:=aY q_1 z hd5
   obtain ⟨k2,rfl,hd7⟩:=aY q_1 z hd6
   obtain ⟨v4,k2,rfl,q4,hd8⟩:=bf q_1 hd7
   obtain ⟨v5,k2,rfl,q5,hd9⟩:=bf q_1 hd8
   obtain ⟨v6,k2,rfl,q6,hd10⟩:=bf q_1 hd9
   obtain rfl:=gc q_1 hd10
   refine .ts' 6 z (λW t=>ixv (s.keep q_1) hx2 u36 t80 z z z) t z (.ts' 7 z (λW t=>lde (hck2 _ t.agree) t80 z z z z z) t z (bv h λy4 hy4 h=>.by1 8 z (.cO s func113 (pA hy4 (s.keep (q1 _ q_0)) (s.keep (q2 _ q_0)) (s.keep (q3 _ q_0)) (s.keep (q4 _ q_1)) (s.keep (q5 _ q_1)) (s.keep (q6 _ q_1))) z z ?_)))
   intro W s
   refine s.an [] λt=>.tp' 9 z z t (.done ?_)
   refine .cs z h ?_ ?_ <;> intro h
   ·refine .g (.qn z (.ret ?_))
    cases h
    exact ⟨by simp,z,aa (vs:=[_]) () (rt z rn) z (s.to [])⟩
   refine .skip (.region (.q z (.q z (.q z (.nil ?_)))))
   cases h
   exact ⟨z,sb z,s.to []⟩
  refine .exit ?_
  cases h
  exact ⟨by simp,z,sb z,s.to []⟩
 intro x E W hJ
 rcases y1 with o3 | o4
 ·have h:=bQ h
  obtain ⟨rfl,hF⟩:=hJ
  refine ⟨_,λ_ _ h=>h,?_⟩
  cases h
  exact hF
 have h:=bR h
 obtain ⟨rfl,hE,s⟩:=hJ
 refine ⟨_,hE.sub,?_⟩
 obtain rfl:=o9 h
 exact .g (.qn z (.ret (aa () (rt z rn) z (s.to []))))
theorem vY {k:Nat} {cK:List ae->List ae->Option (Bool)} {cA:ae->ae->Option (Bool)} (mI:jr cK) (pA:ml cA):ml (km k cK cA):=by
 intro a0 a1 al aE aF mm rQ rR w r h ak aI aG nF vG vH
 unfold km at h
 refine aw func113 z z ?_
 have s:=Sep.start w
 refine .g (.c (.box s z z ?_))
 intro g1 W s
 refine .c (.box s z z ?_)
 intro g2 W s
 refine .qn z (.seq (.g (.s (fa f80_0 z z z) z (.s (ld t3 s.p1 z z z z z) z (.s (fa f80_0 z z z) z (.s (ld t3 s z z z z z) z (.q z (.nil ?_))))))))
 refine .cs z h ?_ ?_ <;> intro h
 ·obtain rfl:=o9 h
  exact .g (.qn z (.ret (aa () (rt z rn) z (s.to []))))
 refine .skip (.seq (.g (.s (fa f80_1 z z z) z (.s (ld t3 s.p1 z z z z z) z (.s (fa f80_1 z z z) z (.s (ld t3 s z z z z z) z (.q z (.nil ?_))))))))
 refine .cs z h ?_ ?_ <;> intro h
 ·obtain rfl:=o9 h
  exact .g (.qn z (.ret (aa () (rt z rn) z (s.to []))))
 refine .skip (.seq (.g (.s (fa f80_2 z z z) z (.s (ld t3 s.p1 z z z z z) z (.s (fa f80_2 z z z) z (.s (ld t3 s z z z z z) z (.q z (.nil ?_))))))))
 refine .cs z h ?_ ?_ <;> intro h
 ·obtain rfl:=o9 h
  exact .g (.qn z (.ret (aa () (rt z rn) z (s.to []))))
 refine .skip (.seq (.g (.s (fa f80_3 z z z) z (.s (ld t77 s.p1 z z z z z) z (.s (fa f80_3 z z z) z (.s (ld t77 s z z z z z) z (bv h λy1 hy1 h=>.c (.cO s func136 (vF hy1 (s.keep ak) (s.keep nF)) z z ?_))))))))
 intro W s
 refine .q z (.nil ?_)
 refine .cs z h ?_ ?_ <;> intro h
 ·obtain rfl:=o9 h
  exact .g (.qn z (.ret (aa () (rt z rn) z (s.to []))))
 refine .skip (.seq (.g (.s (fa f80_4 z z z) z (.s (ld t36 s.p1 z z z z z) z (.s (fa f80_4 z z z) z (.s (ld t36 s z z z z z) z (bv h λy2 hy2 h=>.c (.cO s func77 (mI hy2 (s.keep aI) (s.keep vG)) z z ?_))))))))
 intro W s
 refine .q z (.nil ?_)
 refine .cs z h ?_ ?_ <;> intro h
 ·obtain rfl:=o9 h
  exact .g (.qn z (.ret (aa () (rt z rn) z (s.to []))))
 refine .skip (.seq (.g (.s (fa f80_5 z z z) z (.s (ld t36 s.p1 z z z z z) z (.s (fa f80_5 z z z) z (.s (ld t36 s z z z z z) z (bv h λy3 hy3 h=>.c (.cO s func77 (mI hy3 (s.keep aG) (s.keep vH)) z z ?_))))))))
 intro W s
 refine .q z (.nil ?_)
 refine .cs z h ?_ ?_ <;> intro h
 ·obtain rfl:=o9 h
  exact .g (.qn z (.ret (aa () (rt z rn) z (s.to []))))
 obtain rfl:=o9 h
 exact .skip (.g (.qn z (.ret (aa () (rt z rn) z (s.to [])))))
theorem qf (k:Nat):jr (jN k)/\ml (nv k):=by
  induction k with
  | zero=>exact ⟨by intro a0 a1 v_0 v_1 w r h q_0 q_1; exact no h,by intro a0 a1 al aE aF mm rQ rR w r h ak aI aG nF vG vH; exact no h⟩
  | succ k ih=>exact ⟨vJ (k:=k) ih.1 ih.2,vY (k:=k) ih.1 ih.2⟩
theorem t7 {k:Nat}:jr (jN k):=(qf k).1
def t8 (w:World) (r:Bool):Env->World->Prop:=Fin Tryz.prog Tryz.f45 No w (λs:Unit=>.bool r) (λs=>[]) .ret
theorem tl {k:Nat} {a0:List (List ae)} {a1:List (List ae)} {v_0:Hd} {v_1:Hd} {w:World} {r:Bool} (h:ko k a0 a1=some r) (q_0:RO w v_0 36 1 (λ(l:List ae)=>D.row 80 8 (l.map aL)) a0) (q_1:RO w v_1 36 1 (λ(l:List ae)=>D.row 80 8 (l.map aL)) a1):CL 45 #[sv v_0,sv v_1] w (RU w (.bool r)):=by
 unfold ko at h
 refine aw func45 z z ?_
 have s:=Sep.start w
 refine .g (.qn z (.seq (.g (.q z (.s (aD (s.keep q_0) u24 z z) z (.q z (.s (aD (s.keep q_1) u24 z z) z (.q z (.nil ?_)))))))))
 refine .cs z h ?_ ?_ <;> intro h
 ·obtain rfl:=o9 h
  exact .g (.qn z (.ret (aa () (rt z rn) z (s.to []))))
 refine .skip (.seq (.g (.qn z (.block (bv h λy1 hy1 h=>?_)))))
 refine .via (.iter (λs1 E' W'=>ao E' [(0,(sv v_0)),(1,(sv v_1)),(5,vi s1)]/\Sep No w W' []) (λy2 x E' W'=>(match y2 with | .inl o1=>x=.ret/\t8 w o1 E' W' | .inr o2=>x=.exit 0/\ao E' []/\Sep No w W' [])) hy1 ⟨sb rfl,s.to [] rfl⟩ ?_) ?_
 ·intro s1 y3 E W h hI
  obtain ⟨hE,s⟩:=hI
  refine CW.sub hE ?_
  unfold gx at h
  refine .seq (.g (.q z (.q z (.s (aD (s.keep q_0) u24 z z) z (.q z (.nil ?_))))))
  refine .cs z h ?_ ?_ <;> intro h
  ·refine .skip (.seq (.block (.seq (.rk 10 s [] T.mix ?_))))
   intro W s
   have t:=s.to []
   refine .tp' 0 z z t (.tp' 1 z z t (bv h λx1 hx1 h=>?_))
   obtain ⟨k1,hd,hck1⟩:=RV.el2 q_0 hx1
   obtain ⟨v1,k1,rfl,q1,hd1⟩:=bf q_0 hd
   obtain rfl:=gc q_0 hd1
   refine .ts' 2 z (λW t=>ixv (s.keep q_0) hx1 u24 t36 z z z) t z (.ts' 3 z (λW t=>lde (hck1 _ t.agree) t36 z z z z z) t z (.tp' 4 z z t (.tp' 5 z z t (bv h λx2 hx2 h=>?_))))
   obtain ⟨k2,hd,hck2⟩:=RV.el2 q_1 hx2
   obtain ⟨v2,k2,rfl,q2,hd1⟩:=bf q_1 hd
   obtain rfl:=gc q_1 hd1
   refine .ts' 6 z (λW t=>ixv (s.keep q_1) hx2 u24 t36 z z z) t z (.ts' 7 z (λW t=>lde (hck2 _ t.agree) t36 z z z z z) t z (bv h λy4 hy4 h=>.by1 8 z (.cO s func77 (t7 hy4 (s.keep (q1 _ q_0)) (s.keep (q2 _ q_1))) z z ?_)))
   intro W s
   refine s.an [] λt=>.tp' 9 z z t (.done ?_)
   refine .cs z h ?_ ?_ <;> intro h
   ·refine .g (.qn z (.ret ?_))
    cases h
    exact ⟨by simp,z,aa (vs:=[_]) () (rt z rn) z (s.to [])⟩
   refine .skip (.region (.q z (.q z (.q z (.nil ?_)))))
   cases h
   exact ⟨z,sb z,s.to []⟩
  refine .exit ?_
  cases h
  exact ⟨by simp,z,sb z,s.to []⟩
 intro x E W hJ
 rcases y1 with o3 | o4
 ·have h:=bQ h
  obtain ⟨rfl,hF⟩:=hJ
  refine ⟨_,λ_ _ h=>h,?_⟩
  cases h
  exact hF
 have h:=bR h
 obtain ⟨rfl,hE,s⟩:=hJ
 refine ⟨_,hE.sub,?_⟩
 obtain rfl:=o9 h
 exact .g (.qn z (.ret (aa () (rt z rn) z (s.to []))))
theorem rS {k:Nat} {a0:aJ} {a1:aJ} {aC:Hd} {az:Hd} {wy:Hd} {wz:Hd} {w:World} {r:Bool} (h:jk k a0 a1=some r) (bi:RO w aC 3 1 (D.int .i64) a0.Rooms) (ay:RO w az 36 1 (λ(l:List ae)=>D.row 80 8 (l.map aL)) a0.Tasks) (Ao:RO w wy 3 1 (D.int .i64) a1.Rooms) (Ap:RO w wz 36 1 (λ(l:List ae)=>D.row 80 8 (l.map aL)) a1.Tasks):CL 17 #[.agg #[sv aC,sv az],.agg #[sv wy,sv wz]] w (RU w (.bool r)):=by
 unfold jk at h
 refine aw func17 z z ?_
 have s:=Sep.start w
 refine .g (.c (.box s z z ?_))
 intro g1 W s
 refine .c (.box s z z ?_)
 intro g2 W s
 refine .qn z (.seq (.g (.s (fa f26_0 z z z) z (.s (ld t23 s.p1 z z z z z) z (.s (fa f26_0 z z z) z (.s (ld t23 s z z z z z) z (bv h λy1 hy1 h=>.c (.cO s func44 (vB hy1 (s.keep bi) (s.keep Ao)) z z ?_))))))))
 intro W s
 refine .q z (.nil ?_)
 refine .cs z h ?_ ?_ <;> intro h
 ·obtain rfl:=o9 h
  exact .g (.qn z (.ret (aa () (rt z rn) z (s.to []))))
 refine .skip (.seq (.g (.s (fa f26_1 z z z) z (.s (ld t24 s.p1 z z z z z) z (.s (fa f26_1 z z z) z (.s (ld t24 s z z z z z) z (bv h λy2 hy2 h=>.c (.cO s func45 (tl hy2 (s.keep ay) (s.keep Ap)) z z ?_))))))))
 intro W s
 refine .q z (.nil ?_)
 refine .cs z h ?_ ?_ <;> intro h
 ·obtain rfl:=o9 h
  exact .g (.qn z (.ret (aa () (rt z rn) z (s.to []))))
 obtain rfl:=o9 h
 exact .skip (.g (.qn z (.ret (aa () (rt z rn) z (s.to [])))))
theorem tm {a0:List Int} {a1:Int} {v_0:Hd} {S:Nat->Prop} {w:World} {r:Int×(List Int)} (h:kq a0 a1=some r) (hO:bG w [ac (sv v_0) 3 1 (D.int .i64) a0] S) (hlt:∀ b,S b->b<w.heap.size):CL 46 #[sv v_0,vi a1] w (Ret S w (λs:Unit=>.int .i64 r.1) (λs=>[ac (sv v_0) 3 1 (D.int .i64) r.2])):=by
 unfold kq at h
 refine aw func46 z z ?_
 have s:=Sep.sm hO hlt
 refine .g (.qn z (.seq (.g (.qn z (.block (bv h λy1 hy1 h=>?_))))))
 refine .via (.iter (λs1 E' W'=>ao E' [(0,(sv v_0)),(1,vi s1.1),(5,vi s1.2.1)]/\Sep S w W' [ac (sv v_0) 3 1 (D.int .i64) s1.2.2]) (λy2 x E' W'=>x=.exit 0/\ao E' [(1,vi y2.1)]/\Sep S w W' [ac (sv v_0) 3 1 (D.int .i64) y2.2]) hy1 ⟨sb z,s.tk [0]⟩ ?_) ?_
 ·intro s1 y3 E W h hI
  obtain ⟨hE,s⟩:=hI
  refine CW.sub hE ?_
  unfold gy at h
  refine .seq (.g (.q z (.q z (.s (aD s.lv u23 z z) z (.q z (.nil ?_))))))
  refine .cs z h ?_ ?_ <;> intro h
  ·refine .skip (.seq (.block (.g (.q z (.q z (.q z (bv h λx1 hx1 h=>.s (ixv s.lv hx1 u23 t3 z z z) z (bv h λr1 hr1 h=>.c (.sev hr1 hx1 s t3 z z z z z z ?_)))))))))
   intro W s
   refine .nil (.region (.q z (.q z (.qn z (.region (.q z (.q z (.q z (.nil ?_)))))))))
   cases h
   exact ⟨z,sb z,s.tk [0]⟩
  refine .exit ?_
  cases h
  exact ⟨by simp,z,sb z,s.tk [0]⟩
 intro x E W hJ
 obtain ⟨rfl,hE,s⟩:=hJ
 refine ⟨_,hE.sub,?_⟩
 cases h
 exact .g (.q z (.qn z (.ret (aa () (rt z rn) z (s.tk [0])))))
def jR (F:List Expr->Int->Option (Int×(List Expr))):Prop:=∀ {a0:List Expr} {a1:Int} {v_0:Hd} {S:Nat->Prop} {w:World} {r:Int×(List Expr)} (h:F a0 a1=some r) (hO:bG w [ac (sv v_0) 77 3 bB a0] S) (hlt:∀ b,S b->b<w.heap.size) , CL 114 #[sv v_0,vi a1] w (Ret S w (λs:Unit=>.int .i64 r.1) (λs=>[ac (sv v_0) 77 3 bB r.2]))
theorem tq {k:Nat} {et:List Expr->Int->Option (Int×(List Expr))} (rT:jR et):jR (gz k et):=by
 intro a0 a1 v_0 S w r h hO hlt
 unfold gz at h
 refine aw func114 z z ?_
 have s:=Sep.sm hO hlt
 refine .g (.qn z (.seq (.g (.qn z (.block (bv h λy1 hy1 h=>?_))))))
 refine .via (.iter (λs1 E' W'=>ao E' [(0,(sv v_0)),(1,vi s1.1),(5,vi s1.2.1)]/\Sep S w W' [ac (sv v_0) 77 3 bB s1.2.2]) (λy2 x E' W'=>x=.exit 0/\ao E' [(1,vi y2.1)]/\Sep S w W' [ac (sv v_0) 77 3 bB y2.2]) hy1 ⟨sb z,s.tk [0]⟩ ?_) ?_
 ·intro s1 y3 E W h hI
  obtain ⟨hE,s⟩:=hI
  refine CW.sub hE ?_
  unfold fE at h
  refine .seq (.g (.q z (.q z (.s (aD s.lv u75 z z) z (.qn z (.cond z (λb=>?_) (λb=>?_)))))))
  ·have h:=aW b h
   refine .skip (.seq (.block (.g (.q z (.q z (.q z (bv h λx1 hx1 h=>.s (ixv s.lv hx1 u75 t77 z z z) z (.s (fe f77_0 z z z) z ?_))))))))
   obtain ⟨k1,s⟩:=Sep.ov s hx1
   have s:=s.oaggE (f9 _)
   obtain ⟨k1,rfl,s⟩:=Sep.oF z s
   obtain ⟨k1,rfl,s⟩:=Sep.oF z s
   obtain ⟨v1,k1,rfl,s⟩:=s.ow
   obtain ⟨rfl,s⟩:=s.oN
   refine .c (.sthv s.p1 t3 z z z ?_)
   intro W s
   refine .nil (.g (.q z (.q z (.qn z (.g (.q z (.q z (.q z (.s (ixh s hx1 u75 t77 z z z) z (.s (fe f77_1 z z z) z (.c (.sthv s t3 z z z ?_))))))))))))
   intro W s
   refine .nil (.g (.q z (.q z (.qn z (.region (.q z (.q z (.s (ixh s hx1 u75 t77 z z z) z (.s (fe f77_2 z z z) z (.s (lde (s.hcellsv) t75 z z z z z) z (.q z (bv h λy4 hy4 h=>?_))))))))))))
   have s:=s.p1
   refine .c (.cS (L0:=[ac (sv v1) 77 3 bB x1.Args]) s func114 (λS h1 h2 h3=>(rT hy4 h2 (zz h1))) z z ?_)
   rintro ⟨⟩ W s
   refine .qn z (.region (.q z (.q z (.q z (.nil ?_)))))
   have s:=Sep.gat (ds:=[bB (Expr.mk s1.1 (w64 (s1.1+1)) y4.2)]) (cs:=[vi s1.1,vi (w64 (s1.1+1)),sv v1]) (L1:=[ac (sv v1) 77 3 bB y4.2]) (.aggE (f9 _) (.flat (c1:=[vi s1.1]) z (.flat (c1:=[vi (w64 (s1.1+1))]) z (.row .nil)))) (s.to [0,0])
   have s:Sep _ _ _ [ac (sv v_0) 77 3 bB (s1.2.2.set (Int.toNat s1.2.1) (Expr.mk s1.1 (w64 (s1.1+1)) y4.2))]:=s.bv
   cases h
   exact ⟨z,sb z,s.tk [0]⟩
  have h:=aX b h
  refine .exit ?_
  cases h
  exact ⟨by simp,z,sb z,s.tk [0]⟩
 intro x E W hJ
 obtain ⟨rfl,hE,s⟩:=hJ
 refine ⟨_,hE.sub,?_⟩
 cases h
 exact .g (.q z (.qn z (.ret (aa () (rt z rn) z (s.tk [0])))))
theorem oD (k:Nat):jR (eN k):=by
  induction k with
  | zero=>exact by intro a0 a1 v_0 S w r h hO hlt; exact no h
  | succ k ih=>exact tq (k:=k) ih
theorem rU {k:Nat}:jR (eN k):=(oD k)
def jS (F:List ae->Int->Option (Int×(List ae))):Prop:=∀ {a0:List ae} {a1:Int} {v_0:Hd} {S:Nat->Prop} {w:World} {r:Int×(List ae)} (h:F a0 a1=some r) (hO:bG w [ac (sv v_0) 80 8 aL a0] S) (hlt:∀ b,S b->b<w.heap.size) , CL 78 #[sv v_0,vi a1] w (Ret S w (λs:Unit=>.int .i64 r.1) (λs=>[ac (sv v_0) 80 8 aL r.2]))
theorem tr {k:Nat} {dc:List ae->Int->Option (Int×(List ae))} (nB:jS dc):jS (gA k dc):=by
 intro a0 a1 v_0 S w r h hO hlt
 unfold gA at h
 refine aw func78 z z ?_
 have s:=Sep.sm hO hlt
 refine .g (.qn z (.seq (.g (.qn z (.block (bv h λy1 hy1 h=>?_))))))
 refine .via (.iter (λs1 E' W'=>ao E' [(0,(sv v_0)),(1,vi s1.1),(5,vi s1.2.1)]/\Sep S w W' [ac (sv v_0) 80 8 aL s1.2.2]) (λy2 x E' W'=>x=.exit 0/\ao E' [(1,vi y2.1)]/\Sep S w W' [ac (sv v_0) 80 8 aL y2.2]) hy1 ⟨sb z,s.tk [0]⟩ ?_) ?_
 ·intro s1 y3 E W h hI
  obtain ⟨hE,s⟩:=hI
  refine CW.sub hE ?_
  unfold dz at h
  refine .seq (.g (.q z (.q z (.s (aD s.lv u36 z z) z (.qn z (.cond z (λb=>?_) (λb=>?_)))))))
  ·have h:=aW b h
   refine .skip (.seq (.block (.g (.q z (.q z (.q z (bv h λx1 hx1 h=>.s (ixv s.lv hx1 u36 t80 z z z) z (.s (fe f80_0 z z z) z ?_))))))))
   obtain ⟨k1,s⟩:=Sep.ov s hx1
   have s:=s.oaggE (np _)
   obtain ⟨k1,rfl,s⟩:=Sep.oF z s
   obtain ⟨k1,rfl,s⟩:=Sep.oF z s
   obtain ⟨k1,rfl,s⟩:=Sep.oF z s
   have s:=s.oaggE (f9 _)
   obtain ⟨k1,rfl,s⟩:=Sep.oF z s
   obtain ⟨k1,rfl,s⟩:=Sep.oF z s
   obtain ⟨v1,k1,rfl,s⟩:=s.ow
   obtain ⟨v2,k1,rfl,s⟩:=s.ow
   obtain ⟨v3,k1,rfl,s⟩:=s.ow
   obtain ⟨rfl,s⟩:=s.oN
   refine .c (.sthv s.p3 t3 z z z ?_)
   intro W s
   refine .nil (.g (.q z (.q z (.qn z (.g (.q z (.q z (.q z (.s (ixh s hx1 u36 t80 z z z) z (.s (fe f80_1 z z z) z (.c (.sthv s t3 z z z ?_))))))))))))
   intro W s
   refine .nil (.g (.q z (.q z (.qn z (.g (.q z (.q z (.q z (.s (ixh s hx1 u36 t80 z z z) z (.s (fe f80_2 z z z) z (.c (.sthv s t3 z z z ?_))))))))))))
   intro W s
   refine .nil (.g (.q z (.q z (.qn z (.g (.q z (.q z (.q z (.s (ixh s hx1 u36 t80 z z z) z (.s (fe f80_3 z z z) z (.s (fe f77_0 z z z) z (.c (.sthv s t3 z z z ?_)))))))))))))
   intro W s
   refine .nil (.g (.q z (.q z (.qn z (.g (.q z (.q z (.q z (.s (ixh s hx1 u36 t80 z z z) z (.s (fe f80_3 z z z) z (.s (fe f77_1 z z z) z (.c (.sthv s t3 z z z ?_)))))))))))))
   intro W s
   refine .nil (.g (.q z (.q z (.qn z (.g (.q z (.q z (.s (ixh s hx1 u36 t80 z z z) z (.s (fe f80_3 z z z) z (.s (fe f77_2 z z z) z (.s (lde (s.hcellsv) t75 z z z z z) z (.q z (bv h λy4 hy4 h=>?_)))))))))))))
   have s:=s.p3
   refine .c (.cS (L0:=[ac (sv v1) 77 3 bB x1.Expr.Args]) s func114 (λS h1 h2 h3=>(rU hy4 h2 (zz h1))) z z ?_)
   rintro ⟨⟩ W s
   refine .qn z (.g (.q z (.q z (.s (ixh s.p1 hx1 u36 t80 z z z) z (.s (fe f80_4 z z z) z (.s (lde (s.p1.hcellsv) t36 z z z z z) z (.q z (bv h λy5 hy5 h=>?_))))))))
   have s:=s.p3
   refine .c (.cS (L0:=[ac (sv v2) 80 8 aL x1.Body]) s func78 (λS h1 h2 h3=>(nB hy5 h2 (zz h1))) z z ?_)
   rintro ⟨⟩ W s
   refine .qn z (.region (.q z (.q z (.s (ixh s.p2 hx1 u36 t80 z z z) z (.s (fe f80_5 z z z) z (.s (lde (s.p2.hcellsv) t36 z z z z z) z (.q z (bv h λy6 hy6 h=>?_))))))))
   have s:=s.p3
   refine .c (.cS (L0:=[ac (sv v3) 80 8 aL x1.Else]) s func78 (λS h1 h2 h3=>(nB hy6 h2 (zz h1))) z z ?_)
   rintro ⟨⟩ W s
   refine .qn z (.region (.q z (.q z (.q z (.nil ?_)))))
   have s:=Sep.gat (ds:=[aL (ae.mk s1.1 (w64 (s1.1+1)) (w64 ((w64 (s1.1+1))+1)) (Expr.mk (w64 ((w64 ((w64 (s1.1+1))+1))+1)) (w64 ((w64 ((w64 ((w64 (s1.1+1))+1))+1))+1)) y4.2) y5.2 y6.2)]) (cs:=[vi s1.1,vi (w64 (s1.1+1)),vi (w64 ((w64 (s1.1+1))+1)),vi (w64 ((w64 ((w64 (s1.1+1))+1))+1)),vi (w64 ((w64 ((w64 ((w64 (s1.1+1))+1))+1))+1)),sv v1,sv v2,sv v3]) (L1:=[ac (sv v1) 77 3 bB y4.2,ac (sv v2) 80 8 aL y5.2,ac (sv v3) 80 8 aL y6.2]) (.aggE (np _) (.flat (c1:=[vi s1.1]) z (.flat (c1:=[vi (w64 (s1.1+1))]) z (.flat (c1:=[vi (w64 ((w64 (s1.1+1))+1))]) z (.aggE (f9 _) (.flat (c1:=[vi (w64 ((w64 ((w64 (s1.1+1))+1))+1))]) z (.flat (c1:=[vi (w64 ((w64 ((w64 ((w64 (s1.1+1))+1))+1))+1))]) z (.row (.row (.row .nil)))))))))) (s.to [2,1,0,0])
   have s:Sep _ _ _ [ac (sv v_0) 80 8 aL (s1.2.2.set (Int.toNat s1.2.1) (ae.mk s1.1 (w64 (s1.1+1)) (w64 ((w64 (s1.1+1))+1)) (Expr.mk (w64 ((w64 ((w64 (s1.1+1))+1))+1)) (w64 ((w64 ((w64 ((w64 (s1.1+1))+1))+1))+1)) y4.2) y5.2 y6.2))]:=s.bv
   cases h
   exact ⟨z,sb z,s.tk [0]⟩
  have h:=aX b h
  refine .exit ?_
  cases h
  exact ⟨by simp,z,sb z,s.tk [0]⟩
 intro x E W hJ
 obtain ⟨rfl,hE,s⟩:=hJ
 refine ⟨_,hE.sub,?_⟩
 cases h
 exact .g (.q z (.qn z (.ret (aa () (rt z rn) z (s.tk [0])))))
theorem oE (k:Nat):jS (eO k):=by
  induction k with
  | zero=>exact by intro a0 a1 v_0 S w r h hO hlt; exact no h
  | succ k ih=>exact tr (k:=k) ih
theorem rV {k:Nat}:jS (eO k):=(oE k)
theorem qW {k:Nat} {a0:List (List ae)} {a1:Int} {v_0:Hd} {S:Nat->Prop} {w:World} {r:Int×(List (List ae))} (h:il k a0 a1=some r) (hO:bG w [ac (sv v_0) 36 1 (λ(l:List ae)=>D.row 80 8 (l.map aL)) a0] S) (hlt:∀ b,S b->b<w.heap.size):CL 47 #[sv v_0,vi a1] w (Ret S w (λs:Unit=>.int .i64 r.1) (λs=>[ac (sv v_0) 36 1 (λ(l:List ae)=>D.row 80 8 (l.map aL)) r.2])):=by
 unfold il at h
 refine aw func47 z z ?_
 have s:=Sep.sm hO hlt
 refine .g (.qn z (.seq (.g (.qn z (.block (bv h λy1 hy1 h=>?_))))))
 refine .via (.iter (λs1 E' W'=>ao E' [(0,(sv v_0)),(1,vi s1.1),(5,vi s1.2.1)]/\Sep S w W' [ac (sv v_0) 36 1 (λ(l:List ae)=>D.row 80 8 (l.map aL)) s1.2.2]) (λy2 x E' W'=>x=.exit 0/\ao E' [(1,vi y2.1)]/\Sep S w W' [ac (sv v_0) 36 1 (λ(l:List ae)=>D.row 80 8 (l.map aL)) y2.2]) hy1 ⟨sb z,s.tk [0]⟩ ?_) ?_
 ·intro s1 y3 E W h hI
  obtain ⟨hE,s⟩:=hI
  refine CW.sub hE ?_
  unfold de at h
  refine .seq (.g (.q z (.q z (.s (aD s.lv u24 z z) z (.qn z (.cond z (λb=>?_) (λb=>?_)))))))
  ·have h:=aW b h
   refine .skip (.seq (.block (.region (.q z (.q z (bv h λx1 hx1 h=>.s (ixv s.lv hx1 u24 t36 z z z) z ?_))))))
   obtain ⟨k1,s⟩:=Sep.ov s hx1
   obtain ⟨v1,k1,rfl,s⟩:=s.ow
   obtain ⟨rfl,s⟩:=s.oN
   refine .s (lde (s.p1.hcellsv) t36 z z z z z) z (.q z (bv h λy4 hy4 h=>.c (.cS (L0:=[ac (sv v1) 80 8 aL x1]) s func78 (λS h1 h2 h3=>(rV hy4 h2 (zz h1))) z z ?_)))
   rintro ⟨⟩ W s
   refine .qn z (.region (.q z (.q z (.q z (.nil ?_)))))
   have s:=Sep.gat (ds:=[.row 80 8 (y4.2.map aL)]) (cs:=[sv v1]) (L1:=[ac (sv v1) 80 8 aL y4.2]) (.row (.nil)) (s.to [0,0])
   have s:Sep _ _ _ [ac (sv v_0) 36 1 (λ(l:List ae)=>D.row 80 8 (l.map aL)) (s1.2.2.set (Int.toNat s1.2.1) y4.2)]:=s.bv
   cases h
   exact ⟨z,sb z,s.tk [0]⟩
  have h:=aX b h
  refine .exit ?_
  cases h
  exact ⟨by simp,z,sb z,s.tk [0]⟩
 intro x E W hJ
 obtain ⟨rfl,hE,s⟩:=hJ
 refine ⟨_,hE.sub,?_⟩
 cases h
 exact .g (.q z (.qn z (.ret (aa () (rt z rn) z (s.tk [0])))))
theorem qg {k:Nat} {a0:aJ} {a1:Int} {aC:Hd} {az:Hd} {S:Nat->Prop} {w:World} {r:Int×(List Int)×(List (List ae))} (h:gB k a0 a1=some r) (hO:bG w [ac (sv aC) 3 1 (D.int .i64) a0.Rooms,ac (sv az) 36 1 (λ(l:List ae)=>D.row 80 8 (l.map aL)) a0.Tasks] S) (hlt:∀ b,S b->b<w.heap.size):CL 18 #[.agg #[sv aC,sv az],vi a1] w (Ret S w (λs:Unit=>.int .i64 r.1) (λs=>[ac (sv aC) 3 1 (D.int .i64) r.2.1,ac (sv az) 36 1 (λ(l:List ae)=>D.row 80 8 (l.map aL)) r.2.2])):=by
 unfold gB at h
 refine aw func18 z z ?_
 have s:=Sep.sm hO hlt
 refine .g (.c (.box s z z ?_))
 intro g1 W s
 refine .qn z (.g (.s (fa f26_0 z z z) z (.s (ld t23 s z z z z z) z (.q z (bv h λy1 hy1 h=>?_)))))
 have s:=s.p1
 refine .c (.cS (L0:=[ac (sv aC) 3 1 (D.int .i64) a0.Rooms]) s func46 (λS h1 h2 h3=>(tm hy1 h2 (zz h1))) z z ?_)
 rintro ⟨⟩ W s
 refine .qn z (.g (.s (fa f26_1 z z z) z (.s (ld t24 s.p1 z z z z z) z (.q z (bv h λy2 hy2 h=>?_)))))
 have s:=s.p2
 refine .c (.cS (L0:=[ac (sv az) 36 1 (λ(l:List ae)=>D.row 80 8 (l.map aL)) a0.Tasks]) s func47 (λS h1 h2 h3=>(qW hy2 h2 (zz h1))) z z ?_)
 rintro ⟨⟩ W s
 cases h
 exact .qn z (.g (.q z (.qn z (.ret (aa () (rt z rn) z (s.tk [1,0]))))))
theorem rX {a0:List ab} {a1:Int} {v_0:Hd} {S:Nat->Prop} {w:World} {r:Int×(List ab)} (h:gC a0 a1=some r) (hO:bG w [ac (sv v_0) 62 5 ah a0] S) (hlt:∀ b,S b->b<w.heap.size):CL 48 #[sv v_0,vi a1] w (Ret S w (λs:Unit=>.int .i64 r.1) (λs=>[ac (sv v_0) 62 5 ah r.2])):=by
 unfold gC at h
 refine aw func48 z z ?_
 have s:=Sep.sm hO hlt
 refine .g (.qn z (.seq (.g (.qn z (.block (bv h λy1 hy1 h=>?_))))))
 refine .via (.iter (λs1 E' W'=>ao E' [(0,(sv v_0)),(1,vi s1.1),(5,vi s1.2.1)]/\Sep S w W' [ac (sv v_0) 62 5 ah s1.2.2]) (λy2 x E' W'=>x=.exit 0/\ao E' [(1,vi y2.1)]/\Sep S w W' [ac (sv v_0) 62 5 ah y2.2]) hy1 ⟨sb z,s.tk [0]⟩ ?_) ?_
 ·intro s1 y3 E W h hI
  obtain ⟨hE,s⟩:=hI
  refine CW.sub hE ?_
  unfold fF at h
  refine .seq (.g (.q z (.q z (.s (aD s.lv u33 z z) z (.q z (.nil ?_))))))
  refine .cs z h ?_ ?_ <;> intro h
  ·refine .skip (.seq (.block (.g (.q z (.q z (.q z (bv h λx1 hx1 h=>.s (ixv s.lv hx1 u33 t62 z z z) z (.s (fe f62_0 z z z) z (bv h λr1 hr1 h=>.c (.sev hr1 hx1 s t3 z z z z z z ?_))))))))))
   intro W s
   refine .nil (.g (.q z (.q z (.qn z (.g (.q z (.q z (.q z (bv h λx2 hx2 h=>.s (ixv s.lv hx2 u33 t62 z z z) z (.s (fe f62_1 z z z) z (bv h λr2 hr2 h=>.c (.sev hr2 hx2 s t3 z z z z z z ?_))))))))))))
   intro W s
   refine .nil (.g (.q z (.q z (.qn z (.g (.q z (.q z (.q z (bv h λx3 hx3 h=>.s (ixv s.lv hx3 u33 t62 z z z) z (.s (fe f62_2 z z z) z (bv h λr3 hr3 h=>.c (.sev hr3 hx3 s t3 z z z z z z ?_))))))))))))
   intro W s
   refine .nil (.g (.q z (.q z (.qn z (.g (.q z (.q z (.q z (bv h λx4 hx4 h=>.s (ixv s.lv hx4 u33 t62 z z z) z (.s (fe f62_3 z z z) z (bv h λr4 hr4 h=>.c (.sev hr4 hx4 s t3 z z z z z z ?_))))))))))))
   intro W s
   refine .nil (.g (.q z (.q z (.qn z (.g (.q z (.q z (.q z (bv h λx5 hx5 h=>.s (ixv s.lv hx5 u33 t62 z z z) z (.s (fe f62_4 z z z) z (bv h λr5 hr5 h=>.c (.sev hr5 hx5 s t3 z z z z z z ?_))))))))))))
   intro W s
   refine .nil (.region (.q z (.q z (.qn z (.region (.q z (.q z (.q z (.nil ?_)))))))))
   cases h
   exact ⟨z,sb z,s.tk [0]⟩
  refine .exit ?_
  cases h
  exact ⟨by simp,z,sb z,s.tk [0]⟩
 intro x E W hJ
 obtain ⟨rfl,hE,s⟩:=hJ
 refine ⟨_,hE.sub,?_⟩
 cases h
 exact .g (.q z (.qn z (.ret (aa () (rt z rn) z (s.tk [0])))))
theorem qX {a0:List (List ab)} {a1:Int} {v_0:Hd} {S:Nat->Prop} {w:World} {r:Int×(List (List ab))} (h:im a0 a1=some r) (hO:bG w [ac (sv v_0) 33 1 (λ(l:List ab)=>D.row 62 5 (l.map ah)) a0] S) (hlt:∀ b,S b->b<w.heap.size):CL 19 #[sv v_0,vi a1] w (Ret S w (λs:Unit=>.int .i64 r.1) (λs=>[ac (sv v_0) 33 1 (λ(l:List ab)=>D.row 62 5 (l.map ah)) r.2])):=by
 unfold im at h
 refine aw func19 z z ?_
 have s:=Sep.sm hO hlt
 refine .g (.qn z (.seq (.g (.qn z (.block (bv h λy1 hy1 h=>?_))))))
 refine .via (.iter (λs1 E' W'=>ao E' [(0,(sv v_0)),(1,vi s1.1),(5,vi s1.2.1)]/\Sep S w W' [ac (sv v_0) 33 1 (λ(l:List ab)=>D.row 62 5 (l.map ah)) s1.2.2]) (λy2 x E' W'=>x=.exit 0/\ao E' [(1,vi y2.1)]/\Sep S w W' [ac (sv v_0) 33 1 (λ(l:List ab)=>D.row 62 5 (l.map ah)) y2.2]) hy1 ⟨sb z,s.tk [0]⟩ ?_) ?_
 ·intro s1 y3 E W h hI
  obtain ⟨hE,s⟩:=hI
  refine CW.sub hE ?_
  unfold eP at h
  refine .seq (.g (.q z (.q z (.s (aD s.lv u29 z z) z (.qn z (.cond z (λb=>?_) (λb=>?_)))))))
  ·have h:=aW b h
   refine .skip (.seq (.block (.region (.q z (.q z (bv h λx1 hx1 h=>.s (ixv s.lv hx1 u29 t33 z z z) z ?_))))))
   obtain ⟨k1,s⟩:=Sep.ov s hx1
   obtain ⟨v1,k1,rfl,s⟩:=s.ow
   obtain ⟨rfl,s⟩:=s.oN
   refine .s (lde (s.p1.hcellsv) t33 z z z z z) z (.q z (bv h λy4 hy4 h=>.c (.cS (L0:=[ac (sv v1) 62 5 ah x1]) s func48 (λS h1 h2 h3=>(rX hy4 h2 (zz h1))) z z ?_)))
   rintro ⟨⟩ W s
   refine .qn z (.region (.q z (.q z (.q z (.nil ?_)))))
   have s:=Sep.gat (ds:=[.row 62 5 (y4.2.map ah)]) (cs:=[sv v1]) (L1:=[ac (sv v1) 62 5 ah y4.2]) (.row (.nil)) (s.to [0,0])
   have s:Sep _ _ _ [ac (sv v_0) 33 1 (λ(l:List ab)=>D.row 62 5 (l.map ah)) (s1.2.2.set (Int.toNat s1.2.1) y4.2)]:=s.bv
   cases h
   exact ⟨z,sb z,s.tk [0]⟩
  have h:=aX b h
  refine .exit ?_
  cases h
  exact ⟨by simp,z,sb z,s.tk [0]⟩
 intro x E W hJ
 obtain ⟨rfl,hE,s⟩:=hJ
 refine ⟨_,hE.sub,?_⟩
 cases h
 exact .g (.q z (.qn z (.ret (aa () (rt z rn) z (s.tk [0])))))
def tt (w:World) (r:Int):Env->World->Prop:=Fin Tryz.prog Tryz.f49 No w (λs:Unit=>.int .i64 r) (λs=>[]) .ret
theorem rY {a0:List ab} {a1:Int} {v_0:Hd} {w:World} {r:Int} (h:gD a0 a1=some r) (q_0:RO w v_0 62 5 ah a0):CL 49 #[sv v_0,vi a1] w (RU w (.int .i64 r)):=by
 unfold gD at h
 refine aw func49 z z ?_
 have s:=Sep.start w
 refine .g (.qn z (.seq (.g (.qn z (.block (bv h λy1 hy1 h=>?_))))))
 refine .via (.iter (λs1 E' W'=>ao E' [(0,(sv v_0)),(1,vi s1.1),(5,vi s1.2)]/\Sep No w W' []) (λy2 x E' W'=>(match y2 with | .inl o1=>x=.ret/\tt w o1 E' W' | .inr o2=>x=.exit 0/\ao E' [(1,vi o2)]/\Sep No w W' [])) hy1 ⟨sb rfl,s.to [] rfl⟩ ?_) ?_
 ·intro s1 y3 E W h hI
  obtain ⟨hE,s⟩:=hI
  refine CW.sub hE ?_
  unfold fG at h
  refine .seq (.g (.q z (.q z (.s (aD (s.keep q_0) u33 z z) z (.q z (.nil ?_))))))
  refine .cs z h ?_ ?_ <;> intro h
  ·refine .skip (.seq (.block (.seq (.g (.q z (.q z (bv h λx1 hx1 h=>.s (ixv (s.keep q_0) hx1 u33 t62 z z z) z (.s (fe f62_0 z z z) z (.s (lde (RV.flat (s.keep q_0) hx1 z) t3 z z z z z) z (.q z (.q z (.nil ?_))))))))))))
   refine .cs z h ?_ ?_ <;> intro h
   ·refine .g (.qn z (.ret ?_))
    cases h
    exact ⟨by simp,z,aa (vs:=[_]) () (rt z rn) z (s.to [])⟩
   refine .skip (.g (.q z (.q z (.qn z (.seq (.g (.q z (.q z (bv h λx2 hx2 h=>.s (ixv (s.keep q_0) hx2 u33 t62 z z z) z (.s (fe f62_1 z z z) z (.s (lde (RV.flat (s.keep q_0) hx2 z) t3 z z z z z) z (.q z (.q z (.nil ?_))))))))))))))
   refine .cs z h ?_ ?_ <;> intro h
   ·refine .g (.qn z (.ret ?_))
    cases h
    exact ⟨by simp,z,aa (vs:=[_]) () (rt z rn) z (s.to [])⟩
   refine .skip (.g (.q z (.q z (.qn z (.seq (.g (.q z (.q z (bv h λx3 hx3 h=>.s (ixv (s.keep q_0) hx3 u33 t62 z z z) z (.s (fe f62_2 z z z) z (.s (lde (RV.flat (s.keep q_0) hx3 z) t3 z z z z z) z (.q z (.q z (.nil ?_))))))))))))))
   refine .cs z h ?_ ?_ <;> intro h
   ·refine .g (.qn z (.ret ?_))
    cases h
    exact ⟨by simp,z,aa (vs:=[_]) () (rt z rn) z (s.to [])⟩
   refine .skip (.g (.q z (.q z (.qn z (.seq (.g (.q z (.q z (bv h λx4 hx4 h=>.s (ixv (s.keep q_0) hx4 u33 t62 z z z) z (.s (fe f62_3 z z z) z (.s (lde (RV.flat (s.keep q_0) hx4 z) t3 z z z z z) z (.q z (.q z (.nil ?_))))))))))))))
   refine .cs z h ?_ ?_ <;> intro h
   ·refine .g (.qn z (.ret ?_))
    cases h
    exact ⟨by simp,z,aa (vs:=[_]) () (rt z rn) z (s.to [])⟩
   refine .skip (.g (.q z (.q z (.qn z (.seq (.g (.q z (.q z (bv h λx5 hx5 h=>.s (ixv (s.keep q_0) hx5 u33 t62 z z z) z (.s (fe f62_4 z z z) z (.s (lde (RV.flat (s.keep q_0) hx5 z) t3 z z z z z) z (.q z (.q z (.nil ?_))))))))))))))
   refine .cs z h ?_ ?_ <;> intro h
   ·refine .g (.qn z (.ret ?_))
    cases h
    exact ⟨by simp,z,aa (vs:=[_]) () (rt z rn) z (s.to [])⟩
   refine .skip (.region (.q z (.q z (.qn z (.region (.q z (.q z (.q z (.nil ?_)))))))))
   cases h
   exact ⟨z,sb z,s.to []⟩
  refine .exit ?_
  cases h
  exact ⟨by simp,z,sb z,s.to []⟩
 intro x E W hJ
 rcases y1 with o3 | o4
 ·have h:=bQ h
  obtain ⟨rfl,hF⟩:=hJ
  refine ⟨_,λ_ _ h=>h,?_⟩
  cases h
  exact hF
 have h:=bR h
 obtain ⟨rfl,hE,s⟩:=hJ
 refine ⟨_,hE.sub,?_⟩
 obtain rfl:=o9 h
 exact .g (.q z (.qn z (.ret (aa () (rt z rn) z (s.to [])))))
def rZ (w:World) (r:Int):Env->World->Prop:=Fin Tryz.prog Tryz.f20 No w (λs:Unit=>.int .i64 r) (λs=>[]) .ret
theorem nk {a0:List (List ab)} {a1:Int} {v_0:Hd} {w:World} {r:Int} (h:fc a0 a1=some r) (q_0:RO w v_0 33 1 (λ(l:List ab)=>D.row 62 5 (l.map ah)) a0):CL 20 #[sv v_0,vi a1] w (RU w (.int .i64 r)):=by
 unfold fc at h
 refine aw func20 z z ?_
 have s:=Sep.start w
 refine .g (.qn z (.seq (.g (.qn z (.block (bv h λy1 hy1 h=>?_))))))
 refine .via (.iter (λs1 E' W'=>ao E' [(0,(sv v_0)),(1,vi s1.1),(5,vi s1.2)]/\Sep No w W' []) (λy2 x E' W'=>(match y2 with | .inl o1=>x=.ret/\rZ w o1 E' W' | .inr o2=>x=.exit 0/\ao E' [(1,vi o2)]/\Sep No w W' [])) hy1 ⟨sb rfl,s.to [] rfl⟩ ?_) ?_
 ·intro s1 y3 E W h hI
  obtain ⟨hE,s⟩:=hI
  refine CW.sub hE ?_
  unfold eR at h
  refine .seq (.g (.q z (.q z (.s (aD (s.keep q_0) u29 z z) z (.q z (.nil ?_))))))
  refine .cs z h ?_ ?_ <;> intro h
  ·refine .skip (.seq (.block (.g (.q z (.q z (bv h λx1 hx1 h=>?_))))))
   obtain ⟨k1,hd,hck1⟩:=RV.el2 q_0 hx1
   obtain ⟨v1,k1,rfl,q1,hd1⟩:=bf q_0 hd
   obtain rfl:=gc q_0 hd1
   refine .s (ixv (s.keep q_0) hx1 u29 t33 z z z) z (.s (lde (hck1 _ s.agree) t33 z z z z z) z (.q z (bv h λy4 hy4 h=>.c (.cO s func49 (rY hy4 (s.keep (q1 _ q_0))) z z ?_))))
   intro W s
   refine .qn z (.g (.q z (.q z (.nil ?_))))
   refine .cs z h ?_ ?_ <;> intro h
   ·refine .g (.qn z (.ret ?_))
    cases h
    exact ⟨by simp,z,aa (vs:=[_]) () (rt z rn) z (s.to [])⟩
   refine .skip (.region (.q z (.q z (.q z (.nil ?_)))))
   cases h
   exact ⟨z,sb z,s.to []⟩
  refine .exit ?_
  cases h
  exact ⟨by simp,z,sb z,s.to []⟩
 intro x E W hJ
 rcases y1 with o3 | o4
 ·have h:=bQ h
  obtain ⟨rfl,hF⟩:=hJ
  refine ⟨_,λ_ _ h=>h,?_⟩
  cases h
  exact hF
 have h:=bR h
 obtain ⟨rfl,hE,s⟩:=hJ
 refine ⟨_,hE.sub,?_⟩
 obtain rfl:=o9 h
 exact .g (.q z (.qn z (.ret (aa () (rt z rn) z (s.to [])))))
theorem nl {k:Nat} {a0:aN} {a1:Int} {aC:Hd} {az:Hd} {w:World} {r:Bool} (h:dS k a0 a1=some r) (bi:RO w aC 3 1 (D.int .i64) a0.Rooms) (ay:RO w az 108 1 (λ(l:List aq)=>D.row 143 8 (l.map cB)) a0.Tasks):CL 4 #[.agg #[sv aC,sv az],vi a1] w (RU w (.bool r)):=by
 unfold dS at h
 refine aw func4 z z ?_
 have s:=Sep.start w
 refine .g (.c (.box s z z ?_))
 intro g1 W s
 refine .qn z (.g (.qn z (.g (.s (ld t44 s z z z z z) z (.q z (bv h λy1 hy1 h=>.c (.cO s func14 (rO hy1 (s.keep bi) (s.keep ay)) z z ?_)))))))
 intro W s
 refine .qn z (.seq (.g (.q z (.q z (.nil ?_)))))
 refine .cs z h ?_ ?_ <;> intro h
 ·obtain rfl:=o9 h
  exact .g (.qn z (.ret (aa () (rt z rn) z (s.to []))))
 refine .skip (.g (.s (ld t44 s z z z z z) z (bv h λy2 hy2 h=>.c (.call s func15 (iJ hy2 (s.keep bi) (s.keep ay)) z z ?_))))
 rintro ⟨v1,v2⟩ W s
 refine .q z (bv h λy3 hy3 h=>.c (.cV s func7 (qS hy3 s.lv s.p1.lv) z z ?_))
 intro v3 W s
 refine .q z (.q z (.q z (.q z (.qn z (.g (.s (ld t44 s.p3 z z z z z) z (bv h λy4 hy4 h=>.c (.call s func15 (iJ hy4 (s.keep bi) (s.keep ay)) z z ?_))))))))
 rintro ⟨v4,v5⟩ W s
 refine .c (.alloc t26 s ?_)
 intro g2 W s
 refine .c (.st t26 s z z z ?_)
 intro W s
 refine .nil (.g (.s (ld t26 s z z z z z) z (.q z (bv h λy5 hy5 h=>.c (.cV s func6 (nh hy5 s.p1.lv s.p2.lv) z z ?_)))))
 intro v6 W s
 refine .q z (.q z (.q z (.q z (.qn z (.seq (.g (.q z (.q z (bv h λy6 hy6 h=>.c (.cO s func16 (md hy6 s.lv s.p4.lv) z z ?_))))))))))
 intro W s
 refine .q z (.q z (.cu 4 44 ((!y6)||(y5.2 !=y3.2)) s ?_ ?_))
 ·refine .both (!y6) (λb=>?_) (λb=>?_)
  ·exact .xx b z (.xx b z (.xx b z (.s (pkt b z z z) z (.nil (ck 4 s z (kK b))))))
  have hg1:=b
  exact .g hg1 (.q z (.g hg1 (.q z (.g hg1 (.s (neb u4 z z z) z (.s (pkf hg1 z z z) z (.nil (ck 4 s z (jT hg1)))))))))
 intro W s
 refine .nil ?_
 refine .cs z h ?_ ?_ <;> intro h
 ·obtain rfl:=o9 h
  exact .g (.qn z (.ret (aa () (rt z rn) z (s.to []))))
 refine .skip (.seq (.seq (.rk 5 s [0,0,0,0,0,0,0,0] T.mix ?_)))
 intro W s
 have t:=s.to [0,0,0,0,0,0,0,0]
 refine .ts' 0 z (λW t=>ld t26 t.p1 z z z z z) t z (.ts' 1 z (λW t=>ld t44 t.p7 z z z z z) t z (bv h λy7 hy7 h=>.by1 2 z (.call s func15 (iJ hy7 (s.keep bi) (s.keep ay)) z z ?_)))
 rintro ⟨v7,v8⟩ W s
 refine s.an [2,2,2,2,2,2,2,2] λt=>bv h λy8 hy8 h=>.by1 3 z (.cO s func17 (rS hy8 s.p4.lv s.p5.lv s.lv s.p1.lv) z z ?_)
 intro W s
 refine s.an [2,2,2,2,2,2,2,2] λt=>.tp' 4 z z t (.done (.cond z (λb=>?_) (λb=>?_)))
 ·have h:=aW b h
  obtain rfl:=o9 h
  exact .g (.qn z (.ret (aa () (rt z rn) z (s.to []))))
 have h:=aX b h
 refine .skip (.g (.qn z (.g (.s (ld t26 s.p3 z z z z z) z (.q z (bv h λy9 hy9 h=>?_))))))
 have s:=s.p5.p5
 refine .c (.cS (L0:=[ac (sv v4) 3 1 (D.int .i64) y4.Rooms,ac (sv v5) 36 1 (λ(l:List ae)=>D.row 80 8 (l.map aL)) y4.Tasks]) s func18 (λS h1 h2 h3=>(qg hy9 h2 (zz h1))) z z ?_)
 rintro ⟨⟩ W s
 refine .qn z (.seq (.g (.q z (.q z (.q z (bv h λb1 hb1 h=>.cu 5 60 (b1) s ?_ ?_))))))
 ·refine .both (decide (y9.1<0)) (λb=>?_) (λb=>?_)
  ·refine .xx b z (.xx b z (.xx b z (.xx b z ?_)))
   cases aW b hb1
   exact .s (pkt b z z z) z (.nil (ck 5 s))
  have hg2:=b
  have h:=aX b hb1
  refine .g hg2 (.q z (.g hg2 (.q z (bv h λy10 hy10 h=>.g hg2 (.c (.cO s func16 (md hy10 s.p4.lv s.p6.lv) z z ?_))))))
  intro W s
  refine .g hg2 (.q z (.s (pkf hg2 z z z) z ?_))
  cases h
  exact .nil (ck 5 s)
 intro W s
 refine .q z (.cu 4 65 (b1||(y5.2 !=y3.2)) s ?_ ?_)
 ·refine .both (b1) (λb=>?_) (λb=>?_)
  ·exact .xx b z (.xx b z (.xx b z (.s (pkt b z z z) z (.nil (ck 4 s z (kK b))))))
  have hg3:=b
  exact .g hg3 (.q z (.g hg3 (.q z (.g hg3 (.s (neb u4 z z z) z (.s (pkf hg3 z z z) z (.nil (ck 4 s z (jT hg3)))))))))
 intro W s
 refine .nil (.cond z (λb=>?_) (λb=>?_))
 ·have h:=aW b h
  obtain rfl:=o9 h
  exact .g (.qn z (.ret (aa () (rt z rn) z (s.to []))))
 have h:=aX b h
 refine .skip (.g (.qn z (.g (.q z (.q z (bv h λy11 hy11 h=>?_))))))
 have s:=s.p4
 refine .c (.cS (L0:=[ac (sv v6) 33 1 (λ(l:List ab)=>D.row 62 5 (l.map ah)) y5.1]) s func19 (λS h1 h2 h3=>(qX hy11 h2 (zz h1))) z z ?_)
 rintro ⟨⟩ W s
 refine .qn z (.g (.qn z (.g (.q z (.q z (bv h λy12 hy12 h=>.c (.cO s func20 (nk hy12 s.lv) z z ?_)))))))
 intro W s
 refine .qn z (.seq (.g (.q z (.q z (.nil ?_)))))
 refine .cs z h ?_ ?_ <;> intro h
 ·obtain rfl:=o9 h
  exact .g (.qn z (.ret (aa () (rt z rn) z (s.to []))))
 refine .skip (.seq (.g (.q z (.q z (.q z (.nil ?_))))))
 refine .cs z h ?_ ?_ <;> intro h
 ·obtain rfl:=o9 h
  exact .g (.qn z (.ret (aa () (rt z rn) z (s.to []))))
 refine .skip (.g (.s (ld t44 s.p9 z z z z z) z (bv h λy13 hy13 h=>.c (.call s func15 (iJ hy13 (s.keep bi) (s.keep ay)) z z ?_))))
 rintro ⟨v9,v10⟩ W s
 refine .q z (bv h λy14 hy14 h=>.c (.cV s func6 (nh hy14 s.lv s.p1.lv) z z ?_))
 intro v11 W s
 refine .q z (.q z (.q z (.q z (.qn z (.seq (.g (.q z (.q z (bv h λy15 hy15 h=>.c (.cO s func16 (md hy15 s.lv s.p9.lv) z z ?_))))))))))
 intro W s
 refine .q z (.q z (.cu 4 92 ((!y15)||(y14.2 !=y3.2)) s ?_ ?_))
 ·refine .both (!y15) (λb=>?_) (λb=>?_)
  ·exact .xx b z (.xx b z (.xx b z (.s (pkt b z z z) z (.nil (ck 4 s z (kK b))))))
  have hg4:=b
  exact .g hg4 (.q z (.g hg4 (.q z (.g hg4 (.s (neb u4 z z z) z (.s (pkf hg4 z z z) z (.nil (ck 4 s z (jT hg4)))))))))
 intro W s
 refine .nil ?_
 refine .cs z h ?_ ?_ <;> intro h
 ·obtain rfl:=o9 h
  exact .g (.qn z (.ret (aa () (rt z rn) z (s.to []))))
 refine .skip (.g (.qn z (.g (.q z (.q z (bv h λy16 hy16 h=>.c (.cO s func20 (nk hy16 s.p3.lv) z z ?_)))))))
 intro W s
 refine .qn z (.seq (.g (.q z (.q z (.nil ?_)))))
 refine .cs z h ?_ ?_ <;> intro h
 ·obtain rfl:=o9 h
  exact .g (.qn z (.ret (aa () (rt z rn) z (s.to []))))
 refine .skip (.seq (.g (.q z (.q z (.q z (.nil ?_))))))
 refine .cs z h ?_ ?_ <;> intro h
 ·obtain rfl:=o9 h
  exact .g (.qn z (.ret (aa () (rt z rn) z (s.to []))))
 obtain rfl:=o9 h
 exact .skip (.g (.qn z (.ret (aa () (rt z rn) z (s.to [])))))
end

end Go.Proofs.YtmjebmhcbnkojaaGreat.N
