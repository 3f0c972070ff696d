/- Printed by a program of mine: that the program's functions compute it. -/
import Derived.Test.YtfpngipcclmliaaGreatDoorK7
set_option linter.unusedVariables false
set_option linter.unusedSimpArgs false
set_option maxRecDepth 100000
set_option maxHeartbeats 4000000
namespace Go.Proofs.YtfpngipcclmliaaGreatDoor.N
open Go.Proofs.YtfpngipcclmliaaGreatDoor.X
open T Tryz
noncomputable section
theorem tN {a0:ab} {a1:List Int} {v_1:Hd} {w:World} {r:(List Int)} (h:gh a0 a1=some r) (q_1:RO w v_1 3 1 (D.int .i64) a1):CL 281 #[.agg #[vi a0.Op,vi a0.Dst,vi a0.A,vi a0.B,vi a0.N],sv v_1] w (Ret No w (λs:Hd=>(sv s)) (λs=>[ac (sv s) 3 1 (D.int .i64) r])):=by
 unfold gh at h
 refine ao func281 z z ?_
 have s:=Sep.start w
 refine .g (.c (.box s z z ?_))
 intro g1 W s
 refine .qn z (.g (.c (.liv [] (D.int .i64) u23 t3 s z z z z ?_ z (λ_=>z))))
 intro v1 W s
 refine .q z (bv h λr1 hr1 h=>.c (.av hr1 s (s.keep q_1) (λ_=>z) u23 t3 z z z ?_))
 intro v2 W s
 refine .qn z (.g (.s (ld t70 s.p1 z z z z z) z (bv h λy1 hy1 h=>.c (.cO s func157 (gX hy1) z z ?_))))
 intro W s
 refine .qn z (.seq (.g (.q z (.q z (.nil ?_)))))
 refine .cs z h ?_ ?_ <;> intro h
 ·obtain rfl:=o9 h
  exact .g (.q z (.qn z (.ret (aa v2 (rt z rn) z (s.tk [0])))))
 refine .skip (.seq (.g (.qn z (.block (bv h λy2 hy2 h=>?_)))))
 refine .via (.iter (λs1 E' W'=>al E' [(2,Pt g1),(5,(sv v2)),(6,vi y1),(7,vi s1.1)]/\Sep No w W' [ac (sv v2) 3 1 (D.int .i64) s1.2,.box g1 70 [vi a0.Op,vi a0.Dst,vi a0.A,vi a0.B,vi a0.N]]) (λy3 x E' W'=>x=.exit 0/\al E' [(2,Pt g1),(5,(sv v2)),(6,vi y1)]/\Sep No w W' [ac (sv v2) 3 1 (D.int .i64) y3,.box g1 70 [vi a0.Op,vi a0.Dst,vi a0.A,vi a0.B,vi a0.N]]) hy2 ⟨sb z,s.tk [0,0]⟩ ?_) ?_
 ·intro s1 y4 E W h hI
  obtain ⟨hE,s⟩:=hI
  refine CW.sub hE ?_
  unfold jP at h
  refine .seq (.g (.q z (.q z (.nil ?_))))
  refine .cs z h ?_ ?_ <;> intro h
  ·refine .skip (bv h λy5 hy5 h=>?_)
   refine .seq (CW.via (R':=λx E' W'=>x=.normal/\al E' [(2,Pt g1),(5,(sv v2)),(6,vi y1),(7,vi s1.1)]/\Sep No w W' [ac (sv v2) 3 1 (D.int .i64) y5,.box g1 70 [vi a0.Op,vi a0.Dst,vi a0.A,vi a0.B,vi a0.N]]) ?_ ?_)
   ·have h:=hy5
    refine .block (.g (.q z (.q z (bv h λx1 hx1 h=>.s (ixv s.lv hx1 u23 t3 z z z) z (.s (lde (RV.flat s.lv hx1 z) t3 z z z z z) z (.q z (.q z (.nil ?_))))))))
    refine .cs z h ?_ ?_ <;> intro h
    ·refine .region (.q z (.q z (.q z (bv h λx2 hx2 h=>.s (ixv s.lv hx2 u23 t3 z z z) z (bv h λr2 hr2 h=>.c (.sev hr2 hx2 s t3 z z z z z z ?_))))))
     intro W s
     refine .nil ?_
     obtain rfl:=o9 h
     exact ⟨z,sb z,s.tk [0,0]⟩
    refine .skip ?_
    cases h
    exact ⟨z,sb z,s.tk [0,0]⟩
   intro x E W hJ
   obtain ⟨rfl,hE,s⟩:=hJ
   refine ⟨_,hE.sub,?_⟩
   refine .region (.q z (.q z (.q z (.nil ?_))))
   cases h
   exact ⟨z,sb z,s.tk [0,0]⟩
  refine .exit ?_
  cases h
  exact ⟨by simp,z,sb z,s.tk [0,0]⟩
 intro x E W hJ
 obtain ⟨rfl,hE,s⟩:=hJ
 refine ⟨_,hE.sub,?_⟩
 refine .g (.q z (.q z (.q z (bv h λx3 hx3 h=>.s (ixv s.lv hx3 u23 t3 z z z) z (bv h λr3 hr3 h=>.c (.sev hr3 hx3 s t3 z z z z z z ?_))))))
 intro W s
 refine .nil (.seq (.g (.s (fa f70_0 z z z) z (.s (ld t3 s.p1 z z z z z) z (.q z (.nil ?_))))))
 refine .cs z h ?_ ?_ <;> intro h
 ·refine .region (.q z (.q z (.s (fa f70_2 z z z) z (.s (ld t3 s.p1 z z z z z) z (bv h λx4 hx4 h=>.s (ixv s.lv hx4 u23 t3 z z z) z (bv h λr4 hr4 h=>.c (.sev hr4 hx4 s t3 z z z z z z ?_)))))))
  intro W s
  obtain rfl:=o9 h
  exact .nil (.g (.q z (.qn z (.ret (aa v2 (rt z rn) z (s.tk [0]))))))
 obtain rfl:=o9 h
 exact .skip (.g (.q z (.qn z (.ret (aa v2 (rt z rn) z (s.tk [0]))))))
theorem tP {a0:List (List Int)} {a1:Int} {a2:List Int} {v_0:Hd} {v_2:Hd} {S:Nat->Prop} {w:World} {r:Bool×(List (List Int))} (h:gi a0 a1 a2=some r) (q_2:RV w (Old S w) (sv v_2) 3 1 (D.int .i64) a2) (hO:bw w [ac (sv v_0) 23 1 (λ(l:List Int)=>D.row 3 1 (l.map (D.int .i64))) a0] S) (hlt:∀ b,S b->b<w.heap.size):CL 282 #[sv v_0,vi a1,sv v_2] w (Ret S w (λs:Unit=>.bool r.1) (λs=>[ac (sv v_0) 23 1 (λ(l:List Int)=>D.row 3 1 (l.map (D.int .i64))) r.2])):=by
 unfold gi at h
 refine ao func282 z z ?_
 have s:=Sep.sm hO hlt
 refine .g (.qn z (.seq (.g (.q z (.q z (bv h λx1 hx1 h=>.s (ixv s.lv hx1 u230 t23 z z z) z ?_))))))
 obtain ⟨k1,s⟩:=Sep.ov s hx1
 obtain ⟨v1,k1,rfl,s⟩:=s.ow
 obtain ⟨rfl,s⟩:=s.oN
 refine .s (lde (s.p1.hcellsv) t23 z z z z z) z (.s (aJ s.lv u23 z z) z (.q z (.nil ?_)))
 refine .cs z h ?_ ?_ <;> intro h
 ·refine .g (.q z (.q z (.c (.liv [] (D.int .i64) u23 t3 s z z z z ?_ z (λ_=>z)))))
  intro v2 W s
  refine .q z (bv h λr1 hr1 h=>.c (.av hr1 s (s.keep q_2) (λ_=>z) u23 t3 z z z ?_))
  intro v3 W s
  refine .s (ixh s.p2 hx1 u230 t23 z z z) z (.c (.sthv s.p2 t23 z z z ?_))
  intro W s
  refine .nil (.g (.qn z (.ret ?_)))
  have s:=Sep.gat (ds:=[.row 3 1 (r1.map (D.int .i64))]) (cs:=[sv v3]) (L1:=[ac (sv v3) 3 1 (D.int .i64) r1]) (.row (.nil)) (s.to [1,0,0])
  have s:Sep _ _ _ [ac (sv v_0) 23 1 (λ(l:List Int)=>D.row 3 1 (l.map (D.int .i64))) (a0.set (Int.toNat a1) r1),ac (sv v1) 3 1 (D.int .i64) x1]:=s.bv
  cases h
  exact aa () (rt z rn) z (s.tk [0])
 refine .skip (.g (.qn z (.seq (.g (.qn z (.block ?_))))))
 have s:=Sep.gat (ds:=[.row 3 1 (x1.map (D.int .i64))]) (cs:=[sv v1]) (L1:=[ac (sv v1) 3 1 (D.int .i64) x1]) (.row (.nil)) (s.to [0,0])
 have s:Sep _ _ _ [ac (sv v_0) 23 1 (λ(l:List Int)=>D.row 3 1 (l.map (D.int .i64))) a0]:=Sep.back0v hx1 s
 refine bv h λy1 hy1 h=>?_
 refine .via (.iter (λs1 E' W'=>al E' [(0,(sv v_0)),(1,vi a1),(2,(sv v_2)),(7,.bool s1.1),(8,vi s1.2.1)]/\Sep S w W' [ac (sv v_0) 23 1 (λ(l:List Int)=>D.row 3 1 (l.map (D.int .i64))) s1.2.2]) (λy2 x E' W'=>x=.exit 0/\al E' [(7,.bool y2.1)]/\Sep S w W' [ac (sv v_0) 23 1 (λ(l:List Int)=>D.row 3 1 (l.map (D.int .i64))) y2.2]) hy1 ⟨sb z,s.tk [0]⟩ ?_) ?_
 ·intro s1 y3 E W h hI
  obtain ⟨hE,s⟩:=hI
  refine CW.sub hE ?_
  unfold jQ at h
  refine .seq (.g (.q z (.q z (.nil ?_))))
  refine .cs z h ?_ ?_ <;> intro h
  ·refine .skip (bv h λy4 hy4 h=>?_)
   refine .seq (CW.via (R':=λx E' W'=>x=.normal/\al E' [(0,(sv v_0)),(1,vi a1),(2,(sv v_2)),(7,.bool y4.1),(8,vi s1.2.1)]/\Sep S w W' [ac (sv v_0) 23 1 (λ(l:List Int)=>D.row 3 1 (l.map (D.int .i64))) y4.2]) ?_ ?_)
   ·have h:=hy4
    refine .block (.seq (bv h λx2 hx2 h=>?_))
    obtain ⟨k2,s⟩:=Sep.ov s hx2
    obtain ⟨v4,k2,rfl,s⟩:=s.ow
    obtain ⟨rfl,s⟩:=s.oN
    refine bv h λx6 hx6 h=>bv h λb2 hb2 h=>?_
    refine .via (R':=λx E' W'=>x=.normal/\al E' [(0,(sv v_0)),(1,vi a1),(2,(sv v_2)),(7,.bool s1.1),(8,vi s1.2.1),(47,.bool b2)]/\Sep S w W' [ac (sv v_0) 23 1 (λ(l:List Int)=>D.row 3 1 (l.map (D.int .i64))) s1.2.2]) ?_ ?_
    ·refine .rk 23 s [0,0] T.mix ?_
     intro W s
     have t:=s.to [0,0]
     refine .tp' 0 z z t (.tp' 1 z z t (.ts' 2 z (λW t=>ixh t.p1 hx2 u230 t23 z z z) t z (.ts' 3 z (λW t=>lde (t.p1.hcellsv) t23 z z z z z) t z (.tp' 4 z z t (.ts' 5 z (λW t=>ixv s.lv hx6 u23 t3 z z z) t z (.ts' 6 z (λW t=>lde (RV.flat t.lv hx6 z) t3 z z z z z) t z (.tp' 7 z z t (.tp' 8 z z t (.tp' 9 z z t (.both (x6 !=s1.2.1) (λb=>?_) (λb=>?_)))))))))))
     ·have hg2:=b
      have h_b2:=aC b hb2
      refine .t1g 10 z hg2 (λW t=>pr z) t (.t1g 11 z hg2 (λW t=>pr z) t (.t1g 12 z hg2 (λW t=>ixh t.p1 hx2 u230 t23 z z z) t (.t1g 13 z hg2 (λW t=>lde (t.p1.hcellsv) t23 z z z z z) t (.t1g 14 z hg2 (λW t=>pr z) t (bv h_b2 λx7 hx7 h_b2=>.t1g 15 z hg2 (λW t=>ixv s.lv hx7 u23 t3 z z z) t (.t1g 16 z hg2 (λW t=>lde (RV.flat t.lv hx7 z) t3 z z z z z) t (.t1g 17 z hg2 (λW t=>pr z) t (.t1g 18 z hg2 (λW t=>pr z) t (bv h_b2 λx8 hx8 h_b2=>.t1g 19 z hg2 (λW t=>ixv (s.keep q_2) hx8 u23 t3 z z z) t (.t1g 20 z hg2 (λW t=>lde (RV.flat (t.keep q_2) hx8 z) t3 z z z z z) t (.t1g 21 z hg2 (λW t=>pr z) t (.ts' 22 z (λW t=>pkt hg2 z z z) t z (.eqv 47 z (gu h_b2) (.done ?_))) (by kernel_rfl) z z) (by kernel_rfl) z z) (by kernel_rfl) z z) (by kernel_rfl) z z) (by kernel_rfl) z z) (by kernel_rfl) z z) (by kernel_rfl) z z) (by kernel_rfl) z z) (by kernel_rfl) z z) (by kernel_rfl) z z) (by kernel_rfl) z z) (by kernel_rfl) z z
      have s:=Sep.gat (ds:=[.row 3 1 (x2.map (D.int .i64))]) (cs:=[sv v4]) (L1:=[ac (sv v4) 3 1 (D.int .i64) x2]) (.row (.nil)) (s.to [0,0])
      have s:Sep _ _ _ [ac (sv v_0) 23 1 (λ(l:List Int)=>D.row 3 1 (l.map (D.int .i64))) s1.2.2]:=Sep.back0v hx2 s
      exact ⟨z,sb z,s.tk [0]⟩
     refine .off 10 z b t (.off 11 z b t (.off 12 z b t (.off 13 z b t (.off 14 z b t (.off 15 z b t (.off 16 z b t (.off 17 z b t (.off 18 z b t (.off 19 z b t (.off 20 z b t (.off 21 z b t (.ts' 22 z (λW t=>pkf b z z z) t z (.eqv 47 z (gu (aD b hb2)) (.done ?_))) (by kernel_rfl) z z) (by kernel_rfl) z z) (by kernel_rfl) z z) (by kernel_rfl) z z) (by kernel_rfl) z z) (by kernel_rfl) z z) (by kernel_rfl) z z) (by kernel_rfl) z z) (by kernel_rfl) z z) (by kernel_rfl) z z) (by kernel_rfl) z z) (by kernel_rfl) z z
     have s:=Sep.gat (ds:=[.row 3 1 (x2.map (D.int .i64))]) (cs:=[sv v4]) (L1:=[ac (sv v4) 3 1 (D.int .i64) x2]) (.row (.nil)) (s.to [0,0])
     have s:Sep _ _ _ [ac (sv v_0) 23 1 (λ(l:List Int)=>D.row 3 1 (l.map (D.int .i64))) s1.2.2]:=Sep.back0v hx2 s
     exact ⟨z,sb z,s.tk [0]⟩
    intro x E W hJ
    obtain ⟨rfl,hE,s⟩:=hJ
    refine ⟨_,hE.sub,?_⟩
    refine .cs z h ?_ ?_ <;> intro h
    ·refine .g (.q z (.q z (bv h λx9 hx9 h=>.s (ixv s.lv hx9 u230 t23 z z z) z ?_)))
     obtain ⟨k3,s⟩:=Sep.ov s hx9
     obtain ⟨v5,k3,rfl,s⟩:=s.ow
     obtain ⟨rfl,s⟩:=s.oN
     refine .s (lde (s.p1.hcellsv) t23 z z z z z) z (.q z (.q z (bv h λx10 hx10 h=>.s (ixv s.lv hx10 u23 t3 z z z) z (bv h λr2 hr2 h=>.c (.sev hr2 hx10 s t3 z z z z z z ?_)))))
     intro W s
     refine .nil (.region (.q z (.nil ?_)))
     have s:=Sep.gat (ds:=[.row 3 1 (r2.map (D.int .i64))]) (cs:=[sv v5]) (L1:=[ac (sv v5) 3 1 (D.int .i64) r2]) (.row (.nil)) (s.to [0,0])
     have s:Sep _ _ _ [ac (sv v_0) 23 1 (λ(l:List Int)=>D.row 3 1 (l.map (D.int .i64))) (s1.2.2.set (Int.toNat a1) r2)]:=s.bv
     cases h
     exact ⟨z,sb z,s.tk [0]⟩
    refine .skip ?_
    cases h
    exact ⟨z,sb z,s.tk [0]⟩
   intro x E W hJ
   obtain ⟨rfl,hE,s⟩:=hJ
   refine ⟨_,hE.sub,?_⟩
   refine .region (.q z (.q z (.q z (.nil ?_))))
   cases h
   exact ⟨z,sb z,s.tk [0]⟩
  refine .exit ?_
  cases h
  exact ⟨by simp,z,sb z,s.tk [0]⟩
 intro x E W hJ
 obtain ⟨rfl,hE,s⟩:=hJ
 refine ⟨_,hE.sub,?_⟩
 cases h
 exact .g (.q z (.qn z (.ret (aa () (rt z rn) z (s.tk [0])))))
theorem tQ {a0:List ab} {a1:List (List Int)} {v_0:Hd} {v_1:Hd} {S:Nat->Prop} {w:World} {r:Bool×(List (List Int))} (h:gj a0 a1=some r) (q_0:RV w (Old S w) (sv v_0) 70 5 ae a0) (hO:bw w [ac (sv v_1) 23 1 (λ(l:List Int)=>D.row 3 1 (l.map (D.int .i64))) a1] S) (hlt:∀ b,S b->b<w.heap.size):CL 268 #[sv v_0,sv v_1] w (Ret S w (λs:Unit=>.bool r.1) (λs=>[ac (sv v_1) 23 1 (λ(l:List Int)=>D.row 3 1 (l.map (D.int .i64))) r.2])):=by
 unfold gj at h
 refine ao func268 z z ?_
 have s:=Sep.sm hO hlt
 refine .g (.qn z (.g (.qn z (.seq (.g (.qn z (.block (bv h λy1 hy1 h=>?_))))))))
 refine .via (.iter (λs1 E' W'=>al E' [(0,(sv v_0)),(1,(sv v_1)),(5,.bool s1.1),(6,vi s1.2.1)]/\Sep S w W' [ac (sv v_1) 23 1 (λ(l:List Int)=>D.row 3 1 (l.map (D.int .i64))) s1.2.2]) (λy2 x E' W'=>x=.exit 0/\al E' [(5,.bool y2.1)]/\Sep S w W' [ac (sv v_1) 23 1 (λ(l:List Int)=>D.row 3 1 (l.map (D.int .i64))) y2.2]) hy1 ⟨sb z,s.tk [0]⟩ ?_) ?_
 ·intro s1 y3 E W h hI
  obtain ⟨hE,s⟩:=hI
  refine CW.sub hE ?_
  unfold jS at h
  refine .seq (.g (.q z (.q z (.s (aJ (s.keep q_0) u38 z z) z (.q z (.nil ?_))))))
  refine .cs z h ?_ ?_ <;> intro h
  ·refine .skip (bv h λy4 hy4 h=>?_)
   refine .seq (CW.via (R':=λx E' W'=>x=.normal/\al E' [(0,(sv v_0)),(1,(sv v_1)),(5,.bool y4.1),(6,vi s1.2.1)]/\Sep S w W' [ac (sv v_1) 23 1 (λ(l:List Int)=>D.row 3 1 (l.map (D.int .i64))) y4.2]) ?_ ?_)
   ·have h:=hy4
    refine .block (.seq (.g (.q z (.q z (bv h λx1 hx1 h=>.s (ixv s.lv hx1 u230 t23 z z z) z ?_)))))
    obtain ⟨k1,s⟩:=Sep.ov s hx1
    obtain ⟨v1,k1,rfl,s⟩:=s.ow
    obtain ⟨rfl,s⟩:=s.oN
    refine .s (lde (s.p1.hcellsv) t23 z z z z z) z (.s (aJ s.lv u23 z z) z (.q z (.nil ?_)))
    refine .cs z h ?_ ?_ <;> intro h
    ·refine .exit ?_
     have s:=Sep.gat (ds:=[.row 3 1 (x1.map (D.int .i64))]) (cs:=[sv v1]) (L1:=[ac (sv v1) 3 1 (D.int .i64) x1]) (.row (.nil)) (s.to [0,0])
     have s:Sep _ _ _ [ac (sv v_1) 23 1 (λ(l:List Int)=>D.row 3 1 (l.map (D.int .i64))) s1.2.2]:=Sep.back0v hx1 s
     cases h
     exact ⟨z,sb z,s.tk [0]⟩
    refine .skip (.g (.q z (.q z (bv h λy5 hy5 h=>.c (.cV s func251 (kU hy5 (s.keep q_0)) z z ?_)))))
    intro v2 W s
    refine .qn z (.seq (.rk 10 s [0,0,0] T.mix ?_))
    intro W s
    have t:=s.to [0,0,0]
    refine .tp' 0 z z t (.tp' 1 z z t (bv h λx2 hx2 h=>.ts' 2 z (λW t=>ixv (s.keep q_0) hx2 u38 t70 z z z) t z (.ts' 3 z (λW t=>lde (RV.flat (t.keep q_0) hx2 z) t70 z z z z z) t z (.tp' 4 z z t (.tp' 5 z z t (.ts' 6 z (λW t=>ixh t.p2 hx1 u230 t23 z z z) t z (.ts' 7 z (λW t=>lde (t.p2.hcellsv) t23 z z z z z) t z (bv h λy6 hy6 h=>.by1 8 z (.cV s func281 (tN hy6 s.p1.lv) z z ?_)))))))))
    intro v3 W s
    refine s.an [1,1,1] λt=>.tp' 9 z z t (.done (.g (.qn z (.block ?_))))
    have s:=Sep.gat (ds:=[.row 3 1 (x1.map (D.int .i64))]) (cs:=[sv v1]) (L1:=[ac (sv v1) 3 1 (D.int .i64) x1]) (.row (.nil)) (s.to [2,2,0,0])
    have s:Sep _ _ _ [ac (sv v_1) 23 1 (λ(l:List Int)=>D.row 3 1 (l.map (D.int .i64))) s1.2.2,ac (sv v3) 3 1 (D.int .i64) y6,ac (sv v2) 3 1 (D.int .i64) y5]:=Sep.back0v hx1 s
    refine bv h λy7 hy7 h=>?_
    refine .via (.iter (λs2 E' W'=>al E' [(0,(sv v_0)),(1,(sv v_1)),(5,.bool s2.1),(6,vi s1.2.1),(7,(sv v2)),(8,(sv v3)),(9,vi s2.2.1)]/\Sep S w W' [ac (sv v_1) 23 1 (λ(l:List Int)=>D.row 3 1 (l.map (D.int .i64))) s2.2.2,ac (sv v3) 3 1 (D.int .i64) y6,ac (sv v2) 3 1 (D.int .i64) y5]) (λy8 x E' W'=>x=.exit 2/\al E' [(0,(sv v_0)),(1,(sv v_1)),(5,.bool y8.1),(6,vi s1.2.1)]/\Sep S w W' [ac (sv v_1) 23 1 (λ(l:List Int)=>D.row 3 1 (l.map (D.int .i64))) y8.2,ac (sv v3) 3 1 (D.int .i64) y6,ac (sv v2) 3 1 (D.int .i64) y5]) hy7 ⟨sb z,s.tk [0,0,0]⟩ ?_) ?_
    ·intro s2 y9 E W h hI
     obtain ⟨hE,s⟩:=hI
     refine CW.sub hE ?_
     unfold jR at h
     refine .seq (.g (.q z (.q z (.s (aJ s.p2.lv u23 z z) z (.qn z (.cond z (λb=>?_) (λb=>?_)))))))
     ·have h:=aC b h
      refine .skip (bv h λy10 hy10 h=>?_)
      refine .seq (CW.via (R':=λx E' W'=>x=.normal/\al E' [(0,(sv v_0)),(1,(sv v_1)),(5,.bool y10.1),(6,vi s1.2.1),(7,(sv v2)),(8,(sv v3)),(9,vi s2.2.1)]/\Sep S w W' [ac (sv v_1) 23 1 (λ(l:List Int)=>D.row 3 1 (l.map (D.int .i64))) y10.2,ac (sv v3) 3 1 (D.int .i64) y6,ac (sv v2) 3 1 (D.int .i64) y5]) ?_ ?_)
      ·have h:=hy10
       refine .block (.g (.q z (.q z (.q z (bv h λx3 hx3 h=>.s (ixv s.p2.lv hx3 u23 t3 z z z) z (.s (lde (RV.flat s.p2.lv hx3 z) t3 z z z z z) z (.q z (bv h λy11 hy11 h=>.c (.cS (L0:=[ac (sv v_1) 23 1 (λ(l:List Int)=>D.row 3 1 (l.map (D.int .i64))) s2.2.2]) s func282 (λS h1 h2 h3=>(tP hy11 (h3.rdv (k:=0) z) h2 (zz h1))) z z ?_)))))))))
       rintro ⟨⟩ W s
       refine .nil ?_
       refine .cs z h ?_ ?_ <;> intro h
       ·refine .region (.q z (.nil ?_))
        cases h
        exact ⟨z,sb z,s.tk [0,0,0]⟩
       refine .skip ?_
       cases h
       exact ⟨z,sb z,s.tk [0,0,0]⟩
      intro x E W hJ
      obtain ⟨rfl,hE,s⟩:=hJ
      refine ⟨_,hE.sub,?_⟩
      refine .region (.q z (.q z (.q z (.nil ?_))))
      cases h
      exact ⟨z,sb z,s.tk [0,0,0]⟩
     have h:=aD b h
     refine .exit ?_
     cases h
     exact ⟨by simp,z,sb z,s.tk [0,0,0]⟩
    intro x E W hJ
    obtain ⟨rfl,hE,s⟩:=hJ
    refine ⟨_,hE.sub,?_⟩
    cases h
    exact ⟨z,sb z,s.tk [0]⟩
   intro x E W hJ
   obtain ⟨rfl,hE,s⟩:=hJ
   refine ⟨_,hE.sub,?_⟩
   refine .region (.q z (.q z (.q z (.nil ?_))))
   cases h
   exact ⟨z,sb z,s.tk [0]⟩
  refine .exit ?_
  cases h
  exact ⟨by simp,z,sb z,s.tk [0]⟩
 intro x E W hJ
 obtain ⟨rfl,hE,s⟩:=hJ
 refine ⟨_,hE.sub,?_⟩
 cases h
 exact .g (.q z (.qn z (.ret (aa () (rt z rn) z (s.tk [0])))))
theorem tR {a0:List ab} {v_0:Hd} {w:World} {r:(List (List Int))} (h:eN a0=some r) (q_0:RO w v_0 70 5 ae a0):CL 242 #[sv v_0] w (Ret No w (λs:Hd=>(sv s)) (λs=>[ac (sv s) 23 1 (λ(l:List Int)=>D.row 3 1 (l.map (D.int .i64))) r])):=by
 unfold eN at h
 refine ao func242 z z ?_
 have s:=Sep.start w
 refine .g (.qn z (.g (.c (.lg (L1:=[]) [] (λ(l:List Int)=>D.row 3 1 (l.map (D.int .i64))) u230 t23 (s.to []) z z z (.nil) ?_ z (λ_=>z)))))
 intro v1 W s
 refine .qn z (.seq (.g (.q z (bv h λy1 hy1 h=>.c (.cO s func106 (bx hy1 (s.keep q_0)) z z ?_)))))
 intro W s
 refine .qn z (.cond z (λb=>?_) (λb=>?_))
 ·have h:=aC b h
  cases h
  exact .g (.q z (.qn z (.ret (aa v1 (rt z rn) z (s.tk [0])))))
 have h:=aD b h
 refine .skip (.seq (.g (.qn z (.block (bv h λy2 hy2 h=>?_)))))
 refine .via (.iter (λs1 E' W'=>∃ (v4:Hd),al E' [(0,(sv v_0)),(3,(sv v4)),(4,vi s1.2)]/\Sep No w W' [ac (sv v4) 23 1 (λ(l:List Int)=>D.row 3 1 (l.map (D.int .i64))) s1.1]) (λy3 x E' W'=>x=.exit 0/\∃ (v5:Hd),al E' [(0,(sv v_0)),(3,(sv v5))]/\Sep No w W' [ac (sv v5) 23 1 (λ(l:List Int)=>D.row 3 1 (l.map (D.int .i64))) y3]) hy2 ⟨v1,sb z,s.tk [0]⟩ ?_) ?_
 ·intro s1 y4 E W h hI
  obtain ⟨v3,hE,s⟩:=hI
  refine CW.sub hE ?_
  unfold jT at h
  refine .seq (.g (.q z (.q z (.s (aJ (s.keep q_0) u38 z z) z (.q z (.nil ?_))))))
  refine .cs z h ?_ ?_ <;> intro h
  ·refine .skip (.seq (.block (.region (.q z (.c (.liv [] (D.int .i64) u23 t3 s z z z z ?_ z (λ_=>z)))))))
   intro v6 W s
   refine .c (.lg (L1:=[ac (sv v6) 3 1 (D.int .i64) []]) [[]] (λ(l:List Int)=>D.row 3 1 (l.map (D.int .i64))) u230 t23 (s.to [0,0]) z z z (.row (.nil)) ?_ z (λ_=>z))
   intro v7 W s
   refine bv h λr1 hr1 h=>.c (.appv hr1 (s.to [1,0]) u230 t23 z z z ?_)
   intro v8 W s
   refine .qn z (.region (.q z (.q z (.q z (.nil ?_)))))
   cases h
   exact ⟨z,v8,sb z,s.tk [0]⟩
  refine .exit ?_
  cases h
  exact ⟨by simp,z,v3,sb z,s.tk [0]⟩
 intro x E W hJ
 obtain ⟨rfl,v9,hE,s⟩:=hJ
 refine ⟨_,hE.sub,?_⟩
 refine .g (.q z (bv h λy5 hy5 h=>.c (.cV s func267 (pe hy5) z z ?_)))
 intro v10 W s
 refine bv h λx1 hx1 h=>.s (ixv s.p1.lv hx1 u230 t23 z z z) z ?_
 obtain ⟨k1,s⟩:=Sep.ov s.p1 hx1
 obtain ⟨v11,k1,rfl,s⟩:=s.ow
 obtain ⟨rfl,s⟩:=s.oN
 refine .c (.sthv s.p1 t23 z z z ?_)
 intro W s
 refine .nil (.seq (.block ?_))
 have s:=Sep.gat (ds:=[.row 3 1 (y5.map (D.int .i64))]) (cs:=[sv v10]) (L1:=[ac (sv v10) 3 1 (D.int .i64) y5]) (.row (.nil)) (s.to [2,0,0])
 have s:Sep _ _ _ [ac (sv v9) 23 1 (λ(l:List Int)=>D.row 3 1 (l.map (D.int .i64))) (y2.set (Int.toNat 0) y5),ac (sv v11) 3 1 (D.int .i64) x1]:=s.bv
 refine bv h λy6 hy6 h=>?_
 refine .via (.iter (λs2 E' W'=>al E' [(0,(sv v_0)),(3,(sv v9))]/\Sep No w W' [ac (sv v9) 23 1 (λ(l:List Int)=>D.row 3 1 (l.map (D.int .i64))) s2,ac (sv v11) 3 1 (D.int .i64) x1]) (λy7 x E' W'=>x=.exit 2/\al E' [(0,(sv v_0)),(3,(sv v9))]/\Sep No w W' [ac (sv v9) 23 1 (λ(l:List Int)=>D.row 3 1 (l.map (D.int .i64))) y7,ac (sv v11) 3 1 (D.int .i64) x1]) hy6 ⟨sb z,s.tk [0,0]⟩ ?_) ?_
 ·intro s2 y8 E W h hI
  obtain ⟨hE,s⟩:=hI
  refine CW.sub hE ?_
  unfold jU at h
  refine .seq (.g (.q z (.q z (bv h λy9 hy9 h=>.c (.cS (L0:=[ac (sv v9) 23 1 (λ(l:List Int)=>D.row 3 1 (l.map (D.int .i64))) s2]) s func268 (λS h1 h2 h3=>(tQ hy9 (s.ks q_0 h1) h2 (zz h1))) z z ?_)))))
  rintro ⟨⟩ W s
  refine .nil ?_
  refine .cs z h ?_ ?_ <;> intro h
  ·refine .skip (.block (.skip ?_))
   cases h
   exact ⟨z,sb z,s.tk [0,0]⟩
  refine .exit ?_
  cases h
  exact ⟨by simp,z,sb z,s.tk [0,0]⟩
 intro x E W hJ
 obtain ⟨rfl,hE,s⟩:=hJ
 refine ⟨_,hE.sub,?_⟩
 refine .seq (.g (.qn z (.block (bv h λy10 hy10 h=>?_))))
 refine .via (.iter (λs3 E' W'=>al E' [(0,(sv v_0)),(3,(sv v9)),(5,vi s3.1)]/\Sep No w W' [ac (sv v9) 23 1 (λ(l:List Int)=>D.row 3 1 (l.map (D.int .i64))) s3.2,ac (sv v11) 3 1 (D.int .i64) x1]) (λy11 x E' W'=>x=.exit 4/\al E' [(3,(sv v9))]/\Sep No w W' [ac (sv v9) 23 1 (λ(l:List Int)=>D.row 3 1 (l.map (D.int .i64))) y11,ac (sv v11) 3 1 (D.int .i64) x1]) hy10 ⟨sb z,s.tk [0,0]⟩ ?_) ?_
 ·intro s3 y12 E W h hI
  obtain ⟨hE,s⟩:=hI
  refine CW.sub hE ?_
  unfold jV at h
  refine .seq (.g (.q z (.q z (.s (aJ (s.keep q_0) u38 z z) z (.q z (.nil ?_))))))
  refine .cs z h ?_ ?_ <;> intro h
  ·refine .skip (bv h λy13 hy13 h=>?_)
   refine .seq (CW.via (R':=λx E' W'=>x=.normal/\al E' [(0,(sv v_0)),(3,(sv v9)),(5,vi s3.1)]/\Sep No w W' [ac (sv v9) 23 1 (λ(l:List Int)=>D.row 3 1 (l.map (D.int .i64))) y13,ac (sv v11) 3 1 (D.int .i64) x1]) ?_ ?_)
   ·have h:=hy13
    refine .block (.g (.q z (.q z (bv h λx2 hx2 h=>.s (ixv s.lv hx2 u230 t23 z z z) z ?_))))
    obtain ⟨k2,s⟩:=Sep.ov s hx2
    obtain ⟨v12,k2,rfl,s⟩:=s.ow
    obtain ⟨rfl,s⟩:=s.oN
    refine .s (lde (s.p1.hcellsv) t23 z z z z z) z (.s (aJ s.lv u23 z z) z (.q z (.nil ?_)))
    refine .cs z h ?_ ?_ <;> intro h
    ·refine .region (.q z (.q z (bv h λy14 hy14 h=>.c (.cV s func267 (pe hy14) z z ?_))))
     intro v13 W s
     refine .s (ixh s.p2 hx2 u230 t23 z z z) z (.c (.sthv s.p2 t23 z z z ?_))
     intro W s
     refine .nil ?_
     have s:=Sep.gat (ds:=[.row 3 1 (y14.map (D.int .i64))]) (cs:=[sv v13]) (L1:=[ac (sv v13) 3 1 (D.int .i64) y14]) (.row (.nil)) (s.to [1,0,0,0])
     have s:Sep _ _ _ [ac (sv v9) 23 1 (λ(l:List Int)=>D.row 3 1 (l.map (D.int .i64))) (s3.2.set (Int.toNat s3.1) y14),ac (sv v12) 3 1 (D.int .i64) x2,ac (sv v11) 3 1 (D.int .i64) x1]:=s.bv
     cases h
     exact ⟨z,sb z,s.tk [0,1]⟩
    refine .skip ?_
    have s:=Sep.gat (ds:=[.row 3 1 (x2.map (D.int .i64))]) (cs:=[sv v12]) (L1:=[ac (sv v12) 3 1 (D.int .i64) x2]) (.row (.nil)) (s.to [0,0,0])
    have s:Sep _ _ _ [ac (sv v9) 23 1 (λ(l:List Int)=>D.row 3 1 (l.map (D.int .i64))) s3.2,ac (sv v11) 3 1 (D.int .i64) x1]:=Sep.back0v hx2 s
    cases h
    exact ⟨z,sb z,s.tk [0,0]⟩
   intro x E W hJ
   obtain ⟨rfl,hE,s⟩:=hJ
   refine ⟨_,hE.sub,?_⟩
   refine .region (.q z (.q z (.q z (.nil ?_))))
   cases h
   exact ⟨z,sb z,s.tk [0,0]⟩
  refine .exit ?_
  cases h
  exact ⟨by simp,z,sb z,s.tk [0,0]⟩
 intro x E W hJ
 obtain ⟨rfl,hE,s⟩:=hJ
 refine ⟨_,hE.sub,?_⟩
 obtain rfl:=o9 h
 exact .g (.q z (.qn z (.ret (aa v9 (rt z rn) z (s.tk [0])))))
theorem uy {a0:ab} {a1:List Int} {v_1:Hd} {w:World} {r:ab} (h:ik a0 a1=some r) (q_1:RO w v_1 3 1 (D.int .i64) a1):CL 243 #[.agg #[vi a0.Op,vi a0.Dst,vi a0.A,vi a0.B,vi a0.N],sv v_1] w (RU w (.agg #[vi r.Op,vi r.Dst,vi r.A,vi r.B,vi r.N])):=by
 unfold ik at h
 refine ao func243 z z ?_
 have s:=Sep.start w
 refine .g (.c (.box s z z ?_))
 intro g1 W s
 refine .c (.alloc t70 s ?_)
 intro g2 W s
 refine .nil (.seq (.g (.s (fa f70_0 z z z) z (.s (ld t3 s.p1 z z z z z) z (.nil (.block (bv h λy1 hy1 h=>?_)))))))
 refine .seq (CW.via (R':=λx E' W'=>x=.normal/\al E' [(1,(sv v_1)),(2,Pt g1),(4,Pt g2),(6,vi a0.Op),(7,.bool y1)]/\Sep No w W' [.box g2 70 [vi 0,vi 0,vi 0,vi 0,vi 0],.box g1 70 [vi a0.Op,vi a0.Dst,vi a0.A,vi a0.B,vi a0.N]]) ?_ ?_)
 ·have h:=hy1
  refine .g (.q z (.q z (.nil ?_)))
  refine .cs z h ?_ ?_ <;> intro h
  ·refine .skip ?_
   cases h
   exact ⟨z,sb z,s.tk [0,0]⟩
  refine .g (.q z (.q z (.nil ?_)))
  refine .cs z h ?_ ?_ <;> intro h
  ·refine .skip ?_
   cases h
   exact ⟨z,sb z,s.tk [0,0]⟩
  refine .g (.q z (.q z (.nil ?_)))
  refine .cs z h ?_ ?_ <;> intro h
  ·refine .skip ?_
   cases h
   exact ⟨z,sb z,s.tk [0,0]⟩
  refine .region (.q z (.q z (.nil ?_)))
  cases h
  exact ⟨z,sb z,s.tk [0,0]⟩
 intro x E W hJ
 obtain ⟨rfl,hE,s⟩:=hJ
 refine ⟨_,hE.sub,?_⟩
 refine .cs z h ?_ ?_ <;> intro h
 ·refine .region (.q z (.s (fa f70_2 z z z) z (.s (ld t3 s.p1 z z z z z) z (bv h λx1 hx1 h=>.s (ixv (s.keep q_1) hx1 u23 t3 z z z) z (.s (lde (RV.flat (s.keep q_1) hx1 z) t3 z z z z z) z (.s (fa f70_2 z z z) z (.c (.st t3 s.p1 z z z ?_))))))))
  intro W s
  refine .nil (.g (.s (ld t70 s z z z z z) z (.c (.st t70 s.p1 z z z ?_))))
  intro W s
  cases h
  exact .nil (.ret (aa () (rc s t70 z rn z z) z (s.to [])))
 refine .g (.q z (.q z (.nil ?_)))
 refine .cs z h ?_ ?_ <;> intro h
 ·refine .g (.q z (.s (fa f70_2 z z z) z (.s (ld t3 s.p1 z z z z z) z (bv h λx2 hx2 h=>.s (ixv (s.keep q_1) hx2 u23 t3 z z z) z (.s (lde (RV.flat (s.keep q_1) hx2 z) t3 z z z z z) z (.s (fa f70_2 z z z) z (.c (.st t3 s.p1 z z z ?_))))))))
  intro W s
  refine .nil (.region (.q z (.s (fa f70_3 z z z) z (.s (ld t3 s z z z z z) z (bv h λx3 hx3 h=>.s (ixv (s.keep q_1) hx3 u23 t3 z z z) z (.s (lde (RV.flat (s.keep q_1) hx3 z) t3 z z z z z) z (.s (fa f70_3 z z z) z (.c (.st t3 s z z z ?_)))))))))
  intro W s
  refine .nil (.g (.s (ld t70 s z z z z z) z (.c (.st t70 s.p1 z z z ?_))))
  intro W s
  cases h
  exact .nil (.ret (aa () (rc s t70 z rn z z) z (s.to [])))
 refine .skip (.g (.s (ld t70 s.p1 z z z z z) z (.c (.st t70 s z z z ?_))))
 intro W s
 obtain rfl:=o9 h
 exact .nil (.ret (aa () (rc s t70 z rn z z) z (s.to [])))
theorem tS {a0:List ab} {v_0:Hd} {w:World} {r:(List ab)×Bool} (h:gk a0=some r) (q_0:RO w v_0 70 5 ae a0):CL 197 #[sv v_0] w (Ret No w (λs:Hd=>.tuple #[sv s,.bool r.2]) (λs=>[ac (sv s) 70 5 ae r.1])):=by
 unfold gk at h
 refine ao func197 z z ?_
 have s:=Sep.start w
 refine .g (.q z (.qn z (.g (.c (.liv [] ae u38 t70 s z z z z ?_ z (λ_=>z))))))
 intro v1 W s
 refine .qn z (.seq (.g (.q z (bv h λy1 hy1 h=>.c (.cO s func106 (bx hy1 (s.keep q_0)) z z ?_)))))
 intro W s
 refine .q z (.nil ?_)
 refine .cs z h ?_ ?_ <;> intro h
 ·cases h
  exact .g (.q z (.q z (.qn z (.ret (aa (vs:=[_,_]) v1 (rt z (rt z rn)) z (s.tk [0]))))))
 refine .skip (.g (.q z (bv h λy2 hy2 h=>.c (.cV s func242 (tR hy2 (s.keep q_0)) z z ?_))))
 intro v2 W s
 refine .qn z (.seq (.g (.qn z (.block (bv h λy3 hy3 h=>?_)))))
 refine .via (.iter (λs1 E' W'=>∃ (v5:Hd),al E' [(0,(sv v_0)),(4,(sv v5)),(5,(sv v2)),(6,vi s1.2)]/\Sep No w W' [ac (sv v2) 23 1 (λ(l:List Int)=>D.row 3 1 (l.map (D.int .i64))) y2,ac (sv v5) 70 5 ae s1.1]) (λy4 x E' W'=>x=.exit 0/\∃ (v6:Hd),al E' [(4,(sv v6))]/\Sep No w W' [ac (sv v2) 23 1 (λ(l:List Int)=>D.row 3 1 (l.map (D.int .i64))) y2,ac (sv v6) 70 5 ae y4]) hy3 ⟨v1,sb z,s.tk [0,0]⟩ ?_) ?_
 ·intro s1 y5 E W h hI
  obtain ⟨v4,hE,s⟩:=hI
  refine CW.sub hE ?_
  unfold dw at h
  refine .seq (.g (.q z (.q z (.s (aJ (s.keep q_0) u38 z z) z (.q z (.nil ?_))))))
  refine .cs z h ?_ ?_ <;> intro h
  ·refine .skip (.seq (.block (bv h λx1 hx1 h=>?_)))
   obtain ⟨k1,s⟩:=Sep.ov s hx1
   obtain ⟨v7,k1,rfl,s⟩:=s.ow
   obtain ⟨rfl,s⟩:=s.oN
   refine .rk 13 s [0,0] T.mix ?_
   intro W s
   have t:=s.to [0,0]
   refine .tp' 0 z z t (.tp' 1 z z t (.tp' 2 z z t (bv h λx3 hx3 h=>.ts' 3 z (λW t=>ixv (s.keep q_0) hx3 u38 t70 z z z) t z (.ts' 4 z (λW t=>lde (RV.flat (t.keep q_0) hx3 z) t70 z z z z z) t z (.tp' 5 z z t (.tp' 6 z z t (.ts' 7 z (λW t=>ixh t.p1 hx1 u230 t23 z z z) t z (.ts' 8 z (λW t=>lde (t.p1.hcellsv) t23 z z z z z) t z (bv h λy7 hy7 h=>.by1 9 z (.cO s func243 (uy hy7 s.lv) z z ?_))))))))))
   intro W s
   refine s.an [0,0] λt=>.by1 10 z (.liv [y7] ae u38 t70 s z z z z ?_ z (λ_=>z))
   intro v10 W s
   refine s.an [1,1] λt=>bv h λr2 hr2 h=>?_
   have hT0:=s.p3
   refine .by1 11 z (.av hr2 hT0 hT0.p1.lv (λ_=>z) u38 t70 z z z ?_)
   intro v11 W s
   refine s.an [2,2] λt=>.tp' 12 z z t (.done (.region (.q z (.q z (.q z (.nil ?_))))))
   have s:=Sep.gat (ds:=[.row 3 1 (x1.map (D.int .i64))]) (cs:=[sv v7]) (L1:=[ac (sv v7) 3 1 (D.int .i64) x1]) (.row (.nil)) (s.to [2,2,0,0])
   have s:Sep _ _ _ [ac (sv v2) 23 1 (λ(l:List Int)=>D.row 3 1 (l.map (D.int .i64))) y2,ac (sv v11) 70 5 ae r2,ac (sv v10) 70 5 ae [y7]]:=Sep.back0v hx1 s
   cases h
   exact ⟨z,v11,sb z,s.tk [0,0]⟩
  refine .exit ?_
  cases h
  exact ⟨by simp,z,v4,sb z,s.tk [0,0]⟩
 intro x E W hJ
 obtain ⟨rfl,v12,hE,s⟩:=hJ
 refine ⟨_,hE.sub,?_⟩
 cases h
 exact .g (.q z (.q z (.qn z (.ret (aa (vs:=[_,_]) v12 (rt z (rt z rn)) z (s.tk [1]))))))
def tT (w:World) (r:Int):Env->World->Prop:=Fin Tryz.prog Tryz.f244 No w (λs:Unit=>.int .i64 r) (λs=>[]) .ret
theorem sF {a0:List ab} {a1:Int} {v_0:Hd} {w:World} {r:Int} (h:fh a0 a1=some r) (q_0:RO w v_0 70 5 ae a0):CL 244 #[sv v_0,vi a1] w (RU w (.int .i64 r)):=by
 unfold fh at h
 refine ao func244 z z ?_
 have s:=Sep.start w
 refine .g (.qn z (.g (.q z (.qn z (.seq (.g (.qn z (.block (bv h λy1 hy1 h=>?_)))))))))
 refine .via (.iter (λs1 E' W'=>al E' [(0,(sv v_0)),(1,vi a1),(5,vi s1.1),(6,vi s1.2)]/\Sep No w W' []) (λy2 x E' W'=>(match y2 with | .inl o1=>x=.ret/\tT w o1 E' W' | .inr o2=>x=.exit 0/\al E' [(1,vi a1)]/\Sep No w W' [])) hy1 ⟨sb rfl,s.to [] rfl⟩ ?_) ?_
 ·intro s1 y3 E W h hI
  obtain ⟨hE,s⟩:=hI
  refine CW.sub hE ?_
  unfold lP at h
  refine .seq (.g (.q z (.q z (.s (aJ (s.keep q_0) u38 z z) z (.q z (.nil ?_))))))
  refine .cs z h ?_ ?_ <;> intro h
  ·refine .skip (.seq (.block (.seq (.g (.q z (.q z (bv h λx1 hx1 h=>.s (ixv (s.keep q_0) hx1 u38 t70 z z z) z (.s (fe f70_0 z z z) z (.s (lde (RV.flat (s.keep q_0) hx1 z) t3 z z z z z) z (.q z (.nil ?_)))))))))))
   refine .cs z h ?_ ?_ <;> intro h
   ·refine .g (.q z (.qn z (.ret ?_)))
    cases h
    exact ⟨by simp,z,aa (vs:=[_]) () (rt z rn) z (s.to [])⟩
   refine .skip (.region (.q z (.q z (bv h λx2 hx2 h=>.s (ixv (s.keep q_0) hx2 u38 t70 z z z) z (.s (fe f70_4 z z z) z (.s (lde (RV.flat (s.keep q_0) hx2 z) t3 z z z z z) z (.qn z (.region (.q z (.q z (.q z (.nil ?_))))))))))))
   cases h
   exact ⟨z,sb z,s.to []⟩
  refine .exit ?_
  cases h
  exact ⟨by simp,z,sb z,s.to []⟩
 intro x E W hJ
 rcases y1 with o3 | o4
 ·have h:=dG h
  obtain ⟨rfl,hF⟩:=hJ
  refine ⟨_,λ_ _ h=>h,?_⟩
  cases h
  exact hF
 have h:=dH h
 obtain ⟨rfl,hE,s⟩:=hJ
 refine ⟨_,hE.sub,?_⟩
 obtain rfl:=o9 h
 exact .g (.q z (.qn z (.ret (aa () (rt z rn) z (s.to [])))))
theorem tU {a0:List ab} {v_0:Hd} {w:World} {r:(List ab)×Bool} (h:gm a0=some r) (q_0:RO w v_0 70 5 ae a0):CL 198 #[sv v_0] w (Ret No w (λs:Hd=>.tuple #[sv s,.bool r.2]) (λs=>[ac (sv s) 70 5 ae r.1])):=by
 unfold gm at h
 refine ao func198 z z ?_
 have s:=Sep.start w
 refine .g (.q z (.qn z (.g (.c (.liv [] ae u38 t70 s z z z z ?_ z (λ_=>z))))))
 intro v1 W s
 refine .qn z (.seq (.g (.q z (bv h λy1 hy1 h=>.c (.cO s func106 (bx hy1 (s.keep q_0)) z z ?_)))))
 intro W s
 refine .q z (.nil ?_)
 refine .cs z h ?_ ?_ <;> intro h
 ·cases h
  exact .g (.q z (.q z (.qn z (.ret (aa (vs:=[_,_]) v1 (rt z (rt z rn)) z (s.tk [0]))))))
 refine .skip (.seq (.g (.qn z (.block (bv h λy2 hy2 h=>?_)))))
 refine .via (.iter (λs1 E' W'=>∃ (v4:Hd),al E' [(0,(sv v_0)),(4,(sv v4)),(5,vi s1.2)]/\Sep No w W' [ac (sv v4) 70 5 ae s1.1]) (λy3 x E' W'=>x=.exit 0/\∃ (v5:Hd),al E' [(4,(sv v5))]/\Sep No w W' [ac (sv v5) 70 5 ae y3]) hy2 ⟨v1,sb z,s.tk [0]⟩ ?_) ?_
 ·intro s1 y4 E W h hI
  obtain ⟨v3,hE,s⟩:=hI
  refine CW.sub hE ?_
  unfold dx at h
  refine .seq (.g (.q z (.q z (.s (aJ (s.keep q_0) u38 z z) z (.q z (.nil ?_))))))
  refine .cs z h ?_ ?_ <;> intro h
  ·refine .skip (.seq (.block (.g (.q z (.q z (bv h λx1 hx1 h=>.s (ixv (s.keep q_0) hx1 u38 t70 z z z) z (.s (lde (RV.flat (s.keep q_0) hx1 z) t70 z z z z z) z (.c (.alloc t70 s ?_)))))))))
   intro g1 W s
   refine .c (.st t70 s z z z ?_)
   intro W s
   refine .nil (bv h λy5 hy5 h=>?_)
   refine .seq (CW.via (R':=λx E' W'=>x=.normal/\al E' [(0,(sv v_0)),(4,(sv v3)),(5,vi s1.2),(6,Pt g1)]/\Sep No w W' [.box g1 70 [vi y5.Op,vi y5.Dst,vi y5.A,vi y5.B,vi y5.N],ac (sv v3) 70 5 ae s1.1]) ?_ ?_)
   ·have h:=hy5
    refine .g (.s (fa f70_0 z z z) z (.s (ld t3 s z z z z z) z (.q z (.q z (.cu 4 29 ((x1.Op==4)||(x1.Op==5)) s ?_ ?_)))))
    ·refine .both (x1.Op==4) (λb=>?_) (λb=>?_)
     ·exact .xx b z (.xx b z (.xx b z (.s (pkt b z z z) z (.nil (ck 4 s z (gY b))))))
     have hg1:=b
     exact .g hg1 (.s (fa f70_0 z z z) z (.g hg1 (.s (ld t3 s z z z z z) z (.g hg1 (.q z (.s (pkf hg1 z z z) z (.nil (ck 4 s z (gr hg1)))))))))
    intro W s
    refine .nil ?_
    refine .cs z h ?_ ?_ <;> intro h
    ·refine .region (.q z (.s (fa f70_4 z z z) z (.s (ld t3 s z z z z z) z (bv h λy6 hy6 h=>.c (.cO s func244 (sF hy6 (s.keep q_0)) z z ?_)))))
     intro W s
     refine .s (fa f70_4 z z z) z (.c (.st t3 s z z z ?_))
     intro W s
     refine .nil ?_
     cases h
     exact ⟨z,sb z,s.tk [0,0]⟩
    refine .skip ?_
    obtain rfl:=o9 h
    exact ⟨z,sb z,s.tk [0,0]⟩
   intro x E W hJ
   obtain ⟨rfl,hE,s⟩:=hJ
   refine ⟨_,hE.sub,?_⟩
   refine .region (.q z (.s (ld t70 s z z z z z) z (.c (.liv [y5] ae u38 t70 s z z z z ?_ z (λ_=>z)))))
   intro v6 W s
   refine bv h λr1 hr1 h=>?_
   have hT0:=s.p2
   refine .c (.av hr1 hT0 hT0.p1.lv (λ_=>z) u38 t70 z z z ?_)
   intro v7 W s
   refine .qn z (.region (.q z (.q z (.q z (.nil ?_)))))
   cases h
   exact ⟨z,v7,sb z,s.tk [0]⟩
  refine .exit ?_
  cases h
  exact ⟨by simp,z,v3,sb z,s.tk [0]⟩
 intro x E W hJ
 obtain ⟨rfl,v8,hE,s⟩:=hJ
 refine ⟨_,hE.sub,?_⟩
 cases h
 exact .g (.q z (.q z (.qn z (.ret (aa (vs:=[_,_]) v8 (rt z (rt z rn)) z (s.tk [0]))))))
theorem mz {a0:List ab} {a1:List (List Bool)} {a2:Int} {v_0:Hd} {v_1:Hd} {w:World} {r:(List Bool)} (h:gn a0 a1 a2=some r) (q_0:RO w v_0 70 5 ae a0) (q_1:RO w v_1 188 1 (λ(l:List Bool)=>D.row 4 1 (l.map D.bool)) a1):CL 205 #[sv v_0,sv v_1,vi a2] w (Ret No w (λs:Hd=>(sv s)) (λs=>[ac (sv s) 4 1 D.bool r])):=by
 unfold gn at h
 refine ao func205 z z ?_
 have s:=Sep.start w
 refine .g (.qn z (.g (bv h λr1 hr1 h=>.c (.mkv false D.bool hr1 u188 t4 s z z z z z (λ_=>z) ?_))))
 intro v1 W s
 refine .qn z (.g (.q z (.q z (bv h λy1 hy1 h=>.c (.cV s func251 (kU hy1 (s.keep q_0)) z z ?_)))))
 intro v2 W s
 refine .qn z (.seq (.g (.qn z (.block (bv h λy2 hy2 h=>?_)))))
 refine .via (.iter (λs1 E' W'=>al E' [(1,(sv v_1)),(7,(sv v1)),(8,(sv v2)),(9,vi s1.1)]/\Sep No w W' [ac (sv v2) 3 1 (D.int .i64) y1,ac (sv v1) 4 1 D.bool s1.2]) (λy3 x E' W'=>x=.exit 0/\al E' [(7,(sv v1))]/\Sep No w W' [ac (sv v2) 3 1 (D.int .i64) y1,ac (sv v1) 4 1 D.bool y3]) hy2 ⟨sb z,s.tk [0,0]⟩ ?_) ?_
 ·intro s1 y4 E W h hI
  obtain ⟨hE,s⟩:=hI
  refine CW.sub hE ?_
  unfold mt at h
  refine .seq (.g (.q z (.q z (.s (aJ s.lv u23 z z) z (.q z (.nil ?_))))))
  refine .cs z h ?_ ?_ <;> intro h
  ·refine .skip (.seq (.block (.g (.qn z (.block (bv h λy5 hy5 h=>?_))))))
   refine .via (.iter (λs2 E' W'=>al E' [(1,(sv v_1)),(7,(sv v1)),(8,(sv v2)),(9,vi s1.1),(10,vi s2.1)]/\Sep No w W' [ac (sv v2) 3 1 (D.int .i64) y1,ac (sv v1) 4 1 D.bool s2.2]) (λy6 x E' W'=>x=.exit 2/\al E' [(1,(sv v_1)),(7,(sv v1)),(8,(sv v2)),(9,vi s1.1)]/\Sep No w W' [ac (sv v2) 3 1 (D.int .i64) y1,ac (sv v1) 4 1 D.bool y6]) hy5 ⟨sb z,s.tk [0,0]⟩ ?_) ?_
   ·intro s2 y7 E W h hI
    obtain ⟨hE,s⟩:=hI
    refine CW.sub hE ?_
    unfold ms at h
    refine .seq (.g (.q z (.q z (.nil ?_))))
    refine .cs z h ?_ ?_ <;> intro h
    ·refine .skip (.seq (.block (.region (.q z (.q z (.q z (.q z (bv h λx1 hx1 h=>.s (ixv s.p1.lv hx1 u188 t4 z z z) z (.s (lde (RV.flat s.p1.lv hx1 z) t4 z z z z z) z (.q z (bv h λb1 hb1 h=>.cu 11 42 (b1) s ?_ ?_)))))))))))
     ·refine .both (x1) (λb=>?_) (λb=>?_)
      ·refine .xx b z (.xx b z (.xx b z (.xx b z (.xx b z (.xx b z (.xx b z (.xx b z (.xx b z (.xx b z ?_)))))))))
       cases aC b hb1
       exact .s (pkt b z z z) z (.nil (ck 11 s))
      have hg1:=b
      have h:=aD b hb1
      refine .g hg1 (.q z (.g hg1 (.q z (.g hg1 (.q z (bv h λx2 hx2 h=>.g hg1 (.s (ixv s.lv hx2 u23 t3 z z z) z (.g hg1 (.s (lde (RV.flat s.lv hx2 z) t3 z z z z z) z (bv h λx3 hx3 h=>?_))))))))))
      obtain ⟨k1,hd,hck1⟩:=RV.el2 q_1 hx3
      obtain ⟨v3,k1,rfl,q1,hd1⟩:=cU q_1 hd
      obtain rfl:=mO q_1 hd1
      refine .g hg1 (.s (ixv (s.keep q_1) hx3 u169 t188 z z z) z (.g hg1 (.s (lde (hck1 _ s.agree) t188 z z z z z) z (.g hg1 (.q z (bv h λx4 hx4 h=>.g hg1 (.s (ixv (s.keep (q1 _ q_1)) hx4 u188 t4 z z z) z (.g hg1 (.s (lde (RV.flat (s.keep (q1 _ q_1)) hx4 z) t4 z z z z z) z (.s (pkf hg1 z z z) z ?_))))))))))
      cases h
      exact .nil (ck 11 s)
     intro W s
     refine bv h λx5 hx5 h=>.s (ixv s.p1.lv hx5 u188 t4 z z z) z (bv h λr2 hr2 h=>.c (.sev hr2 hx5 s.p1 t4 z z z z z z ?_))
     intro W s
     refine .nil (.region (.q z (.q z (.q z (.nil ?_)))))
     cases h
     exact ⟨z,sb z,s.tk [1,0]⟩
    refine .exit ?_
    cases h
    exact ⟨by simp,z,sb z,s.tk [0,0]⟩
   intro x E W hJ
   obtain ⟨rfl,hE,s⟩:=hJ
   refine ⟨_,hE.sub,?_⟩
   refine .region (.q z (.q z (.q z (.nil ?_))))
   cases h
   exact ⟨z,sb z,s.tk [0,0]⟩
  refine .exit ?_
  cases h
  exact ⟨by simp,z,sb z,s.tk [0,0]⟩
 intro x E W hJ
 obtain ⟨rfl,hE,s⟩:=hJ
 refine ⟨_,hE.sub,?_⟩
 obtain rfl:=o9 h
 exact .g (.q z (.qn z (.ret (aa v1 (rt z rn) z (s.tk [1])))))
theorem tV {a0:ab} {w:World} {r:(List Int)} (h:kB a0=some r):CL 283 #[.agg #[vi a0.Op,vi a0.Dst,vi a0.A,vi a0.B,vi a0.N]] w (Ret No w (λs:Hd=>(sv s)) (λs=>[ac (sv s) 3 1 (D.int .i64) r])):=by
 unfold kB at h
 refine ao func283 z z ?_
 have s:=Sep.start w
 refine .g (.c (.box s z z ?_))
 intro g1 W s
 refine .qn z (.seq (.g (.s (ld t70 s z z z z z) z (bv h λy1 hy1 h=>.c (.cO s func154 (l8 hy1) z z ?_)))))
 intro W s
 refine .q z (.nil ?_)
 refine .cs z h ?_ ?_ <;> intro h
 ·refine .g (.c (.liv [] (D.int .i64) u23 t3 s z z z z ?_ z (λ_=>z)))
  intro v1 W s
  cases h
  exact .qn z (.ret (aa v1 (rt z rn) z (s.tk [0])))
 refine .skip (.seq (.g (.s (fa f70_0 z z z) z (.s (ld t3 s z z z z z) z (.nil (.block (bv h λy2 hy2 h=>?_)))))))
 refine .seq (CW.via (R':=λx E' W'=>x=.normal/\al E' [(1,Pt g1),(8,vi a0.Op),(9,.bool y2)]/\Sep No w W' [.box g1 70 [vi a0.Op,vi a0.Dst,vi a0.A,vi a0.B,vi a0.N]]) ?_ ?_)
 ·have h:=hy2
  refine .g (.q z (.q z (.nil ?_)))
  refine .cs z h ?_ ?_ <;> intro h
  ·refine .skip ?_
   cases h
   exact ⟨z,sb z,s.tk [0]⟩
  refine .g (.q z (.q z (.nil ?_)))
  refine .cs z h ?_ ?_ <;> intro h
  ·refine .skip ?_
   cases h
   exact ⟨z,sb z,s.tk [0]⟩
  refine .g (.q z (.q z (.nil ?_)))
  refine .cs z h ?_ ?_ <;> intro h
  ·refine .skip ?_
   cases h
   exact ⟨z,sb z,s.tk [0]⟩
  refine .region (.q z (.q z (.nil ?_)))
  cases h
  exact ⟨z,sb z,s.tk [0]⟩
 intro x E W hJ
 obtain ⟨rfl,hE,s⟩:=hJ
 refine ⟨_,hE.sub,?_⟩
 refine .cs z h ?_ ?_ <;> intro h
 ·refine .g (.s (fa f70_2 z z z) z (.s (ld t3 s z z z z z) z (.c (.liv [a0.A] (D.int .i64) u23 t3 s z z z z ?_ z (λ_=>z)))))
  intro v2 W s
  cases h
  exact .qn z (.ret (aa v2 (rt z rn) z (s.tk [0])))
 refine .g (.q z (.q z (.nil ?_)))
 refine .cs z h ?_ ?_ <;> intro h
 ·refine .seq (.g (.s (fa f70_2 z z z) z (.s (ld t3 s z z z z z) z (.s (fa f70_3 z z z) z (.s (ld t3 s z z z z z) z (.q z (.nil ?_)))))))
  refine .cs z h ?_ ?_ <;> intro h
  ·refine .g (.s (fa f70_2 z z z) z (.s (ld t3 s z z z z z) z (.c (.liv [a0.A] (D.int .i64) u23 t3 s z z z z ?_ z (λ_=>z)))))
   intro v3 W s
   cases h
   exact .qn z (.ret (aa v3 (rt z rn) z (s.tk [0])))
  refine .skip (.g (.s (fa f70_2 z z z) z (.s (ld t3 s z z z z z) z (.s (fa f70_3 z z z) z (.s (ld t3 s z z z z z) z (.s (mnv z z z) z (.s (fa f70_2 z z z) z (.s (ld t3 s z z z z z) z (.s (fa f70_3 z z z) z (.s (ld t3 s z z z z z) z (.s (mxv z z z) z (.c (.liv [min a0.A a0.B,max a0.A a0.B] (D.int .i64) u23 t3 s z z z z ?_ z (λ_=>z))))))))))))))
  intro v4 W s
  cases h
  exact .qn z (.ret (aa v4 (rt z rn) z (s.tk [0])))
 refine .skip (.g (.c (.liv [] (D.int .i64) u23 t3 s z z z z ?_ z (λ_=>z))))
 intro v5 W s
 cases h
 exact .qn z (.ret (aa v5 (rt z rn) z (s.tk [0])))
theorem sG {a0:ab} {a1:List Bool} {v_1:Hd} {w:World} {r:(List Bool)} (h:jx a0 a1=some r) (q_1:RO w v_1 4 1 D.bool a1):CL 270 #[.agg #[vi a0.Op,vi a0.Dst,vi a0.A,vi a0.B,vi a0.N],sv v_1] w (Ret No w (λs:Hd=>(sv s)) (λs=>[ac (sv s) 4 1 D.bool r])):=by
 unfold jx at h
 refine ao func270 z z ?_
 have s:=Sep.start w
 refine .g (.c (.box s z z ?_))
 intro g1 W s
 refine .qn z (.g (.c (.liv [] D.bool u188 t4 s z z z z ?_ z (λ_=>z))))
 intro v1 W s
 refine .q z (bv h λr1 hr1 h=>.c (.av hr1 s (s.keep q_1) (λ_=>z) u188 t4 z z z ?_))
 intro v2 W s
 refine .qn z (bv h λy1 hy1 h=>?_)
 refine .seq (CW.via (R':=λx E' W'=>x=.normal/\al E' [(2,Pt g1),(5,(sv v2))]/\Sep No w W' [ac (sv v2) 4 1 D.bool y1,.box g1 70 [vi a0.Op,vi a0.Dst,vi a0.A,vi a0.B,vi a0.N]]) ?_ ?_)
 ·have h:=hy1
  refine .g (.s (ld t70 s.p1 z z z z z) z (bv h λy2 hy2 h=>.c (.cO s func157 (gX hy2) z z ?_)))
  intro W s
  refine .q z (.nil ?_)
  refine .cs z h ?_ ?_ <;> intro h
  ·refine .region (.q z (.s (ld t70 s.p1 z z z z z) z (bv h λy3 hy3 h=>.c (.cO s func157 (gX hy3) z z ?_))))
   intro W s
   refine bv h λx1 hx1 h=>.s (ixv s.lv hx1 u188 t4 z z z) z (bv h λr2 hr2 h=>.c (.sev hr2 hx1 s t4 z z z z z z ?_))
   intro W s
   refine .nil ?_
   obtain rfl:=o9 h
   exact ⟨z,sb z,s.tk [0,0]⟩
  refine .skip ?_
  obtain rfl:=o9 h
  exact ⟨z,sb z,s.tk [0,0]⟩
 intro x E W hJ
 obtain ⟨rfl,hE,s⟩:=hJ
 refine ⟨_,hE.sub,?_⟩
 refine .g (.s (ld t70 s.p1 z z z z z) z (bv h λy4 hy4 h=>.c (.cV s func283 (tV hy4) z z ?_)))
 intro v3 W s
 refine .qn z (.seq (.g (.qn z (.block (bv h λy5 hy5 h=>?_)))))
 refine .via (.iter (λs1 E' W'=>al E' [(5,(sv v2)),(6,(sv v3)),(7,vi s1.1)]/\Sep No w W' [ac (sv v3) 3 1 (D.int .i64) y4,ac (sv v2) 4 1 D.bool s1.2,.box g1 70 [vi a0.Op,vi a0.Dst,vi a0.A,vi a0.B,vi a0.N]]) (λy6 x E' W'=>x=.exit 0/\al E' [(5,(sv v2))]/\Sep No w W' [ac (sv v3) 3 1 (D.int .i64) y4,ac (sv v2) 4 1 D.bool y6,.box g1 70 [vi a0.Op,vi a0.Dst,vi a0.A,vi a0.B,vi a0.N]]) hy5 ⟨sb z,s.tk [0,0,0]⟩ ?_) ?_
 ·intro s1 y7 E W h hI
  obtain ⟨hE,s⟩:=hI
  refine CW.sub hE ?_
  unfold lQ at h
  refine .seq (.g (.q z (.q z (.s (aJ s.lv u23 z z) z (.q z (.nil ?_))))))
  refine .cs z h ?_ ?_ <;> intro h
  ·refine .skip (.seq (.block (.region (.q z (.q z (.q z (bv h λx2 hx2 h=>.s (ixv s.lv hx2 u23 t3 z z z) z (.s (lde (RV.flat s.lv hx2 z) t3 z z z z z) z (bv h λx3 hx3 h=>.s (ixv s.p1.lv hx3 u188 t4 z z z) z (bv h λr3 hr3 h=>.c (.sev hr3 hx3 s.p1 t4 z z z z z z ?_)))))))))))
   intro W s
   refine .nil (.region (.q z (.q z (.q z (.nil ?_)))))
   cases h
   exact ⟨z,sb z,s.tk [1,0,0]⟩
  refine .exit ?_
  cases h
  exact ⟨by simp,z,sb z,s.tk [0,0,0]⟩
 intro x E W hJ
 obtain ⟨rfl,hE,s⟩:=hJ
 refine ⟨_,hE.sub,?_⟩
 obtain rfl:=o9 h
 exact .g (.q z (.qn z (.ret (aa v2 (rt z rn) z (s.tk [1])))))
def vT (w:World) (r:Bool):Env->World->Prop:=Fin Tryz.prog Tryz.f271 No w (λs:Unit=>.bool r) (λs=>[]) .ret
theorem uz {a0:List Bool} {a1:List Bool} {v_0:Hd} {v_1:Hd} {w:World} {r:Bool} (h:lR a0 a1=some r) (q_0:RO w v_0 4 1 D.bool a0) (q_1:RO w v_1 4 1 D.bool a1):CL 271 #[sv v_0,sv v_1] w (RU w (.bool r)):=by
 unfold lR at h
 refine ao func271 z z ?_
 have s:=Sep.start w
 refine .g (.qn z (.seq (.g (.qn z (.block (bv h λy1 hy1 h=>?_))))))
 refine .via (.iter (λs1 E' W'=>al E' [(0,(sv v_0)),(1,(sv v_1)),(5,vi s1)]/\Sep No w W' []) (λy2 x E' W'=>(match y2 with | .inl o1=>x=.ret/\vT w o1 E' W' | .inr o2=>x=.exit 0/\al E' [(0,(sv v_0)),(1,(sv v_1))]/\Sep No w W' [])) hy1 ⟨sb rfl,s.to [] rfl⟩ ?_) ?_
 ·intro s1 y3 E W h hI
  obtain ⟨hE,s⟩:=hI
  refine CW.sub hE ?_
  unfold mQ at h
  refine .seq (.g (.q z (.q z (.s (aJ (s.keep q_0) u188 z z) z (.q z (.nil ?_))))))
  refine .cs z h ?_ ?_ <;> intro h
  ·refine .skip (.seq (.block (.seq (.rk 9 s [] T.mix ?_))))
   intro W s
   have t:=s.to []
   refine .tp' 0 z z t (.tp' 1 z z t (bv h λx1 hx1 h=>.ts' 2 z (λW t=>ixv (s.keep q_0) hx1 u188 t4 z z z) t z (.ts' 3 z (λW t=>lde (RV.flat (t.keep q_0) hx1 z) t4 z z z z z) t z (.tp' 4 z z t (.tp' 5 z z t (bv h λx2 hx2 h=>.ts' 6 z (λW t=>ixv (s.keep q_1) hx2 u188 t4 z z z) t z (.ts' 7 z (λW t=>lde (RV.flat (t.keep q_1) hx2 z) t4 z z z z z) t z (.ts' 8 z (λW t=>neb u4 z z z) t z (.done ?_)))))))))
   refine .cs z h ?_ ?_ <;> intro h
   ·refine .g (.qn z (.ret ?_))
    cases h
    exact ⟨by simp,z,aa (vs:=[_]) () (rt z rn) z (s.to [])⟩
   refine .skip (.region (.q z (.q z (.q z (.nil ?_)))))
   cases h
   exact ⟨z,sb z,s.to []⟩
  refine .exit ?_
  cases h
  exact ⟨by simp,z,sb z,s.to []⟩
 intro x E W hJ
 rcases y1 with o3 | o4
 ·have h:=dG h
  obtain ⟨rfl,hF⟩:=hJ
  refine ⟨_,λ_ _ h=>h,?_⟩
  cases h
  exact hF
 have h:=dH h
 obtain ⟨rfl,hE,s⟩:=hJ
 refine ⟨_,hE.sub,?_⟩
 cases h
 exact .g (.q z (.s (aJ (s.keep q_0) u188 z z) z (.q z (.s (aJ (s.keep q_1) u188 z z) z (.q z (.qn z (.ret (aa () (rt z rn) z (s.to [])))))))))
theorem tW {a0:List ab} {a1:List (List Bool)} {v_0:Hd} {v_1:Hd} {S:Nat->Prop} {w:World} {r:Bool×(List (List Bool))} (h:dD a0 a1=some r) (q_0:RV w (Old S w) (sv v_0) 70 5 ae a0) (hO:bw w [ac (sv v_1) 188 1 (λ(l:List Bool)=>D.row 4 1 (l.map D.bool)) a1] S) (hlt:∀ b,S b->b<w.heap.size):CL 250 #[sv v_0,sv v_1] w (Ret S w (λs:Unit=>.bool r.1) (λs=>[ac (sv v_1) 188 1 (λ(l:List Bool)=>D.row 4 1 (l.map D.bool)) r.2])):=by
 unfold dD at h
 refine ao func250 z z ?_
 have s:=Sep.sm hO hlt
 refine .g (.qn z (.g (.qn z (.seq (.g (.q z (.s (aJ (s.keep q_0) u38 z z) z (.q z (.qn z (.block (bv h λy1 hy1 h=>?_)))))))))))
 refine .via (.iter (λs1 E' W'=>al E' [(0,(sv v_0)),(1,(sv v_1)),(5,.bool s1.1),(6,vi s1.2.1)]/\Sep S w W' [ac (sv v_1) 188 1 (λ(l:List Bool)=>D.row 4 1 (l.map D.bool)) s1.2.2]) (λy2 x E' W'=>x=.exit 0/\al E' [(5,.bool y2.1)]/\Sep S w W' [ac (sv v_1) 188 1 (λ(l:List Bool)=>D.row 4 1 (l.map D.bool)) y2.2]) hy1 ⟨sb z,s.tk [0]⟩ ?_) ?_
 ·intro s1 y3 E W h hI
  obtain ⟨hE,s⟩:=hI
  refine CW.sub hE ?_
  unfold eV at h
  refine .seq (.g (.q z (.q z (.nil ?_))))
  refine .cs z h ?_ ?_ <;> intro h
  ·refine .skip (bv h λy4 hy4 h=>?_)
   refine .seq (CW.via (R':=λx E' W'=>x=.normal/\al E' [(0,(sv v_0)),(1,(sv v_1)),(5,.bool y4.1),(6,vi s1.2.1)]/\Sep S w W' [ac (sv v_1) 188 1 (λ(l:List Bool)=>D.row 4 1 (l.map D.bool)) y4.2]) ?_ ?_)
   ·have h:=hy4
    refine .block (.seq (.rk 10 s [0] T.mix ?_))
    intro W s
    have t:=s.to [0]
    refine .tp' 0 z z t (.tp' 1 z z t (bv h λx1 hx1 h=>.ts' 2 z (λW t=>ixv (s.keep q_0) hx1 u38 t70 z z z) t z (.ts' 3 z (λW t=>lde (RV.flat (t.keep q_0) hx1 z) t70 z z z z z) t z (.tp' 4 z z t (.tp' 5 z z t (.tp' 6 z z t (bv h λy5 hy5 h=>.by1 7 z (.cV s func205 (mz hy5 (s.keep q_0) s.lv) z z ?_))))))))
    intro v1 W s
    refine s.an [1] λt=>bv h λy6 hy6 h=>.by1 8 z (.cV s func270 (sG hy6 s.lv) z z ?_)
    intro v2 W s
    refine s.an [2] λt=>.tp' 9 z z t (.done (.g (.q z (.q z (.q z (bv h λx2 hx2 h=>.s (ixv s.p2.lv hx2 u169 t188 z z z) z ?_))))))
    obtain ⟨k1,s⟩:=Sep.ov s.p2 hx2
    obtain ⟨v3,k1,rfl,s⟩:=s.ow
    obtain ⟨rfl,s⟩:=s.oN
    refine .s (lde (s.p1.hcellsv) t188 z z z z z) z (bv h λy7 hy7 h=>.c (.cO s func271 (uz hy7 s.p2.lv s.lv) z z ?_))
    intro W s
    refine .q z (.nil ?_)
    refine .cs z h ?_ ?_ <;> intro h
    ·refine .g (.q z (.q z (.q z (.s (ixh s.p1 hx2 u169 t188 z z z) z (.c (.sthv s.p1 t188 z z z ?_))))))
     intro W s
     refine .nil (.region (.q z (.nil ?_)))
     have s:=Sep.gat (ds:=[.row 4 1 (y6.map D.bool)]) (cs:=[sv v2]) (L1:=[ac (sv v2) 4 1 D.bool y6]) (.row (.nil)) (s.to [2,0,0,0])
     have s:Sep _ _ _ [ac (sv v_1) 188 1 (λ(l:List Bool)=>D.row 4 1 (l.map D.bool)) (s1.2.2.set (Int.toNat s1.2.1) y6),ac (sv v3) 4 1 D.bool x2,ac (sv v1) 4 1 D.bool y5]:=s.bv
     cases h
     exact ⟨z,sb z,s.tk [0]⟩
    refine .skip ?_
    have s:=Sep.gat (ds:=[.row 4 1 (x2.map D.bool)]) (cs:=[sv v3]) (L1:=[ac (sv v3) 4 1 D.bool x2]) (.row (.nil)) (s.to [0,0,0,0])
    have s:Sep _ _ _ [ac (sv v_1) 188 1 (λ(l:List Bool)=>D.row 4 1 (l.map D.bool)) s1.2.2,ac (sv v2) 4 1 D.bool y6,ac (sv v1) 4 1 D.bool y5]:=Sep.back0v hx2 s
    cases h
    exact ⟨z,sb z,s.tk [0]⟩
   intro x E W hJ
   obtain ⟨rfl,hE,s⟩:=hJ
   refine ⟨_,hE.sub,?_⟩
   refine .region (.q z (.q z (.q z (.nil ?_))))
   cases h
   exact ⟨z,sb z,s.tk [0]⟩
  refine .exit ?_
  cases h
  exact ⟨by simp,z,sb z,s.tk [0]⟩
 intro x E W hJ
 obtain ⟨rfl,hE,s⟩:=hJ
 refine ⟨_,hE.sub,?_⟩
 cases h
 exact .g (.q z (.qn z (.ret (aa () (rt z rn) z (s.tk [0])))))
theorem qc {a0:List ab} {v_0:Hd} {w:World} {r:(List (List Bool))} (h:eO a0=some r) (q_0:RO w v_0 70 5 ae a0):CL 204 #[sv v_0] w (Ret No w (λs:Hd=>(sv s)) (λs=>[ac (sv s) 188 1 (λ(l:List Bool)=>D.row 4 1 (l.map D.bool)) r])):=by
 unfold eO at h
 refine ao func204 z z ?_
 have s:=Sep.start w
 refine .g (.qn z (.g (.c (.lg (L1:=[]) [] (λ(l:List Bool)=>D.row 4 1 (l.map D.bool)) u169 t188 (s.to []) z z z (.nil) ?_ z (λ_=>z)))))
 intro v1 W s
 refine .qn z (.seq (.g (.q z (bv h λy1 hy1 h=>.c (.cO s func106 (bx hy1 (s.keep q_0)) z z ?_)))))
 intro W s
 refine .qn z (.cond z (λb=>?_) (λb=>?_))
 ·have h:=aC b h
  cases h
  exact .g (.q z (.qn z (.ret (aa v1 (rt z rn) z (s.tk [0])))))
 have h:=aD b h
 refine .skip (.seq (.g (.qn z (.block (bv h λy2 hy2 h=>?_)))))
 refine .via (.iter (λs1 E' W'=>∃ (v4:Hd),al E' [(0,(sv v_0)),(3,(sv v4)),(4,vi s1.2)]/\Sep No w W' [ac (sv v4) 188 1 (λ(l:List Bool)=>D.row 4 1 (l.map D.bool)) s1.1]) (λy3 x E' W'=>x=.exit 0/\∃ (v5:Hd),al E' [(0,(sv v_0)),(3,(sv v5))]/\Sep No w W' [ac (sv v5) 188 1 (λ(l:List Bool)=>D.row 4 1 (l.map D.bool)) y3]) hy2 ⟨v1,sb z,s.tk [0]⟩ ?_) ?_
 ·intro s1 y4 E W h hI
  obtain ⟨v3,hE,s⟩:=hI
  refine CW.sub hE ?_
  unfold jy at h
  refine .seq (.g (.q z (.q z (.s (aJ (s.keep q_0) u38 z z) z (.q z (.nil ?_))))))
  refine .cs z h ?_ ?_ <;> intro h
  ·refine .skip (.seq (.block (.region (.q z (bv h λr1 hr1 h=>.c (.mkv false D.bool hr1 u188 t4 s z z z z z (λ_=>z) ?_))))))
   intro v6 W s
   refine .c (.lg (L1:=[ac (sv v6) 4 1 D.bool r1]) [r1] (λ(l:List Bool)=>D.row 4 1 (l.map D.bool)) u169 t188 (s.to [0,0]) z z z (.row (.nil)) ?_ z (λ_=>z))
   intro v7 W s
   refine bv h λr2 hr2 h=>.c (.appv hr2 (s.to [1,0]) u169 t188 z z z ?_)
   intro v8 W s
   refine .qn z (.region (.q z (.q z (.q z (.nil ?_)))))
   cases h
   exact ⟨z,v8,sb z,s.tk [0]⟩
  refine .exit ?_
  cases h
  exact ⟨by simp,z,v3,sb z,s.tk [0]⟩
 intro x E W hJ
 obtain ⟨rfl,v9,hE,s⟩:=hJ
 refine ⟨_,hE.sub,?_⟩
 refine .seq (.block (bv h λy5 hy5 h=>?_))
 refine .via (.iter (λs2 E' W'=>al E' [(0,(sv v_0)),(3,(sv v9))]/\Sep No w W' [ac (sv v9) 188 1 (λ(l:List Bool)=>D.row 4 1 (l.map D.bool)) s2]) (λy6 x E' W'=>x=.exit 2/\al E' [(3,(sv v9))]/\Sep No w W' [ac (sv v9) 188 1 (λ(l:List Bool)=>D.row 4 1 (l.map D.bool)) y6]) hy5 ⟨sb z,s.tk [0]⟩ ?_) ?_
 ·intro s2 y7 E W h hI
  obtain ⟨hE,s⟩:=hI
  refine CW.sub hE ?_
  unfold bS at h
  refine .seq (.g (.q z (.q z (bv h λy8 hy8 h=>.c (.cS (L0:=[ac (sv v9) 188 1 (λ(l:List Bool)=>D.row 4 1 (l.map D.bool)) s2]) s func250 (λS h1 h2 h3=>(tW hy8 (s.ks q_0 h1) h2 (zz h1))) z z ?_)))))
  rintro ⟨⟩ W s
  refine .nil ?_
  refine .cs z h ?_ ?_ <;> intro h
  ·refine .skip (.block (.skip ?_))
   cases h
   exact ⟨z,sb z,s.tk [0]⟩
  refine .exit ?_
  cases h
  exact ⟨by simp,z,sb z,s.tk [0]⟩
 intro x E W hJ
 obtain ⟨rfl,hE,s⟩:=hJ
 refine ⟨_,hE.sub,?_⟩
 obtain rfl:=o9 h
 exact .g (.q z (.qn z (.ret (aa v9 (rt z rn) z (s.tk [0])))))
theorem uA {a0:ab} {a1:List Bool} {v_1:Hd} {w:World} {r:Bool} (h:il a0 a1=some r) (q_1:RO w v_1 4 1 D.bool a1):CL 245 #[.agg #[vi a0.Op,vi a0.Dst,vi a0.A,vi a0.B,vi a0.N],sv v_1] w (RU w (.bool r)):=by
 unfold il at h
 refine ao func245 z z ?_
 have s:=Sep.start w
 refine .g (.c (.box s z z ?_))
 intro g1 W s
 refine .qn z (.seq (.g (.s (fa f70_0 z z z) z (.s (ld t3 s z z z z z) z (.nil (.block (bv h λy1 hy1 h=>?_)))))))
 refine .seq (CW.via (R':=λx E' W'=>x=.normal/\al E' [(1,(sv v_1)),(2,Pt g1),(7,.bool y1)]/\Sep No w W' [.box g1 70 [vi a0.Op,vi a0.Dst,vi a0.A,vi a0.B,vi a0.N]]) ?_ ?_)
 ·have h:=hy1
  refine .g (.q z (.q z (.nil ?_)))
  refine .cs z h ?_ ?_ <;> intro h
  ·refine .skip ?_
   cases h
   exact ⟨z,sb z,s.tk [0]⟩
  refine .g (.q z (.q z (.nil ?_)))
  refine .cs z h ?_ ?_ <;> intro h
  ·refine .skip ?_
   cases h
   exact ⟨z,sb z,s.tk [0]⟩
  refine .region (.q z (.q z (.nil ?_)))
  cases h
  exact ⟨z,sb z,s.tk [0]⟩
 intro x E W hJ
 obtain ⟨rfl,hE,s⟩:=hJ
 refine ⟨_,hE.sub,?_⟩
 refine .cs z h ?_ ?_ <;> intro h
 ·refine .g (.q z (.s (fa f70_1 z z z) z (.s (ld t3 s z z z z z) z (bv h λx1 hx1 h=>.s (ixv (s.keep q_1) hx1 u188 t4 z z z) z (.s (lde (RV.flat (s.keep q_1) hx1 z) t4 z z z z z) z (.q z (.qn z (.ret ?_))))))))
  cases h
  exact aa () (rt z rn) z (s.to [])
 obtain rfl:=o9 h
 exact .skip (.g (.qn z (.ret (aa () (rt z rn) z (s.to [])))))
theorem tX {a0:List ab} {v_0:Hd} {w:World} {r:(List ab)×Bool} (h:gp a0=some r) (q_0:RO w v_0 70 5 ae a0):CL 199 #[sv v_0] w (Ret No w (λs:Hd=>.tuple #[sv s,.bool r.2]) (λs=>[ac (sv s) 70 5 ae r.1])):=by
 unfold gp at h
 refine ao func199 z z ?_
 have s:=Sep.start w
 refine .g (.q z (.qn z (.g (.c (.liv [] ae u38 t70 s z z z z ?_ z (λ_=>z))))))
 intro v1 W s
 refine .qn z (.seq (.g (.q z (bv h λy1 hy1 h=>.c (.cO s func106 (bx hy1 (s.keep q_0)) z z ?_)))))
 intro W s
 refine .q z (.nil ?_)
 refine .cs z h ?_ ?_ <;> intro h
 ·cases h
  exact .g (.q z (.q z (.qn z (.ret (aa (vs:=[_,_]) v1 (rt z (rt z rn)) z (s.tk [0]))))))
 refine .skip (.g (.q z (bv h λy2 hy2 h=>.c (.cV s func204 (qc hy2 (s.keep q_0)) z z ?_))))
 intro v2 W s
 refine .qn z (.seq (.g (.qn z (.block (bv h λy3 hy3 h=>?_)))))
 refine .via (.iter (λs1 E' W'=>∃ (v5:Hd),al E' [(0,(sv v_0)),(4,(sv v5)),(5,(sv v2)),(6,vi s1.2)]/\Sep No w W' [ac (sv v2) 188 1 (λ(l:List Bool)=>D.row 4 1 (l.map D.bool)) y2,ac (sv v5) 70 5 ae s1.1]) (λy4 x E' W'=>x=.exit 0/\∃ (v6:Hd),al E' [(4,(sv v6))]/\Sep No w W' [ac (sv v2) 188 1 (λ(l:List Bool)=>D.row 4 1 (l.map D.bool)) y2,ac (sv v6) 70 5 ae y4]) hy3 ⟨v1,sb z,s.tk [0,0]⟩ ?_) ?_
 ·intro s1 y5 E W h hI
  obtain ⟨v4,hE,s⟩:=hI
  refine CW.sub hE ?_
  unfold dy at h
  refine .seq (.g (.q z (.q z (.s (aJ (s.keep q_0) u38 z z) z (.q z (.nil ?_))))))
  refine .cs z h ?_ ?_ <;> intro h
  ·refine .skip (.seq (.block (.g (.q z (.q z (bv h λx1 hx1 h=>.s (ixv (s.keep q_0) hx1 u38 t70 z z z) z (.s (lde (RV.flat (s.keep q_0) hx1 z) t70 z z z z z) z (.c (.alloc t70 s ?_)))))))))
   intro g1 W s
   refine .c (.st t70 s z z z ?_)
   intro W s
   refine .nil (bv h λy6 hy6 h=>?_)
   refine .seq (CW.via (R':=λx E' W'=>x=.normal/\al E' [(0,(sv v_0)),(4,(sv v4)),(5,(sv v2)),(6,vi s1.2),(7,Pt g1)]/\Sep No w W' [.box g1 70 [vi y6.Op,vi y6.Dst,vi y6.A,vi y6.B,vi y6.N],ac (sv v2) 188 1 (λ(l:List Bool)=>D.row 4 1 (l.map D.bool)) y2,ac (sv v4) 70 5 ae s1.1]) ?_ ?_)
   ·have h:=hy6
    refine .seq (.rk 6 s [0,0,0] T.mix ?_)
    intro W s
    have t:=s.to [0,0,0]
    refine .ts' 0 z (λW t=>ld t70 t z z z z z) t z (.tp' 1 z z t (.tp' 2 z z t (.tp' 3 z z t (bv h λy7 hy7 h=>.by1 4 z (.cV s func205 (mz hy7 (s.keep q_0) s.p1.lv) z z ?_)))))
    intro v7 W s
    refine s.an [1,1,1] λt=>bv h λy8 hy8 h=>.by1 5 z (.cO s func245 (uA hy8 s.lv) z z ?_)
    intro W s
    refine s.an [1,1,1] λt=>.done ?_
    refine .cs z h ?_ ?_ <;> intro h
    ·refine .region (.q z (.q z (.s (bs T.s70 z z) z (.c (.st t70 s.p1 z z z ?_)))))
     intro W s
     refine .nil ?_
     cases h
     exact ⟨z,sb z,s.tk [0,1,1]⟩
    refine .skip ?_
    obtain rfl:=o9 h
    exact ⟨z,sb z,s.tk [1,1,1]⟩
   intro x E W hJ
   obtain ⟨rfl,hE,s⟩:=hJ
   refine ⟨_,hE.sub,?_⟩
   refine .region (.q z (.s (ld t70 s z z z z z) z (.c (.liv [y6] ae u38 t70 s z z z z ?_ z (λ_=>z)))))
   intro v8 W s
   refine bv h λr1 hr1 h=>?_
   have hT0:=s.p3
   refine .c (.av hr1 hT0 hT0.p1.lv (λ_=>z) u38 t70 z z z ?_)
   intro v9 W s
   refine .qn z (.region (.q z (.q z (.q z (.nil ?_)))))
   cases h
   exact ⟨z,v9,sb z,s.tk [3,0]⟩
  refine .exit ?_
  cases h
  exact ⟨by simp,z,v4,sb z,s.tk [0,0]⟩
 intro x E W hJ
 obtain ⟨rfl,v10,hE,s⟩:=hJ
 refine ⟨_,hE.sub,?_⟩
 cases h
 exact .g (.q z (.q z (.qn z (.ret (aa (vs:=[_,_]) v10 (rt z (rt z rn)) z (s.tk [1]))))))
theorem sH {a0:List ab} {a1:List Bool} {v_0:Hd} {v_1:Hd} {S:Nat->Prop} {w:World} {r:Bool×(List Bool)} (h:fi a0 a1=some r) (q_0:RV w (Old S w) (sv v_0) 70 5 ae a0) (hO:bw w [ac (sv v_1) 4 1 D.bool a1] S) (hlt:∀ b,S b->b<w.heap.size):CL 269 #[sv v_0,sv v_1] w (Ret S w (λs:Unit=>.bool r.1) (λs=>[ac (sv v_1) 4 1 D.bool r.2])):=by
 unfold fi at h
 refine ao func269 z z ?_
 have s:=Sep.sm hO hlt
 refine .g (.qn z (.g (.qn z (.seq (.g (.qn z (.block (bv h λy1 hy1 h=>?_))))))))
 refine .via (.iter (λs1 E' W'=>al E' [(0,(sv v_0)),(1,(sv v_1)),(5,.bool s1.1),(6,vi s1.2.1)]/\Sep S w W' [ac (sv v_1) 4 1 D.bool s1.2.2]) (λy2 x E' W'=>x=.exit 0/\al E' [(5,.bool y2.1)]/\Sep S w W' [ac (sv v_1) 4 1 D.bool y2.2]) hy1 ⟨sb z,s.tk [0]⟩ ?_) ?_
 ·intro s1 y3 E W h hI
  obtain ⟨hE,s⟩:=hI
  refine CW.sub hE ?_
  unfold i5 at h
  refine .seq (.g (.q z (.q z (.s (aJ (s.keep q_0) u38 z z) z (.q z (.nil ?_))))))
  refine .cs z h ?_ ?_ <;> intro h
  ·refine .skip (bv h λy4 hy4 h=>?_)
   refine .seq (CW.via (R':=λx E' W'=>x=.normal/\al E' [(0,(sv v_0)),(1,(sv v_1)),(5,.bool y4.1),(6,vi s1.2.1)]/\Sep S w W' [ac (sv v_1) 4 1 D.bool y4.2]) ?_ ?_)
   ·have h:=hy4
    refine .block (.seq (.g (.q z (.q z (bv h λx1 hx1 h=>.s (ixv s.lv hx1 u188 t4 z z z) z (.s (lde (RV.flat s.lv hx1 z) t4 z z z z z) z (.q z (.nil ?_))))))))
    refine .cs z h ?_ ?_ <;> intro h
    ·refine .exit ?_
     cases h
     exact ⟨z,sb z,s.tk [0]⟩
    refine .skip (.g (.q z (.q z (bv h λy5 hy5 h=>.c (.cV s func251 (kU hy5 (s.keep q_0)) z z ?_)))))
    intro v1 W s
    refine .qn z (.g (.qn z (.block (bv h λy6 hy6 h=>?_))))
    refine .via (.iter (λs2 E' W'=>al E' [(0,(sv v_0)),(1,(sv v_1)),(5,.bool s2.1),(6,vi s1.2.1),(7,(sv v1)),(8,vi s2.2.1)]/\Sep S w W' [ac (sv v1) 3 1 (D.int .i64) y5,ac (sv v_1) 4 1 D.bool s2.2.2]) (λy7 x E' W'=>x=.exit 2/\al E' [(0,(sv v_0)),(1,(sv v_1)),(5,.bool y7.1),(6,vi s1.2.1)]/\Sep S w W' [ac (sv v1) 3 1 (D.int .i64) y5,ac (sv v_1) 4 1 D.bool y7.2]) hy6 ⟨sb z,s.tk [0,0]⟩ ?_) ?_
    ·intro s2 y8 E W h hI
     obtain ⟨hE,s⟩:=hI
     refine CW.sub hE ?_
     unfold i4 at h
     refine .seq (.g (.q z (.q z (.s (aJ s.lv u23 z z) z (.q z (.nil ?_))))))
     refine .cs z h ?_ ?_ <;> intro h
     ·refine .skip (bv h λy9 hy9 h=>?_)
      refine .seq (CW.via (R':=λx E' W'=>x=.normal/\al E' [(0,(sv v_0)),(1,(sv v_1)),(5,.bool y9.1),(6,vi s1.2.1),(7,(sv v1)),(8,vi s2.2.1)]/\Sep S w W' [ac (sv v1) 3 1 (D.int .i64) y5,ac (sv v_1) 4 1 D.bool y9.2]) ?_ ?_)
      ·have h:=hy9
       refine .block (.g (.q z (.q z (.q z (bv h λx2 hx2 h=>.s (ixv s.lv hx2 u23 t3 z z z) z (.s (lde (RV.flat s.lv hx2 z) t3 z z z z z) z (bv h λx3 hx3 h=>.s (ixv s.p1.lv hx3 u188 t4 z z z) z (.s (lde (RV.flat s.p1.lv hx3 z) t4 z z z z z) z (.q z (.nil ?_))))))))))
       refine .cs z h ?_ ?_ <;> intro h
       ·refine .g (.q z (.q z (.q z (bv h λx4 hx4 h=>.s (ixv s.lv hx4 u23 t3 z z z) z (.s (lde (RV.flat s.lv hx4 z) t3 z z z z z) z (bv h λx5 hx5 h=>.s (ixv s.p1.lv hx5 u188 t4 z z z) z (bv h λr1 hr1 h=>.c (.sev hr1 hx5 s.p1 t4 z z z z z z ?_))))))))
        intro W s
        refine .nil (.region (.q z (.nil ?_)))
        cases h
        exact ⟨z,sb z,s.tk [1,0]⟩
       refine .skip ?_
       cases h
       exact ⟨z,sb z,s.tk [0,0]⟩
      intro x E W hJ
      obtain ⟨rfl,hE,s⟩:=hJ
      refine ⟨_,hE.sub,?_⟩
      refine .region (.q z (.q z (.q z (.nil ?_))))
      cases h
      exact ⟨z,sb z,s.tk [0,0]⟩
     refine .exit ?_
     cases h
     exact ⟨by simp,z,sb z,s.tk [0,0]⟩
    intro x E W hJ
    obtain ⟨rfl,hE,s⟩:=hJ
    refine ⟨_,hE.sub,?_⟩
    cases h
    exact ⟨z,sb z,s.tk [1]⟩
   intro x E W hJ
   obtain ⟨rfl,hE,s⟩:=hJ
   refine ⟨_,hE.sub,?_⟩
   refine .region (.q z (.q z (.q z (.nil ?_))))
   cases h
   exact ⟨z,sb z,s.tk [0]⟩
  refine .exit ?_
  cases h
  exact ⟨by simp,z,sb z,s.tk [0]⟩
 intro x E W hJ
 obtain ⟨rfl,hE,s⟩:=hJ
 refine ⟨_,hE.sub,?_⟩
 cases h
 exact .g (.q z (.qn z (.ret (aa () (rt z rn) z (s.tk [0])))))
theorem sI {a0:List ab} {v_0:Hd} {w:World} {r:(List Bool)} (h:cZ a0=some r) (q_0:RO w v_0 70 5 ae a0):CL 246 #[sv v_0] w (Ret No w (λs:Hd=>(sv s)) (λs=>[ac (sv s) 4 1 D.bool r])):=by
 unfold cZ at h
 refine ao func246 z z ?_
 have s:=Sep.start w
 refine .g (.qn z (.seq (.g (.q z (bv h λy1 hy1 h=>.c (.cO s func106 (bx hy1 (s.keep q_0)) z z ?_))))))
 intro W s
 refine .qn z (.cond z (λb=>?_) (λb=>?_))
 ·have h:=aC b h
  refine .g (.c (.liv [] D.bool u188 t4 s z z z z ?_ z (λ_=>z)))
  intro v1 W s
  cases h
  exact .qn z (.ret (aa v1 (rt z rn) z (s.tk [0])))
 have h:=aD b h
 refine .skip (.g (.q z (.s (aJ (s.keep q_0) u38 z z) z (bv h λr1 hr1 h=>.c (.mkv false D.bool hr1 u188 t4 s z z z z z (λ_=>z) ?_)))))
 intro v2 W s
 refine .qn z (.g (.q z (bv h λx1 hx1 h=>.s (ixv s.lv hx1 u188 t4 z z z) z (bv h λr2 hr2 h=>.c (.sev hr2 hx1 s t4 z z z z z z ?_)))))
 intro W s
 refine .nil (.seq (.block (bv h λy2 hy2 h=>?_)))
 refine .via (.iter (λs1 E' W'=>al E' [(0,(sv v_0)),(3,(sv v2))]/\Sep No w W' [ac (sv v2) 4 1 D.bool s1]) (λy3 x E' W'=>x=.exit 0/\al E' [(3,(sv v2))]/\Sep No w W' [ac (sv v2) 4 1 D.bool y3]) hy2 ⟨sb z,s.tk [0]⟩ ?_) ?_
 ·intro s1 y4 E W h hI
  obtain ⟨hE,s⟩:=hI
  refine CW.sub hE ?_
  unfold i6 at h
  refine .seq (.g (.q z (.q z (bv h λy5 hy5 h=>.c (.cS (L0:=[ac (sv v2) 4 1 D.bool s1]) s func269 (λS h1 h2 h3=>(sH hy5 (s.ks q_0 h1) h2 (zz h1))) z z ?_)))))
  rintro ⟨⟩ W s
  refine .nil ?_
  refine .cs z h ?_ ?_ <;> intro h
  ·refine .skip (.block (.skip ?_))
   cases h
   exact ⟨z,sb z,s.tk [0]⟩
  refine .exit ?_
  cases h
  exact ⟨by simp,z,sb z,s.tk [0]⟩
 intro x E W hJ
 obtain ⟨rfl,hE,s⟩:=hJ
 refine ⟨_,hE.sub,?_⟩
 obtain rfl:=o9 h
 exact .g (.q z (.qn z (.ret (aa v2 (rt z rn) z (s.tk [0])))))
theorem uB {a0:ab} {a1:Int} {w:World} {r:Bool} (h:lS a0 a1=some r):CL 247 #[.agg #[vi a0.Op,vi a0.Dst,vi a0.A,vi a0.B,vi a0.N],vi a1] w (RU w (.bool r)):=by
 unfold lS at h
 refine ao func247 z z ?_
 have s:=Sep.start w
 refine .g (.c (.box s z z ?_))
 intro g1 W s
 refine .qn z (.seq (.g (.s (fa f70_0 z z z) z (.s (ld t3 s z z z z z) z (.nil (.block (bv h λy1 hy1 h=>?_)))))))
 refine .seq (CW.via (R':=λx E' W'=>x=.normal/\al E' [(1,vi a1),(2,Pt g1),(6,vi a0.Op),(7,.bool y1)]/\Sep No w W' [.box g1 70 [vi a0.Op,vi a0.Dst,vi a0.A,vi a0.B,vi a0.N]]) ?_ ?_)
 ·have h:=hy1
  refine .g (.q z (.q z (.nil ?_)))
  refine .cs z h ?_ ?_ <;> intro h
  ·refine .skip ?_
   cases h
   exact ⟨z,sb z,s.tk [0]⟩
  refine .region (.q z (.q z (.nil ?_)))
  cases h
  exact ⟨z,sb z,s.tk [0]⟩
 intro x E W hJ
 obtain ⟨rfl,hE,s⟩:=hJ
 refine ⟨_,hE.sub,?_⟩
 refine .cs z h ?_ ?_ <;> intro h
 ·cases h
  exact .g (.s (fa f70_4 z z z) z (.s (ld t3 s z z z z z) z (.q z (.q z (.q z (.qn z (.ret (aa () (rt z rn) z (s.to [])))))))))
 refine .g (.q z (.q z (.nil ?_)))
 refine .cs z h ?_ ?_ <;> intro h
 ·cases h
  exact .g (.s (fa f70_1 z z z) z (.s (ld t3 s z z z z z) z (.s (fa f70_2 z z z) z (.s (ld t3 s z z z z z) z (.q z (.qn z (.ret (aa () (rt z rn) z (s.to [])))))))))
 obtain rfl:=o9 h
 exact .skip (.g (.qn z (.ret (aa () (rt z rn) z (s.to [])))))
theorem tY {a0:List Bool} {a1:Int} {v_0:Hd} {w:World} {r:Int} (h:kC a0 a1=some r) (q_0:RO w v_0 4 1 D.bool a0):CL 248 #[sv v_0,vi a1] w (RU w (.int .i64 r)):=by
 unfold kC at h
 refine ao func248 z z ?_
 have s:=Sep.start w
 refine .g (.qn z (.g (.qn z (.seq (.g (.qn z (.block (bv h λy1 hy1 h=>?_))))))))
 refine .via (.iter (λs1 E' W'=>al E' [(0,(sv v_0)),(1,vi a1),(5,vi s1.1),(6,vi s1.2)]/\Sep No w W' []) (λy2 x E' W'=>x=.exit 0/\al E' [(5,vi y2)]/\Sep No w W' []) hy1 ⟨sb z,s.to []⟩ ?_) ?_
 ·intro s1 y3 E W h hI
  obtain ⟨hE,s⟩:=hI
  refine CW.sub hE ?_
  unfold mu at h
  refine .seq (.g (.q z (.q z (.q z (.nil ?_)))))
  refine .cs z h ?_ ?_ <;> intro h
  ·refine .skip (bv h λy4 hy4 h=>?_)
   refine .seq (CW.via (R':=λx E' W'=>x=.normal/\al E' [(0,(sv v_0)),(1,vi a1),(5,vi y4),(6,vi s1.2)]/\Sep No w W' []) ?_ ?_)
   ·have h:=hy4
    refine .block (.g (.q z (.q z (bv h λx1 hx1 h=>.s (ixv (s.keep q_0) hx1 u188 t4 z z z) z (.s (lde (RV.flat (s.keep q_0) hx1 z) t4 z z z z z) z (.nil ?_))))))
    refine .cs z h ?_ ?_ <;> intro h
    ·refine .region (.q z (.q z (.q z (.nil ?_))))
     cases h
     exact ⟨z,sb z,s.to []⟩
    refine .skip ?_
    cases h
    exact ⟨z,sb z,s.to []⟩
   intro x E W hJ
   obtain ⟨rfl,hE,s⟩:=hJ
   refine ⟨_,hE.sub,?_⟩
   refine .region (.q z (.q z (.q z (.nil ?_))))
   cases h
   exact ⟨z,sb z,s.to []⟩
  refine .exit ?_
  cases h
  exact ⟨by simp,z,sb z,s.to []⟩
 intro x E W hJ
 obtain ⟨rfl,hE,s⟩:=hJ
 refine ⟨_,hE.sub,?_⟩
 obtain rfl:=o9 h
 exact .g (.q z (.qn z (.ret (aa () (rt z rn) z (s.to [])))))
theorem qJ {a0:List ab} {v_0:Hd} {w:World} {r:(List ab)×Bool} (h:dz a0=some r) (q_0:RO w v_0 70 5 ae a0):CL 200 #[sv v_0] w (Ret No w (λs:Hd=>.tuple #[sv s,.bool r.2]) (λs=>[ac (sv s) 70 5 ae r.1])):=by
 unfold dz at h
 refine ao func200 z z ?_
 have s:=Sep.start w
 refine .g (.q z (.qn z (.g (.c (.liv [] ae u38 t70 s z z z z ?_ z (λ_=>z))))))
 intro v1 W s
 refine .qn z (.seq (.g (.q z (bv h λy1 hy1 h=>.c (.cO s func106 (bx hy1 (s.keep q_0)) z z ?_)))))
 intro W s
 refine .q z (.nil ?_)
 refine .cs z h ?_ ?_ <;> intro h
 ·cases h
  exact .g (.q z (.q z (.qn z (.ret (aa (vs:=[_,_]) v1 (rt z (rt z rn)) z (s.tk [0]))))))
 refine .skip (.g (.q z (bv h λy2 hy2 h=>.c (.cV s func246 (sI hy2 (s.keep q_0)) z z ?_))))
 intro v2 W s
 refine .qn z (.seq (.g (.qn z (.block (bv h λy3 hy3 h=>?_)))))
 refine .via (.iter (λs1 E' W'=>al E' [(0,(sv v_0)),(4,(sv v1)),(5,(sv v2)),(6,vi s1.1)]/\Sep No w W' [ac (sv v2) 4 1 D.bool s1.2,ac (sv v1) 70 5 ae []]) (λy4 x E' W'=>x=.exit 0/\al E' [(0,(sv v_0)),(4,(sv v1)),(5,(sv v2))]/\Sep No w W' [ac (sv v2) 4 1 D.bool y4,ac (sv v1) 70 5 ae []]) hy3 ⟨sb z,s.tk [0,0]⟩ ?_) ?_
 ·intro s1 y5 E W h hI
  obtain ⟨hE,s⟩:=hI
  refine CW.sub hE ?_
  unfold d8 at h
  refine .seq (.g (.q z (.q z (.s (aJ (s.keep q_0) u38 z z) z (.q z (.nil ?_))))))
  refine .cs z h ?_ ?_ <;> intro h
  ·refine .skip (.seq (.block (.region (.q z (.q z (.q z (.q z (bv h λx1 hx1 h=>.s (ixv s.lv hx1 u188 t4 z z z) z (.s (lde (RV.flat s.lv hx1 z) t4 z z z z z) z (.q z (bv h λb1 hb1 h=>.cu 8 36 (b1) s ?_ ?_)))))))))))
   ·refine .both (x1) (λb=>?_) (λb=>?_)
    ·have hg1:=b
     have h:=aC b hb1
     refine .g hg1 (.q z (.g hg1 (.q z (bv h λx2 hx2 h=>.g hg1 (.s (ixv (s.keep q_0) hx2 u38 t70 z z z) z (.g hg1 (.s (lde (RV.flat (s.keep q_0) hx2 z) t70 z z z z z) z (.g hg1 (.q z (bv h λy6 hy6 h=>.g hg1 (.c (.cO s func247 (uB hy6) z z ?_))))))))))))
     intro W s
     refine .g hg1 (.q z (.s (pkt hg1 z z z) z ?_))
     cases h
     exact .nil (ck 8 s)
    refine .xx b z (.xx b z (.xx b z (.xx b z (.xx b z (.xx b z (.xx b z ?_))))))
    cases aD b hb1
    exact .s (pkf b z z z) z (.nil (ck 8 s))
   intro W s
   refine bv h λx3 hx3 h=>.s (ixv s.lv hx3 u188 t4 z z z) z (bv h λr1 hr1 h=>.c (.sev hr1 hx3 s t4 z z z z z z ?_))
   intro W s
   refine .nil (.region (.q z (.q z (.q z (.nil ?_)))))
   cases h
   exact ⟨z,sb z,s.tk [0,0]⟩
  refine .exit ?_
  cases h
  exact ⟨by simp,z,sb z,s.tk [0,0]⟩
 intro x E W hJ
 obtain ⟨rfl,hE,s⟩:=hJ
 refine ⟨_,hE.sub,?_⟩
 refine .seq (.g (.qn z (.block (bv h λy7 hy7 h=>?_))))
 refine .via (.iter (λs2 E' W'=>∃ (v5:Hd),al E' [(0,(sv v_0)),(4,(sv v5)),(5,(sv v2)),(7,vi s2.2)]/\Sep No w W' [ac (sv v2) 4 1 D.bool y3,ac (sv v5) 70 5 ae s2.1]) (λy8 x E' W'=>x=.exit 2/\∃ (v6:Hd),al E' [(4,(sv v6))]/\Sep No w W' [ac (sv v2) 4 1 D.bool y3,ac (sv v6) 70 5 ae y8]) hy7 ⟨v1,sb z,s.tk [0,0]⟩ ?_) ?_
 ·intro s2 y9 E W h hI
  obtain ⟨v4,hE,s⟩:=hI
  refine CW.sub hE ?_
  unfold d9 at h
  refine .seq (.g (.q z (.q z (.s (aJ (s.keep q_0) u38 z z) z (.q z (.nil ?_))))))
  refine .cs z h ?_ ?_ <;> intro h
  ·refine .skip (bv h λy10 hy10 h=>?_)
   refine .seq (CW.via (R':=λx E' W'=>x=.normal/\∃ (v7:Hd),al E' [(0,(sv v_0)),(4,(sv v7)),(5,(sv v2)),(7,vi s2.2)]/\Sep No w W' [ac (sv v2) 4 1 D.bool y3,ac (sv v7) 70 5 ae y10]) ?_ ?_)
   ·have h:=hy10
    refine .block (.g (.q z (.q z (bv h λx4 hx4 h=>.s (ixv (s.keep q_0) hx4 u38 t70 z z z) z (.s (lde (RV.flat (s.keep q_0) hx4 z) t70 z z z z z) z (.c (.alloc t70 s ?_)))))))
    intro g1 W s
    refine .c (.st t70 s z z z ?_)
    intro W s
    refine .nil (.seq (.g (.q z (.q z (bv h λx5 hx5 h=>.s (ixv s.p1.lv hx5 u188 t4 z z z) z (.s (lde (RV.flat s.p1.lv hx5 z) t4 z z z z z) z (.q z (.nil ?_))))))))
    refine .cs z h ?_ ?_ <;> intro h
    ·refine .exit ?_
     cases h
     exact ⟨z,v4,sb z,s.tk [1,1]⟩
    refine .skip (bv h λy11 hy11 h=>?_)
    refine .seq (CW.via (R':=λx E' W'=>x=.normal/\al E' [(0,(sv v_0)),(4,(sv v4)),(5,(sv v2)),(7,vi s2.2),(8,Pt g1)]/\Sep No w W' [.box g1 70 [vi y11.Op,vi y11.Dst,vi y11.A,vi y11.B,vi y11.N],ac (sv v2) 4 1 D.bool y3,ac (sv v4) 70 5 ae s2.1]) ?_ ?_)
    ·have h:=hy11
     refine .g (.s (fa f70_0 z z z) z (.s (ld t3 s z z z z z) z (.q z (.q z (.cu 4 60 ((x4.Op==4)||(x4.Op==5)) s ?_ ?_)))))
     ·refine .both (x4.Op==4) (λb=>?_) (λb=>?_)
      ·exact .xx b z (.xx b z (.xx b z (.s (pkt b z z z) z (.nil (ck 4 s z (gY b))))))
      have hg2:=b
      exact .g hg2 (.s (fa f70_0 z z z) z (.g hg2 (.s (ld t3 s z z z z z) z (.g hg2 (.q z (.s (pkf hg2 z z z) z (.nil (ck 4 s z (gr hg2)))))))))
     intro W s
     refine .nil ?_
     refine .cs z h ?_ ?_ <;> intro h
     ·refine .region (.q z (.s (fa f70_4 z z z) z (.s (ld t3 s z z z z z) z (bv h λy12 hy12 h=>.c (.cO s func248 (tY hy12 s.p1.lv) z z ?_)))))
      intro W s
      refine .s (fa f70_4 z z z) z (.c (.st t3 s z z z ?_))
      intro W s
      refine .nil ?_
      cases h
      exact ⟨z,sb z,s.tk [0,0,0]⟩
     refine .skip ?_
     obtain rfl:=o9 h
     exact ⟨z,sb z,s.tk [0,0,0]⟩
    intro x E W hJ
    obtain ⟨rfl,hE,s⟩:=hJ
    refine ⟨_,hE.sub,?_⟩
    refine .region (.q z (.s (ld t70 s z z z z z) z (.c (.liv [y11] ae u38 t70 s z z z z ?_ z (λ_=>z)))))
    intro v8 W s
    refine bv h λr2 hr2 h=>?_
    have hT0:=s.p3
    refine .c (.av hr2 hT0 hT0.p1.lv (λ_=>z) u38 t70 z z z ?_)
    intro v9 W s
    refine .q z (.nil ?_)
    obtain rfl:=o9 h
    exact ⟨z,v9,sb z,s.tk [3,0]⟩
   intro x E W hJ
   obtain ⟨rfl,v10,hE,s⟩:=hJ
   refine ⟨_,hE.sub,?_⟩
   refine .region (.q z (.q z (.q z (.nil ?_))))
   cases h
   exact ⟨z,v10,sb z,s.tk [0,0]⟩
  refine .exit ?_
  cases h
  exact ⟨by simp,z,v4,sb z,s.tk [0,0]⟩
 intro x E W hJ
 obtain ⟨rfl,v11,hE,s⟩:=hJ
 refine ⟨_,hE.sub,?_⟩
 cases h
 exact .g (.q z (.q z (.qn z (.ret (aa (vs:=[_,_]) v11 (rt z (rt z rn)) z (s.tk [1]))))))
theorem uC {a0:List ab} {v_0:Hd} {w:World} {r:(List ab)} (h:m9 a0=some r) (q_0:RO w v_0 70 5 ae a0):CL 153 #[sv v_0] w (Ret No w (λs:Hd=>(sv s)) (λs=>[ac (sv s) 70 5 ae r])):=by
 unfold m9 at h
 refine ao func153 z z ?_
 have s:=Sep.start w
 refine .g (.qn z (.g (.q z (bv h λy1 hy1 h=>.c (.cV s func196 (tM hy1 (s.keep q_0)) z z ?_)))))
 intro v1 W s
 refine .q z (.q z (.q z (.q z (.qn z (.g (.q z (bv h λy2 hy2 h=>.c (.cV s func197 (tS hy2 s.lv) z z ?_))))))))
 intro v2 W s
 refine .q z (.q z (.q z (.q z (.qn z (.g (.q z (bv h λy3 hy3 h=>.c (.cV s func198 (tU hy3 s.lv) z z ?_))))))))
 intro v3 W s
 refine .q z (.q z (.q z (.q z (.qn z (.g (.q z (bv h λy4 hy4 h=>.c (.cV s func199 (tX hy4 s.lv) z z ?_))))))))
 intro v4 W s
 refine .q z (.q z (.q z (.q z (.qn z (.g (.q z (bv h λy5 hy5 h=>.c (.cV s func200 (qJ hy5 s.lv) z z ?_))))))))
 intro v5 W s
 cases h
 exact .q z (.q z (.q z (.q z (.qn z (.g (.q z (.qn z (.ret (aa v5 (rt z rn) z (s.tk [0]))))))))))
theorem qd {a0:List ab} {a1:Int} {v_0:Hd} {w:World} {r:(List ab)×Bool} (h:co a0 a1=some r) (q_0:RO w v_0 70 5 ae a0):CL 105 #[sv v_0,vi a1] w (Ret No w (λs:Hd=>.tuple #[sv s,.bool r.2]) (λs=>[ac (sv s) 70 5 ae r.1])):=by
 unfold co at h
 refine ao func105 z z ?_
 have s:=Sep.start w
 refine .g (.q z (.qn z (.seq (.g (.q z (bv h λy1 hy1 h=>.c (.cO s func106 (bx hy1 (s.keep q_0)) z z ?_)))))))
 intro W s
 refine .q z (.q z (bv h λb1 hb1 h=>.cu 4 15 (b1) s ?_ ?_))
 ·refine .both (!y1) (λb=>?_) (λb=>?_)
  ·refine .xx b z (.xx b z (.xx b z ?_))
   cases aC b hb1
   exact .s (pkt b z z z) z (.nil (ck 4 s))
  have hg1:=b
  have h:=aD b hb1
  refine .g hg1 (.q z (bv h λy2 hy2 h=>.g hg1 (.c (.cO s func32 (bk hy2) z z ?_))))
  intro W s
  refine .g hg1 (.q z (.s (pkf hg1 z z z) z ?_))
  cases h
  exact .nil (ck 4 s)
 intro W s
 refine .nil ?_
 refine .cs z h ?_ ?_ <;> intro h
 ·refine .g (.c (.liv [] ae u38 t70 s z z z z ?_ z (λ_=>z)))
  intro v1 W s
  cases h
  exact .q z (.qn z (.ret (aa (vs:=[_,_]) v1 (rt z (rt z rn)) z (s.tk [0]))))
 refine .skip (.g (.c (.liv [] ae u38 t70 s z z z z ?_ z (λ_=>z))))
 intro v2 W s
 refine .q z (bv h λr1 hr1 h=>.c (.av hr1 s (s.keep q_0) (λ_=>z) u38 t70 z z z ?_))
 intro v3 W s
 refine .qn z (.seq (.g (.qn z (.block (bv h λy3 hy3 h=>?_)))))
 refine .via (.iter (λs1 E' W'=>∃ (v6:Hd),al E' [(1,vi a1),(6,(sv v6)),(7,vi s1.2)]/\Sep No w W' [ac (sv v6) 70 5 ae s1.1]) (λy4 x E' W'=>x=.exit 0/\∃ (v7:Hd),al E' [(6,(sv v7))]/\Sep No w W' [ac (sv v7) 70 5 ae y4]) hy3 ⟨v3,sb z,s.tk [0]⟩ ?_) ?_
 ·intro s1 y5 E W h hI
  obtain ⟨v5,hE,s⟩:=hI
  refine CW.sub hE ?_
  unfold bM at h
  refine .seq (.g (.q z (.q z (.q z (.nil ?_)))))
  refine .cs z h ?_ ?_ <;> intro h
  ·refine .skip (.seq (.block (.region (.q z (bv h λy6 hy6 h=>.c (.cV s func153 (uC hy6 s.lv) z z ?_))))))
   intro v8 W s
   refine .qn z (.region (.q z (.q z (.q z (.nil ?_)))))
   cases h
   exact ⟨z,v8,sb z,s.tk [0]⟩
  refine .exit ?_
  cases h
  exact ⟨by simp,z,v5,sb z,s.tk [0]⟩
 intro x E W hJ
 obtain ⟨rfl,v9,hE,s⟩:=hJ
 refine ⟨_,hE.sub,?_⟩
 cases h
 exact .g (.q z (.q z (.qn z (.ret (aa (vs:=[_,_]) v9 (rt z (rt z rn)) z (s.tk [0]))))))
def rK (w:World) (r:(List (List ab))×Bool):Env->World->Prop:=Fin Tryz.prog Tryz.f60 No w (λs:Hd=>.tuple #[sv s,.bool r.2]) (λs=>[ac (sv s) 38 1 (λ(l:List ab)=>D.row 70 5 (l.map ae)) r.1]) .ret
end
noncomputable section
theorem qK {a0:List (List ab)} {a1:Int} {v_0:Hd} {w:World} {r:(List (List ab))×Bool} (h:dA a0 a1=some r) (q_0:RO w v_0 38 1 (λ(l:List ab)=>D.row 70 5 (l.map ae)) a0):CL 60 #[sv v_0,vi a1] w (Ret No w (λs:Hd=>.tuple #[sv s,.bool r.2]) (λs=>[ac (sv s) 38 1 (λ(l:List ab)=>D.row 70 5 (l.map ae)) r.1])):=by
 unfold dA at h
 refine ao func60 z z ?_
 have s:=Sep.start w
 refine .g (.q z (.qn z (.g (.c (.lg (L1:=[]) [] (λ(l:List ab)=>D.row 70 5 (l.map ae)) u32 t38 (s.to []) z z z (.nil) ?_ z (λ_=>z))))))
 intro v1 W s
 refine .qn z (.seq (.g (.q z (.s (aJ (s.keep q_0) u32 z z) z (bv h λy1 hy1 h=>.c (.cO s func32 (bk hy1) z z ?_))))))
 intro W s
 refine .q z (.nil ?_)
 refine .cs z h ?_ ?_ <;> intro h
 ·cases h
  exact .g (.q z (.q z (.qn z (.ret (aa (vs:=[_,_]) v1 (rt z (rt z rn)) z (s.tk [0]))))))
 refine .skip (.seq (.g (.qn z (.block (bv h λy2 hy2 h=>?_)))))
 refine .via (.iter (λs1 E' W'=>∃ (v4:Hd),al E' [(0,(sv v_0)),(1,vi a1),(6,(sv v4)),(7,vi s1.2)]/\Sep No w W' [ac (sv v4) 38 1 (λ(l:List ab)=>D.row 70 5 (l.map ae)) s1.1]) (λy3 x E' W'=>(match y3 with | .inl o1=>x=.ret/\rK w o1 E' W' | .inr o2=>x=.exit 0/\∃ (v5:Hd),al E' [(6,(sv v5))]/\Sep No w W' [ac (sv v5) 38 1 (λ(l:List ab)=>D.row 70 5 (l.map ae)) o2])) hy2 ⟨v1,sb rfl,s.tk [0]⟩ ?_) ?_
 ·intro s1 y4 E W h hI
  obtain ⟨v3,hE,s⟩:=hI
  refine CW.sub hE ?_
  unfold da at h
  refine .seq (.g (.q z (.q z (.s (aJ (s.keep q_0) u32 z z) z (.q z (.nil ?_))))))
  refine .cs z h ?_ ?_ <;> intro h
  ·refine .skip (.seq (.block (.g (.q z (.q z (bv h λx1 hx1 h=>?_))))))
   obtain ⟨k1,hd,hck1⟩:=RV.el2 q_0 hx1
   obtain ⟨v6,k1,rfl,q5,hd1⟩:=cU q_0 hd
   obtain rfl:=mO q_0 hd1
   refine .s (ixv (s.keep q_0) hx1 u32 t38 z z z) z (.s (lde (hck1 _ s.agree) t38 z z z z z) z (.q z (bv h λy5 hy5 h=>.c (.cV s func105 (qd hy5 (s.keep (q5 _ q_0))) z z ?_))))
   intro v7 W s
   refine .q z (.q z (.q z (.q z (.qn z (.seq (.g (.q z (.q z (.nil ?_)))))))))
   refine .cs z h ?_ ?_ <;> intro h
   ·refine .g (.c (.lg (L1:=[]) [] (λ(l:List ab)=>D.row 70 5 (l.map ae)) u32 t38 (s.to [0,0]) z z z (.nil) ?_ z (λ_=>z)))
    intro v8 W s
    refine .q z (.qn z (.ret ?_))
    cases h
    exact ⟨by simp,z,aa (vs:=[_,_]) v8 (rt z (rt z rn)) z (s.tk [0])⟩
   refine .skip (.region (.q z (.q z (.c (.lg (L1:=[ac (sv v7) 70 5 ae y5.1]) [y5.1] (λ(l:List ab)=>D.row 70 5 (l.map ae)) u32 t38 (s.to [0,0]) z z z (.row (.nil)) ?_ z (λ_=>z))))))
   intro v9 W s
   refine bv h λr1 hr1 h=>.c (.appv hr1 (s.to [1,0]) u32 t38 z z z ?_)
   intro v10 W s
   refine .qn z (.region (.q z (.q z (.q z (.nil ?_)))))
   cases h
   exact ⟨z,v10,sb z,s.tk [0]⟩
  refine .exit ?_
  cases h
  exact ⟨by simp,z,v3,sb z,s.tk [0]⟩
 intro x E W hJ
 rcases y2 with o3 | o4
 ·have h:=dG h
  obtain ⟨rfl,hF⟩:=hJ
  refine ⟨_,λ_ _ h=>h,?_⟩
  cases h
  exact hF
 have h:=dH h
 obtain ⟨rfl,v11,hE,s⟩:=hJ
 refine ⟨_,hE.sub,?_⟩
 cases h
 exact .g (.q z (.q z (.qn z (.ret (aa (vs:=[_,_]) v11 (rt z (rt z rn)) z (s.tk [0]))))))
theorem tZ {a0:List ab} {v_0:Hd} {w:World} {r:(List (List Bool))} (h:kD a0=some r) (q_0:RO w v_0 70 5 ae a0):CL 155 #[sv v_0] w (Ret No w (λs:Hd=>(sv s)) (λs=>[ac (sv s) 188 1 (λ(l:List Bool)=>D.row 4 1 (l.map D.bool)) r])):=by
 unfold kD at h
 refine ao func155 z z ?_
 have s:=Sep.start w
 refine .g (.qn z (.g (.q z (bv h λy1 hy1 h=>.c (.cV s func204 (qc hy1 (s.keep q_0)) z z ?_)))))
 intro v1 W s
 refine .qn z (.g (.c (.lg (L1:=[]) [] (λ(l:List Bool)=>D.row 4 1 (l.map D.bool)) u169 t188 (s.to [0]) z z z (.nil) ?_ z (λ_=>z))))
 intro v2 W s
 refine .qn z (.seq (.g (.qn z (.block (bv h λy2 hy2 h=>?_)))))
 refine .via (.iter (λs1 E' W'=>∃ (v5:Hd),al E' [(0,(sv v_0)),(3,(sv v1)),(4,(sv v5)),(5,vi s1.2)]/\Sep No w W' [ac (sv v1) 188 1 (λ(l:List Bool)=>D.row 4 1 (l.map D.bool)) y1,ac (sv v5) 188 1 (λ(l:List Bool)=>D.row 4 1 (l.map D.bool)) s1.1]) (λy3 x E' W'=>x=.exit 0/\∃ (v6:Hd),al E' [(4,(sv v6))]/\Sep No w W' [ac (sv v1) 188 1 (λ(l:List Bool)=>D.row 4 1 (l.map D.bool)) y1,ac (sv v6) 188 1 (λ(l:List Bool)=>D.row 4 1 (l.map D.bool)) y3]) hy2 ⟨v2,sb z,s.tk [1,0]⟩ ?_) ?_
 ·intro s1 y4 E W h hI
  obtain ⟨v4,hE,s⟩:=hI
  refine CW.sub hE ?_
  unfold mv at h
  refine .seq (.g (.q z (.q z (.s (aJ (s.keep q_0) u38 z z) z (.q z (.nil ?_))))))
  refine .cs z h ?_ ?_ <;> intro h
  ·refine .skip (.seq (.block (.region (.q z (.q z (.q z (.q z (bv h λy5 hy5 h=>.c (.cV s func205 (mz hy5 (s.keep q_0) s.lv) z z ?_)))))))))
   intro v7 W s
   refine .c (.lg (L1:=[ac (sv v7) 4 1 D.bool y5]) [y5] (λ(l:List Bool)=>D.row 4 1 (l.map D.bool)) u169 t188 (s.to [0,0,0]) z z z (.row (.nil)) ?_ z (λ_=>z))
   intro v8 W s
   refine bv h λr1 hr1 h=>.c (.appv hr1 (s.to [2,0,0]) u169 t188 z z z ?_)
   intro v9 W s
   refine .qn z (.region (.q z (.q z (.q z (.nil ?_)))))
   cases h
   exact ⟨z,v9,sb z,s.tk [1,0]⟩
  refine .exit ?_
  cases h
  exact ⟨by simp,z,v4,sb z,s.tk [0,0]⟩
 intro x E W hJ
 obtain ⟨rfl,v10,hE,s⟩:=hJ
 refine ⟨_,hE.sub,?_⟩
 obtain rfl:=o9 h
 exact .g (.q z (.qn z (.ret (aa v10 (rt z rn) z (s.tk [1])))))
theorem oC {a0:ab} {a1:List Bool} {a2:Int} {a3:Int} {v_1:Hd} {w:World} {r:Bool} (h:iO a0 a1 a2 a3=some r) (q_1:RO w v_1 4 1 D.bool a1):CL 252 #[.agg #[vi a0.Op,vi a0.Dst,vi a0.A,vi a0.B,vi a0.N],sv v_1,vi a2,vi a3] w (RU w (.bool r)):=by
 unfold iO at h
 refine ao func252 z z ?_
 have s:=Sep.start w
 refine .g (.c (.box s z z ?_))
 intro g1 W s
 refine .qn z (.seq (.g (.s (ld t70 s z z z z z) z (bv h λy1 hy1 h=>.c (.cO s func157 (gX hy1) z z ?_)))))
 intro W s
 refine .q z (.q z (.q z (bv h λb1 hb1 h=>.cu 6 19 (b1) s ?_ ?_)))
 ·refine .both (y1 !=a2) (λb=>?_) (λb=>?_)
  ·refine .xx b z (.xx b z (.xx b z (.xx b z (.xx b z ?_))))
   cases aC b hb1
   exact .s (pkt b z z z) z (.nil (ck 6 s))
  have hg1:=b
  have h:=aD b hb1
  refine .g hg1 (.q z (.g hg1 (.q z (bv h λx1 hx1 h=>.g hg1 (.s (ixv (s.keep q_1) hx1 u188 t4 z z z) z (.g hg1 (.s (lde (RV.flat (s.keep q_1) hx1 z) t4 z z z z z) z (.g hg1 (.q z (.s (pkf hg1 z z z) z ?_))))))))))
  cases h
  exact .nil (ck 6 s)
 intro W s
 refine .nil ?_
 refine .cs z h ?_ ?_ <;> intro h
 ·obtain rfl:=o9 h
  exact .g (.qn z (.ret (aa () (rt z rn) z (s.to []))))
 refine .skip (.g (.s (fa f70_0 z z z) z (.s (ld t3 s z z z z z) z (.q z (.q z (.cu 5 28 ((a0.Op !=2)||(a0.A !=a3)) s ?_ ?_))))))
 ·refine .both (a0.Op !=2) (λb=>?_) (λb=>?_)
  ·exact .xx b z (.xx b z (.xx b z (.xx b z (.s (pkt b z z z) z (.nil (ck 5 s z (gY b)))))))
  have hg2:=b
  exact .g hg2 (.s (fa f70_2 z z z) z (.g hg2 (.s (ld t3 s z z z z z) z (.g hg2 (.q z (.g hg2 (.q z (.s (pkf hg2 z z z) z (.nil (ck 5 s z (gr hg2)))))))))))
 intro W s
 cases h
 exact .qn z (.ret (aa () (rt z rn) z (s.to [])))
def vU (w:World) (r:Bool):Env->World->Prop:=Fin Tryz.prog Tryz.f206 No w (λs:Unit=>.bool r) (λs=>[]) .ret
theorem uD {a0:List ab} {a1:List (List Bool)} {a2:Int} {a3:Int} {v_0:Hd} {v_1:Hd} {w:World} {r:Bool} (h:lU a0 a1 a2 a3=some r) (q_0:RO w v_0 70 5 ae a0) (q_1:RO w v_1 188 1 (λ(l:List Bool)=>D.row 4 1 (l.map D.bool)) a1):CL 206 #[sv v_0,sv v_1,vi a2,vi a3] w (RU w (.bool r)):=by
 unfold lU at h
 refine ao func206 z z ?_
 have s:=Sep.start w
 refine .g (.qn z (.seq (.g (.q z (.q z (.q z (.nil ?_)))))))
 refine .cs z h ?_ ?_ <;> intro h
 ·obtain rfl:=o9 h
  exact .g (.qn z (.ret (aa () (rt z rn) z (s.to []))))
 refine .skip (.seq (.g (.qn z (.block (bv h λy1 hy1 h=>?_)))))
 refine .via (.iter (λs1 E' W'=>al E' [(0,(sv v_0)),(1,(sv v_1)),(2,vi a2),(3,vi a3),(9,vi s1)]/\Sep No w W' []) (λy2 x E' W'=>(match y2 with | .inl o1=>x=.ret/\vU w o1 E' W' | .inr o2=>x=.exit 0/\al E' []/\Sep No w W' [])) hy1 ⟨sb rfl,s.to [] rfl⟩ ?_) ?_
 ·intro s1 y3 E W h hI
  obtain ⟨hE,s⟩:=hI
  refine CW.sub hE ?_
  unfold mR at h
  refine .seq (.g (.q z (.q z (.s (aJ (s.keep q_0) u38 z z) z (.q z (.nil ?_))))))
  refine .cs z h ?_ ?_ <;> intro h
  ·refine .skip (.seq (.block (.seq (bv h λx1 hx1 h=>bv h λx2 hx2 h=>bv h λy4 hy4 h=>bv h λb1 hb1 h=>?_))))
   refine .via (R':=λx E' W'=>x=.normal/\al E' [(0,(sv v_0)),(1,(sv v_1)),(2,vi a2),(3,vi a3),(9,vi s1),(42,.bool b1)]/\Sep No w W' []) ?_ ?_
   ·refine .rk 24 s [] T.mix ?_
    intro W s
    have t:=s.to []
    refine .tp' 0 z z t (.tp' 1 z z t (.ts' 2 z (λW t=>ixv (s.keep q_0) hx1 u38 t70 z z z) t z (.ts' 3 z (λW t=>lde (RV.flat (t.keep q_0) hx1 z) t70 z z z z z) t z (.tp' 4 z z t (.tp' 5 z z t ?_)))))
    obtain ⟨k1,hd,hck1⟩:=RV.el2 q_1 hx2
    obtain ⟨v1,k1,rfl,q1,hd1⟩:=cU q_1 hd
    obtain rfl:=mO q_1 hd1
    refine .ts' 6 z (λW t=>ixv (s.keep q_1) hx2 u169 t188 z z z) t z (.ts' 7 z (λW t=>lde (hck1 _ t.agree) t188 z z z z z) t z (.tp' 8 z z t (.tp' 9 z z t (.by1 10 z (.cO s func252 (oC hy4 (s.keep (q1 _ q_1))) z z ?_)))))
    intro W s
    refine s.an [] λt=>.tp' 11 z z t (.both (y4) (λb=>?_) (λb=>?_))
    ·exact .off 12 z b t (.off 13 z b t (.off 14 z b t (.off 15 z b t (.off 16 z b t (.off 17 z b t (.off 18 z b t (.off 19 z b t (.off 20 z b t (.off 21 z b t (.off 22 z b t (.ts' 23 z (λW t=>pkt b z z z) t z (.eqv 42 z (gu (aC b hb1)) (.done (⟨z,sb z,s.to []⟩)))) (by kernel_rfl) z z) (by kernel_rfl) z z) (by kernel_rfl) z z) (by kernel_rfl) z z) (by kernel_rfl) z z) (by kernel_rfl) z z) (by kernel_rfl) z z) (by kernel_rfl) z z) (by kernel_rfl) z z) (by kernel_rfl) z z) (by kernel_rfl) z z
    have hg1:=b
    have h_b1:=aD b hb1
    refine .t1g 12 z hg1 (λW t=>pr z) t (.t1g 13 z hg1 (λW t=>pr z) t (bv h_b1 λx3 hx3 h_b1=>.t1g 14 z hg1 (λW t=>ixv (s.keep q_0) hx3 u38 t70 z z z) t (.t1g 15 z hg1 (λW t=>lde (RV.flat (t.keep q_0) hx3 z) t70 z z z z z) t (.t1g 16 z hg1 (λW t=>pr z) t (.t1g 17 z hg1 (λW t=>pr z) t (bv h_b1 λx4 hx4 h_b1=>?_) (by kernel_rfl) z z) (by kernel_rfl) z z) (by kernel_rfl) z z) (by kernel_rfl) z z) (by kernel_rfl) z z) (by kernel_rfl) z z
    obtain ⟨k2,hd,hck2⟩:=RV.el2 q_1 hx4
    obtain ⟨v2,k2,rfl,q2,hd1⟩:=cU q_1 hd
    obtain rfl:=mO q_1 hd1
    refine .t1g 18 z hg1 (λW t=>ixv (s.keep q_1) hx4 u169 t188 z z z) t (.t1g 19 z hg1 (λW t=>lde (hck2 _ t.agree) t188 z z z z z) t (.t1g 20 z hg1 (λW t=>pr z) t (.t1g 21 z hg1 (λW t=>pr z) t (bv h_b1 λy5 hy5 h_b1=>.by1 22 z (.gd hg1 (.cO s func252 (oC hy5 (s.keep (q2 _ q_1))) z z ?_))) (by kernel_rfl) z z) (by kernel_rfl) z z) (by kernel_rfl) z z) (by kernel_rfl) z z
    intro W s
    refine s.an [] λt=>?_
    exact .ts' 23 z (λW t=>pkf hg1 z z z) t z (.eqv 42 z (gu h_b1) (.done (⟨z,sb z,s.to []⟩)))
   intro x E W hJ
   obtain ⟨rfl,hE,s⟩:=hJ
   refine ⟨_,hE.sub,?_⟩
   refine .cs z h ?_ ?_ <;> intro h
   ·refine .g (.qn z (.ret ?_))
    cases h
    exact ⟨by simp,z,aa (vs:=[_]) () (rt z rn) z (s.to [])⟩
   refine .skip (.region (.q z (.q z (.q z (.nil ?_)))))
   cases h
   exact ⟨z,sb z,s.to []⟩
  refine .exit ?_
  cases h
  exact ⟨by simp,z,sb z,s.to []⟩
 intro x E W hJ
 rcases y1 with o3 | o4
 ·have h:=dG h
  obtain ⟨rfl,hF⟩:=hJ
  refine ⟨_,λ_ _ h=>h,?_⟩
  cases h
  exact hF
 have h:=dH h
 obtain ⟨rfl,hE,s⟩:=hJ
 refine ⟨_,hE.sub,?_⟩
 obtain rfl:=o9 h
 exact .g (.qn z (.ret (aa () (rt z rn) z (s.to []))))
def uE (w:World) (r:Int):Env->World->Prop:=Fin Tryz.prog Tryz.f156 No w (λs:Unit=>.int .i64 r) (λs=>[]) .ret
theorem t6 {a0:List ab} {a1:List (List Bool)} {a2:List Int} {v_0:Hd} {v_1:Hd} {v_2:Hd} {w:World} {r:Int} (h:kE a0 a1 a2=some r) (q_0:RO w v_0 70 5 ae a0) (q_1:RO w v_1 188 1 (λ(l:List Bool)=>D.row 4 1 (l.map D.bool)) a1) (q_2:RO w v_2 3 1 (D.int .i64) a2):CL 156 #[sv v_0,sv v_1,sv v_2] w (RU w (.int .i64 r)):=by
 unfold kE at h
 refine ao func156 z z ?_
 have s:=Sep.start w
 refine .g (.qn z (.g (.q z (.s (aJ (s.keep q_2) u23 z z) z (.qn z (.seq (.g (.qn z (.block (bv h λy1 hy1 h=>?_))))))))))
 refine .via (.iter (λs1 E' W'=>al E' [(0,(sv v_0)),(1,(sv v_1)),(2,(sv v_2)),(7,vi (a2.length:Int)),(8,vi s1)]/\Sep No w W' []) (λy2 x E' W'=>(match y2 with | .inl o1=>x=.ret/\uE w o1 E' W' | .inr o2=>x=.exit 0/\al E' [(7,vi (a2.length:Int))]/\Sep No w W' [])) hy1 ⟨sb rfl,s.to [] rfl⟩ ?_) ?_
 ·intro s1 y3 E W h hI
  obtain ⟨hE,s⟩:=hI
  refine CW.sub hE ?_
  unfold mw at h
  refine .seq (.g (.q z (.q z (.q z (.nil ?_)))))
  refine .cs z h ?_ ?_ <;> intro h
  ·refine .skip (.seq (.block (.g (.qn z (.seq (.g (.qn z (.block (bv h λy4 hy4 h=>?_)))))))))
   refine .via (.iter (λs2 E' W'=>al E' [(0,(sv v_0)),(1,(sv v_1)),(2,(sv v_2)),(7,vi (a2.length:Int)),(8,vi s1),(9,.bool s2.1),(10,vi s2.2)]/\Sep No w W' []) (λy5 x E' W'=>x=.exit 2/\al E' [(0,(sv v_0)),(1,(sv v_1)),(2,(sv v_2)),(7,vi (a2.length:Int)),(8,vi s1),(9,.bool y5)]/\Sep No w W' []) hy4 ⟨sb z,s.to []⟩ ?_) ?_
   ·intro s2 y6 E W h hI
    obtain ⟨hE,s⟩:=hI
    refine CW.sub hE ?_
    unfold jW at h
    refine .seq (.g (.q z (.q z (.q z (.nil ?_)))))
    refine .cs z h ?_ ?_ <;> intro h
    ·refine .skip (bv h λy7 hy7 h=>?_)
     refine .seq (CW.via (R':=λx E' W'=>x=.normal/\al E' [(0,(sv v_0)),(1,(sv v_1)),(2,(sv v_2)),(7,vi (a2.length:Int)),(8,vi s1),(9,.bool y7),(10,vi s2.2)]/\Sep No w W' []) ?_ ?_)
     ·have h:=hy7
      refine .block (.g (.q z (.q z (bv h λx1 hx1 h=>.s (ixv (s.keep q_2) hx1 u23 t3 z z z) z (.s (lde (RV.flat (s.keep q_2) hx1 z) t3 z z z z z) z (.q z (.q z (.q z (bv h λb1 hb1 h=>.cu 6 35 (b1) s ?_ ?_)))))))))
      ·refine .both (x1==s1) (λb=>?_) (λb=>?_)
       ·have hg1:=b
        have h:=aC b hb1
        refine .g hg1 (.q z (.g hg1 (.q z (.g hg1 (.q z (.g hg1 (.q z (bv h λy8 hy8 h=>.g hg1 (.c (.cO s func206 (uD hy8 (s.keep q_0) (s.keep q_1)) z z ?_))))))))))
        intro W s
        refine .s (pkt hg1 z z z) z ?_
        cases h
        exact .nil (ck 6 s)
       refine .xx b z (.xx b z (.xx b z (.xx b z (.xx b z ?_))))
       cases aD b hb1
       exact .s (pkf b z z z) z (.nil (ck 6 s))
      intro W s
      refine .nil ?_
      refine .cs z h ?_ ?_ <;> intro h
      ·refine .region (.q z (.nil ?_))
       obtain rfl:=o9 h
       exact ⟨z,sb z,s.to []⟩
      refine .skip ?_
      cases h
      exact ⟨z,sb z,s.to []⟩
     intro x E W hJ
     obtain ⟨rfl,hE,s⟩:=hJ
     refine ⟨_,hE.sub,?_⟩
     refine .region (.q z (.q z (.q z (.nil ?_))))
     cases h
     exact ⟨z,sb z,s.to []⟩
    refine .exit ?_
    cases h
    exact ⟨by simp,z,sb z,s.to []⟩
   intro x E W hJ
   obtain ⟨rfl,hE,s⟩:=hJ
   refine ⟨_,hE.sub,?_⟩
   refine .g (.q z (.nil ?_))
   refine .cs z h ?_ ?_ <;> intro h
   ·refine .g (.q z (.qn z (.ret ?_)))
    cases h
    exact ⟨by simp,z,aa (vs:=[_]) () (rt z rn) z (s.to [])⟩
   refine .skip (.region (.q z (.q z (.q z (.nil ?_)))))
   cases h
   exact ⟨z,sb z,s.to []⟩
  refine .exit ?_
  cases h
  exact ⟨by simp,z,sb z,s.to []⟩
 intro x E W hJ
 rcases y1 with o3 | o4
 ·have h:=dG h
  obtain ⟨rfl,hF⟩:=hJ
  refine ⟨_,λ_ _ h=>h,?_⟩
  cases h
  exact hF
 have h:=dH h
 obtain ⟨rfl,hE,s⟩:=hJ
 refine ⟨_,hE.sub,?_⟩
 cases h
 exact .g (.q z (.qn z (.ret (aa () (rt z rn) z (s.to [])))))
theorem t7 {a0:List ab} {v_0:Hd} {w:World} {r:(List Int)} (h:iP a0=some r) (q_0:RO w v_0 70 5 ae a0):CL 107 #[sv v_0] w (Ret No w (λs:Hd=>(sv s)) (λs=>[ac (sv s) 3 1 (D.int .i64) r])):=by
 unfold iP at h
 refine ao func107 z z ?_
 have s:=Sep.start w
 refine .g (.qn z (.g (.c (.liv [] (D.int .i64) u23 t3 s z z z z ?_ z (λ_=>z)))))
 intro v1 W s
 refine .qn z (.seq (.g (.q z (bv h λy1 hy1 h=>.c (.cO s func106 (bx hy1 (s.keep q_0)) z z ?_)))))
 intro W s
 refine .q z (.nil ?_)
 refine .cs z h ?_ ?_ <;> intro h
 ·cases h
  exact .g (.q z (.qn z (.ret (aa v1 (rt z rn) z (s.tk [0])))))
 refine .skip (.g (.q z (bv h λy2 hy2 h=>.c (.cV s func155 (tZ hy2 (s.keep q_0)) z z ?_))))
 intro v2 W s
 refine .qn z (.seq (.g (.qn z (.block (bv h λy3 hy3 h=>?_)))))
 refine .via (.iter (λs1 E' W'=>∃ (v5:Hd),al E' [(0,(sv v_0)),(3,(sv v5)),(4,(sv v2)),(5,vi s1.2)]/\Sep No w W' [ac (sv v2) 188 1 (λ(l:List Bool)=>D.row 4 1 (l.map D.bool)) y2,ac (sv v5) 3 1 (D.int .i64) s1.1]) (λy4 x E' W'=>x=.exit 0/\∃ (v6:Hd),al E' [(3,(sv v6))]/\Sep No w W' [ac (sv v2) 188 1 (λ(l:List Bool)=>D.row 4 1 (l.map D.bool)) y2,ac (sv v6) 3 1 (D.int .i64) y4]) hy3 ⟨v1,sb z,s.tk [0,0]⟩ ?_) ?_
 ·intro s1 y5 E W h hI
  obtain ⟨v4,hE,s⟩:=hI
  refine CW.sub hE ?_
  unfold mx at h
  refine .seq (.g (.q z (.q z (.nil ?_))))
  refine .cs z h ?_ ?_ <;> intro h
  ·refine .skip (.seq (.block (.region (.q z (.q z (.q z (.q z (bv h λy6 hy6 h=>.c (.cO s func156 (t6 hy6 (s.keep q_0) s.lv s.p1.lv) z z ?_)))))))))
   intro W s
   refine .c (.liv [y6] (D.int .i64) u23 t3 s z z z z ?_ z (λ_=>z))
   intro v7 W s
   refine bv h λr1 hr1 h=>?_
   have hT0:=s.p2
   refine .c (.av hr1 hT0 hT0.p1.lv (λ_=>z) u23 t3 z z z ?_)
   intro v8 W s
   refine .qn z (.region (.q z (.q z (.q z (.nil ?_)))))
   cases h
   exact ⟨z,v8,sb z,s.tk [2,0]⟩
  refine .exit ?_
  cases h
  exact ⟨by simp,z,v4,sb z,s.tk [0,0]⟩
 intro x E W hJ
 obtain ⟨rfl,v9,hE,s⟩:=hJ
 refine ⟨_,hE.sub,?_⟩
 obtain rfl:=o9 h
 exact .g (.q z (.qn z (.ret (aa v9 (rt z rn) z (s.tk [1])))))
theorem sJ {a0:ab} {a1:List Int} {v_1:Hd} {w:World} {r:ab} (h:jz a0 a1=some r) (q_1:RO w v_1 3 1 (D.int .i64) a1):CL 108 #[.agg #[vi a0.Op,vi a0.Dst,vi a0.A,vi a0.B,vi a0.N],sv v_1] w (RU w (.agg #[vi r.Op,vi r.Dst,vi r.A,vi r.B,vi r.N])):=by
 unfold jz at h
 refine ao func108 z z ?_
 have s:=Sep.start w
 refine .g (.c (.box s z z ?_))
 intro g1 W s
 refine .c (.alloc t70 s ?_)
 intro g2 W s
 refine .nil (bv h λy1 hy1 h=>?_)
 refine .seq (CW.via (R':=λx E' W'=>x=.normal/\al E' [(1,(sv v_1)),(2,Pt g1),(4,Pt g2)]/\Sep No w W' [.box g2 70 [vi 0,vi 0,vi 0,vi 0,vi 0],.box g1 70 [vi y1.Op,vi y1.Dst,vi y1.A,vi y1.B,vi y1.N]]) ?_ ?_)
 ·have h:=hy1
  refine .g (.s (ld t70 s.p1 z z z z z) z (bv h λy2 hy2 h=>.c (.cO s func157 (gX hy2) z z ?_)))
  intro W s
  refine .q z (.nil ?_)
  refine .cs z h ?_ ?_ <;> intro h
  ·refine .region (.q z (.s (fa f70_1 z z z) z (.s (ld t3 s.p1 z z z z z) z (bv h λx1 hx1 h=>.s (ixv (s.keep q_1) hx1 u23 t3 z z z) z (.s (lde (RV.flat (s.keep q_1) hx1 z) t3 z z z z z) z (.s (fa f70_1 z z z) z (.c (.st t3 s.p1 z z z ?_))))))))
   intro W s
   refine .nil ?_
   cases h
   exact ⟨z,sb z,s.tk [1,0]⟩
  refine .skip ?_
  obtain rfl:=o9 h
  exact ⟨z,sb z,s.tk [0,0]⟩
 intro x E W hJ
 obtain ⟨rfl,hE,s⟩:=hJ
 refine ⟨_,hE.sub,?_⟩
 refine .seq (.g (.s (fa f70_0 z z z) z (.s (ld t3 s.p1 z z z z z) z (.nil (.block (bv h λy3 hy3 h=>?_))))))
 refine .seq (CW.via (R':=λx E' W'=>x=.normal/\al E' [(1,(sv v_1)),(2,Pt g1),(4,Pt g2),(15,vi y1.Op),(16,.bool y3)]/\Sep No w W' [.box g2 70 [vi 0,vi 0,vi 0,vi 0,vi 0],.box g1 70 [vi y1.Op,vi y1.Dst,vi y1.A,vi y1.B,vi y1.N]]) ?_ ?_)
 ·have h:=hy3
  refine .g (.q z (.q z (.nil ?_)))
  refine .cs z h ?_ ?_ <;> intro h
  ·refine .skip ?_
   cases h
   exact ⟨z,sb z,s.tk [0,0]⟩
  refine .g (.q z (.q z (.nil ?_)))
  refine .cs z h ?_ ?_ <;> intro h
  ·refine .skip ?_
   cases h
   exact ⟨z,sb z,s.tk [0,0]⟩
  refine .g (.q z (.q z (.nil ?_)))
  refine .cs z h ?_ ?_ <;> intro h
  ·refine .skip ?_
   cases h
   exact ⟨z,sb z,s.tk [0,0]⟩
  refine .region (.q z (.q z (.nil ?_)))
  cases h
  exact ⟨z,sb z,s.tk [0,0]⟩
 intro x E W hJ
 obtain ⟨rfl,hE,s⟩:=hJ
 refine ⟨_,hE.sub,?_⟩
 refine .cs z h ?_ ?_ <;> intro h
 ·refine .region (.q z (.s (fa f70_2 z z z) z (.s (ld t3 s.p1 z z z z z) z (bv h λx2 hx2 h=>.s (ixv (s.keep q_1) hx2 u23 t3 z z z) z (.s (lde (RV.flat (s.keep q_1) hx2 z) t3 z z z z z) z (.s (fa f70_2 z z z) z (.c (.st t3 s.p1 z z z ?_))))))))
  intro W s
  refine .nil (.g (.s (ld t70 s z z z z z) z (.c (.st t70 s.p1 z z z ?_))))
  intro W s
  cases h
  exact .nil (.ret (aa () (rc s t70 z rn z z) z (s.to [])))
 refine .g (.q z (.q z (.nil ?_)))
 refine .cs z h ?_ ?_ <;> intro h
 ·refine .g (.q z (.s (fa f70_2 z z z) z (.s (ld t3 s.p1 z z z z z) z (bv h λx3 hx3 h=>.s (ixv (s.keep q_1) hx3 u23 t3 z z z) z (.s (lde (RV.flat (s.keep q_1) hx3 z) t3 z z z z z) z (.s (fa f70_2 z z z) z (.c (.st t3 s.p1 z z z ?_))))))))
  intro W s
  refine .nil (.region (.q z (.s (fa f70_3 z z z) z (.s (ld t3 s z z z z z) z (bv h λx4 hx4 h=>.s (ixv (s.keep q_1) hx4 u23 t3 z z z) z (.s (lde (RV.flat (s.keep q_1) hx4 z) t3 z z z z z) z (.s (fa f70_3 z z z) z (.c (.st t3 s z z z ?_)))))))))
  intro W s
  refine .nil (.g (.s (ld t70 s z z z z z) z (.c (.st t70 s.p1 z z z ?_))))
  intro W s
  cases h
  exact .nil (.ret (aa () (rc s t70 z rn z z) z (s.to [])))
 refine .skip (.g (.s (ld t70 s.p1 z z z z z) z (.c (.st t70 s z z z ?_))))
 intro W s
 obtain rfl:=o9 h
 exact .nil (.ret (aa () (rc s t70 z rn z z) z (s.to [])))
theorem sK {a0:List ab} {v_0:Hd} {w:World} {r:(List ab)×Bool} (h:gL a0=some r) (q_0:RO w v_0 70 5 ae a0):CL 61 #[sv v_0] w (Ret No w (λs:Hd=>.tuple #[sv s,.bool r.2]) (λs=>[ac (sv s) 70 5 ae r.1])):=by
 unfold gL at h
 refine ao func61 z z ?_
 have s:=Sep.start w
 refine .g (.q z (.qn z (.g (.c (.liv [] ae u38 t70 s z z z z ?_ z (λ_=>z))))))
 intro v1 W s
 refine .qn z (.seq (.g (.q z (bv h λy1 hy1 h=>.c (.cO s func106 (bx hy1 (s.keep q_0)) z z ?_)))))
 intro W s
 refine .q z (.nil ?_)
 refine .cs z h ?_ ?_ <;> intro h
 ·cases h
  exact .g (.q z (.q z (.qn z (.ret (aa (vs:=[_,_]) v1 (rt z (rt z rn)) z (s.tk [0]))))))
 refine .skip (.g (.q z (bv h λy2 hy2 h=>.c (.cV s func107 (t7 hy2 (s.keep q_0)) z z ?_))))
 intro v2 W s
 refine .qn z (.seq (.g (.qn z (.block (bv h λy3 hy3 h=>?_)))))
 refine .via (.iter (λs1 E' W'=>∃ (v5:Hd),al E' [(0,(sv v_0)),(4,(sv v5)),(5,(sv v2)),(6,vi s1.2)]/\Sep No w W' [ac (sv v2) 3 1 (D.int .i64) y2,ac (sv v5) 70 5 ae s1.1]) (λy4 x E' W'=>x=.exit 0/\∃ (v6:Hd),al E' [(4,(sv v6))]/\Sep No w W' [ac (sv v2) 3 1 (D.int .i64) y2,ac (sv v6) 70 5 ae y4]) hy3 ⟨v1,sb z,s.tk [0,0]⟩ ?_) ?_
 ·intro s1 y5 E W h hI
  obtain ⟨v4,hE,s⟩:=hI
  refine CW.sub hE ?_
  unfold fX at h
  refine .seq (.g (.q z (.q z (.s (aJ (s.keep q_0) u38 z z) z (.q z (.nil ?_))))))
  refine .cs z h ?_ ?_ <;> intro h
  ·refine .skip (.seq (.block (.region (.q z (.q z (.q z (bv h λx1 hx1 h=>.s (ixv (s.keep q_0) hx1 u38 t70 z z z) z (.s (lde (RV.flat (s.keep q_0) hx1 z) t70 z z z z z) z (.q z (bv h λy6 hy6 h=>.c (.cO s func108 (sJ hy6 s.lv) z z ?_)))))))))))
   intro W s
   refine .c (.liv [y6] ae u38 t70 s z z z z ?_ z (λ_=>z))
   intro v7 W s
   refine bv h λr1 hr1 h=>?_
   have hT0:=s.p2
   refine .c (.av hr1 hT0 hT0.p1.lv (λ_=>z) u38 t70 z z z ?_)
   intro v8 W s
   refine .qn z (.region (.q z (.q z (.q z (.nil ?_)))))
   cases h
   exact ⟨z,v8,sb z,s.tk [2,0]⟩
  refine .exit ?_
  cases h
  exact ⟨by simp,z,v4,sb z,s.tk [0,0]⟩
 intro x E W hJ
 obtain ⟨rfl,v9,hE,s⟩:=hJ
 refine ⟨_,hE.sub,?_⟩
 cases h
 exact .g (.q z (.q z (.qn z (.ret (aa (vs:=[_,_]) v9 (rt z (rt z rn)) z (s.tk [1]))))))
theorem rL {k:Nat} {a0:aA} {a1:Int} {aN:Hd} {aG:Hd} {w:World} {r:(List (List ab))×Bool} (h:fD k a0 a1=some r) (cL:RO w aN 3 1 (D.int .i64) a0.Rooms) (aI:RO w aG 93 1 (λ(l:List ah)=>D.row 95 8 (l.map ak)) a0.Tasks):CL 31 #[.agg #[sv aN,sv aG],vi a1] w (Ret No w (λs:Hd=>.tuple #[sv s,.bool r.2]) (λs=>[ac (sv s) 38 1 (λ(l:List ab)=>D.row 70 5 (l.map ae)) r.1])):=by
 unfold fD at h
 refine ao func31 z z ?_
 have s:=Sep.start w
 refine .g (.c (.box s z z ?_))
 intro g1 W s
 refine .q z (.qn z (.g (.s (ld t26 s z z z z z) z (bv h λy1 hy1 h=>.c (.cV s func59 (oT hy1 (s.keep cL) (s.keep aI)) z z ?_)))))
 intro v1 W s
 refine .q z (.q z (.q z (.q z (.qn z (.seq (.g (.q z (.q z (.nil ?_)))))))))
 refine .cs z h ?_ ?_ <;> intro h
 ·refine .g (.c (.lg (L1:=[]) [] (λ(l:List ab)=>D.row 70 5 (l.map ae)) u32 t38 (s.to [0,0]) z z z (.nil) ?_ z (λ_=>z)))
  intro v2 W s
  cases h
  exact .q z (.qn z (.ret (aa (vs:=[_,_]) v2 (rt z (rt z rn)) z (s.tk [0]))))
 refine .skip (.g (.q z (.q z (bv h λy2 hy2 h=>.c (.cV s func60 (qK hy2 s.lv) z z ?_)))))
 intro v3 W s
 refine .q z (.q z (.q z (.q z (.qn z (.seq (.g (.q z (.q z (.nil ?_)))))))))
 refine .cs z h ?_ ?_ <;> intro h
 ·refine .g (.c (.lg (L1:=[]) [] (λ(l:List ab)=>D.row 70 5 (l.map ae)) u32 t38 (s.to [0,0,0]) z z z (.nil) ?_ z (λ_=>z)))
  intro v4 W s
  cases h
  exact .q z (.qn z (.ret (aa (vs:=[_,_]) v4 (rt z (rt z rn)) z (s.tk [0]))))
 refine .skip (.g (.c (.lg (L1:=[]) [] (λ(l:List ab)=>D.row 70 5 (l.map ae)) u32 t38 (s.to [0,0,0]) z z z (.nil) ?_ z (λ_=>z))))
 intro v5 W s
 refine .qn z (.seq (.g (.qn z (.block (bv h λy3 hy3 h=>?_)))))
 refine .via (.iter (λs1 E' W'=>∃ (v8:Hd),al E' [(8,(sv v3)),(10,(sv v8)),(11,vi s1.2)]/\Sep No w W' [ac (sv v3) 38 1 (λ(l:List ab)=>D.row 70 5 (l.map ae)) y2.1,ac (sv v1) 38 1 (λ(l:List ab)=>D.row 70 5 (l.map ae)) y1.1,.box g1 26 [sv aN,sv aG],ac (sv v8) 38 1 (λ(l:List ab)=>D.row 70 5 (l.map ae)) s1.1]) (λy4 x E' W'=>x=.exit 0/\∃ (v9:Hd),al E' [(10,(sv v9))]/\Sep No w W' [ac (sv v3) 38 1 (λ(l:List ab)=>D.row 70 5 (l.map ae)) y2.1,ac (sv v1) 38 1 (λ(l:List ab)=>D.row 70 5 (l.map ae)) y1.1,.box g1 26 [sv aN,sv aG],ac (sv v9) 38 1 (λ(l:List ab)=>D.row 70 5 (l.map ae)) y4]) hy3 ⟨v5,sb z,s.tk [1,1,1,0]⟩ ?_) ?_
 ·intro s1 y5 E W h hI
  obtain ⟨v7,hE,s⟩:=hI
  refine CW.sub hE ?_
  unfold im at h
  refine .seq (.g (.q z (.q z (.s (aJ s.lv u32 z z) z (.q z (.nil ?_))))))
  refine .cs z h ?_ ?_ <;> intro h
  ·refine .skip (.seq (.block (.g (.q z (.q z (bv h λx1 hx1 h=>.s (ixv s.lv hx1 u32 t38 z z z) z ?_))))))
   obtain ⟨k1,s⟩:=Sep.ov s hx1
   obtain ⟨v10,k1,rfl,s⟩:=s.ow
   obtain ⟨rfl,s⟩:=s.oN
   refine .s (lde (s.p1.hcellsv) t38 z z z z z) z (bv h λy6 hy6 h=>.c (.cV s func61 (sK hy6 s.lv) z z ?_))
   intro v11 W s
   refine .q z (.q z (.q z (.q z (.qn z (.region (.q z (.q z (.c (.lg (L1:=[ac (sv v11) 70 5 ae y6.1]) [y6.1] (λ(l:List ab)=>D.row 70 5 (l.map ae)) u32 t38 (s.to [0,0,0,0,0,0]) z z z (.row (.nil)) ?_ z (λ_=>z))))))))))
   intro v12 W s
   refine bv h λr1 hr1 h=>.c (.appv hr1 (s.to [5,0,0,0,0,0]) u32 t38 z z z ?_)
   intro v13 W s
   refine .qn z (.region (.q z (.q z (.q z (.nil ?_)))))
   have s:=Sep.gat (ds:=[.row 70 5 (x1.map ae)]) (cs:=[sv v10]) (L1:=[ac (sv v10) 70 5 ae x1]) (.row (.nil)) (s.to [1,1,0,0,0])
   have s:Sep _ _ _ [ac (sv v3) 38 1 (λ(l:List ab)=>D.row 70 5 (l.map ae)) y2.1,ac (sv v13) 38 1 (λ(l:List ab)=>D.row 70 5 (l.map ae)) r1,ac (sv v1) 38 1 (λ(l:List ab)=>D.row 70 5 (l.map ae)) y1.1,.box g1 26 [sv aN,sv aG]]:=Sep.back0v hx1 s
   cases h
   exact ⟨z,v13,sb z,s.tk [0,1,1,0]⟩
  refine .exit ?_
  cases h
  exact ⟨by simp,z,v7,sb z,s.tk [0,0,0,0]⟩
 intro x E W hJ
 obtain ⟨rfl,v14,hE,s⟩:=hJ
 refine ⟨_,hE.sub,?_⟩
 cases h
 exact .g (.q z (.q z (.qn z (.ret (aa (vs:=[_,_]) v14 (rt z (rt z rn)) z (s.tk [3]))))))
theorem fq {a0:Int} {a1:Int} {a2:Int} {w:World} {r:Int} (h:dJ a0 a1 a2=some r):CL 109 #[vi a0,vi a1,vi a2] w (RU w (.int .i64 r)):=by
 unfold dJ at h
 refine ao func109 z z ?_
 have s:=Sep.start w
 refine .g (.qn z (.seq (.g (.q z (.q z (.q z (.nil ?_)))))))
 refine .cs z h ?_ ?_ <;> intro h
 ·obtain rfl:=o9 h
  exact .g (.q z (.qn z (.ret (aa () (rt z rn) z (s.to [])))))
 refine .skip (.g (.c (.liv [8,9,18,19,20,21,22,23] (D.int .i64) u23 t3 s z z z z ?_ z (λ_=>z))))
 intro v1 W s
 refine .q z (bv h λx1 hx1 h=>.s (ixv s.lv hx1 u23 t3 z z z) z (.s (lde (RV.flat s.lv hx1 z) t3 z z z z z) z (.qn z (.ret ?_))))
 obtain rfl:=o9 h
 exact aa () (rt z rn) z (s.to [])
theorem j6 {a0:List Instr} {a1:Int} {a2:Int} {v_0:Hd} {S:Nat->Prop} {w:World} {r:(List Instr)} (h:eP a0 a1 a2=some r) (hO:bw w [ac (sv v_0) 74 5 ai a0] S) (hlt:∀ b,S b->b<w.heap.size):CL 110 #[sv v_0,vi a1,vi a2] w (Ret S w (λs:Hd=>(sv s)) (λs=>[ac (sv s) 74 5 ai r])):=by
 unfold eP at h
 refine ao func110 z z ?_
 have s:=Sep.sm hO hlt
 refine .g (.qn z (.seq (.g (.q z (.q z (.q z (.nil ?_)))))))
 refine .cs z h ?_ ?_ <;> intro h
 ·obtain rfl:=o9 h
  exact .g (.q z (.qn z (.ret (aa v_0 (rt z rn) z (s.tk [0])))))
 refine .skip (.g (.q z (.q z (.q z (.q z (.q z (.s (bs T.s74 z z) z (.c (.liv [(Instr.mk 16 0 2 7 (w64 (4*(w64 (a1-a2)))))] ai u35 t74 s z z z z ?_ z (λ_=>z))))))))))
 intro v1 W s
 refine bv h λr1 hr1 h=>?_
 have hT0:=s.p1
 refine .c (.av hr1 hT0 hT0.p1.lv (λ_=>z) u35 t74 z z z ?_)
 intro v2 W s
 obtain rfl:=o9 h
 exact .qn z (.ret (aa v2 (rt z rn) z (s.tk [0])))
theorem iH {a0:Int} {w:World} {r:Int} (h:c6 a0=some r):CL 207 #[vi a0] w (RU w (.int .i64 r)):=by
 unfold c6 at h
 refine ao func207 z z ?_
 have s:=Sep.start w
 refine .g (.qn z (.g (.qn z (.seq (.g (.qn z (.block (bv h λy1 hy1 h=>?_))))))))
 refine .via (.iter (λs1 E' W'=>al E' [(0,vi a0),(3,vi s1.1),(4,vi s1.2)]/\Sep No w W' []) (λy2 x E' W'=>x=.exit 0/\al E' [(3,vi y2)]/\Sep No w W' []) hy1 ⟨sb z,s.to []⟩ ?_) ?_
 ·intro s1 y3 E W h hI
  obtain ⟨hE,s⟩:=hI
  refine CW.sub hE ?_
  unfold mS at h
  refine .seq (.g (.q z (.q z (.q z (.nil ?_)))))
  refine .cs z h ?_ ?_ <;> intro h
  ·refine .skip (.seq (.block (.region (.q z (.q z (.qn z (.region (.q z (.q z (.q z (.nil ?_)))))))))))
   cases h
   exact ⟨z,sb z,s.to []⟩
  refine .exit ?_
  cases h
  exact ⟨by simp,z,sb z,s.to []⟩
 intro x E W hJ
 obtain ⟨rfl,hE,s⟩:=hJ
 refine ⟨_,hE.sub,?_⟩
 obtain rfl:=o9 h
 exact .g (.q z (.qn z (.ret (aa () (rt z rn) z (s.to [])))))
theorem rM {a0:Int} {a1:Int} {w:World} {r:Int} (h:iE a0 a1=some r):CL 158 #[vi a0,vi a1] w (RU w (.int .i64 r)):=by
 unfold iE at h
 refine ao func158 z z ?_
 have s:=Sep.start w
 refine .g (.qn z (.seq (.g (.q z (bv h λy1 hy1 h=>.c (.cO s func32 (bk hy1) z z ?_))))))
 intro W s
 refine .q z (.q z (bv h λb1 hb1 h=>.cu 7 15 (b1) s ?_ ?_))
 ·refine .both (!y1) (λb=>?_) (λb=>?_)
  ·refine .xx b z (.xx b z (.xx b z (.xx b z (.xx b z (.xx b z ?_)))))
   cases aC b hb1
   exact .s (pkt b z z z) z (.nil (ck 7 s))
  have hg1:=b
  have h:=aD b hb1
  refine .g hg1 (.q z (.g hg1 (.q z (bv h λy2 hy2 h=>.g hg1 (.c (.cO s func207 (iH hy2) z z ?_))))))
  intro W s
  refine .g hg1 (.q z (bv h λy3 hy3 h=>.g hg1 (.c (.cO s func32 (bk hy3) z z ?_))))
  intro W s
  refine .g hg1 (.q z (.s (pkf hg1 z z z) z ?_))
  cases h
  exact .nil (ck 7 s)
 intro W s
 refine .nil ?_
 refine .cs z h ?_ ?_ <;> intro h
 ·cases h
  exact .g (.qn z (.ret (aa () (rt z rn) z (s.to []))))
 refine .skip (.seq (.g (.q z (.q z (.q z (bv h λy4 hy4 h=>.c (.cO s func207 (iH hy4) z z ?_)))))))
 intro W s
 refine .q z (.nil ?_)
 refine .cs z h ?_ ?_ <;> intro h
 ·refine .g (.q z (.q z (bv h λy5 hy5 h=>.c (.cO s func207 (iH hy5) z z ?_))))
  intro W s
  cases h
  exact .q z (.qn z (.ret (aa () (rt z rn) z (s.to []))))
 obtain rfl:=o9 h
 exact .skip (.g (.q z (.qn z (.ret (aa () (rt z rn) z (s.to []))))))
theorem sL {a0:Int} {a1:Int} {a2:Int} {w:World} {r:Int} (h:lu a0 a1 a2=some r):CL 159 #[vi a0,vi a1,vi a2] w (RU w (.int .i64 r)):=by
 unfold lu at h
 refine ao func159 z z ?_
 have s:=Sep.start w
 refine .g (.qn z (.seq (.g (.q z (bv h λy1 hy1 h=>.c (.cO s func32 (bk hy1) z z ?_))))))
 intro W s
 refine .q z (.q z (bv h λb1 hb1 h=>.cu 4 14 (b1) s ?_ ?_))
 ·refine .both (!y1) (λb=>?_) (λb=>?_)
  ·refine .xx b z (.xx b z (.xx b z ?_))
   cases aC b hb1
   exact .s (pkt b z z z) z (.nil (ck 4 s))
  have hg1:=b
  have h:=aD b hb1
  refine .g hg1 (.q z (bv h λy2 hy2 h=>.g hg1 (.c (.cO s func32 (bk hy2) z z ?_))))
  intro W s
  refine .g hg1 (.q z (.s (pkf hg1 z z z) z ?_))
  cases h
  exact .nil (ck 4 s)
 intro W s
 refine .q z (bv h λb2 hb2 h=>.cu 6 21 (b2) s ?_ ?_)
 ·refine .both (b1) (λb=>?_) (λb=>?_)
  ·refine .xx b z (.xx b z (.xx b z (.xx b z (.xx b z ?_))))
   cases aC b hb2
   exact .s (pkt b z z z) z (.nil (ck 6 s))
  have hg2:=b
  have h:=aD b hb2
  refine .g hg2 (.q z (.g hg2 (.q z (.g hg2 (.q z (bv h λy3 hy3 h=>.g hg2 (.c (.cO s func32 (bk hy3) z z ?_))))))))
  intro W s
  refine .g hg2 (.q z (.s (pkf hg2 z z z) z ?_))
  cases h
  exact .nil (ck 6 s)
 intro W s
 refine .nil ?_
 refine .cs z h ?_ ?_ <;> intro h
 ·cases h
  exact .g (.qn z (.ret (aa () (rt z rn) z (s.to []))))
 refine .skip (.seq (.rk 8 s [] T.mix ?_))
 intro W s
 have t:=s.to []
 refine .tp' 0 z z t (.tp' 1 z z t (.tp' 4 z z t (bv h λy4 hy4 h=>.by1 2 z (.cO s func207 (iH hy4) z z ?_))))
 intro W s
 refine s.an [] λt=>bv h λd1 hd1 h=>.ts' 3 z (λW t=>dq hd1 z z z) t z (bv h λy5 hy5 h=>.by1 5 z (.cO s func207 (iH hy5) z z ?_))
 intro W s
 refine s.an [] λt=>bv h λd2 hd2 h=>.ts' 6 z (λW t=>dr hd2 z z z) t z (.tp' 7 z z t (.done (.ret ?_)))
 obtain rfl:=o9 h
 exact aa () (rt z rn) z (s.to [])
theorem oD {a0:Int} {w:World} {r:Int} (h:iQ a0=some r):CL 160 #[vi a0] w (RU w (.int .i64 r)):=by
 unfold iQ at h
 refine ao func160 z z ?_
 have s:=Sep.start w
 refine .g (.qn z (.seq (.g (.q z (bv h λy1 hy1 h=>.c (.cO s func202 (jc hy1) z z ?_))))))
 intro W s
 refine .q z (.nil ?_)
 refine .cs z h ?_ ?_ <;> intro h
 ·cases h
  exact .g (.qn z (.ret (aa () (rt z rn) z (s.to []))))
 refine .skip (.seq (.g (.q z (.q z (.nil ?_)))))
 refine .cs z h ?_ ?_ <;> intro h
 ·cases h
  exact .g (.q z (.q z (.qn z (.ret (aa () (rt z rn) z (s.to []))))))
 obtain rfl:=o9 h
 exact .skip (.g (.q z (.qn z (.ret (aa () (rt z rn) z (s.to []))))))
theorem t8 {a0:Int} {a1:Int} {w:World} {r:(List Instr)} (h:kF a0 a1=some r):CL 111 #[vi a0,vi a1] w (Ret No w (λs:Hd=>(sv s)) (λs=>[ac (sv s) 74 5 ai r])):=by
 unfold kF at h
 refine ao func111 z z ?_
 have s:=Sep.start w
 refine .g (.qn z (.seq (.g (.q z (bv h λy1 hy1 h=>.c (.cO s func32 (bk hy1) z z ?_))))))
 intro W s
 refine .nil ?_
 refine .cs z h ?_ ?_ <;> intro h
 ·refine .g (.q z (.q z (.s (bs T.s74 z z) z (.c (.liv [(Instr.mk 12 a0 0 0 a1)] ai u35 t74 s z z z z ?_ z (λ_=>z))))))
  intro v1 W s
  cases h
  exact .qn z (.ret (aa v1 (rt z rn) z (s.tk [0])))
 refine .skip (.g (.q z (bv h λy2 hy2 h=>.c (.cO s func160 (oD hy2) z z ?_))))
 intro W s
 refine bv h λy3 hy3 h=>.c (.cO s func159 (sL hy3) z z ?_)
 intro W s
 refine bv h λy4 hy4 h=>.c (.cO s func158 (rM hy4) z z ?_)
 intro W s
 refine .qn z (.g (.q z (.q z (.q z (bv h λy5 hy5 h=>.c (.cO s func137 (j5 hy5) z z ?_))))))
 intro W s
 refine bv h λy6 hy6 h=>.c (.cO s func160 (oD hy6) z z ?_)
 intro W s
 refine bv h λy7 hy7 h=>.c (.cO s func159 (sL hy7) z z ?_)
 intro W s
 refine .qn z (.g (.q z (.q z (.s (bs T.s74 z z) z (.c (.liv [(Instr.mk 19 a0 0 0 y7)] ai u35 t74 s z z z z ?_ z (λ_=>z)))))))
 intro v2 W s
 refine .qn z (.g (.q z (.q z (.q z (.q z (.s (bs T.s74 z z) z (.c (.liv [(Instr.mk 12 a0 a0 0 y4)] ai u35 t74 s z z z z ?_ z (λ_=>z)))))))))
 intro v3 W s
 refine bv h λr1 hr1 h=>?_
 have hT0:=s.p1
 refine .c (.av hr1 hT0 hT0.p1.lv (λ_=>z) u35 t74 z z z ?_)
 intro v4 W s
 obtain rfl:=o9 h
 exact .qn z (.ret (aa v4 (rt z rn) z (s.tk [0])))
theorem iI {a0:Int} {a1:Int} {a2:Int} {w:World} {r:(List Instr)} (h:eC a0 a1 a2=some r):CL 112 #[vi a0,vi a1,vi a2] w (Ret No w (λs:Hd=>(sv s)) (λs=>[ac (sv s) 74 5 ai r])):=by
 unfold eC at h
 refine ao func112 z z ?_
 have s:=Sep.start w
 refine .g (.qn z (.seq (.g (.q z (.q z (.q z (.nil ?_)))))))
 refine .cs z h ?_ ?_ <;> intro h
 ·refine .g (.c (.liv [] ai u35 t74 s z z z z ?_ z (λ_=>z)))
  intro v1 W s
  cases h
  exact .qn z (.ret (aa v1 (rt z rn) z (s.tk [0])))
 refine .skip (.g (.q z (.q z (.q z (.q z (.q z (.s (bs T.s74 z z) z (.c (.liv [(Instr.mk 14 a2 2 0 (w64 (4*(w64 (a0-a1)))))] ai u35 t74 s z z z z ?_ z (λ_=>z))))))))))
 intro v2 W s
 cases h
 exact .qn z (.ret (aa v2 (rt z rn) z (s.tk [0])))
theorem mX {a0:Int} {a1:Int} {w:World} {r:Instr} (h:fY a0 a1=some r):CL 113 #[vi a0,vi a1] w (RU w (.agg #[vi r.Op,vi r.Rd,vi r.Rs,vi r.Rt,vi r.Imm])):=by
 unfold fY at h
 refine ao func113 z z ?_
 have s:=Sep.start w
 refine .g (.c (.alloc t74 s ?_))
 intro g1 W s
 refine .nil (.g (.q z (.q z (.s (bs T.s74 z z) z (.c (.st t74 s z z z ?_))))))
 intro W s
 cases h
 exact .nil (.ret (aa () (rc s t74 z rn z z) z (s.to [])))
theorem wc {a0:Int} {w:World} {r:Int} (h:nw a0=some r):CL 161 #[vi a0] w (RU w (.int .i64 r)):=by
 unfold nw at h
 refine ao func161 z z ?_
 have s:=Sep.start w
 refine .g (.qn z (.g (.c (.liv [7,8,6,8,11,9,10,1,2,3,4,5] (D.int .i64) u23 t3 s z z z z ?_ z (λ_=>z)))))
 intro v1 W s
 refine .qn z (.g (.q z (.q z (.q z (bv h λx1 hx1 h=>.s (ixv s.lv hx1 u23 t3 z z z) z (.s (lde (RV.flat s.lv hx1 z) t3 z z z z z) z (.qn z (.ret ?_))))))))
 obtain rfl:=o9 h
 exact aa () (rt z rn) z (s.to [])
theorem vV {a0:ab} {a1:Int} {w:World} {r:(List Instr)} (h:nQ a0 a1=some r):CL 114 #[.agg #[vi a0.Op,vi a0.Dst,vi a0.A,vi a0.B,vi a0.N],vi a1] w (Ret No w (λs:Hd=>(sv s)) (λs=>[ac (sv s) 74 5 ai r])):=by
 unfold nQ at h
 refine ao func114 z z ?_
 have s:=Sep.start w
 refine .g (.c (.box s z z ?_))
 intro g1 W s
 refine .qn z (.seq (.rk 10 s [0] T.mix ?_))
 intro W s
 have t:=s.to [0]
 refine .ts' 0 z (λW t=>fa f70_2 z z z) t z (.ts' 1 z (λW t=>ld t3 t z z z z z) t z (.tp' 2 z z t (.ts' 4 z (λW t=>fa f70_3 z z z) t z (.ts' 5 z (λW t=>ld t3 t z z z z z) t z (.tp' 6 z z t (bv h λy1 hy1 h=>.by1 3 z (.cV s func112 (iI hy1) z z ?_)))))))
 intro v1 W s
 refine s.an [1] λt=>bv h λy2 hy2 h=>.by1 7 z (.cV s func112 (iI hy2) z z ?_)
 intro v2 W s
 refine s.an [2] λt=>bv h λr1 hr1 h=>?_
 have hT0:=s.p1
 refine .by1 8 z (.av hr1 hT0 hT0.p1.lv (λ_=>z) u35 t74 z z z ?_)
 intro v3 W s
 refine s.an [2] λt=>.tp' 9 z z t (.done (.g (.s (fa f70_1 z z z) z (.s (ld t3 s.p2 z z z z z) z (.q z (bv h λy3 hy3 h=>.c (.cO s func109 (fq hy3) z z ?_)))))))
 intro W s
 refine .qn z (.seq (.rk 17 s [1,1] T.mix ?_))
 intro W s
 have t:=s.to [1,1]
 refine .tp' 0 z z t (.ts' 1 z (λW t=>fa f70_4 z z z) t z (.ts' 2 z (λW t=>ld t3 t.p1 z z z z z) t z (.tp' 4 z z t (.ts' 5 z (λW t=>fa f70_2 z z z) t z (.ts' 6 z (λW t=>ld t3 t.p1 z z z z z) t z (.tp' 7 z z t (.ts' 9 z (λW t=>fa f70_3 z z z) t z (.ts' 10 z (λW t=>ld t3 t.p1 z z z z z) t z (.tp' 11 z z t (bv h λy4 hy4 h=>.by1 3 z (.cO s func161 (wc hy4) z z ?_)))))))))))
 intro W s
 refine s.an [1,1] λt=>bv h λy5 hy5 h=>.by1 8 z (.cO s func109 (fq hy5) z z ?_)
 intro W s
 refine s.an [1,1] λt=>bv h λy6 hy6 h=>.by1 12 z (.cO s func109 (fq hy6) z z ?_)
 intro W s
 refine s.an [1,1] λt=>.ts' 13 z (λW t=>bs T.s74 z z) t z (.by1 14 z (.liv [(Instr.mk y4 y3 y5 y6 0)] ai u35 t74 s z z z z ?_ z (λ_=>z)))
 intro v4 W s
 refine s.an [2,2] λt=>bv h λr2 hr2 h=>?_
 have hT0:=s.p1
 refine .by1 15 z (.av hr2 hT0 hT0.p1.lv (λ_=>z) u35 t74 z z z ?_)
 intro v5 W s
 refine s.an [2,2] λt=>.tp' 16 z z t (.done (bv h λy7 hy7 h=>?_))
 refine .seq (CW.via (R':=λx E' W'=>x=.normal/\∃ (v6:Hd),al E' [(1,vi a1),(2,Pt g1),(5,(sv v6))]/\Sep No w W' [ac (sv v4) 74 5 ai [(Instr.mk y4 y3 y5 y6 0)],ac (sv v2) 74 5 ai y2,.box g1 70 [vi a0.Op,vi a0.Dst,vi a0.A,vi a0.B,vi a0.N],ac (sv v6) 74 5 ai y7]) ?_ ?_)
 ·have h:=hy7
  refine .g (.s (fa f70_4 z z z) z (.s (ld t3 s.p3 z z z z z) z (.q z (.nil ?_))))
  refine .cs z h ?_ ?_ <;> intro h
  ·refine .region (.q z (.q z (.q z (.s (bs T.s74 z z) z (.c (.liv [(Instr.mk 13 y3 y3 0 1)] ai u35 t74 s z z z z ?_ z (λ_=>z)))))))
   intro v7 W s
   refine bv h λr3 hr3 h=>?_
   have hT0:=s.p1
   refine .c (.av hr3 hT0 hT0.p1.lv (λ_=>z) u35 t74 z z z ?_)
   intro v8 W s
   refine .q z (.nil ?_)
   obtain rfl:=o9 h
   exact ⟨z,v8,sb z,s.tk [2,2,2,0]⟩
  refine .skip ?_
  obtain rfl:=o9 h
  exact ⟨z,v5,sb z,s.tk [1,1,1,0]⟩
 intro x E W hJ
 obtain ⟨rfl,v9,hE,s⟩:=hJ
 refine ⟨_,hE.sub,?_⟩
 refine .g (.q z (.s (fa f70_1 z z z) z (.s (ld t3 s.p2 z z z z z) z (.q z (bv h λy8 hy8 h=>?_)))))
 have s:=s.p3
 refine .c (.cS (L0:=[ac (sv v9) 74 5 ai y7]) s func110 (λS h1 h2 h3=>(j6 hy8 h2 (zz h1))) z z ?_)
 rintro v10 W s
 obtain rfl:=o9 h
 exact .qn z (.ret (aa v10 (rt z rn) z (s.tk [0])))
theorem uF {a0:ab} {a1:Int} {a2:Int} {w:World} {r:(List Instr)} (h:na a0 a1 a2=some r):CL 115 #[.agg #[vi a0.Op,vi a0.Dst,vi a0.A,vi a0.B,vi a0.N],vi a1,vi a2] w (Ret No w (λs:Hd=>(sv s)) (λs=>[ac (sv s) 74 5 ai r])):=by
 unfold na at h
 refine ao func115 z z ?_
 have s:=Sep.start w
 refine .g (.c (.box s z z ?_))
 intro g1 W s
 refine .qn z (.seq (.rk 12 s [0] T.mix ?_))
 intro W s
 have t:=s.to [0]
 refine .ts' 0 z (λW t=>fa f70_2 z z z) t z (.ts' 1 z (λW t=>ld t3 t z z z z z) t z (.tp' 2 z z t (.ts' 4 z (λW t=>fa f70_2 z z z) t z (.ts' 5 z (λW t=>ld t3 t z z z z z) t z (.tp' 6 z z t (bv h λy1 hy1 h=>.by1 3 z (.cV s func112 (iI hy1) z z ?_)))))))
 intro v1 W s
 refine s.an [1] λt=>bv h λy2 hy2 h=>.by1 7 z (.cO s func109 (fq hy2) z z ?_)
 intro W s
 refine s.an [1] λt=>.ts' 8 z (λW t=>bs T.s74 z z) t z (.by1 9 z (.liv [(Instr.mk 18 0 y2 0 8)] ai u35 t74 s z z z z ?_ z (λ_=>z)))
 intro v2 W s
 refine s.an [2] λt=>bv h λr1 hr1 h=>?_
 have hT0:=s.p1
 refine .by1 10 z (.av hr1 hT0 hT0.p1.lv (λ_=>z) u35 t74 z z z ?_)
 intro v3 W s
 refine s.an [2] λt=>.tp' 11 z z t (.done (.g (.q z (.q z (.q z (.s (aJ s.lv u35 z z) z (.q z (.q z (.s (bs T.s74 z z) z (.c (.liv [(Instr.mk 20 0 0 0 (w64 (a2-(w64 (4*(r1.length:Int))))))] ai u35 t74 s z z z z ?_ z (λ_=>z))))))))))))
 intro v4 W s
 refine bv h λr2 hr2 h=>?_
 have hT0:=s.p1
 refine .c (.av hr2 hT0 hT0.p1.lv (λ_=>z) u35 t74 z z z ?_)
 intro v5 W s
 obtain rfl:=o9 h
 exact .qn z (.ret (aa v5 (rt z rn) z (s.tk [0])))
theorem iJ {a0:List Instr} {a1:Int} {v_0:Hd} {S:Nat->Prop} {w:World} {r:(List Instr)} (h:eE a0 a1=some r) (hO:bw w [ac (sv v_0) 74 5 ai a0] S) (hlt:∀ b,S b->b<w.heap.size):CL 116 #[sv v_0,vi a1] w (Ret S w (λs:Hd=>(sv s)) (λs=>[ac (sv s) 74 5 ai r])):=by
 unfold eE at h
 refine ao func116 z z ?_
 have s:=Sep.sm hO hlt
 refine .g (.qn z (.g (.q z (.q z (.s (bs T.s74 z z) z (.c (.liv [(Instr.mk 12 17 0 0 a1)] ai u35 t74 s z z z z ?_ z (λ_=>z))))))))
 intro v1 W s
 refine bv h λr1 hr1 h=>?_
 have hT0:=s.p1
 refine .c (.av hr1 hT0 hT0.p1.lv (λ_=>z) u35 t74 z z z ?_)
 intro v2 W s
 refine .qn z (.g (.q z (.s (bs T.s74 z z) z (.c (.liv [(Instr.mk 15 1 0 0 0)] ai u35 t74 s z z z z ?_ z (λ_=>z))))))
 intro v3 W s
 refine bv h λr2 hr2 h=>?_
 have hT0:=s.p1
 refine .c (.av hr2 hT0 hT0.p1.lv (λ_=>z) u35 t74 z z z ?_)
 intro v4 W s
 obtain rfl:=o9 h
 exact .qn z (.ret (aa v4 (rt z rn) z (s.tk [0])))
theorem pf {a0:Int} {a1:Int} {w:World} {r:(List Instr)} (h:jX a0 a1=some r):CL 117 #[vi a0,vi a1] w (Ret No w (λs:Hd=>(sv s)) (λs=>[ac (sv s) 74 5 ai r])):=by
 unfold jX at h
 refine ao func117 z z ?_
 have s:=Sep.start w
 refine .g (.qn z (.g (.q z (.q z (bv h λy1 hy1 h=>.c (.cV s func112 (iI hy1) z z ?_))))))
 intro v1 W s
 refine .q z (.q z (bv h λy2 hy2 h=>.c (.cO s func109 (fq hy2) z z ?_)))
 intro W s
 refine bv h λy3 hy3 h=>.c (.cO s func113 (mX hy3) z z ?_)
 intro W s
 refine .c (.liv [y3] ai u35 t74 s z z z z ?_ z (λ_=>z))
 intro v2 W s
 refine bv h λr1 hr1 h=>?_
 have hT0:=s.p1
 refine .c (.av hr1 hT0 hT0.p1.lv (λ_=>z) u35 t74 z z z ?_)
 intro v3 W s
 obtain rfl:=o9 h
 exact .qn z (.ret (aa v3 (rt z rn) z (s.tk [0])))
theorem qe {a0:Int} {w:World} {r:Instr} (h:lw a0=some r):CL 118 #[vi a0] w (RU w (.agg #[vi r.Op,vi r.Rd,vi r.Rs,vi r.Rt,vi r.Imm])):=by
 unfold lw at h
 refine ao func118 z z ?_
 have s:=Sep.start w
 refine .g (.c (.alloc t74 s ?_))
 intro g1 W s
 refine .nil (.g (.q z (.s (bs T.s74 z z) z (.c (.st t74 s z z z ?_)))))
 intro W s
 cases h
 exact .nil (.ret (aa () (rc s t74 z rn z z) z (s.to [])))
theorem pg {a0:ab} {a1:Int} {a2:Int} {w:World} {r:(List Instr)} (h:jY a0 a1 a2=some r):CL 63 #[.agg #[vi a0.Op,vi a0.Dst,vi a0.A,vi a0.B,vi a0.N],vi a1,vi a2] w (Ret No w (λs:Hd=>(sv s)) (λs=>[ac (sv s) 74 5 ai r])):=by
 unfold jY at h
 refine ao func63 z z ?_
 have s:=Sep.start w
 refine .g (.c (.box s z z ?_))
 intro g1 W s
 refine .qn z (.g (.s (fa f70_1 z z z) z (.s (ld t3 s z z z z z) z (.q z (bv h λy1 hy1 h=>.c (.cO s func109 (fq hy1) z z ?_))))))
 intro W s
 refine .qn z (.seq (.g (.s (fa f70_0 z z z) z (.s (ld t3 s z z z z z) z (.nil (.block (.g (.q z (.qn z (.cond z (λb=>?_) (λb=>?_)))))))))))
 ·have h:=aC b h
  refine .seq (.rk 9 s [0] T.mix ?_)
  intro W s
  have t:=s.to [0]
  refine .tp' 0 z z t (.ts' 1 z (λW t=>fa f70_4 z z z) t z (.ts' 2 z (λW t=>ld t3 t z z z z z) t z (.ts' 4 z (λW t=>fa f70_1 z z z) t z (.ts' 5 z (λW t=>ld t3 t z z z z z) t z (.tp' 6 z z t (bv h λy2 hy2 h=>.by1 3 z (.cV s func111 (t8 hy2) z z ?_)))))))
  intro v1 W s
  refine s.an [1] λt=>bv h λy3 hy3 h=>.by1 7 z (.cS (L0:=[ac (sv v1) 74 5 ai y2]) s func110 (λS h1 h2 h3=>(j6 hy3 h2 (zz h1))) z z ?_)
  rintro v2 W s
  refine s.an [1] λt=>?_
  obtain rfl:=o9 h
  exact .tp' 8 z z t (.done (.ret (aa v2 (rt z rn) z (s.tk [0]))))
 have h:=aD b h
 refine .g (.q z (.qn z (.cond z (λb=>?_) (λb=>?_))))
 ·have h:=aC b h
  refine .seq (.rk 17 s [0] T.mix ?_)
  intro W s
  have t:=s.to [0]
  refine .ts' 0 z (λW t=>fa f70_2 z z z) t z (.ts' 1 z (λW t=>ld t3 t z z z z z) t z (.tp' 2 z z t (.tp' 4 z z t (.ts' 5 z (λW t=>fa f70_2 z z z) t z (.ts' 6 z (λW t=>ld t3 t z z z z z) t z (.tp' 7 z z t (.ts' 12 z (λW t=>fa f70_1 z z z) t z (.ts' 13 z (λW t=>ld t3 t z z z z z) t z (.tp' 14 z z t (bv h λy4 hy4 h=>.by1 3 z (.cV s func112 (iI hy4) z z ?_)))))))))))
  intro v3 W s
  refine s.an [1] λt=>bv h λy5 hy5 h=>.by1 8 z (.cO s func109 (fq hy5) z z ?_)
  intro W s
  refine s.an [1] λt=>bv h λy6 hy6 h=>.by1 9 z (.cO s func113 (mX hy6) z z ?_)
  intro W s
  refine s.an [1] λt=>.by1 10 z (.liv [y6] ai u35 t74 s z z z z ?_ z (λ_=>z))
  intro v4 W s
  refine s.an [2] λt=>bv h λr1 hr1 h=>?_
  have hT0:=s.p1
  refine .by1 11 z (.av hr1 hT0 hT0.p1.lv (λ_=>z) u35 t74 z z z ?_)
  intro v5 W s
  refine s.an [2] λt=>bv h λy7 hy7 h=>.by1 15 z (.cS (L0:=[ac (sv v5) 74 5 ai r1]) s func110 (λS h1 h2 h3=>(j6 hy7 h2 (zz h1))) z z ?_)
  rintro v6 W s
  refine s.an [2] λt=>?_
  obtain rfl:=o9 h
  exact .tp' 16 z z t (.done (.ret (aa v6 (rt z rn) z (s.tk [0]))))
 have h:=aD b h
 refine .g (.q z (.q z (.nil ?_)))
 refine .cs z h ?_ ?_ <;> intro h
 ·refine .g (.s (ld t70 s z z z z z) z (.q z (bv h λy8 hy8 h=>.c (.cV s func114 (vV hy8) z z ?_))))
  intro v7 W s
  obtain rfl:=o9 h
  exact .qn z (.ret (aa v7 (rt z rn) z (s.tk [0])))
 refine .g (.q z (.q z (.nil ?_)))
 refine .cs z h ?_ ?_ <;> intro h
 ·refine .g (.q z (.s (bs T.s74 z z) z (.c (.liv [(Instr.mk 20 0 0 0 a2)] ai u35 t74 s z z z z ?_ z (λ_=>z)))))
  intro v8 W s
  cases h
  exact .qn z (.ret (aa v8 (rt z rn) z (s.tk [0])))
 refine .g (.q z (.q z (.nil ?_)))
 refine .cs z h ?_ ?_ <;> intro h
 ·refine .g (.s (ld t70 s z z z z z) z (.q z (.q z (bv h λy9 hy9 h=>.c (.cV s func115 (uF hy9) z z ?_)))))
  intro v9 W s
  obtain rfl:=o9 h
  exact .qn z (.ret (aa v9 (rt z rn) z (s.tk [0])))
 refine .g (.q z (.qn z (.cond z (λb=>?_) (λb=>?_))))
 ·have h:=aC b h
  refine .seq (.rk 11 s [0] T.mix ?_)
  intro W s
  have t:=s.to [0]
  refine .ts' 0 z (λW t=>fa f70_2 z z z) t z (.ts' 1 z (λW t=>ld t3 t z z z z z) t z (.tp' 2 z z t (.ts' 4 z (λW t=>fa f70_4 z z z) t z (.ts' 5 z (λW t=>ld t3 t z z z z z) t z (bv h λy10 hy10 h=>.by1 3 z (.cV s func117 (pf hy10) z z ?_))))))
  intro v10 W s
  refine s.an [1] λt=>bv h λy11 hy11 h=>.by1 6 z (.cO s func118 (qe hy11) z z ?_)
  intro W s
  refine s.an [1] λt=>.by1 7 z (.liv [y11] ai u35 t74 s z z z z ?_ z (λ_=>z))
  intro v11 W s
  refine s.an [2] λt=>bv h λr2 hr2 h=>?_
  have hT0:=s.p1
  refine .by1 8 z (.av hr2 hT0 hT0.p1.lv (λ_=>z) u35 t74 z z z ?_)
  intro v12 W s
  refine s.an [2] λt=>bv h λy12 hy12 h=>.by1 9 z (.cS (L0:=[ac (sv v12) 74 5 ai r2]) s func116 (λS h1 h2 h3=>(iJ hy12 h2 (zz h1))) z z ?_)
  rintro v13 W s
  refine s.an [2] λt=>?_
  obtain rfl:=o9 h
  exact .tp' 10 z z t (.done (.ret (aa v13 (rt z rn) z (s.tk [0]))))
 have h:=aD b h
 refine .g (.q z (.qn z (.cond z (λb=>?_) (λb=>?_))))
 ·have h:=aC b h
  refine .g (.s (fa f70_4 z z z) z (.s (ld t3 s z z z z z) z (bv h λy13 hy13 h=>.c (.cO s func118 (qe hy13) z z ?_))))
  intro W s
  refine .c (.liv [y13] ai u35 t74 s z z z z ?_ z (λ_=>z))
  intro v14 W s
  refine bv h λy14 hy14 h=>.c (.cS (L0:=[ac (sv v14) 74 5 ai [y13]]) s func116 (λS h1 h2 h3=>(iJ hy14 h2 (zz h1))) z z ?_)
  rintro v15 W s
  refine .qn z (.seq (.rk 10 s [1] T.mix ?_))
  intro W s
  have t:=s.to [1]
  refine .tp' 0 z z t (.tp' 1 z z t (.ts' 5 z (λW t=>fa f70_1 z z z) t z (.ts' 6 z (λW t=>ld t3 t z z z z z) t z (.tp' 7 z z t (bv h λy15 hy15 h=>.by1 2 z (.cO s func113 (mX hy15) z z ?_))))))
  intro W s
  refine s.an [1] λt=>.by1 3 z (.liv [y15] ai u35 t74 s z z z z ?_ z (λ_=>z))
  intro v16 W s
  refine s.an [2] λt=>bv h λr3 hr3 h=>?_
  have hT0:=s.p1
  refine .by1 4 z (.av hr3 hT0 hT0.p1.lv (λ_=>z) u35 t74 z z z ?_)
  intro v17 W s
  refine s.an [2] λt=>bv h λy16 hy16 h=>.by1 8 z (.cS (L0:=[ac (sv v17) 74 5 ai r3]) s func110 (λS h1 h2 h3=>(j6 hy16 h2 (zz h1))) z z ?_)
  rintro v18 W s
  refine s.an [2] λt=>?_
  obtain rfl:=o9 h
  exact .tp' 9 z z t (.done (.ret (aa v18 (rt z rn) z (s.tk [0]))))
 have h:=aD b h
 refine .g (.q z (.qn z (.cond z (λb=>?_) (λb=>?_))))
 ·have h:=aC b h
  refine .g (.c (.liv [] ai u35 t74 s z z z z ?_ z (λ_=>z)))
  intro v19 W s
  refine bv h λy17 hy17 h=>.c (.cS (L0:=[ac (sv v19) 74 5 ai []]) s func116 (λS h1 h2 h3=>(iJ hy17 h2 (zz h1))) z z ?_)
  rintro v20 W s
  obtain rfl:=o9 h
  exact .qn z (.ret (aa v20 (rt z rn) z (s.tk [0])))
 have h:=aD b h
 refine .g (.q z (.qn z (.cond z (λb=>?_) (λb=>?_))))
 ·have h:=aC b h
  refine .g (.s (fa f70_2 z z z) z (.s (ld t3 s z z z z z) z (.q z (bv h λy18 hy18 h=>.c (.cV s func117 (pf hy18) z z ?_)))))
  intro v21 W s
  refine bv h λy19 hy19 h=>.c (.cS (L0:=[ac (sv v21) 74 5 ai y18]) s func116 (λS h1 h2 h3=>(iJ hy19 h2 (zz h1))) z z ?_)
  rintro v22 W s
  obtain rfl:=o9 h
  exact .qn z (.ret (aa v22 (rt z rn) z (s.tk [0])))
 have h:=aD b h
 refine .skip (.g (.c (.liv [] ai u35 t74 s z z z z ?_ z (λ_=>z))))
 intro v23 W s
 refine bv h λy20 hy20 h=>.c (.cS (L0:=[ac (sv v23) 74 5 ai []]) s func116 (λS h1 h2 h3=>(iJ hy20 h2 (zz h1))) z z ?_)
 rintro v24 W s
 obtain rfl:=o9 h
 exact .qn z (.ret (aa v24 (rt z rn) z (s.tk [0])))
theorem sM {a0:List ab} {a1:Int} {v_0:Hd} {w:World} {r:(List Int)} (h:jA a0 a1=some r) (q_0:RO w v_0 70 5 ae a0):CL 62 #[sv v_0,vi a1] w (Ret No w (λs:Hd=>(sv s)) (λs=>[ac (sv s) 3 1 (D.int .i64) r])):=by
 unfold jA at h
 refine ao func62 z z ?_
 have s:=Sep.start w
 refine .g (.qn z (.g (.c (.liv [] (D.int .i64) u23 t3 s z z z z ?_ z (λ_=>z)))))
 intro v1 W s
 refine .qn z (.g (.qn z (.seq (.g (.qn z (.block (bv h λy1 hy1 h=>?_)))))))
 refine .via (.iter (λs1 E' W'=>∃ (v4:Hd),al E' [(0,(sv v_0)),(1,vi a1),(5,(sv v4)),(6,vi s1.2.1),(7,vi s1.2.2)]/\Sep No w W' [ac (sv v4) 3 1 (D.int .i64) s1.1]) (λy2 x E' W'=>x=.exit 0/\∃ (v5:Hd),al E' [(5,(sv v5))]/\Sep No w W' [ac (sv v5) 3 1 (D.int .i64) y2]) hy1 ⟨v1,sb z,s.tk [0]⟩ ?_) ?_
 ·intro s1 y3 E W h hI
  obtain ⟨v3,hE,s⟩:=hI
  refine CW.sub hE ?_
  unfold lV at h
  refine .seq (.g (.q z (.q z (.s (aJ (s.keep q_0) u38 z z) z (.q z (.nil ?_))))))
  refine .cs z h ?_ ?_ <;> intro h
  ·refine .skip (.seq (.block (.g (.q z (.q z (.c (.liv [s1.2.1] (D.int .i64) u23 t3 s z z z z ?_ z (λ_=>z))))))))
   intro v6 W s
   refine bv h λr1 hr1 h=>?_
   have hT0:=s.p1
   refine .c (.av hr1 hT0 hT0.p1.lv (λ_=>z) u23 t3 z z z ?_)
   intro v7 W s
   refine .qn z (.region (.q z (.q z (.q z (bv h λx1 hx1 h=>.s (ixv (s.keep q_0) hx1 u38 t70 z z z) z (.s (lde (RV.flat (s.keep q_0) hx1 z) t70 z z z z z) z (.q z (bv h λy4 hy4 h=>.c (.cV s func63 (pg hy4) z z ?_)))))))))
   intro v8 W s
   refine .s (aJ s.lv u35 z z) z (.q z (.qn z (.region (.q z (.q z (.q z (.nil ?_)))))))
   cases h
   exact ⟨z,v7,sb z,s.tk [1]⟩
  refine .exit ?_
  cases h
  exact ⟨by simp,z,v3,sb z,s.tk [0]⟩
 intro x E W hJ
 obtain ⟨rfl,v9,hE,s⟩:=hJ
 refine ⟨_,hE.sub,?_⟩
 obtain rfl:=o9 h
 exact .g (.q z (.qn z (.ret (aa v9 (rt z rn) z (s.tk [0])))))
theorem uG {a0:List ab} {a1:Int} {v_0:Hd} {w:World} {r:(List Instr)} (h:lW a0 a1=some r) (q_0:RO w v_0 70 5 ae a0):CL 33 #[sv v_0,vi a1] w (Ret No w (λs:Hd=>(sv s)) (λs=>[ac (sv s) 74 5 ai r])):=by
 unfold lW at h
 refine ao func33 z z ?_
 have s:=Sep.start w
 refine .g (.qn z (.g (.q z (.q z (bv h λy1 hy1 h=>.c (.cV s func62 (sM hy1 (s.keep q_0)) z z ?_))))))
 intro v1 W s
 refine .qn z (.g (.c (.liv [] ai u35 t74 s z z z z ?_ z (λ_=>z))))
 intro v2 W s
 refine .qn z (.seq (.g (.qn z (.block (bv h λy2 hy2 h=>?_)))))
 refine .via (.iter (λs1 E' W'=>∃ (v5:Hd),al E' [(0,(sv v_0)),(1,vi a1),(5,(sv v1)),(6,(sv v5)),(7,vi s1.2)]/\Sep No w W' [ac (sv v1) 3 1 (D.int .i64) y1,ac (sv v5) 74 5 ai s1.1]) (λy3 x E' W'=>x=.exit 0/\∃ (v6:Hd),al E' [(6,(sv v6))]/\Sep No w W' [ac (sv v1) 3 1 (D.int .i64) y1,ac (sv v6) 74 5 ai y3]) hy2 ⟨v2,sb z,s.tk [1,0]⟩ ?_) ?_
 ·intro s1 y4 E W h hI
  obtain ⟨v4,hE,s⟩:=hI
  refine CW.sub hE ?_
  unfold mT at h
  refine .seq (.g (.q z (.q z (.s (aJ (s.keep q_0) u38 z z) z (.q z (.nil ?_))))))
  refine .cs z h ?_ ?_ <;> intro h
  ·refine .skip (.seq (.block (.g (.qn z (bv h λy5 hy5 h=>?_)))))
   refine .seq (CW.via (R':=λx E' W'=>x=.normal/\al E' [(0,(sv v_0)),(1,vi a1),(5,(sv v1)),(6,(sv v4)),(7,vi s1.2),(8,vi y5)]/\Sep No w W' [ac (sv v1) 3 1 (D.int .i64) y1,ac (sv v4) 74 5 ai s1.1]) ?_ ?_)
   ·have h:=hy5
    refine .g (.q z (.q z (bv h λx1 hx1 h=>.s (ixv (s.keep q_0) hx1 u38 t70 z z z) z (.s (fe f70_0 z z z) z (.s (lde (RV.flat (s.keep q_0) hx1 z) t3 z z z z z) z (.q z (.q z (bv h λb1 hb1 h=>.cu 7 32 (b1) s ?_ ?_))))))))
    ·refine .both (x1.Op==4) (λb=>?_) (λb=>?_)
     ·refine .xx b z (.xx b z (.xx b z (.xx b z (.xx b z (.xx b z ?_)))))
      cases aC b hb1
      exact .s (pkt b z z z) z (.nil (ck 7 s))
     have hg1:=b
     have h:=aD b hb1
     refine .g hg1 (.q z (.g hg1 (.q z (bv h λx2 hx2 h=>.g hg1 (.s (ixv (s.keep q_0) hx2 u38 t70 z z z) z (.g hg1 (.s (fe f70_0 z z z) z (.g hg1 (.s (lde (RV.flat (s.keep q_0) hx2 z) t3 z z z z z) z (.g hg1 (.q z (.s (pkf hg1 z z z) z ?_))))))))))))
     cases h
     exact .nil (ck 7 s)
    intro W s
    refine .nil ?_
    refine .cs z h ?_ ?_ <;> intro h
    ·refine .rk 15 s [0,0] T.mix ?_
     intro W s
     have t:=s.to [0,0]
     refine .tp' 0 z z t (.tp' 1 z z t (.tp' 2 z z t (bv h λx3 hx3 h=>.ts' 3 z (λW t=>ixv (s.keep q_0) hx3 u38 t70 z z z) t z (.ts' 4 z (λW t=>fe f70_4 z z z) t z (.ts' 5 z (λW t=>lde (RV.flat (t.keep q_0) hx3 z) t3 z z z z z) t z (bv h λx4 hx4 h=>.ts' 6 z (λW t=>ixv s.lv hx4 u23 t3 z z z) t z (.ts' 7 z (λW t=>lde (RV.flat t.lv hx4 z) t3 z z z z z) t z (.tp' 8 z z t (.tp' 9 z z t (bv h λx5 hx5 h=>.ts' 10 z (λW t=>ixv s.lv hx5 u23 t3 z z z) t z (.ts' 11 z (λW t=>lde (RV.flat t.lv hx5 z) t3 z z z z z) t z (.tp' 12 z z t (.tp' 13 z z t (.tp' 14 z z t (.done ?_)))))))))))))))
     cases h
     exact ⟨z,sb z,s.tk [0,0]⟩
    refine .skip ?_
    cases h
    exact ⟨z,sb z,s.tk [0,0]⟩
   intro x E W hJ
   obtain ⟨rfl,hE,s⟩:=hJ
   refine ⟨_,hE.sub,?_⟩
   refine .region (.q z (.q z (.q z (bv h λx6 hx6 h=>.s (ixv (s.keep q_0) hx6 u38 t70 z z z) z (.s (lde (RV.flat (s.keep q_0) hx6 z) t70 z z z z z) z (.q z (.q z (bv h λy6 hy6 h=>.c (.cV s func63 (pg hy6) z z ?_)))))))))
   intro v7 W s
   refine bv h λr1 hr1 h=>?_
   have hT0:=s.p2
   refine .c (.av hr1 hT0 hT0.p1.lv (λ_=>z) u35 t74 z z z ?_)
   intro v8 W s
   refine .qn z (.region (.q z (.q z (.q z (.nil ?_)))))
   cases h
   exact ⟨z,v8,sb z,s.tk [2,0]⟩
  refine .exit ?_
  cases h
  exact ⟨by simp,z,v4,sb z,s.tk [0,0]⟩
 intro x E W hJ
 obtain ⟨rfl,v9,hE,s⟩:=hJ
 refine ⟨_,hE.sub,?_⟩
 obtain rfl:=o9 h
 exact .g (.q z (.qn z (.ret (aa v9 (rt z rn) z (s.tk [1])))))
theorem rN {k:Nat} {a0:aA} {a1:Int} {a2:Int} {aN:Hd} {aG:Hd} {w:World} {r:(List (List Instr))×Bool} (h:fE k a0 a1 a2=some r) (cL:RO w aN 3 1 (D.int .i64) a0.Rooms) (aI:RO w aG 93 1 (λ(l:List ah)=>D.row 95 8 (l.map ak)) a0.Tasks):CL 9 #[.agg #[sv aN,sv aG],vi a1,vi a2] w (Ret No w (λs:Hd=>.tuple #[sv s,.bool r.2]) (λs=>[ac (sv s) 35 1 (λ(l:List Instr)=>D.row 74 5 (l.map ai)) r.1])):=by
 unfold fE at h
 refine ao func9 z z ?_
 have s:=Sep.start w
 refine .g (.c (.box s z z ?_))
 intro g1 W s
 refine .q z (.qn z (.g (.c (.lg (L1:=[]) [] (λ(l:List Instr)=>D.row 74 5 (l.map ai)) u29 t35 (s.to [0]) z z z (.nil) ?_ z (λ_=>z)))))
 intro v1 W s
 refine .qn z (.g (.s (ld t26 s.p1 z z z z z) z (.q z (bv h λy1 hy1 h=>.c (.cV s func31 (rL hy1 (s.keep cL) (s.keep aI)) z z ?_)))))
 intro v2 W s
 refine .q z (.q z (.q z (.q z (.qn z (.seq (.g (.q z (.q z (.q z (bv h λb1 hb1 h=>.cu 4 25 (b1) s ?_ ?_))))))))))
 ·refine .both (!y1.2) (λb=>?_) (λb=>?_)
  ·refine .xx b z (.xx b z (.xx b z ?_))
   cases aC b hb1
   exact .s (pkt b z z z) z (.nil (ck 4 s))
  have hg1:=b
  have h:=aD b hb1
  refine .g hg1 (.q z (bv h λy2 hy2 h=>.g hg1 (.c (.cO s func32 (bk hy2) z z ?_))))
  intro W s
  refine .g hg1 (.q z (.s (pkf hg1 z z z) z ?_))
  cases h
  exact .nil (ck 4 s)
 intro W s
 refine .nil ?_
 refine .cs z h ?_ ?_ <;> intro h
 ·cases h
  exact .g (.q z (.q z (.qn z (.ret (aa (vs:=[_,_]) v1 (rt z (rt z rn)) z (s.tk [1]))))))
 refine .skip (.seq (.g (.qn z (.block (bv h λy3 hy3 h=>?_)))))
 refine .via (.iter (λs1 E' W'=>∃ (v5:Hd),al E' [(2,vi a2),(8,(sv v5)),(9,(sv v2)),(11,vi s1.2)]/\Sep No w W' [ac (sv v2) 38 1 (λ(l:List ab)=>D.row 70 5 (l.map ae)) y1.1,.box g1 26 [sv aN,sv aG],ac (sv v5) 35 1 (λ(l:List Instr)=>D.row 74 5 (l.map ai)) s1.1]) (λy4 x E' W'=>x=.exit 0/\∃ (v6:Hd),al E' [(8,(sv v6))]/\Sep No w W' [ac (sv v2) 38 1 (λ(l:List ab)=>D.row 70 5 (l.map ae)) y1.1,.box g1 26 [sv aN,sv aG],ac (sv v6) 35 1 (λ(l:List Instr)=>D.row 74 5 (l.map ai)) y4]) hy3 ⟨v1,sb z,s.tk [0,1,0]⟩ ?_) ?_
 ·intro s1 y5 E W h hI
  obtain ⟨v4,hE,s⟩:=hI
  refine CW.sub hE ?_
  unfold io at h
  refine .seq (.g (.q z (.q z (.s (aJ s.lv u32 z z) z (.q z (.nil ?_))))))
  refine .cs z h ?_ ?_ <;> intro h
  ·refine .skip (.seq (.block (.region (.q z (.q z (.q z (bv h λx1 hx1 h=>.s (ixv s.lv hx1 u32 t38 z z z) z ?_)))))))
   obtain ⟨k1,s⟩:=Sep.ov s hx1
   obtain ⟨v7,k1,rfl,s⟩:=s.ow
   obtain ⟨rfl,s⟩:=s.oN
   refine .s (lde (s.p1.hcellsv) t38 z z z z z) z (.q z (bv h λy6 hy6 h=>.c (.cV s func33 (uG hy6 s.lv) z z ?_)))
   intro v8 W s
   refine .c (.lg (L1:=[ac (sv v8) 74 5 ai y6]) [y6] (λ(l:List Instr)=>D.row 74 5 (l.map ai)) u29 t35 (s.to [0,0,0,0,0]) z z z (.row (.nil)) ?_ z (λ_=>z))
   intro v9 W s
   refine bv h λr1 hr1 h=>.c (.appv hr1 (s.to [4,0,0,0,0]) u29 t35 z z z ?_)
   intro v10 W s
   refine .qn z (.region (.q z (.q z (.q z (.nil ?_)))))
   have s:=Sep.gat (ds:=[.row 70 5 (x1.map ae)]) (cs:=[sv v7]) (L1:=[ac (sv v7) 70 5 ae x1]) (.row (.nil)) (s.to [1,1,0,0])
   have s:Sep _ _ _ [ac (sv v2) 38 1 (λ(l:List ab)=>D.row 70 5 (l.map ae)) y1.1,ac (sv v10) 35 1 (λ(l:List Instr)=>D.row 74 5 (l.map ai)) r1,.box g1 26 [sv aN,sv aG]]:=Sep.back0v hx1 s
   cases h
   exact ⟨z,v10,sb z,s.tk [0,1,0]⟩
  refine .exit ?_
  cases h
  exact ⟨by simp,z,v4,sb z,s.tk [0,0,0]⟩
 intro x E W hJ
 obtain ⟨rfl,v11,hE,s⟩:=hJ
 refine ⟨_,hE.sub,?_⟩
 cases h
 exact .g (.q z (.q z (.qn z (.ret (aa (vs:=[_,_]) v11 (rt z (rt z rn)) z (s.tk [2]))))))
def sN (w:World) (r:Bool):Env->World->Prop:=Fin Tryz.prog Tryz.f12 No w (λs:Unit=>.bool r) (λs=>[]) .ret
theorem lj {a0:List Instr} {a1:List Instr} {v_0:Hd} {v_1:Hd} {w:World} {r:Bool} (h:fF a0 a1=some r) (q_0:RO w v_0 74 5 ai a0) (q_1:RO w v_1 74 5 ai a1):CL 12 #[sv v_0,sv v_1] w (RU w (.bool r)):=by
 unfold fF at h
 refine ao func12 z z ?_
 have s:=Sep.start w
 refine .g (.qn z (.seq (.g (.q z (.s (aJ (s.keep q_0) u35 z z) z (.q z (.s (aJ (s.keep q_1) u35 z z) z (.q z (.nil ?_)))))))))
 refine .cs z h ?_ ?_ <;> intro h
 ·obtain rfl:=o9 h
  exact .g (.qn z (.ret (aa () (rt z rn) z (s.to []))))
 refine .skip (.seq (.g (.qn z (.block (bv h λy1 hy1 h=>?_)))))
 refine .via (.iter (λs1 E' W'=>al E' [(0,(sv v_0)),(1,(sv v_1)),(5,vi s1)]/\Sep No w W' []) (λy2 x E' W'=>(match y2 with | .inl o1=>x=.ret/\sN w o1 E' W' | .inr o2=>x=.exit 0/\al E' []/\Sep No w W' [])) hy1 ⟨sb rfl,s.to [] rfl⟩ ?_) ?_
 ·intro s1 y3 E W h hI
  obtain ⟨hE,s⟩:=hI
  refine CW.sub hE ?_
  unfold lc at h
  refine .seq (.g (.q z (.q z (.s (aJ (s.keep q_0) u35 z z) z (.q z (.nil ?_))))))
  refine .cs z h ?_ ?_ <;> intro h
  ·refine .skip (.seq (.block (.seq (.rk 9 s [] T.mix ?_))))
   intro W s
   have t:=s.to []
   refine .tp' 0 z z t (.tp' 1 z z t (bv h λx1 hx1 h=>.ts' 2 z (λW t=>ixv (s.keep q_0) hx1 u35 t74 z z z) t z (.ts' 3 z (λW t=>lde (RV.flat (t.keep q_0) hx1 z) t74 z z z z z) t z (.tp' 4 z z t (.tp' 5 z z t (bv h λx2 hx2 h=>.ts' 6 z (λW t=>ixv (s.keep q_1) hx2 u35 t74 z z z) t z (.ts' 7 z (λW t=>lde (RV.flat (t.keep q_1) hx2 z) t74 z z z z z) t z (.ts' 8 z (λW t=>nes T.e74 z z z z) t z (.done ?_)))))))))
   refine .cs z h ?_ ?_ <;> intro h
   ·refine .g (.qn z (.ret ?_))
    cases h
    exact ⟨by simp,z,aa (vs:=[_]) () (rt z rn) z (s.to [])⟩
   refine .skip (.region (.q z (.q z (.q z (.nil ?_)))))
   cases h
   exact ⟨z,sb z,s.to []⟩
  refine .exit ?_
  cases h
  exact ⟨by simp,z,sb z,s.to []⟩
 intro x E W hJ
 rcases y1 with o3 | o4
 ·have h:=dG h
  obtain ⟨rfl,hF⟩:=hJ
  refine ⟨_,λ_ _ h=>h,?_⟩
  cases h
  exact hF
 have h:=dH h
 obtain ⟨rfl,hE,s⟩:=hJ
 refine ⟨_,hE.sub,?_⟩
 obtain rfl:=o9 h
 exact .g (.qn z (.ret (aa () (rt z rn) z (s.to []))))
def qL (w:World) (r:Bool):Env->World->Prop:=Fin Tryz.prog Tryz.f3 No w (λs:Unit=>.bool r) (λs=>[]) .ret
end
noncomputable section
theorem qf {k:Nat} {a0:List Int} {v_0:Hd} {w:World} {r:Bool} (h:i7 k a0=some r) (q_0:RO w v_0 5 1 (D.int .u8) a0) (hG:Gl w):CL 3 #[sv v_0] w (RU w (.bool r)):=by
 unfold i7 at h
 refine ao func3 z z ?_
 have s:=Sep.start w
 refine .g (.qn z (.seq (.g (.q z (.s (aJ (s.keep q_0) u22 z z) z (.q z (.nil ?_)))))))
 refine .cs z h ?_ ?_ <;> intro h
 ·obtain rfl:=o9 h
  exact .g (.qn z (.ret (aa () (rt z rn) z (s.to []))))
 refine .skip (.g (.q z (bv h λy1 hy1 h=>.c (.call s func7 (oP hy1 (s.keep q_0)) z z ?_))))
 rintro ⟨v1,v2⟩ W s
 refine .q z (.q z (.q z (.q z (.c (.alloc t26 s ?_)))))
 intro g1 W s
 refine .c (.st t26 s z z z ?_)
 intro W s
 refine .q z (.qn z (.g (.s (ld t26 s z z z z z) z (.q z (.q z (bv h λy2 hy2 h=>.c (.cV s func8 (rJ hy2 s.p1.lv (s.p2.lendz 0 z) (hG.at s (λ_ _ h=>h))) z z ?_)))))))
 intro v3 W s
 refine .q z (.q z (.q z (.q z (.qn z (.g (.s (ld t26 s.p1 z z z z z) z (.q z (.q z (bv h λy3 hy3 h=>.c (.cV s func9 (rN hy3 s.p2.lv (s.p3.lendz 0 z)) z z ?_))))))))))
 intro v4 W s
 refine .q z (.q z (.q z (.q z (.qn z (.seq (.g (.q z (.q z (.s (neb u4 z z z) z (.q z (.cu 6 47 ((y2.2 !=y3.2)||((y2.1.length:Int) !=(y3.1.length:Int))) s ?_ ?_)))))))))))
 ·refine .both (y2.2 !=y3.2) (λb=>?_) (λb=>?_)
  ·exact .xx b z (.xx b z (.xx b z (.xx b z (.xx b z (.s (pkt b z z z) z (.nil (ck 6 s z (gY b))))))))
  have hg1:=b
  exact .g hg1 (.q z (.g hg1 (.s (aJ s.p1.lv u29 z z) z (.g hg1 (.q z (.g hg1 (.s (aJ s.lv u29 z z) z (.g hg1 (.q z (.s (pkf hg1 z z z) z (.nil (ck 6 s z (gr hg1)))))))))))))
 intro W s
 refine .q z (.cu 3 51 (((y2.2 !=y3.2)||((y2.1.length:Int) !=(y3.1.length:Int)))||(!y2.2)) s ?_ ?_)
 ·refine .both ((y2.2 !=y3.2)||((y2.1.length:Int) !=(y3.1.length:Int))) (λb=>?_) (λb=>?_)
  ·exact .xx b z (.xx b z (.s (pkt b z z z) z (.nil (ck 3 s z (gY b)))))
  have hg2:=b
  exact .g hg2 (.q z (.g hg2 (.q z (.s (pkf hg2 z z z) z (.nil (ck 3 s z (gr hg2)))))))
 intro W s
 refine .nil ?_
 refine .cs z h ?_ ?_ <;> intro h
 ·refine .g (.q z (.q z (.s (eqb u4 z z z) z (.q z (.cu 6 61 ((y2.2==y3.2)&&((y2.1.length:Int)==(y3.1.length:Int))) s ?_ ?_)))))
  ·refine .both (y2.2==y3.2) (λb=>?_) (λb=>?_)
   ·have hg3:=b
    exact .g hg3 (.q z (.g hg3 (.s (aJ s.p1.lv u29 z z) z (.g hg3 (.q z (.g hg3 (.s (aJ s.lv u29 z z) z (.g hg3 (.q z (.s (pkt hg3 z z z) z (.nil (ck 6 s z (bp hg3)))))))))))))
   exact .xx b z (.xx b z (.xx b z (.xx b z (.xx b z (.s (pkf b z z z) z (.nil (ck 6 s z (bq b))))))))
  intro W s
  cases h
  exact .qn z (.ret (aa () (rt z rn) z (s.to [])))
 refine .skip (.g (.s (ld t26 s.p2 z z z z z) z (.q z (bv h λy4 hy4 h=>.c (.cV s func10 (nF hy4 s.p3.lv (s.p4.lendz 0 z)) z z ?_)))))
 intro v5 W s
 refine .q z (.q z (.q z (.q z (.qn z (.seq (.g (.q z (.q z (.q z (.cu 6 76 ((!y4.2)||((y4.1.length:Int) !=(y2.1.length:Int))) s ?_ ?_))))))))))
 ·refine .both (!y4.2) (λb=>?_) (λb=>?_)
  ·exact .xx b z (.xx b z (.xx b z (.xx b z (.xx b z (.s (pkt b z z z) z (.nil (ck 6 s z (gY b))))))))
  have hg4:=b
  exact .g hg4 (.q z (.g hg4 (.s (aJ s.lv u32 z z) z (.g hg4 (.q z (.g hg4 (.s (aJ s.p2.lv u29 z z) z (.g hg4 (.q z (.s (pkf hg4 z z z) z (.nil (ck 6 s z (gr hg4)))))))))))))
 intro W s
 refine .nil ?_
 refine .cs z h ?_ ?_ <;> intro h
 ·obtain rfl:=o9 h
  exact .g (.qn z (.ret (aa () (rt z rn) z (s.to []))))
 refine .skip (.seq (.g (.qn z (.block (bv h λy5 hy5 h=>?_)))))
 refine .via (.iter (λs1 E' W'=>al E' [(5,vi y1.2.2),(6,(sv v3)),(8,(sv v4)),(10,(sv v5)),(12,vi s1)]/\Sep No w W' [ac (sv v5) 38 1 (λ(l:List ab)=>D.row 70 5 (l.map ae)) y4.1,ac (sv v4) 35 1 (λ(l:List Instr)=>D.row 74 5 (l.map ai)) y3.1,ac (sv v3) 35 1 (λ(l:List Instr)=>D.row 74 5 (l.map ai)) y2.1,.box g1 26 [sv v1,sv v2],ac (sv v1) 3 1 (D.int .i64) y1.1.Rooms,kW [((sv v2),93,1,List.map (λ(l:List ah)=>D.row 95 8 (l.map ak)) y1.1.Tasks)] []]) (λy6 x E' W'=>(match y6 with | .inl o1=>x=.ret/\qL w o1 E' W' | .inr o2=>x=.exit 0/\al E' []/\Sep No w W' [ac (sv v5) 38 1 (λ(l:List ab)=>D.row 70 5 (l.map ae)) y4.1,ac (sv v4) 35 1 (λ(l:List Instr)=>D.row 74 5 (l.map ai)) y3.1,ac (sv v3) 35 1 (λ(l:List Instr)=>D.row 74 5 (l.map ai)) y2.1,.box g1 26 [sv v1,sv v2],ac (sv v1) 3 1 (D.int .i64) y1.1.Rooms,kW [((sv v2),93,1,List.map (λ(l:List ah)=>D.row 95 8 (l.map ak)) y1.1.Tasks)] []])) hy5 ⟨sb rfl,s.tk [0,0,0,0,0,0]⟩ ?_) ?_
 ·intro s1 y7 E W h hI
  obtain ⟨hE,s⟩:=hI
  refine CW.sub hE ?_
  unfold fZ at h
  refine .seq (.g (.q z (.q z (.s (aJ s.lv u32 z z) z (.q z (.nil ?_))))))
  refine .cs z h ?_ ?_ <;> intro h
  ·refine .skip (.seq (.block (.g (.q z (.q z (bv h λx1 hx1 h=>.s (ixv s.lv hx1 u32 t38 z z z) z ?_))))))
   obtain ⟨k1,s⟩:=Sep.ov s hx1
   obtain ⟨v6,k1,rfl,s⟩:=s.ow
   obtain ⟨rfl,s⟩:=s.oN
   refine .s (lde (s.p1.hcellsv) t38 z z z z z) z (.q z (bv h λy8 hy8 h=>.c (.cV s func11 (nH hy8 s.lv (hG.at s (λ_ _ h=>h))) z z ?_)))
   intro v7 W s
   refine .q z (.q z (.q z (.q z (.qn z (.seq (bv h λx2 hx2 h=>?_))))))
   obtain ⟨k2,s⟩:=Sep.ov s.p4 hx2
   obtain ⟨v8,k2,rfl,s⟩:=s.ow
   obtain ⟨rfl,s⟩:=s.oN
   refine bv h λx3 hx3 h=>?_
   obtain ⟨k3,s⟩:=Sep.ov s.p5 hx3
   obtain ⟨v9,k3,rfl,s⟩:=s.ow
   obtain ⟨rfl,s⟩:=s.oN
   refine bv h λb3 hb3 h=>bv h λb4 hb4 h=>?_
   refine .via (R':=λx E' W'=>x=.normal/\al E' [(5,vi y1.2.2),(6,(sv v3)),(8,(sv v4)),(10,(sv v5)),(12,vi s1),(114,.bool b4)]/\Sep No w W' [ac (sv v5) 38 1 (λ(l:List ab)=>D.row 70 5 (l.map ae)) y4.1,ac (sv v7) 74 5 ai y8.1,ac (sv v4) 35 1 (λ(l:List Instr)=>D.row 74 5 (l.map ai)) y3.1,ac (sv v3) 35 1 (λ(l:List Instr)=>D.row 74 5 (l.map ai)) y2.1,.box g1 26 [sv v1,sv v2],ac (sv v1) 3 1 (D.int .i64) y1.1.Rooms,kW [((sv v2),93,1,List.map (λ(l:List ah)=>D.row 95 8 (l.map ak)) y1.1.Tasks)] []]) ?_ ?_
   ·refine .rk 23 s [0,0,0,0,0,0,0,0,0,0] T.mix ?_
    intro W s
    have t:=s.to [0,0,0,0,0,0,0,0,0,0]
    refine .tp' 0 z z t (.tp' 1 z z t (.tp' 2 z z t (.both (!y8.2) (λb=>?_) (λb=>?_))))
    ·refine .off 3 z b t (.off 4 z b t (.off 5 z b t (.off 6 z b t (.off 7 z b t (.off 8 z b t (.off 9 z b t (.ts' 10 z (λW t=>pkt b z z z) t z (.eqv 102 z (gu (aC b hb3)) (.tp' 11 z z t (.both (b3) (λb=>?_) (λb=>?_))))) (by kernel_rfl) z z) (by kernel_rfl) z z) (by kernel_rfl) z z) (by kernel_rfl) z z) (by kernel_rfl) z z) (by kernel_rfl) z z) (by kernel_rfl) z z
     ·refine .off 12 z b t (.off 13 z b t (.off 14 z b t (.off 15 z b t (.off 16 z b t (.off 17 z b t (.off 18 z b t (.off 19 z b t (.off 20 z b t (.off 21 z b t (.ts' 22 z (λW t=>pkt b z z z) t z (.eqv 114 z (gu (aC b hb4)) (.done ?_))) (by kernel_rfl) z z) (by kernel_rfl) z z) (by kernel_rfl) z z) (by kernel_rfl) z z) (by kernel_rfl) z z) (by kernel_rfl) z z) (by kernel_rfl) z z) (by kernel_rfl) z z) (by kernel_rfl) z z) (by kernel_rfl) z z
      have s:=Sep.gat (ds:=[.row 74 5 (x3.map ai)]) (cs:=[sv v9]) (L1:=[ac (sv v9) 74 5 ai x3]) (.row (.nil)) (s.to [0,0,0,0,0,0,0,0,0,0])
      have s:Sep _ _ _ [ac (sv v4) 35 1 (λ(l:List Instr)=>D.row 74 5 (l.map ai)) y3.1,ac (sv v8) 74 5 ai x2,kh (sv v3) 35 1 (λ(l:List Instr)=>D.row 74 5 (l.map ai)) y2.1 (Int.toNat s1) [sv v8],ac (sv v7) 74 5 ai y8.1,ac (sv v6) 70 5 ae x1,kh (sv v5) 38 1 (λ(l:List ab)=>D.row 70 5 (l.map ae)) y4.1 (Int.toNat s1) [sv v6],.box g1 26 [sv v1,sv v2],ac (sv v1) 3 1 (D.int .i64) y1.1.Rooms,kW [((sv v2),93,1,List.map (λ(l:List ah)=>D.row 95 8 (l.map ak)) y1.1.Tasks)] []]:=Sep.back0v hx3 s
      have s:=Sep.gat (ds:=[.row 74 5 (x2.map ai)]) (cs:=[sv v8]) (L1:=[ac (sv v8) 74 5 ai x2]) (.row (.nil)) (s.to [1,1,0,0,0,0,0,0,0])
      have s:Sep _ _ _ [ac (sv v3) 35 1 (λ(l:List Instr)=>D.row 74 5 (l.map ai)) y2.1,ac (sv v4) 35 1 (λ(l:List Instr)=>D.row 74 5 (l.map ai)) y3.1,ac (sv v7) 74 5 ai y8.1,ac (sv v6) 70 5 ae x1,kh (sv v5) 38 1 (λ(l:List ab)=>D.row 70 5 (l.map ae)) y4.1 (Int.toNat s1) [sv v6],.box g1 26 [sv v1,sv v2],ac (sv v1) 3 1 (D.int .i64) y1.1.Rooms,kW [((sv v2),93,1,List.map (λ(l:List ah)=>D.row 95 8 (l.map ak)) y1.1.Tasks)] []]:=Sep.back0v hx2 s
      have s:=Sep.gat (ds:=[.row 70 5 (x1.map ae)]) (cs:=[sv v6]) (L1:=[ac (sv v6) 70 5 ae x1]) (.row (.nil)) (s.to [3,3,0,0,0,0,0,0])
      have s:Sep _ _ _ [ac (sv v5) 38 1 (λ(l:List ab)=>D.row 70 5 (l.map ae)) y4.1,ac (sv v3) 35 1 (λ(l:List Instr)=>D.row 74 5 (l.map ai)) y2.1,ac (sv v4) 35 1 (λ(l:List Instr)=>D.row 74 5 (l.map ai)) y3.1,ac (sv v7) 74 5 ai y8.1,.box g1 26 [sv v1,sv v2],ac (sv v1) 3 1 (D.int .i64) y1.1.Rooms,kW [((sv v2),93,1,List.map (λ(l:List ah)=>D.row 95 8 (l.map ak)) y1.1.Tasks)] []]:=Sep.back0v hx1 s
      exact ⟨z,sb z,s.tk [0,2,1,0,0,0,0]⟩
     have hg8:=b
     have h_b4:=aD b hb4
     refine .t1g 12 z hg8 (λW t=>pr z) t (.t1g 13 z hg8 (λW t=>pr z) t (.t1g 14 z hg8 (λW t=>ixh t.p3 hx2 u29 t35 z z z) t (.t1g 15 z hg8 (λW t=>lde (t.p3.hcellsv) t35 z z z z z) t (.t1g 16 z hg8 (λW t=>pr z) t (.t1g 17 z hg8 (λW t=>pr z) t (.t1g 18 z hg8 (λW t=>ixh t.p1 hx3 u29 t35 z z z) t (.t1g 19 z hg8 (λW t=>lde (t.p1.hcellsv) t35 z z z z z) t (bv h_b4 λy11 hy11 h_b4=>.by1 20 z (.gd hg8 (.cO s func12 (lj hy11 s.p2.lv s.lv) z z ?_))) (by kernel_rfl) z z) (by kernel_rfl) z z) (by kernel_rfl) z z) (by kernel_rfl) z z) (by kernel_rfl) z z) (by kernel_rfl) z z) (by kernel_rfl) z z) (by kernel_rfl) z z
     intro W s
     refine s.an [0,0,0,0,0,0,0,0,0,0] λt=>.t1g 21 z hg8 (λW t=>pr z) t (.ts' 22 z (λW t=>pkf hg8 z z z) t z (.eqv 114 z (gu h_b4) (.done ?_))) (by kernel_rfl) z z
     have s:=Sep.gat (ds:=[.row 74 5 (x3.map ai)]) (cs:=[sv v9]) (L1:=[ac (sv v9) 74 5 ai x3]) (.row (.nil)) (s.to [0,0,0,0,0,0,0,0,0,0])
     have s:Sep _ _ _ [ac (sv v4) 35 1 (λ(l:List Instr)=>D.row 74 5 (l.map ai)) y3.1,ac (sv v8) 74 5 ai x2,kh (sv v3) 35 1 (λ(l:List Instr)=>D.row 74 5 (l.map ai)) y2.1 (Int.toNat s1) [sv v8],ac (sv v7) 74 5 ai y8.1,ac (sv v6) 70 5 ae x1,kh (sv v5) 38 1 (λ(l:List ab)=>D.row 70 5 (l.map ae)) y4.1 (Int.toNat s1) [sv v6],.box g1 26 [sv v1,sv v2],ac (sv v1) 3 1 (D.int .i64) y1.1.Rooms,kW [((sv v2),93,1,List.map (λ(l:List ah)=>D.row 95 8 (l.map ak)) y1.1.Tasks)] []]:=Sep.back0v hx3 s
     have s:=Sep.gat (ds:=[.row 74 5 (x2.map ai)]) (cs:=[sv v8]) (L1:=[ac (sv v8) 74 5 ai x2]) (.row (.nil)) (s.to [1,1,0,0,0,0,0,0,0])
     have s:Sep _ _ _ [ac (sv v3) 35 1 (λ(l:List Instr)=>D.row 74 5 (l.map ai)) y2.1,ac (sv v4) 35 1 (λ(l:List Instr)=>D.row 74 5 (l.map ai)) y3.1,ac (sv v7) 74 5 ai y8.1,ac (sv v6) 70 5 ae x1,kh (sv v5) 38 1 (λ(l:List ab)=>D.row 70 5 (l.map ae)) y4.1 (Int.toNat s1) [sv v6],.box g1 26 [sv v1,sv v2],ac (sv v1) 3 1 (D.int .i64) y1.1.Rooms,kW [((sv v2),93,1,List.map (λ(l:List ah)=>D.row 95 8 (l.map ak)) y1.1.Tasks)] []]:=Sep.back0v hx2 s
     have s:=Sep.gat (ds:=[.row 70 5 (x1.map ae)]) (cs:=[sv v6]) (L1:=[ac (sv v6) 70 5 ae x1]) (.row (.nil)) (s.to [3,3,0,0,0,0,0,0])
     have s:Sep _ _ _ [ac (sv v5) 38 1 (λ(l:List ab)=>D.row 70 5 (l.map ae)) y4.1,ac (sv v3) 35 1 (λ(l:List Instr)=>D.row 74 5 (l.map ai)) y2.1,ac (sv v4) 35 1 (λ(l:List Instr)=>D.row 74 5 (l.map ai)) y3.1,ac (sv v7) 74 5 ai y8.1,.box g1 26 [sv v1,sv v2],ac (sv v1) 3 1 (D.int .i64) y1.1.Rooms,kW [((sv v2),93,1,List.map (λ(l:List ah)=>D.row 95 8 (l.map ak)) y1.1.Tasks)] []]:=Sep.back0v hx1 s
     exact ⟨z,sb z,s.tk [0,2,1,0,0,0,0]⟩
    have hg7:=b
    have h_b3:=aD b hb3
    refine .t1g 3 z hg7 (λW t=>pr z) t (.t1g 4 z hg7 (λW t=>pr z) t (.t1g 5 z hg7 (λW t=>pr z) t (.t1g 6 z hg7 (λW t=>ixh t.p3 hx2 u29 t35 z z z) t (.t1g 7 z hg7 (λW t=>lde (t.p3.hcellsv) t35 z z z z z) t (bv h_b3 λy12 hy12 h_b3=>.by1 8 z (.gd hg7 (.cO s func12 (lj hy12 s.p4.lv s.p2.lv) z z ?_))) (by kernel_rfl) z z) (by kernel_rfl) z z) (by kernel_rfl) z z) (by kernel_rfl) z z) (by kernel_rfl) z z
    intro W s
    refine s.an [0,0,0,0,0,0,0,0,0,0] λt=>.t1g 9 z hg7 (λW t=>pr z) t (.ts' 10 z (λW t=>pkf hg7 z z z) t z (.eqv 102 z (gu h_b3) (.tp' 11 z z t (.both (b3) (λb=>?_) (λb=>?_))))) (by kernel_rfl) z z
    ·refine .off 12 z b t (.off 13 z b t (.off 14 z b t (.off 15 z b t (.off 16 z b t (.off 17 z b t (.off 18 z b t (.off 19 z b t (.off 20 z b t (.off 21 z b t (.ts' 22 z (λW t=>pkt b z z z) t z (.eqv 114 z (gu (aC b hb4)) (.done ?_))) (by kernel_rfl) z z) (by kernel_rfl) z z) (by kernel_rfl) z z) (by kernel_rfl) z z) (by kernel_rfl) z z) (by kernel_rfl) z z) (by kernel_rfl) z z) (by kernel_rfl) z z) (by kernel_rfl) z z) (by kernel_rfl) z z
     have s:=Sep.gat (ds:=[.row 74 5 (x3.map ai)]) (cs:=[sv v9]) (L1:=[ac (sv v9) 74 5 ai x3]) (.row (.nil)) (s.to [0,0,0,0,0,0,0,0,0,0])
     have s:Sep _ _ _ [ac (sv v4) 35 1 (λ(l:List Instr)=>D.row 74 5 (l.map ai)) y3.1,ac (sv v8) 74 5 ai x2,kh (sv v3) 35 1 (λ(l:List Instr)=>D.row 74 5 (l.map ai)) y2.1 (Int.toNat s1) [sv v8],ac (sv v7) 74 5 ai y8.1,ac (sv v6) 70 5 ae x1,kh (sv v5) 38 1 (λ(l:List ab)=>D.row 70 5 (l.map ae)) y4.1 (Int.toNat s1) [sv v6],.box g1 26 [sv v1,sv v2],ac (sv v1) 3 1 (D.int .i64) y1.1.Rooms,kW [((sv v2),93,1,List.map (λ(l:List ah)=>D.row 95 8 (l.map ak)) y1.1.Tasks)] []]:=Sep.back0v hx3 s
     have s:=Sep.gat (ds:=[.row 74 5 (x2.map ai)]) (cs:=[sv v8]) (L1:=[ac (sv v8) 74 5 ai x2]) (.row (.nil)) (s.to [1,1,0,0,0,0,0,0,0])
     have s:Sep _ _ _ [ac (sv v3) 35 1 (λ(l:List Instr)=>D.row 74 5 (l.map ai)) y2.1,ac (sv v4) 35 1 (λ(l:List Instr)=>D.row 74 5 (l.map ai)) y3.1,ac (sv v7) 74 5 ai y8.1,ac (sv v6) 70 5 ae x1,kh (sv v5) 38 1 (λ(l:List ab)=>D.row 70 5 (l.map ae)) y4.1 (Int.toNat s1) [sv v6],.box g1 26 [sv v1,sv v2],ac (sv v1) 3 1 (D.int .i64) y1.1.Rooms,kW [((sv v2),93,1,List.map (λ(l:List ah)=>D.row 95 8 (l.map ak)) y1.1.Tasks)] []]:=Sep.back0v hx2 s
     have s:=Sep.gat (ds:=[.row 70 5 (x1.map ae)]) (cs:=[sv v6]) (L1:=[ac (sv v6) 70 5 ae x1]) (.row (.nil)) (s.to [3,3,0,0,0,0,0,0])
     have s:Sep _ _ _ [ac (sv v5) 38 1 (λ(l:List ab)=>D.row 70 5 (l.map ae)) y4.1,ac (sv v3) 35 1 (λ(l:List Instr)=>D.row 74 5 (l.map ai)) y2.1,ac (sv v4) 35 1 (λ(l:List Instr)=>D.row 74 5 (l.map ai)) y3.1,ac (sv v7) 74 5 ai y8.1,.box g1 26 [sv v1,sv v2],ac (sv v1) 3 1 (D.int .i64) y1.1.Rooms,kW [((sv v2),93,1,List.map (λ(l:List ah)=>D.row 95 8 (l.map ak)) y1.1.Tasks)] []]:=Sep.back0v hx1 s
     exact ⟨z,sb z,s.tk [0,2,1,0,0,0,0]⟩
    have hg9:=b
    have h_b4:=aD b hb4
    refine .t1g 12 z hg9 (λW t=>pr z) t (.t1g 13 z hg9 (λW t=>pr z) t (.t1g 14 z hg9 (λW t=>ixh t.p3 hx2 u29 t35 z z z) t (.t1g 15 z hg9 (λW t=>lde (t.p3.hcellsv) t35 z z z z z) t (.t1g 16 z hg9 (λW t=>pr z) t (.t1g 17 z hg9 (λW t=>pr z) t (.t1g 18 z hg9 (λW t=>ixh t.p1 hx3 u29 t35 z z z) t (.t1g 19 z hg9 (λW t=>lde (t.p1.hcellsv) t35 z z z z z) t (bv h_b4 λy13 hy13 h_b4=>.by1 20 z (.gd hg9 (.cO s func12 (lj hy13 s.p2.lv s.lv) z z ?_))) (by kernel_rfl) z z) (by kernel_rfl) z z) (by kernel_rfl) z z) (by kernel_rfl) z z) (by kernel_rfl) z z) (by kernel_rfl) z z) (by kernel_rfl) z z) (by kernel_rfl) z z
    intro W s
    refine s.an [0,0,0,0,0,0,0,0,0,0] λt=>.t1g 21 z hg9 (λW t=>pr z) t (.ts' 22 z (λW t=>pkf hg9 z z z) t z (.eqv 114 z (gu h_b4) (.done ?_))) (by kernel_rfl) z z
    have s:=Sep.gat (ds:=[.row 74 5 (x3.map ai)]) (cs:=[sv v9]) (L1:=[ac (sv v9) 74 5 ai x3]) (.row (.nil)) (s.to [0,0,0,0,0,0,0,0,0,0])
    have s:Sep _ _ _ [ac (sv v4) 35 1 (λ(l:List Instr)=>D.row 74 5 (l.map ai)) y3.1,ac (sv v8) 74 5 ai x2,kh (sv v3) 35 1 (λ(l:List Instr)=>D.row 74 5 (l.map ai)) y2.1 (Int.toNat s1) [sv v8],ac (sv v7) 74 5 ai y8.1,ac (sv v6) 70 5 ae x1,kh (sv v5) 38 1 (λ(l:List ab)=>D.row 70 5 (l.map ae)) y4.1 (Int.toNat s1) [sv v6],.box g1 26 [sv v1,sv v2],ac (sv v1) 3 1 (D.int .i64) y1.1.Rooms,kW [((sv v2),93,1,List.map (λ(l:List ah)=>D.row 95 8 (l.map ak)) y1.1.Tasks)] []]:=Sep.back0v hx3 s
    have s:=Sep.gat (ds:=[.row 74 5 (x2.map ai)]) (cs:=[sv v8]) (L1:=[ac (sv v8) 74 5 ai x2]) (.row (.nil)) (s.to [1,1,0,0,0,0,0,0,0])
    have s:Sep _ _ _ [ac (sv v3) 35 1 (λ(l:List Instr)=>D.row 74 5 (l.map ai)) y2.1,ac (sv v4) 35 1 (λ(l:List Instr)=>D.row 74 5 (l.map ai)) y3.1,ac (sv v7) 74 5 ai y8.1,ac (sv v6) 70 5 ae x1,kh (sv v5) 38 1 (λ(l:List ab)=>D.row 70 5 (l.map ae)) y4.1 (Int.toNat s1) [sv v6],.box g1 26 [sv v1,sv v2],ac (sv v1) 3 1 (D.int .i64) y1.1.Rooms,kW [((sv v2),93,1,List.map (λ(l:List ah)=>D.row 95 8 (l.map ak)) y1.1.Tasks)] []]:=Sep.back0v hx2 s
    have s:=Sep.gat (ds:=[.row 70 5 (x1.map ae)]) (cs:=[sv v6]) (L1:=[ac (sv v6) 70 5 ae x1]) (.row (.nil)) (s.to [3,3,0,0,0,0,0,0])
    have s:Sep _ _ _ [ac (sv v5) 38 1 (λ(l:List ab)=>D.row 70 5 (l.map ae)) y4.1,ac (sv v3) 35 1 (λ(l:List Instr)=>D.row 74 5 (l.map ai)) y2.1,ac (sv v4) 35 1 (λ(l:List Instr)=>D.row 74 5 (l.map ai)) y3.1,ac (sv v7) 74 5 ai y8.1,.box g1 26 [sv v1,sv v2],ac (sv v1) 3 1 (D.int .i64) y1.1.Rooms,kW [((sv v2),93,1,List.map (λ(l:List ah)=>D.row 95 8 (l.map ak)) y1.1.Tasks)] []]:=Sep.back0v hx1 s
    exact ⟨z,sb z,s.tk [0,2,1,0,0,0,0]⟩
   intro x E W hJ
   obtain ⟨rfl,hE,s⟩:=hJ
   refine ⟨_,hE.sub,?_⟩
   refine .cs z h ?_ ?_ <;> intro h
   ·refine .g (.qn z (.ret ?_))
    cases h
    exact ⟨by simp,z,aa (vs:=[_]) () (rt z rn) z (s.to [])⟩
   refine .skip (.region (.q z (.q z (.q z (.nil ?_)))))
   cases h
   exact ⟨z,sb z,s.tk [0,1,1,1,1,1]⟩
  refine .exit ?_
  cases h
  exact ⟨by simp,z,sb z,s.tk [0,0,0,0,0,0]⟩
 intro x E W hJ
 rcases y5 with o3 | o4
 ·have h:=dG h
  obtain ⟨rfl,hF⟩:=hJ
  refine ⟨_,λ_ _ h=>h,?_⟩
  cases h
  exact hF
 have h:=dH h
 obtain ⟨rfl,hE,s⟩:=hJ
 refine ⟨_,hE.sub,?_⟩
 obtain rfl:=o9 h
 exact .g (.qn z (.ret (aa () (rt z rn) z (s.to []))))
end

end Go.Proofs.YtfpngipcclmliaaGreatDoor.N
