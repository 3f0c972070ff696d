/- Printed by a program of mine: that the program's functions compute it. -/
import Derived.Test.YtfpngipcclmliaaGreatDoorK7
set_option linter.unusedVariables false
set_option linter.unusedSimpArgs false
set_option maxRecDepth 100000
set_option maxHeartbeats 4000000
namespace Go.Proofs.YtfpngipcclmliaaGreatDoor.N
open Go.Proofs.YtfpngipcclmliaaGreatDoor.X
open T Tryz
noncomputable section
theorem vh {a0:ab} {a1:List Int} {v_1:Hd} {w:World} {r:(List Int)} (h:gF a0 a1=some r) (q_1:RO w v_1 3 1 (D.int .i64) a1):CL 281 #[.agg #[vi a0.Op,vi a0.Dst,vi a0.A,vi a0.B,vi a0.N],sv v_1] w (Ret No w (λs:Hd=>(sv s)) (λs=>[ac (sv s) 3 1 (D.int .i64) r])):=by
 unfold gF at h
 refine ao func281 z z ?_
 have s:=Sep.start w
 refine .g (.c (.box s z z ?_))
 intro g1 W s
 refine .qn z (.g (.c (.liv [] (D.int .i64) u23 t3 s z z z z ?_ z (λ_=>z))))
 intro v1 W s
 refine .q z (bv h λr1 hr1 h=>.c (.av hr1 s (s.keep q_1) (λ_=>z) u23 t3 z z z ?_))
 intro v2 W s
 refine .qn z (.g (.s (ld t70 s.p1 z z z z z) z (bv h λy1 hy1 h=>.c (.cO s func157 (iC hy1) z z ?_))))
 intro W s
 refine .qn z (.seq (.g (.q z (.q z (.nil ?_)))))
 refine .cs z h ?_ ?_ <;> intro h
 ·obtain rfl:=o9 h
  exact .g (.q z (.qn z (.ret (aa v2 (rt z rn) z (s.tk [0])))))
 refine .skip (.seq (.g (.qn z (.block (bv h λy2 hy2 h=>?_)))))
 refine .via (.iter (λs1 E' W'=>aq E' [(2,Pt g1),(5,(sv v2)),(6,vi y1),(7,vi s1.1)]/\Sep No w W' [ac (sv v2) 3 1 (D.int .i64) s1.2,.box g1 70 [vi a0.Op,vi a0.Dst,vi a0.A,vi a0.B,vi a0.N]]) (λy3 x E' W'=>x=.exit 0/\aq E' [(2,Pt g1),(5,(sv v2)),(6,vi y1)]/\Sep No w W' [ac (sv v2) 3 1 (D.int .i64) y3,.box g1 70 [vi a0.Op,vi a0.Dst,vi a0.A,vi a0.B,vi a0.N]]) hy2 ⟨sb z,s.tk [0,0]⟩ ?_) ?_
 ·intro s1 y4 E W h hI
  obtain ⟨hE,s⟩:=hI
  refine CW.sub hE ?_
  unfold kB at h
  refine .seq (.g (.q z (.q z (.nil ?_))))
  refine .cs z h ?_ ?_ <;> intro h
  ·refine .skip (bv h λy5 hy5 h=>?_)
   refine .seq (CW.via (R':=λx E' W'=>x=.normal/\aq E' [(2,Pt g1),(5,(sv v2)),(6,vi y1),(7,vi s1.1)]/\Sep No w W' [ac (sv v2) 3 1 (D.int .i64) y5,.box g1 70 [vi a0.Op,vi a0.Dst,vi a0.A,vi a0.B,vi a0.N]]) ?_ ?_)
   ·have h:=hy5
    refine .block (.g (.q z (.q z (bv h λx1 hx1 h=>.s (ixv s.lv hx1 u23 t3 z z z) z (.s (lde (RV.flat s.lv hx1 z) t3 z z z z z) z (.q z (.q z (.nil ?_))))))))
    refine .cs z h ?_ ?_ <;> intro h
    ·refine .region (.q z (.q z (.q z (bv h λx2 hx2 h=>.s (ixv s.lv hx2 u23 t3 z z z) z (bv h λr2 hr2 h=>.c (.sev hr2 hx2 s t3 z z z z z z ?_))))))
     intro W s
     refine .nil ?_
     obtain rfl:=o9 h
     exact ⟨z,sb z,s.tk [0,0]⟩
    refine .skip ?_
    cases h
    exact ⟨z,sb z,s.tk [0,0]⟩
   intro x E W hJ
   obtain ⟨rfl,hE,s⟩:=hJ
   refine ⟨_,hE.sub,?_⟩
   refine .region (.q z (.q z (.q z (.nil ?_))))
   cases h
   exact ⟨z,sb z,s.tk [0,0]⟩
  refine .exit ?_
  cases h
  exact ⟨by simp,z,sb z,s.tk [0,0]⟩
 intro x E W hJ
 obtain ⟨rfl,hE,s⟩:=hJ
 refine ⟨_,hE.sub,?_⟩
 refine .g (.q z (.q z (.q z (bv h λx3 hx3 h=>.s (ixv s.lv hx3 u23 t3 z z z) z (bv h λr3 hr3 h=>.c (.sev hr3 hx3 s t3 z z z z z z ?_))))))
 intro W s
 refine .nil (.seq (.g (.s (fa f70_0 z z z) z (.s (ld t3 s.p1 z z z z z) z (.q z (.nil ?_))))))
 refine .cs z h ?_ ?_ <;> intro h
 ·refine .region (.q z (.q z (.s (fa f70_2 z z z) z (.s (ld t3 s.p1 z z z z z) z (bv h λx4 hx4 h=>.s (ixv s.lv hx4 u23 t3 z z z) z (bv h λr4 hr4 h=>.c (.sev hr4 hx4 s t3 z z z z z z ?_)))))))
  intro W s
  obtain rfl:=o9 h
  exact .nil (.g (.q z (.qn z (.ret (aa v2 (rt z rn) z (s.tk [0]))))))
 obtain rfl:=o9 h
 exact .skip (.g (.q z (.qn z (.ret (aa v2 (rt z rn) z (s.tk [0]))))))
theorem vj {a0:List (List Int)} {a1:Int} {a2:List Int} {v_0:Hd} {v_2:Hd} {S:Nat->Prop} {w:World} {r:Bool×(List (List Int))} (h:gG a0 a1 a2=some r) (q_2:RV w (Old S w) (sv v_2) 3 1 (D.int .i64) a2) (hO:bu w [ac (sv v_0) 23 1 (λ(l:List Int)=>D.row 3 1 (l.map (D.int .i64))) a0] S) (hlt:∀ b,S b->b<w.heap.size):CL 282 #[sv v_0,vi a1,sv v_2] w (Ret S w (λs:Unit=>.bool r.1) (λs=>[ac (sv v_0) 23 1 (λ(l:List Int)=>D.row 3 1 (l.map (D.int .i64))) r.2])):=by
 unfold gG at h
 refine ao func282 z z ?_
 have s:=Sep.sm hO hlt
 refine .g (.qn z (.seq (.g (.q z (.q z (bv h λx1 hx1 h=>.s (ixv s.lv hx1 u230 t23 z z z) z ?_))))))
 obtain ⟨k1,s⟩:=Sep.ov s hx1
 obtain ⟨v1,k1,rfl,s⟩:=s.ow
 obtain ⟨rfl,s⟩:=s.oN
 refine .s (lde (s.p1.hcellsv) t23 z z z z z) z (.s (aE s.lv u23 z z) z (.q z (.nil ?_)))
 refine .cs z h ?_ ?_ <;> intro h
 ·refine .g (.q z (.q z (.c (.liv [] (D.int .i64) u23 t3 s z z z z ?_ z (λ_=>z)))))
  intro v2 W s
  refine .q z (bv h λr1 hr1 h=>.c (.av hr1 s (s.keep q_2) (λ_=>z) u23 t3 z z z ?_))
  intro v3 W s
  refine .s (ixh s.p2 hx1 u230 t23 z z z) z (.c (.sthv s.p2 t23 z z z ?_))
  intro W s
  refine .nil (.g (.qn z (.ret ?_)))
  have s:=Sep.gat (ds:=[.row 3 1 (r1.map (D.int .i64))]) (cs:=[sv v3]) (L1:=[ac (sv v3) 3 1 (D.int .i64) r1]) (.row (.nil)) (s.to [1,0,0])
  have s:Sep _ _ _ [ac (sv v_0) 23 1 (λ(l:List Int)=>D.row 3 1 (l.map (D.int .i64))) (a0.set (Int.toNat a1) r1),ac (sv v1) 3 1 (D.int .i64) x1]:=s.bv
  cases h
  exact aa () (rt z rn) z (s.tk [0])
 refine .skip (.g (.qn z (.seq (.g (.qn z (.block ?_))))))
 have s:=Sep.gat (ds:=[.row 3 1 (x1.map (D.int .i64))]) (cs:=[sv v1]) (L1:=[ac (sv v1) 3 1 (D.int .i64) x1]) (.row (.nil)) (s.to [0,0])
 have s:Sep _ _ _ [ac (sv v_0) 23 1 (λ(l:List Int)=>D.row 3 1 (l.map (D.int .i64))) a0]:=Sep.back0v hx1 s
 refine bv h λy1 hy1 h=>?_
 refine .via (.iter (λs1 E' W'=>aq E' [(0,(sv v_0)),(1,vi a1),(2,(sv v_2)),(7,.bool s1.1),(8,vi s1.2.1)]/\Sep S w W' [ac (sv v_0) 23 1 (λ(l:List Int)=>D.row 3 1 (l.map (D.int .i64))) s1.2.2]) (λy2 x E' W'=>x=.exit 0/\aq E' [(7,.bool y2.1)]/\Sep S w W' [ac (sv v_0) 23 1 (λ(l:List Int)=>D.row 3 1 (l.map (D.int .i64))) y2.2]) hy1 ⟨sb z,s.tk [0]⟩ ?_) ?_
 ·intro s1 y3 E W h hI
  obtain ⟨hE,s⟩:=hI
  refine CW.sub hE ?_
  unfold kC at h
  refine .seq (.g (.q z (.q z (.nil ?_))))
  refine .cs z h ?_ ?_ <;> intro h
  ·refine .skip (bv h λy4 hy4 h=>?_)
   refine .seq (CW.via (R':=λx E' W'=>x=.normal/\aq E' [(0,(sv v_0)),(1,vi a1),(2,(sv v_2)),(7,.bool y4.1),(8,vi s1.2.1)]/\Sep S w W' [ac (sv v_0) 23 1 (λ(l:List Int)=>D.row 3 1 (l.map (D.int .i64))) y4.2]) ?_ ?_)
   ·have h:=hy4
    refine .block (.seq (bv h λx2 hx2 h=>?_))
    obtain ⟨k2,s⟩:=Sep.ov s hx2
    obtain ⟨v4,k2,rfl,s⟩:=s.ow
    obtain ⟨rfl,s⟩:=s.oN
    refine bv h λx6 hx6 h=>bv h λb2 hb2 h=>?_
    refine .via (R':=λx E' W'=>x=.normal/\aq E' [(0,(sv v_0)),(1,vi a1),(2,(sv v_2)),(7,.bool s1.1),(8,vi s1.2.1),(47,.bool b2)]/\Sep S w W' [ac (sv v_0) 23 1 (λ(l:List Int)=>D.row 3 1 (l.map (D.int .i64))) s1.2.2]) ?_ ?_
    ·refine .rk 23 s [0,0] T.mix ?_
     intro W s
     have t:=s.to [0,0]
     refine .tp' 0 z z t (.tp' 1 z z t (.ts' 2 z (λW t=>ixh t.p1 hx2 u230 t23 z z z) t z (.ts' 3 z (λW t=>lde (t.p1.hcellsv) t23 z z z z z) t z (.tp' 4 z z t (.ts' 5 z (λW t=>ixv s.lv hx6 u23 t3 z z z) t z (.ts' 6 z (λW t=>lde (RV.flat t.lv hx6 z) t3 z z z z z) t z (.tp' 7 z z t (.tp' 8 z z t (.tp' 9 z z t (.both (x6 !=s1.2.1) (λb=>?_) (λb=>?_)))))))))))
     ·have hg2:=b
      have h_b2:=aK b hb2
      refine .t1g 10 z hg2 (λW t=>pr z) t (.t1g 11 z hg2 (λW t=>pr z) t (.t1g 12 z hg2 (λW t=>ixh t.p1 hx2 u230 t23 z z z) t (.t1g 13 z hg2 (λW t=>lde (t.p1.hcellsv) t23 z z z z z) t (.t1g 14 z hg2 (λW t=>pr z) t (bv h_b2 λx7 hx7 h_b2=>.t1g 15 z hg2 (λW t=>ixv s.lv hx7 u23 t3 z z z) t (.t1g 16 z hg2 (λW t=>lde (RV.flat t.lv hx7 z) t3 z z z z z) t (.t1g 17 z hg2 (λW t=>pr z) t (.t1g 18 z hg2 (λW t=>pr z) t (bv h_b2 λx8 hx8 h_b2=>.t1g 19 z hg2 (λW t=>ixv (s.keep q_2) hx8 u23 t3 z z z) t (.t1g 20 z hg2 (λW t=>lde (RV.flat (t.keep q_2) hx8 z) t3 z z z z z) t (.t1g 21 z hg2 (λW t=>pr z) t (.ts' 22 z (λW t=>pkt hg2 z z z) t z (.eqv 47 z (nk h_b2) (.done ?_))) (by kernel_rfl) z z) (by kernel_rfl) z z) (by kernel_rfl) z z) (by kernel_rfl) z z) (by kernel_rfl) z z) (by kernel_rfl) z z) (by kernel_rfl) z z) (by kernel_rfl) z z) (by kernel_rfl) z z) (by kernel_rfl) z z) (by kernel_rfl) z z) (by kernel_rfl) z z
      have s:=Sep.gat (ds:=[.row 3 1 (x2.map (D.int .i64))]) (cs:=[sv v4]) (L1:=[ac (sv v4) 3 1 (D.int .i64) x2]) (.row (.nil)) (s.to [0,0])
      have s:Sep _ _ _ [ac (sv v_0) 23 1 (λ(l:List Int)=>D.row 3 1 (l.map (D.int .i64))) s1.2.2]:=Sep.back0v hx2 s
      exact ⟨z,sb z,s.tk [0]⟩
     refine .off 10 z b t (.off 11 z b t (.off 12 z b t (.off 13 z b t (.off 14 z b t (.off 15 z b t (.off 16 z b t (.off 17 z b t (.off 18 z b t (.off 19 z b t (.off 20 z b t (.off 21 z b t (.ts' 22 z (λW t=>pkf b z z z) t z (.eqv 47 z (nk (aL b hb2)) (.done ?_))) (by kernel_rfl) z z) (by kernel_rfl) z z) (by kernel_rfl) z z) (by kernel_rfl) z z) (by kernel_rfl) z z) (by kernel_rfl) z z) (by kernel_rfl) z z) (by kernel_rfl) z z) (by kernel_rfl) z z) (by kernel_rfl) z z) (by kernel_rfl) z z) (by kernel_rfl) z z
     have s:=Sep.gat (ds:=[.row 3 1 (x2.map (D.int .i64))]) (cs:=[sv v4]) (L1:=[ac (sv v4) 3 1 (D.int .i64) x2]) (.row (.nil)) (s.to [0,0])
     have s:Sep _ _ _ [ac (sv v_0) 23 1 (λ(l:List Int)=>D.row 3 1 (l.map (D.int .i64))) s1.2.2]:=Sep.back0v hx2 s
     exact ⟨z,sb z,s.tk [0]⟩
    intro x E W hJ
    obtain ⟨rfl,hE,s⟩:=hJ
    refine ⟨_,hE.sub,?_⟩
    refine .cs z h ?_ ?_ <;> intro h
    ·refine .g (.q z (.q z (bv h λx9 hx9 h=>.s (ixv s.lv hx9 u230 t23 z z z) z ?_)))
     obtain ⟨k3,s⟩:=Sep.ov s hx9
     obtain ⟨v5,k3,rfl,s⟩:=s.ow
     obtain ⟨rfl,s⟩:=s.oN
     refine .s (lde (s.p1.hcellsv) t23 z z z z z) z (.q z (.q z (bv h λx10 hx10 h=>.s (ixv s.lv hx10 u23 t3 z z z) z (bv h λr2 hr2 h=>.c (.sev hr2 hx10 s t3 z z z z z z ?_)))))
     intro W s
     refine .nil (.region (.q z (.nil ?_)))
     have s:=Sep.gat (ds:=[.row 3 1 (r2.map (D.int .i64))]) (cs:=[sv v5]) (L1:=[ac (sv v5) 3 1 (D.int .i64) r2]) (.row (.nil)) (s.to [0,0])
     have s:Sep _ _ _ [ac (sv v_0) 23 1 (λ(l:List Int)=>D.row 3 1 (l.map (D.int .i64))) (s1.2.2.set (Int.toNat a1) r2)]:=s.bv
     cases h
     exact ⟨z,sb z,s.tk [0]⟩
    refine .skip ?_
    cases h
    exact ⟨z,sb z,s.tk [0]⟩
   intro x E W hJ
   obtain ⟨rfl,hE,s⟩:=hJ
   refine ⟨_,hE.sub,?_⟩
   refine .region (.q z (.q z (.q z (.nil ?_))))
   cases h
   exact ⟨z,sb z,s.tk [0]⟩
  refine .exit ?_
  cases h
  exact ⟨by simp,z,sb z,s.tk [0]⟩
 intro x E W hJ
 obtain ⟨rfl,hE,s⟩:=hJ
 refine ⟨_,hE.sub,?_⟩
 cases h
 exact .g (.q z (.qn z (.ret (aa () (rt z rn) z (s.tk [0])))))
theorem vk {a0:List ab} {a1:List (List Int)} {v_0:Hd} {v_1:Hd} {S:Nat->Prop} {w:World} {r:Bool×(List (List Int))} (h:gH a0 a1=some r) (q_0:RV w (Old S w) (sv v_0) 70 5 ah a0) (hO:bu w [ac (sv v_1) 23 1 (λ(l:List Int)=>D.row 3 1 (l.map (D.int .i64))) a1] S) (hlt:∀ b,S b->b<w.heap.size):CL 268 #[sv v_0,sv v_1] w (Ret S w (λs:Unit=>.bool r.1) (λs=>[ac (sv v_1) 23 1 (λ(l:List Int)=>D.row 3 1 (l.map (D.int .i64))) r.2])):=by
 unfold gH at h
 refine ao func268 z z ?_
 have s:=Sep.sm hO hlt
 refine .g (.qn z (.g (.qn z (.seq (.g (.qn z (.block (bv h λy1 hy1 h=>?_))))))))
 refine .via (.iter (λs1 E' W'=>aq E' [(0,(sv v_0)),(1,(sv v_1)),(5,.bool s1.1),(6,vi s1.2.1)]/\Sep S w W' [ac (sv v_1) 23 1 (λ(l:List Int)=>D.row 3 1 (l.map (D.int .i64))) s1.2.2]) (λy2 x E' W'=>x=.exit 0/\aq E' [(5,.bool y2.1)]/\Sep S w W' [ac (sv v_1) 23 1 (λ(l:List Int)=>D.row 3 1 (l.map (D.int .i64))) y2.2]) hy1 ⟨sb z,s.tk [0]⟩ ?_) ?_
 ·intro s1 y3 E W h hI
  obtain ⟨hE,s⟩:=hI
  refine CW.sub hE ?_
  unfold kE at h
  refine .seq (.g (.q z (.q z (.s (aE (s.keep q_0) u38 z z) z (.q z (.nil ?_))))))
  refine .cs z h ?_ ?_ <;> intro h
  ·refine .skip (bv h λy4 hy4 h=>?_)
   refine .seq (CW.via (R':=λx E' W'=>x=.normal/\aq E' [(0,(sv v_0)),(1,(sv v_1)),(5,.bool y4.1),(6,vi s1.2.1)]/\Sep S w W' [ac (sv v_1) 23 1 (λ(l:List Int)=>D.row 3 1 (l.map (D.int .i64))) y4.2]) ?_ ?_)
   ·have h:=hy4
    refine .block (.seq (.g (.q z (.q z (bv h λx1 hx1 h=>.s (ixv s.lv hx1 u230 t23 z z z) z ?_)))))
    obtain ⟨k1,s⟩:=Sep.ov s hx1
    obtain ⟨v1,k1,rfl,s⟩:=s.ow
    obtain ⟨rfl,s⟩:=s.oN
    refine .s (lde (s.p1.hcellsv) t23 z z z z z) z (.s (aE s.lv u23 z z) z (.q z (.nil ?_)))
    refine .cs z h ?_ ?_ <;> intro h
    ·refine .exit ?_
     have s:=Sep.gat (ds:=[.row 3 1 (x1.map (D.int .i64))]) (cs:=[sv v1]) (L1:=[ac (sv v1) 3 1 (D.int .i64) x1]) (.row (.nil)) (s.to [0,0])
     have s:Sep _ _ _ [ac (sv v_1) 23 1 (λ(l:List Int)=>D.row 3 1 (l.map (D.int .i64))) s1.2.2]:=Sep.back0v hx1 s
     cases h
     exact ⟨z,sb z,s.tk [0]⟩
    refine .skip (.g (.q z (.q z (bv h λy5 hy5 h=>.c (.cV s func251 (l8 hy5 (s.keep q_0)) z z ?_)))))
    intro v2 W s
    refine .qn z (.seq (.rk 10 s [0,0,0] T.mix ?_))
    intro W s
    have t:=s.to [0,0,0]
    refine .tp' 0 z z t (.tp' 1 z z t (bv h λx2 hx2 h=>.ts' 2 z (λW t=>ixv (s.keep q_0) hx2 u38 t70 z z z) t z (.ts' 3 z (λW t=>lde (RV.flat (t.keep q_0) hx2 z) t70 z z z z z) t z (.tp' 4 z z t (.tp' 5 z z t (.ts' 6 z (λW t=>ixh t.p2 hx1 u230 t23 z z z) t z (.ts' 7 z (λW t=>lde (t.p2.hcellsv) t23 z z z z z) t z (bv h λy6 hy6 h=>.by1 8 z (.cV s func281 (vh hy6 s.p1.lv) z z ?_)))))))))
    intro v3 W s
    refine s.an [1,1,1] λt=>.tp' 9 z z t (.done (.g (.qn z (.block ?_))))
    have s:=Sep.gat (ds:=[.row 3 1 (x1.map (D.int .i64))]) (cs:=[sv v1]) (L1:=[ac (sv v1) 3 1 (D.int .i64) x1]) (.row (.nil)) (s.to [2,2,0,0])
    have s:Sep _ _ _ [ac (sv v_1) 23 1 (λ(l:List Int)=>D.row 3 1 (l.map (D.int .i64))) s1.2.2,ac (sv v3) 3 1 (D.int .i64) y6,ac (sv v2) 3 1 (D.int .i64) y5]:=Sep.back0v hx1 s
    refine bv h λy7 hy7 h=>?_
    refine .via (.iter (λs2 E' W'=>aq E' [(0,(sv v_0)),(1,(sv v_1)),(5,.bool s2.1),(6,vi s1.2.1),(7,(sv v2)),(8,(sv v3)),(9,vi s2.2.1)]/\Sep S w W' [ac (sv v_1) 23 1 (λ(l:List Int)=>D.row 3 1 (l.map (D.int .i64))) s2.2.2,ac (sv v3) 3 1 (D.int .i64) y6,ac (sv v2) 3 1 (D.int .i64) y5]) (λy8 x E' W'=>x=.exit 2/\aq E' [(0,(sv v_0)),(1,(sv v_1)),(5,.bool y8.1),(6,vi s1.2.1)]/\Sep S w W' [ac (sv v_1) 23 1 (λ(l:List Int)=>D.row 3 1 (l.map (D.int .i64))) y8.2,ac (sv v3) 3 1 (D.int .i64) y6,ac (sv v2) 3 1 (D.int .i64) y5]) hy7 ⟨sb z,s.tk [0,0,0]⟩ ?_) ?_
    ·intro s2 y9 E W h hI
     obtain ⟨hE,s⟩:=hI
     refine CW.sub hE ?_
     unfold kD at h
     refine .seq (.g (.q z (.q z (.s (aE s.p2.lv u23 z z) z (.qn z (.cond z (λb=>?_) (λb=>?_)))))))
     ·have h:=aK b h
      refine .skip (bv h λy10 hy10 h=>?_)
      refine .seq (CW.via (R':=λx E' W'=>x=.normal/\aq E' [(0,(sv v_0)),(1,(sv v_1)),(5,.bool y10.1),(6,vi s1.2.1),(7,(sv v2)),(8,(sv v3)),(9,vi s2.2.1)]/\Sep S w W' [ac (sv v_1) 23 1 (λ(l:List Int)=>D.row 3 1 (l.map (D.int .i64))) y10.2,ac (sv v3) 3 1 (D.int .i64) y6,ac (sv v2) 3 1 (D.int .i64) y5]) ?_ ?_)
      ·have h:=hy10
       refine .block (.g (.q z (.q z (.q z (bv h λx3 hx3 h=>.s (ixv s.p2.lv hx3 u23 t3 z z z) z (.s (lde (RV.flat s.p2.lv hx3 z) t3 z z z z z) z (.q z (bv h λy11 hy11 h=>.c (.cS (L0:=[ac (sv v_1) 23 1 (λ(l:List Int)=>D.row 3 1 (l.map (D.int .i64))) s2.2.2]) s func282 (λS h1 h2 h3=>(vj hy11 (h3.rdv (k:=0) z) h2 (zz h1))) z z ?_)))))))))
       rintro ⟨⟩ W s
       refine .nil ?_
       refine .cs z h ?_ ?_ <;> intro h
       ·refine .region (.q z (.nil ?_))
        cases h
        exact ⟨z,sb z,s.tk [0,0,0]⟩
       refine .skip ?_
       cases h
       exact ⟨z,sb z,s.tk [0,0,0]⟩
      intro x E W hJ
      obtain ⟨rfl,hE,s⟩:=hJ
      refine ⟨_,hE.sub,?_⟩
      refine .region (.q z (.q z (.q z (.nil ?_))))
      cases h
      exact ⟨z,sb z,s.tk [0,0,0]⟩
     have h:=aL b h
     refine .exit ?_
     cases h
     exact ⟨by simp,z,sb z,s.tk [0,0,0]⟩
    intro x E W hJ
    obtain ⟨rfl,hE,s⟩:=hJ
    refine ⟨_,hE.sub,?_⟩
    cases h
    exact ⟨z,sb z,s.tk [0]⟩
   intro x E W hJ
   obtain ⟨rfl,hE,s⟩:=hJ
   refine ⟨_,hE.sub,?_⟩
   refine .region (.q z (.q z (.q z (.nil ?_))))
   cases h
   exact ⟨z,sb z,s.tk [0]⟩
  refine .exit ?_
  cases h
  exact ⟨by simp,z,sb z,s.tk [0]⟩
 intro x E W hJ
 obtain ⟨rfl,hE,s⟩:=hJ
 refine ⟨_,hE.sub,?_⟩
 cases h
 exact .g (.q z (.qn z (.ret (aa () (rt z rn) z (s.tk [0])))))
theorem vl {a0:List ab} {v_0:Hd} {w:World} {r:(List (List Int))} (h:eR a0=some r) (q_0:RO w v_0 70 5 ah a0):CL 242 #[sv v_0] w (Ret No w (λs:Hd=>(sv s)) (λs=>[ac (sv s) 23 1 (λ(l:List Int)=>D.row 3 1 (l.map (D.int .i64))) r])):=by
 unfold eR at h
 refine ao func242 z z ?_
 have s:=Sep.start w
 refine .g (.qn z (.g (.c (.lg (L1:=[]) [] (λ(l:List Int)=>D.row 3 1 (l.map (D.int .i64))) u230 t23 (s.to []) z z z (.nil) ?_ z (λ_=>z)))))
 intro v1 W s
 refine .qn z (.seq (.g (.q z (bv h λy1 hy1 h=>.c (.cO s func106 (bp hy1 (s.keep q_0)) z z ?_)))))
 intro W s
 refine .qn z (.cond z (λb=>?_) (λb=>?_))
 ·have h:=aK b h
  cases h
  exact .g (.q z (.qn z (.ret (aa v1 (rt z rn) z (s.tk [0])))))
 have h:=aL b h
 refine .skip (.seq (.g (.qn z (.block (bv h λy2 hy2 h=>?_)))))
 refine .via (.iter (λs1 E' W'=>∃ (v4:Hd),aq E' [(0,(sv v_0)),(3,(sv v4)),(4,vi s1.2)]/\Sep No w W' [ac (sv v4) 23 1 (λ(l:List Int)=>D.row 3 1 (l.map (D.int .i64))) s1.1]) (λy3 x E' W'=>x=.exit 0/\∃ (v5:Hd),aq E' [(0,(sv v_0)),(3,(sv v5))]/\Sep No w W' [ac (sv v5) 23 1 (λ(l:List Int)=>D.row 3 1 (l.map (D.int .i64))) y3]) hy2 ⟨v1,sb z,s.tk [0]⟩ ?_) ?_
 ·intro s1 y4 E W h hI
  obtain ⟨v3,hE,s⟩:=hI
  refine CW.sub hE ?_
  unfold kF at h
  refine .seq (.g (.q z (.q z (.s (aE (s.keep q_0) u38 z z) z (.q z (.nil ?_))))))
  refine .cs z h ?_ ?_ <;> intro h
  ·refine .skip (.seq (.block (.region (.q z (.c (.liv [] (D.int .i64) u23 t3 s z z z z ?_ z (λ_=>z)))))))
   intro v6 W s
   refine .c (.lg (L1:=[ac (sv v6) 3 1 (D.int .i64) []]) [[]] (λ(l:List Int)=>D.row 3 1 (l.map (D.int .i64))) u230 t23 (s.to [0,0]) z z z (.row (.nil)) ?_ z (λ_=>z))
   intro v7 W s
   refine bv h λr1 hr1 h=>.c (.appv hr1 (s.to [1,0]) u230 t23 z z z ?_)
   intro v8 W s
   refine .qn z (.region (.q z (.q z (.q z (.nil ?_)))))
   cases h
   exact ⟨z,v8,sb z,s.tk [0]⟩
  refine .exit ?_
  cases h
  exact ⟨by simp,z,v3,sb z,s.tk [0]⟩
 intro x E W hJ
 obtain ⟨rfl,v9,hE,s⟩:=hJ
 refine ⟨_,hE.sub,?_⟩
 refine .g (.q z (bv h λy5 hy5 h=>.c (.cV s func267 (qg hy5) z z ?_)))
 intro v10 W s
 refine bv h λx1 hx1 h=>.s (ixv s.p1.lv hx1 u230 t23 z z z) z ?_
 obtain ⟨k1,s⟩:=Sep.ov s.p1 hx1
 obtain ⟨v11,k1,rfl,s⟩:=s.ow
 obtain ⟨rfl,s⟩:=s.oN
 refine .c (.sthv s.p1 t23 z z z ?_)
 intro W s
 refine .nil (.seq (.block ?_))
 have s:=Sep.gat (ds:=[.row 3 1 (y5.map (D.int .i64))]) (cs:=[sv v10]) (L1:=[ac (sv v10) 3 1 (D.int .i64) y5]) (.row (.nil)) (s.to [2,0,0])
 have s:Sep _ _ _ [ac (sv v9) 23 1 (λ(l:List Int)=>D.row 3 1 (l.map (D.int .i64))) (y2.set (Int.toNat 0) y5),ac (sv v11) 3 1 (D.int .i64) x1]:=s.bv
 refine bv h λy6 hy6 h=>?_
 refine .via (.iter (λs2 E' W'=>aq E' [(0,(sv v_0)),(3,(sv v9))]/\Sep No w W' [ac (sv v9) 23 1 (λ(l:List Int)=>D.row 3 1 (l.map (D.int .i64))) s2,ac (sv v11) 3 1 (D.int .i64) x1]) (λy7 x E' W'=>x=.exit 2/\aq E' [(0,(sv v_0)),(3,(sv v9))]/\Sep No w W' [ac (sv v9) 23 1 (λ(l:List Int)=>D.row 3 1 (l.map (D.int .i64))) y7,ac (sv v11) 3 1 (D.int .i64) x1]) hy6 ⟨sb z,s.tk [0,0]⟩ ?_) ?_
 ·intro s2 y8 E W h hI
  obtain ⟨hE,s⟩:=hI
  refine CW.sub hE ?_
  unfold kG at h
  refine .seq (.g (.q z (.q z (bv h λy9 hy9 h=>.c (.cS (L0:=[ac (sv v9) 23 1 (λ(l:List Int)=>D.row 3 1 (l.map (D.int .i64))) s2]) s func268 (λS h1 h2 h3=>(vk hy9 (s.ks q_0 h1) h2 (zz h1))) z z ?_)))))
  rintro ⟨⟩ W s
  refine .nil ?_
  refine .cs z h ?_ ?_ <;> intro h
  ·refine .skip (.block (.skip ?_))
   cases h
   exact ⟨z,sb z,s.tk [0,0]⟩
  refine .exit ?_
  cases h
  exact ⟨by simp,z,sb z,s.tk [0,0]⟩
 intro x E W hJ
 obtain ⟨rfl,hE,s⟩:=hJ
 refine ⟨_,hE.sub,?_⟩
 refine .seq (.g (.qn z (.block (bv h λy10 hy10 h=>?_))))
 refine .via (.iter (λs3 E' W'=>aq E' [(0,(sv v_0)),(3,(sv v9)),(5,vi s3.1)]/\Sep No w W' [ac (sv v9) 23 1 (λ(l:List Int)=>D.row 3 1 (l.map (D.int .i64))) s3.2,ac (sv v11) 3 1 (D.int .i64) x1]) (λy11 x E' W'=>x=.exit 4/\aq E' [(3,(sv v9))]/\Sep No w W' [ac (sv v9) 23 1 (λ(l:List Int)=>D.row 3 1 (l.map (D.int .i64))) y11,ac (sv v11) 3 1 (D.int .i64) x1]) hy10 ⟨sb z,s.tk [0,0]⟩ ?_) ?_
 ·intro s3 y12 E W h hI
  obtain ⟨hE,s⟩:=hI
  refine CW.sub hE ?_
  unfold kH at h
  refine .seq (.g (.q z (.q z (.s (aE (s.keep q_0) u38 z z) z (.q z (.nil ?_))))))
  refine .cs z h ?_ ?_ <;> intro h
  ·refine .skip (bv h λy13 hy13 h=>?_)
   refine .seq (CW.via (R':=λx E' W'=>x=.normal/\aq E' [(0,(sv v_0)),(3,(sv v9)),(5,vi s3.1)]/\Sep No w W' [ac (sv v9) 23 1 (λ(l:List Int)=>D.row 3 1 (l.map (D.int .i64))) y13,ac (sv v11) 3 1 (D.int .i64) x1]) ?_ ?_)
   ·have h:=hy13
    refine .block (.g (.q z (.q z (bv h λx2 hx2 h=>.s (ixv s.lv hx2 u230 t23 z z z) z ?_))))
    obtain ⟨k2,s⟩:=Sep.ov s hx2
    obtain ⟨v12,k2,rfl,s⟩:=s.ow
    obtain ⟨rfl,s⟩:=s.oN
    refine .s (lde (s.p1.hcellsv) t23 z z z z z) z (.s (aE s.lv u23 z z) z (.q z (.nil ?_)))
    refine .cs z h ?_ ?_ <;> intro h
    ·refine .region (.q z (.q z (bv h λy14 hy14 h=>.c (.cV s func267 (qg hy14) z z ?_))))
     intro v13 W s
     refine .s (ixh s.p2 hx2 u230 t23 z z z) z (.c (.sthv s.p2 t23 z z z ?_))
     intro W s
     refine .nil ?_
     have s:=Sep.gat (ds:=[.row 3 1 (y14.map (D.int .i64))]) (cs:=[sv v13]) (L1:=[ac (sv v13) 3 1 (D.int .i64) y14]) (.row (.nil)) (s.to [1,0,0,0])
     have s:Sep _ _ _ [ac (sv v9) 23 1 (λ(l:List Int)=>D.row 3 1 (l.map (D.int .i64))) (s3.2.set (Int.toNat s3.1) y14),ac (sv v12) 3 1 (D.int .i64) x2,ac (sv v11) 3 1 (D.int .i64) x1]:=s.bv
     cases h
     exact ⟨z,sb z,s.tk [0,1]⟩
    refine .skip ?_
    have s:=Sep.gat (ds:=[.row 3 1 (x2.map (D.int .i64))]) (cs:=[sv v12]) (L1:=[ac (sv v12) 3 1 (D.int .i64) x2]) (.row (.nil)) (s.to [0,0,0])
    have s:Sep _ _ _ [ac (sv v9) 23 1 (λ(l:List Int)=>D.row 3 1 (l.map (D.int .i64))) s3.2,ac (sv v11) 3 1 (D.int .i64) x1]:=Sep.back0v hx2 s
    cases h
    exact ⟨z,sb z,s.tk [0,0]⟩
   intro x E W hJ
   obtain ⟨rfl,hE,s⟩:=hJ
   refine ⟨_,hE.sub,?_⟩
   refine .region (.q z (.q z (.q z (.nil ?_))))
   cases h
   exact ⟨z,sb z,s.tk [0,0]⟩
  refine .exit ?_
  cases h
  exact ⟨by simp,z,sb z,s.tk [0,0]⟩
 intro x E W hJ
 obtain ⟨rfl,hE,s⟩:=hJ
 refine ⟨_,hE.sub,?_⟩
 obtain rfl:=o9 h
 exact .g (.q z (.qn z (.ret (aa v9 (rt z rn) z (s.tk [0])))))
theorem wc {a0:ab} {a1:List Int} {v_1:Hd} {w:World} {r:ab} (h:iU a0 a1=some r) (q_1:RO w v_1 3 1 (D.int .i64) a1):CL 243 #[.agg #[vi a0.Op,vi a0.Dst,vi a0.A,vi a0.B,vi a0.N],sv v_1] w (RU w (.agg #[vi r.Op,vi r.Dst,vi r.A,vi r.B,vi r.N])):=by
 unfold iU at h
 refine ao func243 z z ?_
 have s:=Sep.start w
 refine .g (.c (.box s z z ?_))
 intro g1 W s
 refine .c (.alloc t70 s ?_)
 intro g2 W s
 refine .nil (.seq (.g (.s (fa f70_0 z z z) z (.s (ld t3 s.p1 z z z z z) z (.nil (.block (bv h λy1 hy1 h=>?_)))))))
 refine .seq (CW.via (R':=λx E' W'=>x=.normal/\aq E' [(1,(sv v_1)),(2,Pt g1),(4,Pt g2),(6,vi a0.Op),(7,.bool y1)]/\Sep No w W' [.box g2 70 [vi 0,vi 0,vi 0,vi 0,vi 0],.box g1 70 [vi a0.Op,vi a0.Dst,vi a0.A,vi a0.B,vi a0.N]]) ?_ ?_)
 ·have h:=hy1
  refine .g (.q z (.q z (.nil ?_)))
  refine .cs z h ?_ ?_ <;> intro h
  ·refine .skip ?_
   cases h
   exact ⟨z,sb z,s.tk [0,0]⟩
  refine .g (.q z (.q z (.nil ?_)))
  refine .cs z h ?_ ?_ <;> intro h
  ·refine .skip ?_
   cases h
   exact ⟨z,sb z,s.tk [0,0]⟩
  refine .g (.q z (.q z (.nil ?_)))
  refine .cs z h ?_ ?_ <;> intro h
  ·refine .skip ?_
   cases h
   exact ⟨z,sb z,s.tk [0,0]⟩
  refine .region (.q z (.q z (.nil ?_)))
  cases h
  exact ⟨z,sb z,s.tk [0,0]⟩
 intro x E W hJ
 obtain ⟨rfl,hE,s⟩:=hJ
 refine ⟨_,hE.sub,?_⟩
 refine .cs z h ?_ ?_ <;> intro h
 ·refine .region (.q z (.s (fa f70_2 z z z) z (.s (ld t3 s.p1 z z z z z) z (bv h λx1 hx1 h=>.s (ixv (s.keep q_1) hx1 u23 t3 z z z) z (.s (lde (RV.flat (s.keep q_1) hx1 z) t3 z z z z z) z (.s (fa f70_2 z z z) z (.c (.st t3 s.p1 z z z ?_))))))))
  intro W s
  refine .nil (.g (.s (ld t70 s z z z z z) z (.c (.st t70 s.p1 z z z ?_))))
  intro W s
  cases h
  exact .nil (.ret (aa () (rc s t70 z rn z z) z (s.to [])))
 refine .g (.q z (.q z (.nil ?_)))
 refine .cs z h ?_ ?_ <;> intro h
 ·refine .g (.q z (.s (fa f70_2 z z z) z (.s (ld t3 s.p1 z z z z z) z (bv h λx2 hx2 h=>.s (ixv (s.keep q_1) hx2 u23 t3 z z z) z (.s (lde (RV.flat (s.keep q_1) hx2 z) t3 z z z z z) z (.s (fa f70_2 z z z) z (.c (.st t3 s.p1 z z z ?_))))))))
  intro W s
  refine .nil (.region (.q z (.s (fa f70_3 z z z) z (.s (ld t3 s z z z z z) z (bv h λx3 hx3 h=>.s (ixv (s.keep q_1) hx3 u23 t3 z z z) z (.s (lde (RV.flat (s.keep q_1) hx3 z) t3 z z z z z) z (.s (fa f70_3 z z z) z (.c (.st t3 s z z z ?_)))))))))
  intro W s
  refine .nil (.g (.s (ld t70 s z z z z z) z (.c (.st t70 s.p1 z z z ?_))))
  intro W s
  cases h
  exact .nil (.ret (aa () (rc s t70 z rn z z) z (s.to [])))
 refine .skip (.g (.s (ld t70 s.p1 z z z z z) z (.c (.st t70 s z z z ?_))))
 intro W s
 obtain rfl:=o9 h
 exact .nil (.ret (aa () (rc s t70 z rn z z) z (s.to [])))
theorem vm {a0:List ab} {v_0:Hd} {w:World} {r:(List ab)×Bool} (h:gI a0=some r) (q_0:RO w v_0 70 5 ah a0):CL 197 #[sv v_0] w (Ret No w (λs:Hd=>.tuple #[sv s,.bool r.2]) (λs=>[ac (sv s) 70 5 ah r.1])):=by
 unfold gI at h
 refine ao func197 z z ?_
 have s:=Sep.start w
 refine .g (.q z (.qn z (.g (.c (.liv [] ah u38 t70 s z z z z ?_ z (λ_=>z))))))
 intro v1 W s
 refine .qn z (.seq (.g (.q z (bv h λy1 hy1 h=>.c (.cO s func106 (bp hy1 (s.keep q_0)) z z ?_)))))
 intro W s
 refine .q z (.nil ?_)
 refine .cs z h ?_ ?_ <;> intro h
 ·cases h
  exact .g (.q z (.q z (.qn z (.ret (aa (vs:=[_,_]) v1 (rt z (rt z rn)) z (s.tk [0]))))))
 refine .skip (.g (.q z (bv h λy2 hy2 h=>.c (.cV s func242 (vl hy2 (s.keep q_0)) z z ?_))))
 intro v2 W s
 refine .qn z (.seq (.g (.qn z (.block (bv h λy3 hy3 h=>?_)))))
 refine .via (.iter (λs1 E' W'=>∃ (v5:Hd),aq E' [(0,(sv v_0)),(4,(sv v5)),(5,(sv v2)),(6,vi s1.2)]/\Sep No w W' [ac (sv v2) 23 1 (λ(l:List Int)=>D.row 3 1 (l.map (D.int .i64))) y2,ac (sv v5) 70 5 ah s1.1]) (λy4 x E' W'=>x=.exit 0/\∃ (v6:Hd),aq E' [(4,(sv v6))]/\Sep No w W' [ac (sv v2) 23 1 (λ(l:List Int)=>D.row 3 1 (l.map (D.int .i64))) y2,ac (sv v6) 70 5 ah y4]) hy3 ⟨v1,sb z,s.tk [0,0]⟩ ?_) ?_
 ·intro s1 y5 E W h hI
  obtain ⟨v4,hE,s⟩:=hI
  refine CW.sub hE ?_
  unfold du at h
  refine .seq (.g (.q z (.q z (.s (aE (s.keep q_0) u38 z z) z (.q z (.nil ?_))))))
  refine .cs z h ?_ ?_ <;> intro h
  ·refine .skip (.seq (.block (bv h λx1 hx1 h=>?_)))
   obtain ⟨k1,s⟩:=Sep.ov s hx1
   obtain ⟨v7,k1,rfl,s⟩:=s.ow
   obtain ⟨rfl,s⟩:=s.oN
   refine .rk 13 s [0,0] T.mix ?_
   intro W s
   have t:=s.to [0,0]
   refine .tp' 0 z z t (.tp' 1 z z t (.tp' 2 z z t (bv h λx3 hx3 h=>.ts' 3 z (λW t=>ixv (s.keep q_0) hx3 u38 t70 z z z) t z (.ts' 4 z (λW t=>lde (RV.flat (t.keep q_0) hx3 z) t70 z z z z z) t z (.tp' 5 z z t (.tp' 6 z z t (.ts' 7 z (λW t=>ixh t.p1 hx1 u230 t23 z z z) t z (.ts' 8 z (λW t=>lde (t.p1.hcellsv) t23 z z z z z) t z (bv h λy7 hy7 h=>.by1 9 z (.cO s func243 (wc hy7 s.lv) z z ?_))))))))))
   intro W s
   refine s.an [0,0] λt=>.by1 10 z (.liv [y7] ah u38 t70 s z z z z ?_ z (λ_=>z))
   intro v10 W s
   refine s.an [1,1] λt=>bv h λr2 hr2 h=>?_
   have hT0:=s.p3
   refine .by1 11 z (.av hr2 hT0 hT0.p1.lv (λ_=>z) u38 t70 z z z ?_)
   intro v11 W s
   refine s.an [2,2] λt=>.tp' 12 z z t (.done (.region (.q z (.q z (.q z (.nil ?_))))))
   have s:=Sep.gat (ds:=[.row 3 1 (x1.map (D.int .i64))]) (cs:=[sv v7]) (L1:=[ac (sv v7) 3 1 (D.int .i64) x1]) (.row (.nil)) (s.to [2,2,0,0])
   have s:Sep _ _ _ [ac (sv v2) 23 1 (λ(l:List Int)=>D.row 3 1 (l.map (D.int .i64))) y2,ac (sv v11) 70 5 ah r2,ac (sv v10) 70 5 ah [y7]]:=Sep.back0v hx1 s
   cases h
   exact ⟨z,v11,sb z,s.tk [0,0]⟩
  refine .exit ?_
  cases h
  exact ⟨by simp,z,v4,sb z,s.tk [0,0]⟩
 intro x E W hJ
 obtain ⟨rfl,v12,hE,s⟩:=hJ
 refine ⟨_,hE.sub,?_⟩
 cases h
 exact .g (.q z (.q z (.qn z (.ret (aa (vs:=[_,_]) v12 (rt z (rt z rn)) z (s.tk [1]))))))
def vn (w:World) (r:Int):Env->World->Prop:=Fin Tryz.prog Tryz.f244 No w (λs:Unit=>.int .i64 r) (λs=>[]) .ret
theorem ub {a0:List ab} {a1:Int} {v_0:Hd} {w:World} {r:Int} (h:fv a0 a1=some r) (q_0:RO w v_0 70 5 ah a0):CL 244 #[sv v_0,vi a1] w (RU w (.int .i64 r)):=by
 unfold fv at h
 refine ao func244 z z ?_
 have s:=Sep.start w
 refine .g (.qn z (.g (.q z (.qn z (.seq (.g (.qn z (.block (bv h λy1 hy1 h=>?_)))))))))
 refine .via (.iter (λs1 E' W'=>aq E' [(0,(sv v_0)),(1,vi a1),(5,vi s1.1),(6,vi s1.2)]/\Sep No w W' []) (λy2 x E' W'=>(match y2 with | .inl o1=>x=.ret/\vn w o1 E' W' | .inr o2=>x=.exit 0/\aq E' [(1,vi a1)]/\Sep No w W' [])) hy1 ⟨sb rfl,s.to [] rfl⟩ ?_) ?_
 ·intro s1 y3 E W h hI
  obtain ⟨hE,s⟩:=hI
  refine CW.sub hE ?_
  unfold mw at h
  refine .seq (.g (.q z (.q z (.s (aE (s.keep q_0) u38 z z) z (.q z (.nil ?_))))))
  refine .cs z h ?_ ?_ <;> intro h
  ·refine .skip (.seq (.block (.seq (.g (.q z (.q z (bv h λx1 hx1 h=>.s (ixv (s.keep q_0) hx1 u38 t70 z z z) z (.s (fe f70_0 z z z) z (.s (lde (RV.flat (s.keep q_0) hx1 z) t3 z z z z z) z (.q z (.nil ?_)))))))))))
   refine .cs z h ?_ ?_ <;> intro h
   ·refine .g (.q z (.qn z (.ret ?_)))
    cases h
    exact ⟨by simp,z,aa (vs:=[_]) () (rt z rn) z (s.to [])⟩
   refine .skip (.region (.q z (.q z (bv h λx2 hx2 h=>.s (ixv (s.keep q_0) hx2 u38 t70 z z z) z (.s (fe f70_4 z z z) z (.s (lde (RV.flat (s.keep q_0) hx2 z) t3 z z z z z) z (.qn z (.region (.q z (.q z (.q z (.nil ?_))))))))))))
   cases h
   exact ⟨z,sb z,s.to []⟩
  refine .exit ?_
  cases h
  exact ⟨by simp,z,sb z,s.to []⟩
 intro x E W hJ
 rcases y1 with o3 | o4
 ·have h:=bW h
  obtain ⟨rfl,hF⟩:=hJ
  refine ⟨_,λ_ _ h=>h,?_⟩
  cases h
  exact hF
 have h:=bX h
 obtain ⟨rfl,hE,s⟩:=hJ
 refine ⟨_,hE.sub,?_⟩
 obtain rfl:=o9 h
 exact .g (.q z (.qn z (.ret (aa () (rt z rn) z (s.to [])))))
theorem vo {a0:List ab} {v_0:Hd} {w:World} {r:(List ab)×Bool} (h:gJ a0=some r) (q_0:RO w v_0 70 5 ah a0):CL 198 #[sv v_0] w (Ret No w (λs:Hd=>.tuple #[sv s,.bool r.2]) (λs=>[ac (sv s) 70 5 ah r.1])):=by
 unfold gJ at h
 refine ao func198 z z ?_
 have s:=Sep.start w
 refine .g (.q z (.qn z (.g (.c (.liv [] ah u38 t70 s z z z z ?_ z (λ_=>z))))))
 intro v1 W s
 refine .qn z (.seq (.g (.q z (bv h λy1 hy1 h=>.c (.cO s func106 (bp hy1 (s.keep q_0)) z z ?_)))))
 intro W s
 refine .q z (.nil ?_)
 refine .cs z h ?_ ?_ <;> intro h
 ·cases h
  exact .g (.q z (.q z (.qn z (.ret (aa (vs:=[_,_]) v1 (rt z (rt z rn)) z (s.tk [0]))))))
 refine .skip (.seq (.g (.qn z (.block (bv h λy2 hy2 h=>?_)))))
 refine .via (.iter (λs1 E' W'=>∃ (v4:Hd),aq E' [(0,(sv v_0)),(4,(sv v4)),(5,vi s1.2)]/\Sep No w W' [ac (sv v4) 70 5 ah s1.1]) (λy3 x E' W'=>x=.exit 0/\∃ (v5:Hd),aq E' [(4,(sv v5))]/\Sep No w W' [ac (sv v5) 70 5 ah y3]) hy2 ⟨v1,sb z,s.tk [0]⟩ ?_) ?_
 ·intro s1 y4 E W h hI
  obtain ⟨v3,hE,s⟩:=hI
  refine CW.sub hE ?_
  unfold dv at h
  refine .seq (.g (.q z (.q z (.s (aE (s.keep q_0) u38 z z) z (.q z (.nil ?_))))))
  refine .cs z h ?_ ?_ <;> intro h
  ·refine .skip (.seq (.block (.g (.q z (.q z (bv h λx1 hx1 h=>.s (ixv (s.keep q_0) hx1 u38 t70 z z z) z (.s (lde (RV.flat (s.keep q_0) hx1 z) t70 z z z z z) z (.c (.alloc t70 s ?_)))))))))
   intro g1 W s
   refine .c (.st t70 s z z z ?_)
   intro W s
   refine .nil (bv h λy5 hy5 h=>?_)
   refine .seq (CW.via (R':=λx E' W'=>x=.normal/\aq E' [(0,(sv v_0)),(4,(sv v3)),(5,vi s1.2),(6,Pt g1)]/\Sep No w W' [.box g1 70 [vi y5.Op,vi y5.Dst,vi y5.A,vi y5.B,vi y5.N],ac (sv v3) 70 5 ah s1.1]) ?_ ?_)
   ·have h:=hy5
    refine .g (.s (fa f70_0 z z z) z (.s (ld t3 s z z z z z) z (.q z (.q z (.cu 4 29 ((x1.Op==4)||(x1.Op==5)) s ?_ ?_)))))
    ·refine .both (x1.Op==4) (λb=>?_) (λb=>?_)
     ·exact .xx b z (.xx b z (.xx b z (.s (pkt b z z z) z (.nil (ck 4 s z (iH b))))))
     have hg1:=b
     exact .g hg1 (.s (fa f70_0 z z z) z (.g hg1 (.s (ld t3 s z z z z z) z (.g hg1 (.q z (.s (pkf hg1 z z z) z (.nil (ck 4 s z (gS hg1)))))))))
    intro W s
    refine .nil ?_
    refine .cs z h ?_ ?_ <;> intro h
    ·refine .region (.q z (.s (fa f70_4 z z z) z (.s (ld t3 s z z z z z) z (bv h λy6 hy6 h=>.c (.cO s func244 (ub hy6 (s.keep q_0)) z z ?_)))))
     intro W s
     refine .s (fa f70_4 z z z) z (.c (.st t3 s z z z ?_))
     intro W s
     refine .nil ?_
     cases h
     exact ⟨z,sb z,s.tk [0,0]⟩
    refine .skip ?_
    obtain rfl:=o9 h
    exact ⟨z,sb z,s.tk [0,0]⟩
   intro x E W hJ
   obtain ⟨rfl,hE,s⟩:=hJ
   refine ⟨_,hE.sub,?_⟩
   refine .region (.q z (.s (ld t70 s z z z z z) z (.c (.liv [y5] ah u38 t70 s z z z z ?_ z (λ_=>z)))))
   intro v6 W s
   refine bv h λr1 hr1 h=>?_
   have hT0:=s.p2
   refine .c (.av hr1 hT0 hT0.p1.lv (λ_=>z) u38 t70 z z z ?_)
   intro v7 W s
   refine .qn z (.region (.q z (.q z (.q z (.nil ?_)))))
   cases h
   exact ⟨z,v7,sb z,s.tk [0]⟩
  refine .exit ?_
  cases h
  exact ⟨by simp,z,v3,sb z,s.tk [0]⟩
 intro x E W hJ
 obtain ⟨rfl,v8,hE,s⟩:=hJ
 refine ⟨_,hE.sub,?_⟩
 cases h
 exact .g (.q z (.q z (.qn z (.ret (aa (vs:=[_,_]) v8 (rt z (rt z rn)) z (s.tk [0]))))))
theorem nj {a0:List ab} {a1:List (List Bool)} {a2:Int} {v_0:Hd} {v_1:Hd} {w:World} {r:(List Bool)} (h:gK a0 a1 a2=some r) (q_0:RO w v_0 70 5 ah a0) (q_1:RO w v_1 188 1 (λ(l:List Bool)=>D.row 4 1 (l.map D.bool)) a1):CL 205 #[sv v_0,sv v_1,vi a2] w (Ret No w (λs:Hd=>(sv s)) (λs=>[ac (sv s) 4 1 D.bool r])):=by
 unfold gK at h
 refine ao func205 z z ?_
 have s:=Sep.start w
 refine .g (.qn z (.g (bv h λr1 hr1 h=>.c (.mkv false D.bool hr1 u188 t4 s z z z z z (λ_=>z) ?_))))
 intro v1 W s
 refine .qn z (.g (.q z (.q z (bv h λy1 hy1 h=>.c (.cV s func251 (l8 hy1 (s.keep q_0)) z z ?_)))))
 intro v2 W s
 refine .qn z (.seq (.g (.qn z (.block (bv h λy2 hy2 h=>?_)))))
 refine .via (.iter (λs1 E' W'=>aq E' [(1,(sv v_1)),(7,(sv v1)),(8,(sv v2)),(9,vi s1.1)]/\Sep No w W' [ac (sv v2) 3 1 (D.int .i64) y1,ac (sv v1) 4 1 D.bool s1.2]) (λy3 x E' W'=>x=.exit 0/\aq E' [(7,(sv v1))]/\Sep No w W' [ac (sv v2) 3 1 (D.int .i64) y1,ac (sv v1) 4 1 D.bool y3]) hy2 ⟨sb z,s.tk [0,0]⟩ ?_) ?_
 ·intro s1 y4 E W h hI
  obtain ⟨hE,s⟩:=hI
  refine CW.sub hE ?_
  unfold nc at h
  refine .seq (.g (.q z (.q z (.s (aE s.lv u23 z z) z (.q z (.nil ?_))))))
  refine .cs z h ?_ ?_ <;> intro h
  ·refine .skip (.seq (.block (.g (.qn z (.block (bv h λy5 hy5 h=>?_))))))
   refine .via (.iter (λs2 E' W'=>aq E' [(1,(sv v_1)),(7,(sv v1)),(8,(sv v2)),(9,vi s1.1),(10,vi s2.1)]/\Sep No w W' [ac (sv v2) 3 1 (D.int .i64) y1,ac (sv v1) 4 1 D.bool s2.2]) (λy6 x E' W'=>x=.exit 2/\aq E' [(1,(sv v_1)),(7,(sv v1)),(8,(sv v2)),(9,vi s1.1)]/\Sep No w W' [ac (sv v2) 3 1 (D.int .i64) y1,ac (sv v1) 4 1 D.bool y6]) hy5 ⟨sb z,s.tk [0,0]⟩ ?_) ?_
   ·intro s2 y7 E W h hI
    obtain ⟨hE,s⟩:=hI
    refine CW.sub hE ?_
    unfold nb at h
    refine .seq (.g (.q z (.q z (.nil ?_))))
    refine .cs z h ?_ ?_ <;> intro h
    ·refine .skip (.seq (.block (.region (.q z (.q z (.q z (.q z (bv h λx1 hx1 h=>.s (ixv s.p1.lv hx1 u188 t4 z z z) z (.s (lde (RV.flat s.p1.lv hx1 z) t4 z z z z z) z (.q z (bv h λb1 hb1 h=>.cu 11 42 (b1) s ?_ ?_)))))))))))
     ·refine .both (x1) (λb=>?_) (λb=>?_)
      ·refine .xx b z (.xx b z (.xx b z (.xx b z (.xx b z (.xx b z (.xx b z (.xx b z (.xx b z (.xx b z ?_)))))))))
       cases aK b hb1
       exact .s (pkt b z z z) z (.nil (ck 11 s))
      have hg1:=b
      have h:=aL b hb1
      refine .g hg1 (.q z (.g hg1 (.q z (.g hg1 (.q z (bv h λx2 hx2 h=>.g hg1 (.s (ixv s.lv hx2 u23 t3 z z z) z (.g hg1 (.s (lde (RV.flat s.lv hx2 z) t3 z z z z z) z (bv h λx3 hx3 h=>?_))))))))))
      obtain ⟨k1,hd,hck1⟩:=RV.el2 q_1 hx3
      obtain ⟨v3,k1,rfl,q1,hd1⟩:=bn q_1 hd
      obtain rfl:=gU q_1 hd1
      refine .g hg1 (.s (ixv (s.keep q_1) hx3 u169 t188 z z z) z (.g hg1 (.s (lde (hck1 _ s.agree) t188 z z z z z) z (.g hg1 (.q z (bv h λx4 hx4 h=>.g hg1 (.s (ixv (s.keep (q1 _ q_1)) hx4 u188 t4 z z z) z (.g hg1 (.s (lde (RV.flat (s.keep (q1 _ q_1)) hx4 z) t4 z z z z z) z (.s (pkf hg1 z z z) z ?_))))))))))
      cases h
      exact .nil (ck 11 s)
     intro W s
     refine bv h λx5 hx5 h=>.s (ixv s.p1.lv hx5 u188 t4 z z z) z (bv h λr2 hr2 h=>.c (.sev hr2 hx5 s.p1 t4 z z z z z z ?_))
     intro W s
     refine .nil (.region (.q z (.q z (.q z (.nil ?_)))))
     cases h
     exact ⟨z,sb z,s.tk [1,0]⟩
    refine .exit ?_
    cases h
    exact ⟨by simp,z,sb z,s.tk [0,0]⟩
   intro x E W hJ
   obtain ⟨rfl,hE,s⟩:=hJ
   refine ⟨_,hE.sub,?_⟩
   refine .region (.q z (.q z (.q z (.nil ?_))))
   cases h
   exact ⟨z,sb z,s.tk [0,0]⟩
  refine .exit ?_
  cases h
  exact ⟨by simp,z,sb z,s.tk [0,0]⟩
 intro x E W hJ
 obtain ⟨rfl,hE,s⟩:=hJ
 refine ⟨_,hE.sub,?_⟩
 obtain rfl:=o9 h
 exact .g (.q z (.qn z (.ret (aa v1 (rt z rn) z (s.tk [1])))))
theorem vp {a0:ab} {w:World} {r:(List Int)} (h:lq a0=some r):CL 283 #[.agg #[vi a0.Op,vi a0.Dst,vi a0.A,vi a0.B,vi a0.N]] w (Ret No w (λs:Hd=>(sv s)) (λs=>[ac (sv s) 3 1 (D.int .i64) r])):=by
 unfold lq at h
 refine ao func283 z z ?_
 have s:=Sep.start w
 refine .g (.c (.box s z z ?_))
 intro g1 W s
 refine .qn z (.seq (.g (.s (ld t70 s z z z z z) z (bv h λy1 hy1 h=>.c (.cO s func154 (mP hy1) z z ?_)))))
 intro W s
 refine .q z (.nil ?_)
 refine .cs z h ?_ ?_ <;> intro h
 ·refine .g (.c (.liv [] (D.int .i64) u23 t3 s z z z z ?_ z (λ_=>z)))
  intro v1 W s
  cases h
  exact .qn z (.ret (aa v1 (rt z rn) z (s.tk [0])))
 refine .skip (.seq (.g (.s (fa f70_0 z z z) z (.s (ld t3 s z z z z z) z (.nil (.block (bv h λy2 hy2 h=>?_)))))))
 refine .seq (CW.via (R':=λx E' W'=>x=.normal/\aq E' [(1,Pt g1),(8,vi a0.Op),(9,.bool y2)]/\Sep No w W' [.box g1 70 [vi a0.Op,vi a0.Dst,vi a0.A,vi a0.B,vi a0.N]]) ?_ ?_)
 ·have h:=hy2
  refine .g (.q z (.q z (.nil ?_)))
  refine .cs z h ?_ ?_ <;> intro h
  ·refine .skip ?_
   cases h
   exact ⟨z,sb z,s.tk [0]⟩
  refine .g (.q z (.q z (.nil ?_)))
  refine .cs z h ?_ ?_ <;> intro h
  ·refine .skip ?_
   cases h
   exact ⟨z,sb z,s.tk [0]⟩
  refine .g (.q z (.q z (.nil ?_)))
  refine .cs z h ?_ ?_ <;> intro h
  ·refine .skip ?_
   cases h
   exact ⟨z,sb z,s.tk [0]⟩
  refine .region (.q z (.q z (.nil ?_)))
  cases h
  exact ⟨z,sb z,s.tk [0]⟩
 intro x E W hJ
 obtain ⟨rfl,hE,s⟩:=hJ
 refine ⟨_,hE.sub,?_⟩
 refine .cs z h ?_ ?_ <;> intro h
 ·refine .g (.s (fa f70_2 z z z) z (.s (ld t3 s z z z z z) z (.c (.liv [a0.A] (D.int .i64) u23 t3 s z z z z ?_ z (λ_=>z)))))
  intro v2 W s
  cases h
  exact .qn z (.ret (aa v2 (rt z rn) z (s.tk [0])))
 refine .g (.q z (.q z (.nil ?_)))
 refine .cs z h ?_ ?_ <;> intro h
 ·refine .seq (.g (.s (fa f70_2 z z z) z (.s (ld t3 s z z z z z) z (.s (fa f70_3 z z z) z (.s (ld t3 s z z z z z) z (.q z (.nil ?_)))))))
  refine .cs z h ?_ ?_ <;> intro h
  ·refine .g (.s (fa f70_2 z z z) z (.s (ld t3 s z z z z z) z (.c (.liv [a0.A] (D.int .i64) u23 t3 s z z z z ?_ z (λ_=>z)))))
   intro v3 W s
   cases h
   exact .qn z (.ret (aa v3 (rt z rn) z (s.tk [0])))
  refine .skip (.g (.s (fa f70_2 z z z) z (.s (ld t3 s z z z z z) z (.s (fa f70_3 z z z) z (.s (ld t3 s z z z z z) z (.s (mnv z z z) z (.s (fa f70_2 z z z) z (.s (ld t3 s z z z z z) z (.s (fa f70_3 z z z) z (.s (ld t3 s z z z z z) z (.s (mxv z z z) z (.c (.liv [min a0.A a0.B,max a0.A a0.B] (D.int .i64) u23 t3 s z z z z ?_ z (λ_=>z))))))))))))))
  intro v4 W s
  cases h
  exact .qn z (.ret (aa v4 (rt z rn) z (s.tk [0])))
 refine .skip (.g (.c (.liv [] (D.int .i64) u23 t3 s z z z z ?_ z (λ_=>z))))
 intro v5 W s
 cases h
 exact .qn z (.ret (aa v5 (rt z rn) z (s.tk [0])))
theorem uc {a0:ab} {a1:List Bool} {v_1:Hd} {w:World} {r:(List Bool)} (h:jV a0 a1=some r) (q_1:RO w v_1 4 1 D.bool a1):CL 270 #[.agg #[vi a0.Op,vi a0.Dst,vi a0.A,vi a0.B,vi a0.N],sv v_1] w (Ret No w (λs:Hd=>(sv s)) (λs=>[ac (sv s) 4 1 D.bool r])):=by
 unfold jV at h
 refine ao func270 z z ?_
 have s:=Sep.start w
 refine .g (.c (.box s z z ?_))
 intro g1 W s
 refine .qn z (.g (.c (.liv [] D.bool u188 t4 s z z z z ?_ z (λ_=>z))))
 intro v1 W s
 refine .q z (bv h λr1 hr1 h=>.c (.av hr1 s (s.keep q_1) (λ_=>z) u188 t4 z z z ?_))
 intro v2 W s
 refine .qn z (bv h λy1 hy1 h=>?_)
 refine .seq (CW.via (R':=λx E' W'=>x=.normal/\aq E' [(2,Pt g1),(5,(sv v2))]/\Sep No w W' [ac (sv v2) 4 1 D.bool y1,.box g1 70 [vi a0.Op,vi a0.Dst,vi a0.A,vi a0.B,vi a0.N]]) ?_ ?_)
 ·have h:=hy1
  refine .g (.s (ld t70 s.p1 z z z z z) z (bv h λy2 hy2 h=>.c (.cO s func157 (iC hy2) z z ?_)))
  intro W s
  refine .q z (.nil ?_)
  refine .cs z h ?_ ?_ <;> intro h
  ·refine .region (.q z (.s (ld t70 s.p1 z z z z z) z (bv h λy3 hy3 h=>.c (.cO s func157 (iC hy3) z z ?_))))
   intro W s
   refine bv h λx1 hx1 h=>.s (ixv s.lv hx1 u188 t4 z z z) z (bv h λr2 hr2 h=>.c (.sev hr2 hx1 s t4 z z z z z z ?_))
   intro W s
   refine .nil ?_
   obtain rfl:=o9 h
   exact ⟨z,sb z,s.tk [0,0]⟩
  refine .skip ?_
  obtain rfl:=o9 h
  exact ⟨z,sb z,s.tk [0,0]⟩
 intro x E W hJ
 obtain ⟨rfl,hE,s⟩:=hJ
 refine ⟨_,hE.sub,?_⟩
 refine .g (.s (ld t70 s.p1 z z z z z) z (bv h λy4 hy4 h=>.c (.cV s func283 (vp hy4) z z ?_)))
 intro v3 W s
 refine .qn z (.seq (.g (.qn z (.block (bv h λy5 hy5 h=>?_)))))
 refine .via (.iter (λs1 E' W'=>aq E' [(5,(sv v2)),(6,(sv v3)),(7,vi s1.1)]/\Sep No w W' [ac (sv v3) 3 1 (D.int .i64) y4,ac (sv v2) 4 1 D.bool s1.2,.box g1 70 [vi a0.Op,vi a0.Dst,vi a0.A,vi a0.B,vi a0.N]]) (λy6 x E' W'=>x=.exit 0/\aq E' [(5,(sv v2))]/\Sep No w W' [ac (sv v3) 3 1 (D.int .i64) y4,ac (sv v2) 4 1 D.bool y6,.box g1 70 [vi a0.Op,vi a0.Dst,vi a0.A,vi a0.B,vi a0.N]]) hy5 ⟨sb z,s.tk [0,0,0]⟩ ?_) ?_
 ·intro s1 y7 E W h hI
  obtain ⟨hE,s⟩:=hI
  refine CW.sub hE ?_
  unfold mx at h
  refine .seq (.g (.q z (.q z (.s (aE s.lv u23 z z) z (.q z (.nil ?_))))))
  refine .cs z h ?_ ?_ <;> intro h
  ·refine .skip (.seq (.block (.region (.q z (.q z (.q z (bv h λx2 hx2 h=>.s (ixv s.lv hx2 u23 t3 z z z) z (.s (lde (RV.flat s.lv hx2 z) t3 z z z z z) z (bv h λx3 hx3 h=>.s (ixv s.p1.lv hx3 u188 t4 z z z) z (bv h λr3 hr3 h=>.c (.sev hr3 hx3 s.p1 t4 z z z z z z ?_)))))))))))
   intro W s
   refine .nil (.region (.q z (.q z (.q z (.nil ?_)))))
   cases h
   exact ⟨z,sb z,s.tk [1,0,0]⟩
  refine .exit ?_
  cases h
  exact ⟨by simp,z,sb z,s.tk [0,0,0]⟩
 intro x E W hJ
 obtain ⟨rfl,hE,s⟩:=hJ
 refine ⟨_,hE.sub,?_⟩
 obtain rfl:=o9 h
 exact .g (.q z (.qn z (.ret (aa v2 (rt z rn) z (s.tk [1])))))
def xH (w:World) (r:Bool):Env->World->Prop:=Fin Tryz.prog Tryz.f271 No w (λs:Unit=>.bool r) (λs=>[]) .ret
theorem we {a0:List Bool} {a1:List Bool} {v_0:Hd} {v_1:Hd} {w:World} {r:Bool} (h:my a0 a1=some r) (q_0:RO w v_0 4 1 D.bool a0) (q_1:RO w v_1 4 1 D.bool a1):CL 271 #[sv v_0,sv v_1] w (RU w (.bool r)):=by
 unfold my at h
 refine ao func271 z z ?_
 have s:=Sep.start w
 refine .g (.qn z (.seq (.g (.qn z (.block (bv h λy1 hy1 h=>?_))))))
 refine .via (.iter (λs1 E' W'=>aq E' [(0,(sv v_0)),(1,(sv v_1)),(5,vi s1)]/\Sep No w W' []) (λy2 x E' W'=>(match y2 with | .inl o1=>x=.ret/\xH w o1 E' W' | .inr o2=>x=.exit 0/\aq E' [(0,(sv v_0)),(1,(sv v_1))]/\Sep No w W' [])) hy1 ⟨sb rfl,s.to [] rfl⟩ ?_) ?_
 ·intro s1 y3 E W h hI
  obtain ⟨hE,s⟩:=hI
  refine CW.sub hE ?_
  unfold nM at h
  refine .seq (.g (.q z (.q z (.s (aE (s.keep q_0) u188 z z) z (.q z (.nil ?_))))))
  refine .cs z h ?_ ?_ <;> intro h
  ·refine .skip (.seq (.block (.seq (.rk 9 s [] T.mix ?_))))
   intro W s
   have t:=s.to []
   refine .tp' 0 z z t (.tp' 1 z z t (bv h λx1 hx1 h=>.ts' 2 z (λW t=>ixv (s.keep q_0) hx1 u188 t4 z z z) t z (.ts' 3 z (λW t=>lde (RV.flat (t.keep q_0) hx1 z) t4 z z z z z) t z (.tp' 4 z z t (.tp' 5 z z t (bv h λx2 hx2 h=>.ts' 6 z (λW t=>ixv (s.keep q_1) hx2 u188 t4 z z z) t z (.ts' 7 z (λW t=>lde (RV.flat (t.keep q_1) hx2 z) t4 z z z z z) t z (.ts' 8 z (λW t=>neb u4 z z z) t z (.done ?_)))))))))
   refine .cs z h ?_ ?_ <;> intro h
   ·refine .g (.qn z (.ret ?_))
    cases h
    exact ⟨by simp,z,aa (vs:=[_]) () (rt z rn) z (s.to [])⟩
   refine .skip (.region (.q z (.q z (.q z (.nil ?_)))))
   cases h
   exact ⟨z,sb z,s.to []⟩
  refine .exit ?_
  cases h
  exact ⟨by simp,z,sb z,s.to []⟩
 intro x E W hJ
 rcases y1 with o3 | o4
 ·have h:=bW h
  obtain ⟨rfl,hF⟩:=hJ
  refine ⟨_,λ_ _ h=>h,?_⟩
  cases h
  exact hF
 have h:=bX h
 obtain ⟨rfl,hE,s⟩:=hJ
 refine ⟨_,hE.sub,?_⟩
 cases h
 exact .g (.q z (.s (aE (s.keep q_0) u188 z z) z (.q z (.s (aE (s.keep q_1) u188 z z) z (.q z (.qn z (.ret (aa () (rt z rn) z (s.to [])))))))))
theorem vq {a0:List ab} {a1:List (List Bool)} {v_0:Hd} {v_1:Hd} {S:Nat->Prop} {w:World} {r:Bool×(List (List Bool))} (h:dD a0 a1=some r) (q_0:RV w (Old S w) (sv v_0) 70 5 ah a0) (hO:bu w [ac (sv v_1) 188 1 (λ(l:List Bool)=>D.row 4 1 (l.map D.bool)) a1] S) (hlt:∀ b,S b->b<w.heap.size):CL 250 #[sv v_0,sv v_1] w (Ret S w (λs:Unit=>.bool r.1) (λs=>[ac (sv v_1) 188 1 (λ(l:List Bool)=>D.row 4 1 (l.map D.bool)) r.2])):=by
 unfold dD at h
 refine ao func250 z z ?_
 have s:=Sep.sm hO hlt
 refine .g (.qn z (.g (.qn z (.seq (.g (.q z (.s (aE (s.keep q_0) u38 z z) z (.q z (.qn z (.block (bv h λy1 hy1 h=>?_)))))))))))
 refine .via (.iter (λs1 E' W'=>aq E' [(0,(sv v_0)),(1,(sv v_1)),(5,.bool s1.1),(6,vi s1.2.1)]/\Sep S w W' [ac (sv v_1) 188 1 (λ(l:List Bool)=>D.row 4 1 (l.map D.bool)) s1.2.2]) (λy2 x E' W'=>x=.exit 0/\aq E' [(5,.bool y2.1)]/\Sep S w W' [ac (sv v_1) 188 1 (λ(l:List Bool)=>D.row 4 1 (l.map D.bool)) y2.2]) hy1 ⟨sb z,s.tk [0]⟩ ?_) ?_
 ·intro s1 y3 E W h hI
  obtain ⟨hE,s⟩:=hI
  refine CW.sub hE ?_
  unfold eZ at h
  refine .seq (.g (.q z (.q z (.nil ?_))))
  refine .cs z h ?_ ?_ <;> intro h
  ·refine .skip (bv h λy4 hy4 h=>?_)
   refine .seq (CW.via (R':=λx E' W'=>x=.normal/\aq E' [(0,(sv v_0)),(1,(sv v_1)),(5,.bool y4.1),(6,vi s1.2.1)]/\Sep S w W' [ac (sv v_1) 188 1 (λ(l:List Bool)=>D.row 4 1 (l.map D.bool)) y4.2]) ?_ ?_)
   ·have h:=hy4
    refine .block (.seq (.rk 10 s [0] T.mix ?_))
    intro W s
    have t:=s.to [0]
    refine .tp' 0 z z t (.tp' 1 z z t (bv h λx1 hx1 h=>.ts' 2 z (λW t=>ixv (s.keep q_0) hx1 u38 t70 z z z) t z (.ts' 3 z (λW t=>lde (RV.flat (t.keep q_0) hx1 z) t70 z z z z z) t z (.tp' 4 z z t (.tp' 5 z z t (.tp' 6 z z t (bv h λy5 hy5 h=>.by1 7 z (.cV s func205 (nj hy5 (s.keep q_0) s.lv) z z ?_))))))))
    intro v1 W s
    refine s.an [1] λt=>bv h λy6 hy6 h=>.by1 8 z (.cV s func270 (uc hy6 s.lv) z z ?_)
    intro v2 W s
    refine s.an [2] λt=>.tp' 9 z z t (.done (.g (.q z (.q z (.q z (bv h λx2 hx2 h=>.s (ixv s.p2.lv hx2 u169 t188 z z z) z ?_))))))
    obtain ⟨k1,s⟩:=Sep.ov s.p2 hx2
    obtain ⟨v3,k1,rfl,s⟩:=s.ow
    obtain ⟨rfl,s⟩:=s.oN
    refine .s (lde (s.p1.hcellsv) t188 z z z z z) z (bv h λy7 hy7 h=>.c (.cO s func271 (we hy7 s.p2.lv s.lv) z z ?_))
    intro W s
    refine .q z (.nil ?_)
    refine .cs z h ?_ ?_ <;> intro h
    ·refine .g (.q z (.q z (.q z (.s (ixh s.p1 hx2 u169 t188 z z z) z (.c (.sthv s.p1 t188 z z z ?_))))))
     intro W s
     refine .nil (.region (.q z (.nil ?_)))
     have s:=Sep.gat (ds:=[.row 4 1 (y6.map D.bool)]) (cs:=[sv v2]) (L1:=[ac (sv v2) 4 1 D.bool y6]) (.row (.nil)) (s.to [2,0,0,0])
     have s:Sep _ _ _ [ac (sv v_1) 188 1 (λ(l:List Bool)=>D.row 4 1 (l.map D.bool)) (s1.2.2.set (Int.toNat s1.2.1) y6),ac (sv v3) 4 1 D.bool x2,ac (sv v1) 4 1 D.bool y5]:=s.bv
     cases h
     exact ⟨z,sb z,s.tk [0]⟩
    refine .skip ?_
    have s:=Sep.gat (ds:=[.row 4 1 (x2.map D.bool)]) (cs:=[sv v3]) (L1:=[ac (sv v3) 4 1 D.bool x2]) (.row (.nil)) (s.to [0,0,0,0])
    have s:Sep _ _ _ [ac (sv v_1) 188 1 (λ(l:List Bool)=>D.row 4 1 (l.map D.bool)) s1.2.2,ac (sv v2) 4 1 D.bool y6,ac (sv v1) 4 1 D.bool y5]:=Sep.back0v hx2 s
    cases h
    exact ⟨z,sb z,s.tk [0]⟩
   intro x E W hJ
   obtain ⟨rfl,hE,s⟩:=hJ
   refine ⟨_,hE.sub,?_⟩
   refine .region (.q z (.q z (.q z (.nil ?_))))
   cases h
   exact ⟨z,sb z,s.tk [0]⟩
  refine .exit ?_
  cases h
  exact ⟨by simp,z,sb z,s.tk [0]⟩
 intro x E W hJ
 obtain ⟨rfl,hE,s⟩:=hJ
 refine ⟨_,hE.sub,?_⟩
 cases h
 exact .g (.q z (.qn z (.ret (aa () (rt z rn) z (s.tk [0])))))
theorem rf {a0:List ab} {v_0:Hd} {w:World} {r:(List (List Bool))} (h:eS a0=some r) (q_0:RO w v_0 70 5 ah a0):CL 204 #[sv v_0] w (Ret No w (λs:Hd=>(sv s)) (λs=>[ac (sv s) 188 1 (λ(l:List Bool)=>D.row 4 1 (l.map D.bool)) r])):=by
 unfold eS at h
 refine ao func204 z z ?_
 have s:=Sep.start w
 refine .g (.qn z (.g (.c (.lg (L1:=[]) [] (λ(l:List Bool)=>D.row 4 1 (l.map D.bool)) u169 t188 (s.to []) z z z (.nil) ?_ z (λ_=>z)))))
 intro v1 W s
 refine .qn z (.seq (.g (.q z (bv h λy1 hy1 h=>.c (.cO s func106 (bp hy1 (s.keep q_0)) z z ?_)))))
 intro W s
 refine .qn z (.cond z (λb=>?_) (λb=>?_))
 ·have h:=aK b h
  cases h
  exact .g (.q z (.qn z (.ret (aa v1 (rt z rn) z (s.tk [0])))))
 have h:=aL b h
 refine .skip (.seq (.g (.qn z (.block (bv h λy2 hy2 h=>?_)))))
 refine .via (.iter (λs1 E' W'=>∃ (v4:Hd),aq E' [(0,(sv v_0)),(3,(sv v4)),(4,vi s1.2)]/\Sep No w W' [ac (sv v4) 188 1 (λ(l:List Bool)=>D.row 4 1 (l.map D.bool)) s1.1]) (λy3 x E' W'=>x=.exit 0/\∃ (v5:Hd),aq E' [(0,(sv v_0)),(3,(sv v5))]/\Sep No w W' [ac (sv v5) 188 1 (λ(l:List Bool)=>D.row 4 1 (l.map D.bool)) y3]) hy2 ⟨v1,sb z,s.tk [0]⟩ ?_) ?_
 ·intro s1 y4 E W h hI
  obtain ⟨v3,hE,s⟩:=hI
  refine CW.sub hE ?_
  unfold jW at h
  refine .seq (.g (.q z (.q z (.s (aE (s.keep q_0) u38 z z) z (.q z (.nil ?_))))))
  refine .cs z h ?_ ?_ <;> intro h
  ·refine .skip (.seq (.block (.region (.q z (bv h λr1 hr1 h=>.c (.mkv false D.bool hr1 u188 t4 s z z z z z (λ_=>z) ?_))))))
   intro v6 W s
   refine .c (.lg (L1:=[ac (sv v6) 4 1 D.bool r1]) [r1] (λ(l:List Bool)=>D.row 4 1 (l.map D.bool)) u169 t188 (s.to [0,0]) z z z (.row (.nil)) ?_ z (λ_=>z))
   intro v7 W s
   refine bv h λr2 hr2 h=>.c (.appv hr2 (s.to [1,0]) u169 t188 z z z ?_)
   intro v8 W s
   refine .qn z (.region (.q z (.q z (.q z (.nil ?_)))))
   cases h
   exact ⟨z,v8,sb z,s.tk [0]⟩
  refine .exit ?_
  cases h
  exact ⟨by simp,z,v3,sb z,s.tk [0]⟩
 intro x E W hJ
 obtain ⟨rfl,v9,hE,s⟩:=hJ
 refine ⟨_,hE.sub,?_⟩
 refine .seq (.block (bv h λy5 hy5 h=>?_))
 refine .via (.iter (λs2 E' W'=>aq E' [(0,(sv v_0)),(3,(sv v9))]/\Sep No w W' [ac (sv v9) 188 1 (λ(l:List Bool)=>D.row 4 1 (l.map D.bool)) s2]) (λy6 x E' W'=>x=.exit 2/\aq E' [(3,(sv v9))]/\Sep No w W' [ac (sv v9) 188 1 (λ(l:List Bool)=>D.row 4 1 (l.map D.bool)) y6]) hy5 ⟨sb z,s.tk [0]⟩ ?_) ?_
 ·intro s2 y7 E W h hI
  obtain ⟨hE,s⟩:=hI
  refine CW.sub hE ?_
  unfold bO at h
  refine .seq (.g (.q z (.q z (bv h λy8 hy8 h=>.c (.cS (L0:=[ac (sv v9) 188 1 (λ(l:List Bool)=>D.row 4 1 (l.map D.bool)) s2]) s func250 (λS h1 h2 h3=>(vq hy8 (s.ks q_0 h1) h2 (zz h1))) z z ?_)))))
  rintro ⟨⟩ W s
  refine .nil ?_
  refine .cs z h ?_ ?_ <;> intro h
  ·refine .skip (.block (.skip ?_))
   cases h
   exact ⟨z,sb z,s.tk [0]⟩
  refine .exit ?_
  cases h
  exact ⟨by simp,z,sb z,s.tk [0]⟩
 intro x E W hJ
 obtain ⟨rfl,hE,s⟩:=hJ
 refine ⟨_,hE.sub,?_⟩
 obtain rfl:=o9 h
 exact .g (.q z (.qn z (.ret (aa v9 (rt z rn) z (s.tk [0])))))
theorem wg {a0:ab} {a1:List Bool} {v_1:Hd} {w:World} {r:Bool} (h:iV a0 a1=some r) (q_1:RO w v_1 4 1 D.bool a1):CL 245 #[.agg #[vi a0.Op,vi a0.Dst,vi a0.A,vi a0.B,vi a0.N],sv v_1] w (RU w (.bool r)):=by
 unfold iV at h
 refine ao func245 z z ?_
 have s:=Sep.start w
 refine .g (.c (.box s z z ?_))
 intro g1 W s
 refine .qn z (.seq (.g (.s (fa f70_0 z z z) z (.s (ld t3 s z z z z z) z (.nil (.block (bv h λy1 hy1 h=>?_)))))))
 refine .seq (CW.via (R':=λx E' W'=>x=.normal/\aq E' [(1,(sv v_1)),(2,Pt g1),(7,.bool y1)]/\Sep No w W' [.box g1 70 [vi a0.Op,vi a0.Dst,vi a0.A,vi a0.B,vi a0.N]]) ?_ ?_)
 ·have h:=hy1
  refine .g (.q z (.q z (.nil ?_)))
  refine .cs z h ?_ ?_ <;> intro h
  ·refine .skip ?_
   cases h
   exact ⟨z,sb z,s.tk [0]⟩
  refine .g (.q z (.q z (.nil ?_)))
  refine .cs z h ?_ ?_ <;> intro h
  ·refine .skip ?_
   cases h
   exact ⟨z,sb z,s.tk [0]⟩
  refine .region (.q z (.q z (.nil ?_)))
  cases h
  exact ⟨z,sb z,s.tk [0]⟩
 intro x E W hJ
 obtain ⟨rfl,hE,s⟩:=hJ
 refine ⟨_,hE.sub,?_⟩
 refine .cs z h ?_ ?_ <;> intro h
 ·refine .g (.q z (.s (fa f70_1 z z z) z (.s (ld t3 s z z z z z) z (bv h λx1 hx1 h=>.s (ixv (s.keep q_1) hx1 u188 t4 z z z) z (.s (lde (RV.flat (s.keep q_1) hx1 z) t4 z z z z z) z (.q z (.qn z (.ret ?_))))))))
  cases h
  exact aa () (rt z rn) z (s.to [])
 obtain rfl:=o9 h
 exact .skip (.g (.qn z (.ret (aa () (rt z rn) z (s.to [])))))
theorem vr {a0:List ab} {v_0:Hd} {w:World} {r:(List ab)×Bool} (h:gL a0=some r) (q_0:RO w v_0 70 5 ah a0):CL 199 #[sv v_0] w (Ret No w (λs:Hd=>.tuple #[sv s,.bool r.2]) (λs=>[ac (sv s) 70 5 ah r.1])):=by
 unfold gL at h
 refine ao func199 z z ?_
 have s:=Sep.start w
 refine .g (.q z (.qn z (.g (.c (.liv [] ah u38 t70 s z z z z ?_ z (λ_=>z))))))
 intro v1 W s
 refine .qn z (.seq (.g (.q z (bv h λy1 hy1 h=>.c (.cO s func106 (bp hy1 (s.keep q_0)) z z ?_)))))
 intro W s
 refine .q z (.nil ?_)
 refine .cs z h ?_ ?_ <;> intro h
 ·cases h
  exact .g (.q z (.q z (.qn z (.ret (aa (vs:=[_,_]) v1 (rt z (rt z rn)) z (s.tk [0]))))))
 refine .skip (.g (.q z (bv h λy2 hy2 h=>.c (.cV s func204 (rf hy2 (s.keep q_0)) z z ?_))))
 intro v2 W s
 refine .qn z (.seq (.g (.qn z (.block (bv h λy3 hy3 h=>?_)))))
 refine .via (.iter (λs1 E' W'=>∃ (v5:Hd),aq E' [(0,(sv v_0)),(4,(sv v5)),(5,(sv v2)),(6,vi s1.2)]/\Sep No w W' [ac (sv v2) 188 1 (λ(l:List Bool)=>D.row 4 1 (l.map D.bool)) y2,ac (sv v5) 70 5 ah s1.1]) (λy4 x E' W'=>x=.exit 0/\∃ (v6:Hd),aq E' [(4,(sv v6))]/\Sep No w W' [ac (sv v2) 188 1 (λ(l:List Bool)=>D.row 4 1 (l.map D.bool)) y2,ac (sv v6) 70 5 ah y4]) hy3 ⟨v1,sb z,s.tk [0,0]⟩ ?_) ?_
 ·intro s1 y5 E W h hI
  obtain ⟨v4,hE,s⟩:=hI
  refine CW.sub hE ?_
  unfold dw at h
  refine .seq (.g (.q z (.q z (.s (aE (s.keep q_0) u38 z z) z (.q z (.nil ?_))))))
  refine .cs z h ?_ ?_ <;> intro h
  ·refine .skip (.seq (.block (.g (.q z (.q z (bv h λx1 hx1 h=>.s (ixv (s.keep q_0) hx1 u38 t70 z z z) z (.s (lde (RV.flat (s.keep q_0) hx1 z) t70 z z z z z) z (.c (.alloc t70 s ?_)))))))))
   intro g1 W s
   refine .c (.st t70 s z z z ?_)
   intro W s
   refine .nil (bv h λy6 hy6 h=>?_)
   refine .seq (CW.via (R':=λx E' W'=>x=.normal/\aq E' [(0,(sv v_0)),(4,(sv v4)),(5,(sv v2)),(6,vi s1.2),(7,Pt g1)]/\Sep No w W' [.box g1 70 [vi y6.Op,vi y6.Dst,vi y6.A,vi y6.B,vi y6.N],ac (sv v2) 188 1 (λ(l:List Bool)=>D.row 4 1 (l.map D.bool)) y2,ac (sv v4) 70 5 ah s1.1]) ?_ ?_)
   ·have h:=hy6
    refine .seq (.rk 6 s [0,0,0] T.mix ?_)
    intro W s
    have t:=s.to [0,0,0]
    refine .ts' 0 z (λW t=>ld t70 t z z z z z) t z (.tp' 1 z z t (.tp' 2 z z t (.tp' 3 z z t (bv h λy7 hy7 h=>.by1 4 z (.cV s func205 (nj hy7 (s.keep q_0) s.p1.lv) z z ?_)))))
    intro v7 W s
    refine s.an [1,1,1] λt=>bv h λy8 hy8 h=>.by1 5 z (.cO s func245 (wg hy8 s.lv) z z ?_)
    intro W s
    refine s.an [1,1,1] λt=>.done ?_
    refine .cs z h ?_ ?_ <;> intro h
    ·refine .region (.q z (.q z (.s (bs T.s70 z z) z (.c (.st t70 s.p1 z z z ?_)))))
     intro W s
     refine .nil ?_
     cases h
     exact ⟨z,sb z,s.tk [0,1,1]⟩
    refine .skip ?_
    obtain rfl:=o9 h
    exact ⟨z,sb z,s.tk [1,1,1]⟩
   intro x E W hJ
   obtain ⟨rfl,hE,s⟩:=hJ
   refine ⟨_,hE.sub,?_⟩
   refine .region (.q z (.s (ld t70 s z z z z z) z (.c (.liv [y6] ah u38 t70 s z z z z ?_ z (λ_=>z)))))
   intro v8 W s
   refine bv h λr1 hr1 h=>?_
   have hT0:=s.p3
   refine .c (.av hr1 hT0 hT0.p1.lv (λ_=>z) u38 t70 z z z ?_)
   intro v9 W s
   refine .qn z (.region (.q z (.q z (.q z (.nil ?_)))))
   cases h
   exact ⟨z,v9,sb z,s.tk [3,0]⟩
  refine .exit ?_
  cases h
  exact ⟨by simp,z,v4,sb z,s.tk [0,0]⟩
 intro x E W hJ
 obtain ⟨rfl,v10,hE,s⟩:=hJ
 refine ⟨_,hE.sub,?_⟩
 cases h
 exact .g (.q z (.q z (.qn z (.ret (aa (vs:=[_,_]) v10 (rt z (rt z rn)) z (s.tk [1]))))))
theorem ud {a0:List ab} {a1:List Bool} {v_0:Hd} {v_1:Hd} {S:Nat->Prop} {w:World} {r:Bool×(List Bool)} (h:fw a0 a1=some r) (q_0:RV w (Old S w) (sv v_0) 70 5 ah a0) (hO:bu w [ac (sv v_1) 4 1 D.bool a1] S) (hlt:∀ b,S b->b<w.heap.size):CL 269 #[sv v_0,sv v_1] w (Ret S w (λs:Unit=>.bool r.1) (λs=>[ac (sv v_1) 4 1 D.bool r.2])):=by
 unfold fw at h
 refine ao func269 z z ?_
 have s:=Sep.sm hO hlt
 refine .g (.qn z (.g (.qn z (.seq (.g (.qn z (.block (bv h λy1 hy1 h=>?_))))))))
 refine .via (.iter (λs1 E' W'=>aq E' [(0,(sv v_0)),(1,(sv v_1)),(5,.bool s1.1),(6,vi s1.2.1)]/\Sep S w W' [ac (sv v_1) 4 1 D.bool s1.2.2]) (λy2 x E' W'=>x=.exit 0/\aq E' [(5,.bool y2.1)]/\Sep S w W' [ac (sv v_1) 4 1 D.bool y2.2]) hy1 ⟨sb z,s.tk [0]⟩ ?_) ?_
 ·intro s1 y3 E W h hI
  obtain ⟨hE,s⟩:=hI
  refine CW.sub hE ?_
  unfold jy at h
  refine .seq (.g (.q z (.q z (.s (aE (s.keep q_0) u38 z z) z (.q z (.nil ?_))))))
  refine .cs z h ?_ ?_ <;> intro h
  ·refine .skip (bv h λy4 hy4 h=>?_)
   refine .seq (CW.via (R':=λx E' W'=>x=.normal/\aq E' [(0,(sv v_0)),(1,(sv v_1)),(5,.bool y4.1),(6,vi s1.2.1)]/\Sep S w W' [ac (sv v_1) 4 1 D.bool y4.2]) ?_ ?_)
   ·have h:=hy4
    refine .block (.seq (.g (.q z (.q z (bv h λx1 hx1 h=>.s (ixv s.lv hx1 u188 t4 z z z) z (.s (lde (RV.flat s.lv hx1 z) t4 z z z z z) z (.q z (.nil ?_))))))))
    refine .cs z h ?_ ?_ <;> intro h
    ·refine .exit ?_
     cases h
     exact ⟨z,sb z,s.tk [0]⟩
    refine .skip (.g (.q z (.q z (bv h λy5 hy5 h=>.c (.cV s func251 (l8 hy5 (s.keep q_0)) z z ?_)))))
    intro v1 W s
    refine .qn z (.g (.qn z (.block (bv h λy6 hy6 h=>?_))))
    refine .via (.iter (λs2 E' W'=>aq E' [(0,(sv v_0)),(1,(sv v_1)),(5,.bool s2.1),(6,vi s1.2.1),(7,(sv v1)),(8,vi s2.2.1)]/\Sep S w W' [ac (sv v1) 3 1 (D.int .i64) y5,ac (sv v_1) 4 1 D.bool s2.2.2]) (λy7 x E' W'=>x=.exit 2/\aq E' [(0,(sv v_0)),(1,(sv v_1)),(5,.bool y7.1),(6,vi s1.2.1)]/\Sep S w W' [ac (sv v1) 3 1 (D.int .i64) y5,ac (sv v_1) 4 1 D.bool y7.2]) hy6 ⟨sb z,s.tk [0,0]⟩ ?_) ?_
    ·intro s2 y8 E W h hI
     obtain ⟨hE,s⟩:=hI
     refine CW.sub hE ?_
     unfold jx at h
     refine .seq (.g (.q z (.q z (.s (aE s.lv u23 z z) z (.q z (.nil ?_))))))
     refine .cs z h ?_ ?_ <;> intro h
     ·refine .skip (bv h λy9 hy9 h=>?_)
      refine .seq (CW.via (R':=λx E' W'=>x=.normal/\aq E' [(0,(sv v_0)),(1,(sv v_1)),(5,.bool y9.1),(6,vi s1.2.1),(7,(sv v1)),(8,vi s2.2.1)]/\Sep S w W' [ac (sv v1) 3 1 (D.int .i64) y5,ac (sv v_1) 4 1 D.bool y9.2]) ?_ ?_)
      ·have h:=hy9
       refine .block (.g (.q z (.q z (.q z (bv h λx2 hx2 h=>.s (ixv s.lv hx2 u23 t3 z z z) z (.s (lde (RV.flat s.lv hx2 z) t3 z z z z z) z (bv h λx3 hx3 h=>.s (ixv s.p1.lv hx3 u188 t4 z z z) z (.s (lde (RV.flat s.p1.lv hx3 z) t4 z z z z z) z (.q z (.nil ?_))))))))))
       refine .cs z h ?_ ?_ <;> intro h
       ·refine .g (.q z (.q z (.q z (bv h λx4 hx4 h=>.s (ixv s.lv hx4 u23 t3 z z z) z (.s (lde (RV.flat s.lv hx4 z) t3 z z z z z) z (bv h λx5 hx5 h=>.s (ixv s.p1.lv hx5 u188 t4 z z z) z (bv h λr1 hr1 h=>.c (.sev hr1 hx5 s.p1 t4 z z z z z z ?_))))))))
        intro W s
        refine .nil (.region (.q z (.nil ?_)))
        cases h
        exact ⟨z,sb z,s.tk [1,0]⟩
       refine .skip ?_
       cases h
       exact ⟨z,sb z,s.tk [0,0]⟩
      intro x E W hJ
      obtain ⟨rfl,hE,s⟩:=hJ
      refine ⟨_,hE.sub,?_⟩
      refine .region (.q z (.q z (.q z (.nil ?_))))
      cases h
      exact ⟨z,sb z,s.tk [0,0]⟩
     refine .exit ?_
     cases h
     exact ⟨by simp,z,sb z,s.tk [0,0]⟩
    intro x E W hJ
    obtain ⟨rfl,hE,s⟩:=hJ
    refine ⟨_,hE.sub,?_⟩
    cases h
    exact ⟨z,sb z,s.tk [1]⟩
   intro x E W hJ
   obtain ⟨rfl,hE,s⟩:=hJ
   refine ⟨_,hE.sub,?_⟩
   refine .region (.q z (.q z (.q z (.nil ?_))))
   cases h
   exact ⟨z,sb z,s.tk [0]⟩
  refine .exit ?_
  cases h
  exact ⟨by simp,z,sb z,s.tk [0]⟩
 intro x E W hJ
 obtain ⟨rfl,hE,s⟩:=hJ
 refine ⟨_,hE.sub,?_⟩
 cases h
 exact .g (.q z (.qn z (.ret (aa () (rt z rn) z (s.tk [0])))))
theorem ue {a0:List ab} {v_0:Hd} {w:World} {r:(List Bool)} (h:cW a0=some r) (q_0:RO w v_0 70 5 ah a0):CL 246 #[sv v_0] w (Ret No w (λs:Hd=>(sv s)) (λs=>[ac (sv s) 4 1 D.bool r])):=by
 unfold cW at h
 refine ao func246 z z ?_
 have s:=Sep.start w
 refine .g (.qn z (.seq (.g (.q z (bv h λy1 hy1 h=>.c (.cO s func106 (bp hy1 (s.keep q_0)) z z ?_))))))
 intro W s
 refine .qn z (.cond z (λb=>?_) (λb=>?_))
 ·have h:=aK b h
  refine .g (.c (.liv [] D.bool u188 t4 s z z z z ?_ z (λ_=>z)))
  intro v1 W s
  cases h
  exact .qn z (.ret (aa v1 (rt z rn) z (s.tk [0])))
 have h:=aL b h
 refine .skip (.g (.q z (.s (aE (s.keep q_0) u38 z z) z (bv h λr1 hr1 h=>.c (.mkv false D.bool hr1 u188 t4 s z z z z z (λ_=>z) ?_)))))
 intro v2 W s
 refine .qn z (.g (.q z (bv h λx1 hx1 h=>.s (ixv s.lv hx1 u188 t4 z z z) z (bv h λr2 hr2 h=>.c (.sev hr2 hx1 s t4 z z z z z z ?_)))))
 intro W s
 refine .nil (.seq (.block (bv h λy2 hy2 h=>?_)))
 refine .via (.iter (λs1 E' W'=>aq E' [(0,(sv v_0)),(3,(sv v2))]/\Sep No w W' [ac (sv v2) 4 1 D.bool s1]) (λy3 x E' W'=>x=.exit 0/\aq E' [(3,(sv v2))]/\Sep No w W' [ac (sv v2) 4 1 D.bool y3]) hy2 ⟨sb z,s.tk [0]⟩ ?_) ?_
 ·intro s1 y4 E W h hI
  obtain ⟨hE,s⟩:=hI
  refine CW.sub hE ?_
  unfold jz at h
  refine .seq (.g (.q z (.q z (bv h λy5 hy5 h=>.c (.cS (L0:=[ac (sv v2) 4 1 D.bool s1]) s func269 (λS h1 h2 h3=>(ud hy5 (s.ks q_0 h1) h2 (zz h1))) z z ?_)))))
  rintro ⟨⟩ W s
  refine .nil ?_
  refine .cs z h ?_ ?_ <;> intro h
  ·refine .skip (.block (.skip ?_))
   cases h
   exact ⟨z,sb z,s.tk [0]⟩
  refine .exit ?_
  cases h
  exact ⟨by simp,z,sb z,s.tk [0]⟩
 intro x E W hJ
 obtain ⟨rfl,hE,s⟩:=hJ
 refine ⟨_,hE.sub,?_⟩
 obtain rfl:=o9 h
 exact .g (.q z (.qn z (.ret (aa v2 (rt z rn) z (s.tk [0])))))
theorem wh {a0:ab} {a1:Int} {w:World} {r:Bool} (h:mz a0 a1=some r):CL 247 #[.agg #[vi a0.Op,vi a0.Dst,vi a0.A,vi a0.B,vi a0.N],vi a1] w (RU w (.bool r)):=by
 unfold mz at h
 refine ao func247 z z ?_
 have s:=Sep.start w
 refine .g (.c (.box s z z ?_))
 intro g1 W s
 refine .qn z (.seq (.g (.s (fa f70_0 z z z) z (.s (ld t3 s z z z z z) z (.nil (.block (bv h λy1 hy1 h=>?_)))))))
 refine .seq (CW.via (R':=λx E' W'=>x=.normal/\aq E' [(1,vi a1),(2,Pt g1),(6,vi a0.Op),(7,.bool y1)]/\Sep No w W' [.box g1 70 [vi a0.Op,vi a0.Dst,vi a0.A,vi a0.B,vi a0.N]]) ?_ ?_)
 ·have h:=hy1
  refine .g (.q z (.q z (.nil ?_)))
  refine .cs z h ?_ ?_ <;> intro h
  ·refine .skip ?_
   cases h
   exact ⟨z,sb z,s.tk [0]⟩
  refine .region (.q z (.q z (.nil ?_)))
  cases h
  exact ⟨z,sb z,s.tk [0]⟩
 intro x E W hJ
 obtain ⟨rfl,hE,s⟩:=hJ
 refine ⟨_,hE.sub,?_⟩
 refine .cs z h ?_ ?_ <;> intro h
 ·cases h
  exact .g (.s (fa f70_4 z z z) z (.s (ld t3 s z z z z z) z (.q z (.q z (.q z (.qn z (.ret (aa () (rt z rn) z (s.to [])))))))))
 refine .g (.q z (.q z (.nil ?_)))
 refine .cs z h ?_ ?_ <;> intro h
 ·cases h
  exact .g (.s (fa f70_1 z z z) z (.s (ld t3 s z z z z z) z (.s (fa f70_2 z z z) z (.s (ld t3 s z z z z z) z (.q z (.qn z (.ret (aa () (rt z rn) z (s.to [])))))))))
 obtain rfl:=o9 h
 exact .skip (.g (.qn z (.ret (aa () (rt z rn) z (s.to [])))))
theorem vt {a0:List Bool} {a1:Int} {v_0:Hd} {w:World} {r:Int} (h:lr a0 a1=some r) (q_0:RO w v_0 4 1 D.bool a0):CL 248 #[sv v_0,vi a1] w (RU w (.int .i64 r)):=by
 unfold lr at h
 refine ao func248 z z ?_
 have s:=Sep.start w
 refine .g (.qn z (.g (.qn z (.seq (.g (.qn z (.block (bv h λy1 hy1 h=>?_))))))))
 refine .via (.iter (λs1 E' W'=>aq E' [(0,(sv v_0)),(1,vi a1),(5,vi s1.1),(6,vi s1.2)]/\Sep No w W' []) (λy2 x E' W'=>x=.exit 0/\aq E' [(5,vi y2)]/\Sep No w W' []) hy1 ⟨sb z,s.to []⟩ ?_) ?_
 ·intro s1 y3 E W h hI
  obtain ⟨hE,s⟩:=hI
  refine CW.sub hE ?_
  unfold nd at h
  refine .seq (.g (.q z (.q z (.q z (.nil ?_)))))
  refine .cs z h ?_ ?_ <;> intro h
  ·refine .skip (bv h λy4 hy4 h=>?_)
   refine .seq (CW.via (R':=λx E' W'=>x=.normal/\aq E' [(0,(sv v_0)),(1,vi a1),(5,vi y4),(6,vi s1.2)]/\Sep No w W' []) ?_ ?_)
   ·have h:=hy4
    refine .block (.g (.q z (.q z (bv h λx1 hx1 h=>.s (ixv (s.keep q_0) hx1 u188 t4 z z z) z (.s (lde (RV.flat (s.keep q_0) hx1 z) t4 z z z z z) z (.nil ?_))))))
    refine .cs z h ?_ ?_ <;> intro h
    ·refine .region (.q z (.q z (.q z (.nil ?_))))
     cases h
     exact ⟨z,sb z,s.to []⟩
    refine .skip ?_
    cases h
    exact ⟨z,sb z,s.to []⟩
   intro x E W hJ
   obtain ⟨rfl,hE,s⟩:=hJ
   refine ⟨_,hE.sub,?_⟩
   refine .region (.q z (.q z (.q z (.nil ?_))))
   cases h
   exact ⟨z,sb z,s.to []⟩
  refine .exit ?_
  cases h
  exact ⟨by simp,z,sb z,s.to []⟩
 intro x E W hJ
 obtain ⟨rfl,hE,s⟩:=hJ
 refine ⟨_,hE.sub,?_⟩
 obtain rfl:=o9 h
 exact .g (.q z (.qn z (.ret (aa () (rt z rn) z (s.to [])))))
theorem sc {a0:List ab} {v_0:Hd} {w:World} {r:(List ab)×Bool} (h:dx a0=some r) (q_0:RO w v_0 70 5 ah a0):CL 200 #[sv v_0] w (Ret No w (λs:Hd=>.tuple #[sv s,.bool r.2]) (λs=>[ac (sv s) 70 5 ah r.1])):=by
 unfold dx at h
 refine ao func200 z z ?_
 have s:=Sep.start w
 refine .g (.q z (.qn z (.g (.c (.liv [] ah u38 t70 s z z z z ?_ z (λ_=>z))))))
 intro v1 W s
 refine .qn z (.seq (.g (.q z (bv h λy1 hy1 h=>.c (.cO s func106 (bp hy1 (s.keep q_0)) z z ?_)))))
 intro W s
 refine .q z (.nil ?_)
 refine .cs z h ?_ ?_ <;> intro h
 ·cases h
  exact .g (.q z (.q z (.qn z (.ret (aa (vs:=[_,_]) v1 (rt z (rt z rn)) z (s.tk [0]))))))
 refine .skip (.g (.q z (bv h λy2 hy2 h=>.c (.cV s func246 (ue hy2 (s.keep q_0)) z z ?_))))
 intro v2 W s
 refine .qn z (.seq (.g (.qn z (.block (bv h λy3 hy3 h=>?_)))))
 refine .via (.iter (λs1 E' W'=>aq E' [(0,(sv v_0)),(4,(sv v1)),(5,(sv v2)),(6,vi s1.1)]/\Sep No w W' [ac (sv v2) 4 1 D.bool s1.2,ac (sv v1) 70 5 ah []]) (λy4 x E' W'=>x=.exit 0/\aq E' [(0,(sv v_0)),(4,(sv v1)),(5,(sv v2))]/\Sep No w W' [ac (sv v2) 4 1 D.bool y4,ac (sv v1) 70 5 ah []]) hy3 ⟨sb z,s.tk [0,0]⟩ ?_) ?_
 ·intro s1 y5 E W h hI
  obtain ⟨hE,s⟩:=hI
  refine CW.sub hE ?_
  unfold eg at h
  refine .seq (.g (.q z (.q z (.s (aE (s.keep q_0) u38 z z) z (.q z (.nil ?_))))))
  refine .cs z h ?_ ?_ <;> intro h
  ·refine .skip (.seq (.block (.region (.q z (.q z (.q z (.q z (bv h λx1 hx1 h=>.s (ixv s.lv hx1 u188 t4 z z z) z (.s (lde (RV.flat s.lv hx1 z) t4 z z z z z) z (.q z (bv h λb1 hb1 h=>.cu 8 36 (b1) s ?_ ?_)))))))))))
   ·refine .both (x1) (λb=>?_) (λb=>?_)
    ·have hg1:=b
     have h:=aK b hb1
     refine .g hg1 (.q z (.g hg1 (.q z (bv h λx2 hx2 h=>.g hg1 (.s (ixv (s.keep q_0) hx2 u38 t70 z z z) z (.g hg1 (.s (lde (RV.flat (s.keep q_0) hx2 z) t70 z z z z z) z (.g hg1 (.q z (bv h λy6 hy6 h=>.g hg1 (.c (.cO s func247 (wh hy6) z z ?_))))))))))))
     intro W s
     refine .g hg1 (.q z (.s (pkt hg1 z z z) z ?_))
     cases h
     exact .nil (ck 8 s)
    refine .xx b z (.xx b z (.xx b z (.xx b z (.xx b z (.xx b z (.xx b z ?_))))))
    cases aL b hb1
    exact .s (pkf b z z z) z (.nil (ck 8 s))
   intro W s
   refine bv h λx3 hx3 h=>.s (ixv s.lv hx3 u188 t4 z z z) z (bv h λr1 hr1 h=>.c (.sev hr1 hx3 s t4 z z z z z z ?_))
   intro W s
   refine .nil (.region (.q z (.q z (.q z (.nil ?_)))))
   cases h
   exact ⟨z,sb z,s.tk [0,0]⟩
  refine .exit ?_
  cases h
  exact ⟨by simp,z,sb z,s.tk [0,0]⟩
 intro x E W hJ
 obtain ⟨rfl,hE,s⟩:=hJ
 refine ⟨_,hE.sub,?_⟩
 refine .seq (.g (.qn z (.block (bv h λy7 hy7 h=>?_))))
 refine .via (.iter (λs2 E' W'=>∃ (v5:Hd),aq E' [(0,(sv v_0)),(4,(sv v5)),(5,(sv v2)),(7,vi s2.2)]/\Sep No w W' [ac (sv v2) 4 1 D.bool y3,ac (sv v5) 70 5 ah s2.1]) (λy8 x E' W'=>x=.exit 2/\∃ (v6:Hd),aq E' [(4,(sv v6))]/\Sep No w W' [ac (sv v2) 4 1 D.bool y3,ac (sv v6) 70 5 ah y8]) hy7 ⟨v1,sb z,s.tk [0,0]⟩ ?_) ?_
 ·intro s2 y9 E W h hI
  obtain ⟨v4,hE,s⟩:=hI
  refine CW.sub hE ?_
  unfold eh at h
  refine .seq (.g (.q z (.q z (.s (aE (s.keep q_0) u38 z z) z (.q z (.nil ?_))))))
  refine .cs z h ?_ ?_ <;> intro h
  ·refine .skip (bv h λy10 hy10 h=>?_)
   refine .seq (CW.via (R':=λx E' W'=>x=.normal/\∃ (v7:Hd),aq E' [(0,(sv v_0)),(4,(sv v7)),(5,(sv v2)),(7,vi s2.2)]/\Sep No w W' [ac (sv v2) 4 1 D.bool y3,ac (sv v7) 70 5 ah y10]) ?_ ?_)
   ·have h:=hy10
    refine .block (.g (.q z (.q z (bv h λx4 hx4 h=>.s (ixv (s.keep q_0) hx4 u38 t70 z z z) z (.s (lde (RV.flat (s.keep q_0) hx4 z) t70 z z z z z) z (.c (.alloc t70 s ?_)))))))
    intro g1 W s
    refine .c (.st t70 s z z z ?_)
    intro W s
    refine .nil (.seq (.g (.q z (.q z (bv h λx5 hx5 h=>.s (ixv s.p1.lv hx5 u188 t4 z z z) z (.s (lde (RV.flat s.p1.lv hx5 z) t4 z z z z z) z (.q z (.nil ?_))))))))
    refine .cs z h ?_ ?_ <;> intro h
    ·refine .exit ?_
     cases h
     exact ⟨z,v4,sb z,s.tk [1,1]⟩
    refine .skip (bv h λy11 hy11 h=>?_)
    refine .seq (CW.via (R':=λx E' W'=>x=.normal/\aq E' [(0,(sv v_0)),(4,(sv v4)),(5,(sv v2)),(7,vi s2.2),(8,Pt g1)]/\Sep No w W' [.box g1 70 [vi y11.Op,vi y11.Dst,vi y11.A,vi y11.B,vi y11.N],ac (sv v2) 4 1 D.bool y3,ac (sv v4) 70 5 ah s2.1]) ?_ ?_)
    ·have h:=hy11
     refine .g (.s (fa f70_0 z z z) z (.s (ld t3 s z z z z z) z (.q z (.q z (.cu 4 60 ((x4.Op==4)||(x4.Op==5)) s ?_ ?_)))))
     ·refine .both (x4.Op==4) (λb=>?_) (λb=>?_)
      ·exact .xx b z (.xx b z (.xx b z (.s (pkt b z z z) z (.nil (ck 4 s z (iH b))))))
      have hg2:=b
      exact .g hg2 (.s (fa f70_0 z z z) z (.g hg2 (.s (ld t3 s z z z z z) z (.g hg2 (.q z (.s (pkf hg2 z z z) z (.nil (ck 4 s z (gS hg2)))))))))
     intro W s
     refine .nil ?_
     refine .cs z h ?_ ?_ <;> intro h
     ·refine .region (.q z (.s (fa f70_4 z z z) z (.s (ld t3 s z z z z z) z (bv h λy12 hy12 h=>.c (.cO s func248 (vt hy12 s.p1.lv) z z ?_)))))
      intro W s
      refine .s (fa f70_4 z z z) z (.c (.st t3 s z z z ?_))
      intro W s
      refine .nil ?_
      cases h
      exact ⟨z,sb z,s.tk [0,0,0]⟩
     refine .skip ?_
     obtain rfl:=o9 h
     exact ⟨z,sb z,s.tk [0,0,0]⟩
    intro x E W hJ
    obtain ⟨rfl,hE,s⟩:=hJ
    refine ⟨_,hE.sub,?_⟩
    refine .region (.q z (.s (ld t70 s z z z z z) z (.c (.liv [y11] ah u38 t70 s z z z z ?_ z (λ_=>z)))))
    intro v8 W s
    refine bv h λr2 hr2 h=>?_
    have hT0:=s.p3
    refine .c (.av hr2 hT0 hT0.p1.lv (λ_=>z) u38 t70 z z z ?_)
    intro v9 W s
    refine .q z (.nil ?_)
    obtain rfl:=o9 h
    exact ⟨z,v9,sb z,s.tk [3,0]⟩
   intro x E W hJ
   obtain ⟨rfl,v10,hE,s⟩:=hJ
   refine ⟨_,hE.sub,?_⟩
   refine .region (.q z (.q z (.q z (.nil ?_))))
   cases h
   exact ⟨z,v10,sb z,s.tk [0,0]⟩
  refine .exit ?_
  cases h
  exact ⟨by simp,z,v4,sb z,s.tk [0,0]⟩
 intro x E W hJ
 obtain ⟨rfl,v11,hE,s⟩:=hJ
 refine ⟨_,hE.sub,?_⟩
 cases h
 exact .g (.q z (.q z (.qn z (.ret (aa (vs:=[_,_]) v11 (rt z (rt z rn)) z (s.tk [1]))))))
theorem wi {a0:List ab} {v_0:Hd} {w:World} {r:(List ab)} (h:oh a0=some r) (q_0:RO w v_0 70 5 ah a0):CL 153 #[sv v_0] w (Ret No w (λs:Hd=>(sv s)) (λs=>[ac (sv s) 70 5 ah r])):=by
 unfold oh at h
 refine ao func153 z z ?_
 have s:=Sep.start w
 refine .g (.qn z (.g (.q z (bv h λy1 hy1 h=>.c (.cV s func196 (vg hy1 (s.keep q_0)) z z ?_)))))
 intro v1 W s
 refine .q z (.q z (.q z (.q z (.qn z (.g (.q z (bv h λy2 hy2 h=>.c (.cV s func197 (vm hy2 s.lv) z z ?_))))))))
 intro v2 W s
 refine .q z (.q z (.q z (.q z (.qn z (.g (.q z (bv h λy3 hy3 h=>.c (.cV s func198 (vo hy3 s.lv) z z ?_))))))))
 intro v3 W s
 refine .q z (.q z (.q z (.q z (.qn z (.g (.q z (bv h λy4 hy4 h=>.c (.cV s func199 (vr hy4 s.lv) z z ?_))))))))
 intro v4 W s
 refine .q z (.q z (.q z (.q z (.qn z (.g (.q z (bv h λy5 hy5 h=>.c (.cV s func200 (sc hy5 s.lv) z z ?_))))))))
 intro v5 W s
 cases h
 exact .q z (.q z (.q z (.q z (.qn z (.g (.q z (.qn z (.ret (aa v5 (rt z rn) z (s.tk [0]))))))))))
theorem rh {a0:List ab} {a1:Int} {v_0:Hd} {w:World} {r:(List ab)×Bool} (h:ch a0 a1=some r) (q_0:RO w v_0 70 5 ah a0):CL 105 #[sv v_0,vi a1] w (Ret No w (λs:Hd=>.tuple #[sv s,.bool r.2]) (λs=>[ac (sv s) 70 5 ah r.1])):=by
 unfold ch at h
 refine ao func105 z z ?_
 have s:=Sep.start w
 refine .g (.q z (.qn z (.seq (.g (.q z (bv h λy1 hy1 h=>.c (.cO s func106 (bp hy1 (s.keep q_0)) z z ?_)))))))
 intro W s
 refine .q z (.q z (bv h λb1 hb1 h=>.cu 4 15 (b1) s ?_ ?_))
 ·refine .both (!y1) (λb=>?_) (λb=>?_)
  ·refine .xx b z (.xx b z (.xx b z ?_))
   cases aK b hb1
   exact .s (pkt b z z z) z (.nil (ck 4 s))
  have hg1:=b
  have h:=aL b hb1
  refine .g hg1 (.q z (bv h λy2 hy2 h=>.g hg1 (.c (.cO s func32 (bf hy2) z z ?_))))
  intro W s
  refine .g hg1 (.q z (.s (pkf hg1 z z z) z ?_))
  cases h
  exact .nil (ck 4 s)
 intro W s
 refine .nil ?_
 refine .cs z h ?_ ?_ <;> intro h
 ·refine .g (.c (.liv [] ah u38 t70 s z z z z ?_ z (λ_=>z)))
  intro v1 W s
  cases h
  exact .q z (.qn z (.ret (aa (vs:=[_,_]) v1 (rt z (rt z rn)) z (s.tk [0]))))
 refine .skip (.g (.c (.liv [] ah u38 t70 s z z z z ?_ z (λ_=>z))))
 intro v2 W s
 refine .q z (bv h λr1 hr1 h=>.c (.av hr1 s (s.keep q_0) (λ_=>z) u38 t70 z z z ?_))
 intro v3 W s
 refine .qn z (.seq (.g (.qn z (.block (bv h λy3 hy3 h=>?_)))))
 refine .via (.iter (λs1 E' W'=>∃ (v6:Hd),aq E' [(1,vi a1),(6,(sv v6)),(7,vi s1.2)]/\Sep No w W' [ac (sv v6) 70 5 ah s1.1]) (λy4 x E' W'=>x=.exit 0/\∃ (v7:Hd),aq E' [(6,(sv v7))]/\Sep No w W' [ac (sv v7) 70 5 ah y4]) hy3 ⟨v3,sb z,s.tk [0]⟩ ?_) ?_
 ·intro s1 y5 E W h hI
  obtain ⟨v5,hE,s⟩:=hI
  refine CW.sub hE ?_
  unfold bI at h
  refine .seq (.g (.q z (.q z (.q z (.nil ?_)))))
  refine .cs z h ?_ ?_ <;> intro h
  ·refine .skip (.seq (.block (.region (.q z (bv h λy6 hy6 h=>.c (.cV s func153 (wi hy6 s.lv) z z ?_))))))
   intro v8 W s
   refine .qn z (.region (.q z (.q z (.q z (.nil ?_)))))
   cases h
   exact ⟨z,v8,sb z,s.tk [0]⟩
  refine .exit ?_
  cases h
  exact ⟨by simp,z,v5,sb z,s.tk [0]⟩
 intro x E W hJ
 obtain ⟨rfl,v9,hE,s⟩:=hJ
 refine ⟨_,hE.sub,?_⟩
 cases h
 exact .g (.q z (.q z (.qn z (.ret (aa (vs:=[_,_]) v9 (rt z (rt z rn)) z (s.tk [0]))))))
def tj (w:World) (r:(List (List ab))×Bool):Env->World->Prop:=Fin Tryz.prog Tryz.f60 No w (λs:Hd=>.tuple #[sv s,.bool r.2]) (λs=>[ac (sv s) 38 1 (λ(l:List ab)=>D.row 70 5 (l.map ah)) r.1]) .ret
end
noncomputable section
theorem sd {a0:List (List ab)} {a1:Int} {v_0:Hd} {w:World} {r:(List (List ab))×Bool} (h:dy a0 a1=some r) (q_0:RO w v_0 38 1 (λ(l:List ab)=>D.row 70 5 (l.map ah)) a0):CL 60 #[sv v_0,vi a1] w (Ret No w (λs:Hd=>.tuple #[sv s,.bool r.2]) (λs=>[ac (sv s) 38 1 (λ(l:List ab)=>D.row 70 5 (l.map ah)) r.1])):=by
 unfold dy at h
 refine ao func60 z z ?_
 have s:=Sep.start w
 refine .g (.q z (.qn z (.g (.c (.lg (L1:=[]) [] (λ(l:List ab)=>D.row 70 5 (l.map ah)) u32 t38 (s.to []) z z z (.nil) ?_ z (λ_=>z))))))
 intro v1 W s
 refine .qn z (.seq (.g (.q z (.s (aE (s.keep q_0) u32 z z) z (bv h λy1 hy1 h=>.c (.cO s func32 (bf hy1) z z ?_))))))
 intro W s
 refine .q z (.nil ?_)
 refine .cs z h ?_ ?_ <;> intro h
 ·cases h
  exact .g (.q z (.q z (.qn z (.ret (aa (vs:=[_,_]) v1 (rt z (rt z rn)) z (s.tk [0]))))))
 refine .skip (.seq (.g (.qn z (.block (bv h λy2 hy2 h=>?_)))))
 refine .via (.iter (λs1 E' W'=>∃ (v4:Hd),aq E' [(0,(sv v_0)),(1,vi a1),(6,(sv v4)),(7,vi s1.2)]/\Sep No w W' [ac (sv v4) 38 1 (λ(l:List ab)=>D.row 70 5 (l.map ah)) s1.1]) (λy3 x E' W'=>(match y3 with | .inl o1=>x=.ret/\tj w o1 E' W' | .inr o2=>x=.exit 0/\∃ (v5:Hd),aq E' [(6,(sv v5))]/\Sep No w W' [ac (sv v5) 38 1 (λ(l:List ab)=>D.row 70 5 (l.map ah)) o2])) hy2 ⟨v1,sb rfl,s.tk [0]⟩ ?_) ?_
 ·intro s1 y4 E W h hI
  obtain ⟨v3,hE,s⟩:=hI
  refine CW.sub hE ?_
  unfold da at h
  refine .seq (.g (.q z (.q z (.s (aE (s.keep q_0) u32 z z) z (.q z (.nil ?_))))))
  refine .cs z h ?_ ?_ <;> intro h
  ·refine .skip (.seq (.block (.g (.q z (.q z (bv h λx1 hx1 h=>?_))))))
   obtain ⟨k1,hd,hck1⟩:=RV.el2 q_0 hx1
   obtain ⟨v6,k1,rfl,q5,hd1⟩:=bn q_0 hd
   obtain rfl:=gU q_0 hd1
   refine .s (ixv (s.keep q_0) hx1 u32 t38 z z z) z (.s (lde (hck1 _ s.agree) t38 z z z z z) z (.q z (bv h λy5 hy5 h=>.c (.cV s func105 (rh hy5 (s.keep (q5 _ q_0))) z z ?_))))
   intro v7 W s
   refine .q z (.q z (.q z (.q z (.qn z (.seq (.g (.q z (.q z (.nil ?_)))))))))
   refine .cs z h ?_ ?_ <;> intro h
   ·refine .g (.c (.lg (L1:=[]) [] (λ(l:List ab)=>D.row 70 5 (l.map ah)) u32 t38 (s.to [0,0]) z z z (.nil) ?_ z (λ_=>z)))
    intro v8 W s
    refine .q z (.qn z (.ret ?_))
    cases h
    exact ⟨by simp,z,aa (vs:=[_,_]) v8 (rt z (rt z rn)) z (s.tk [0])⟩
   refine .skip (.region (.q z (.q z (.c (.lg (L1:=[ac (sv v7) 70 5 ah y5.1]) [y5.1] (λ(l:List ab)=>D.row 70 5 (l.map ah)) u32 t38 (s.to [0,0]) z z z (.row (.nil)) ?_ z (λ_=>z))))))
   intro v9 W s
   refine bv h λr1 hr1 h=>.c (.appv hr1 (s.to [1,0]) u32 t38 z z z ?_)
   intro v10 W s
   refine .qn z (.region (.q z (.q z (.q z (.nil ?_)))))
   cases h
   exact ⟨z,v10,sb z,s.tk [0]⟩
  refine .exit ?_
  cases h
  exact ⟨by simp,z,v3,sb z,s.tk [0]⟩
 intro x E W hJ
 rcases y2 with o3 | o4
 ·have h:=bW h
  obtain ⟨rfl,hF⟩:=hJ
  refine ⟨_,λ_ _ h=>h,?_⟩
  cases h
  exact hF
 have h:=bX h
 obtain ⟨rfl,v11,hE,s⟩:=hJ
 refine ⟨_,hE.sub,?_⟩
 cases h
 exact .g (.q z (.q z (.qn z (.ret (aa (vs:=[_,_]) v11 (rt z (rt z rn)) z (s.tk [0]))))))
theorem vu {a0:List ab} {v_0:Hd} {w:World} {r:(List (List Bool))} (h:lu a0=some r) (q_0:RO w v_0 70 5 ah a0):CL 155 #[sv v_0] w (Ret No w (λs:Hd=>(sv s)) (λs=>[ac (sv s) 188 1 (λ(l:List Bool)=>D.row 4 1 (l.map D.bool)) r])):=by
 unfold lu at h
 refine ao func155 z z ?_
 have s:=Sep.start w
 refine .g (.qn z (.g (.q z (bv h λy1 hy1 h=>.c (.cV s func204 (rf hy1 (s.keep q_0)) z z ?_)))))
 intro v1 W s
 refine .qn z (.g (.c (.lg (L1:=[]) [] (λ(l:List Bool)=>D.row 4 1 (l.map D.bool)) u169 t188 (s.to [0]) z z z (.nil) ?_ z (λ_=>z))))
 intro v2 W s
 refine .qn z (.seq (.g (.qn z (.block (bv h λy2 hy2 h=>?_)))))
 refine .via (.iter (λs1 E' W'=>∃ (v5:Hd),aq E' [(0,(sv v_0)),(3,(sv v1)),(4,(sv v5)),(5,vi s1.2)]/\Sep No w W' [ac (sv v1) 188 1 (λ(l:List Bool)=>D.row 4 1 (l.map D.bool)) y1,ac (sv v5) 188 1 (λ(l:List Bool)=>D.row 4 1 (l.map D.bool)) s1.1]) (λy3 x E' W'=>x=.exit 0/\∃ (v6:Hd),aq E' [(4,(sv v6))]/\Sep No w W' [ac (sv v1) 188 1 (λ(l:List Bool)=>D.row 4 1 (l.map D.bool)) y1,ac (sv v6) 188 1 (λ(l:List Bool)=>D.row 4 1 (l.map D.bool)) y3]) hy2 ⟨v2,sb z,s.tk [1,0]⟩ ?_) ?_
 ·intro s1 y4 E W h hI
  obtain ⟨v4,hE,s⟩:=hI
  refine CW.sub hE ?_
  unfold nf at h
  refine .seq (.g (.q z (.q z (.s (aE (s.keep q_0) u38 z z) z (.q z (.nil ?_))))))
  refine .cs z h ?_ ?_ <;> intro h
  ·refine .skip (.seq (.block (.region (.q z (.q z (.q z (.q z (bv h λy5 hy5 h=>.c (.cV s func205 (nj hy5 (s.keep q_0) s.lv) z z ?_)))))))))
   intro v7 W s
   refine .c (.lg (L1:=[ac (sv v7) 4 1 D.bool y5]) [y5] (λ(l:List Bool)=>D.row 4 1 (l.map D.bool)) u169 t188 (s.to [0,0,0]) z z z (.row (.nil)) ?_ z (λ_=>z))
   intro v8 W s
   refine bv h λr1 hr1 h=>.c (.appv hr1 (s.to [2,0,0]) u169 t188 z z z ?_)
   intro v9 W s
   refine .qn z (.region (.q z (.q z (.q z (.nil ?_)))))
   cases h
   exact ⟨z,v9,sb z,s.tk [1,0]⟩
  refine .exit ?_
  cases h
  exact ⟨by simp,z,v4,sb z,s.tk [0,0]⟩
 intro x E W hJ
 obtain ⟨rfl,v10,hE,s⟩:=hJ
 refine ⟨_,hE.sub,?_⟩
 obtain rfl:=o9 h
 exact .g (.q z (.qn z (.ret (aa v10 (rt z rn) z (s.tk [1])))))
theorem pM {a0:ab} {a1:List Bool} {a2:Int} {a3:Int} {v_1:Hd} {w:World} {r:Bool} (h:jk a0 a1 a2 a3=some r) (q_1:RO w v_1 4 1 D.bool a1):CL 252 #[.agg #[vi a0.Op,vi a0.Dst,vi a0.A,vi a0.B,vi a0.N],sv v_1,vi a2,vi a3] w (RU w (.bool r)):=by
 unfold jk at h
 refine ao func252 z z ?_
 have s:=Sep.start w
 refine .g (.c (.box s z z ?_))
 intro g1 W s
 refine .qn z (.seq (.g (.s (ld t70 s z z z z z) z (bv h λy1 hy1 h=>.c (.cO s func157 (iC hy1) z z ?_)))))
 intro W s
 refine .q z (.q z (.q z (bv h λb1 hb1 h=>.cu 6 19 (b1) s ?_ ?_)))
 ·refine .both (y1 !=a2) (λb=>?_) (λb=>?_)
  ·refine .xx b z (.xx b z (.xx b z (.xx b z (.xx b z ?_))))
   cases aK b hb1
   exact .s (pkt b z z z) z (.nil (ck 6 s))
  have hg1:=b
  have h:=aL b hb1
  refine .g hg1 (.q z (.g hg1 (.q z (bv h λx1 hx1 h=>.g hg1 (.s (ixv (s.keep q_1) hx1 u188 t4 z z z) z (.g hg1 (.s (lde (RV.flat (s.keep q_1) hx1 z) t4 z z z z z) z (.g hg1 (.q z (.s (pkf hg1 z z z) z ?_))))))))))
  cases h
  exact .nil (ck 6 s)
 intro W s
 refine .nil ?_
 refine .cs z h ?_ ?_ <;> intro h
 ·obtain rfl:=o9 h
  exact .g (.qn z (.ret (aa () (rt z rn) z (s.to []))))
 refine .skip (.g (.s (fa f70_0 z z z) z (.s (ld t3 s z z z z z) z (.q z (.q z (.cu 5 28 ((a0.Op !=2)||(a0.A !=a3)) s ?_ ?_))))))
 ·refine .both (a0.Op !=2) (λb=>?_) (λb=>?_)
  ·exact .xx b z (.xx b z (.xx b z (.xx b z (.s (pkt b z z z) z (.nil (ck 5 s z (iH b)))))))
  have hg2:=b
  exact .g hg2 (.s (fa f70_2 z z z) z (.g hg2 (.s (ld t3 s z z z z z) z (.g hg2 (.q z (.g hg2 (.q z (.s (pkf hg2 z z z) z (.nil (ck 5 s z (gS hg2)))))))))))
 intro W s
 cases h
 exact .qn z (.ret (aa () (rt z rn) z (s.to [])))
def xI (w:World) (r:Bool):Env->World->Prop:=Fin Tryz.prog Tryz.f206 No w (λs:Unit=>.bool r) (λs=>[]) .ret
theorem wj {a0:List ab} {a1:List (List Bool)} {a2:Int} {a3:Int} {v_0:Hd} {v_1:Hd} {w:World} {r:Bool} (h:mA a0 a1 a2 a3=some r) (q_0:RO w v_0 70 5 ah a0) (q_1:RO w v_1 188 1 (λ(l:List Bool)=>D.row 4 1 (l.map D.bool)) a1):CL 206 #[sv v_0,sv v_1,vi a2,vi a3] w (RU w (.bool r)):=by
 unfold mA at h
 refine ao func206 z z ?_
 have s:=Sep.start w
 refine .g (.qn z (.seq (.g (.q z (.q z (.q z (.nil ?_)))))))
 refine .cs z h ?_ ?_ <;> intro h
 ·obtain rfl:=o9 h
  exact .g (.qn z (.ret (aa () (rt z rn) z (s.to []))))
 refine .skip (.seq (.g (.qn z (.block (bv h λy1 hy1 h=>?_)))))
 refine .via (.iter (λs1 E' W'=>aq E' [(0,(sv v_0)),(1,(sv v_1)),(2,vi a2),(3,vi a3),(9,vi s1)]/\Sep No w W' []) (λy2 x E' W'=>(match y2 with | .inl o1=>x=.ret/\xI w o1 E' W' | .inr o2=>x=.exit 0/\aq E' []/\Sep No w W' [])) hy1 ⟨sb rfl,s.to [] rfl⟩ ?_) ?_
 ·intro s1 y3 E W h hI
  obtain ⟨hE,s⟩:=hI
  refine CW.sub hE ?_
  unfold nN at h
  refine .seq (.g (.q z (.q z (.s (aE (s.keep q_0) u38 z z) z (.q z (.nil ?_))))))
  refine .cs z h ?_ ?_ <;> intro h
  ·refine .skip (.seq (.block (.seq (bv h λx1 hx1 h=>bv h λx2 hx2 h=>bv h λy4 hy4 h=>bv h λb1 hb1 h=>?_))))
   refine .via (R':=λx E' W'=>x=.normal/\aq E' [(0,(sv v_0)),(1,(sv v_1)),(2,vi a2),(3,vi a3),(9,vi s1),(42,.bool b1)]/\Sep No w W' []) ?_ ?_
   ·refine .rk 24 s [] T.mix ?_
    intro W s
    have t:=s.to []
    refine .tp' 0 z z t (.tp' 1 z z t (.ts' 2 z (λW t=>ixv (s.keep q_0) hx1 u38 t70 z z z) t z (.ts' 3 z (λW t=>lde (RV.flat (t.keep q_0) hx1 z) t70 z z z z z) t z (.tp' 4 z z t (.tp' 5 z z t ?_)))))
    obtain ⟨k1,hd,hck1⟩:=RV.el2 q_1 hx2
    obtain ⟨v1,k1,rfl,q1,hd1⟩:=bn q_1 hd
    obtain rfl:=gU q_1 hd1
    refine .ts' 6 z (λW t=>ixv (s.keep q_1) hx2 u169 t188 z z z) t z (.ts' 7 z (λW t=>lde (hck1 _ t.agree) t188 z z z z z) t z (.tp' 8 z z t (.tp' 9 z z t (.by1 10 z (.cO s func252 (pM hy4 (s.keep (q1 _ q_1))) z z ?_)))))
    intro W s
    refine s.an [] λt=>.tp' 11 z z t (.both (y4) (λb=>?_) (λb=>?_))
    ·exact .off 12 z b t (.off 13 z b t (.off 14 z b t (.off 15 z b t (.off 16 z b t (.off 17 z b t (.off 18 z b t (.off 19 z b t (.off 20 z b t (.off 21 z b t (.off 22 z b t (.ts' 23 z (λW t=>pkt b z z z) t z (.eqv 42 z (nk (aK b hb1)) (.done (⟨z,sb z,s.to []⟩)))) (by kernel_rfl) z z) (by kernel_rfl) z z) (by kernel_rfl) z z) (by kernel_rfl) z z) (by kernel_rfl) z z) (by kernel_rfl) z z) (by kernel_rfl) z z) (by kernel_rfl) z z) (by kernel_rfl) z z) (by kernel_rfl) z z) (by kernel_rfl) z z
    have hg1:=b
    have h_b1:=aL b hb1
    refine .t1g 12 z hg1 (λW t=>pr z) t (.t1g 13 z hg1 (λW t=>pr z) t (bv h_b1 λx3 hx3 h_b1=>.t1g 14 z hg1 (λW t=>ixv (s.keep q_0) hx3 u38 t70 z z z) t (.t1g 15 z hg1 (λW t=>lde (RV.flat (t.keep q_0) hx3 z) t70 z z z z z) t (.t1g 16 z hg1 (λW t=>pr z) t (.t1g 17 z hg1 (λW t=>pr z) t (bv h_b1 λx4 hx4 h_b1=>?_) (by kernel_rfl) z z) (by kernel_rfl) z z) (by kernel_rfl) z z) (by kernel_rfl) z z) (by kernel_rfl) z z) (by kernel_rfl) z z
    obtain ⟨k2,hd,hck2⟩:=RV.el2 q_1 hx4
    obtain ⟨v2,k2,rfl,q2,hd1⟩:=bn q_1 hd
    obtain rfl:=gU q_1 hd1
    refine .t1g 18 z hg1 (λW t=>ixv (s.keep q_1) hx4 u169 t188 z z z) t (.t1g 19 z hg1 (λW t=>lde (hck2 _ t.agree) t188 z z z z z) t (.t1g 20 z hg1 (λW t=>pr z) t (.t1g 21 z hg1 (λW t=>pr z) t (bv h_b1 λy5 hy5 h_b1=>.by1 22 z (.gd hg1 (.cO s func252 (pM hy5 (s.keep (q2 _ q_1))) z z ?_))) (by kernel_rfl) z z) (by kernel_rfl) z z) (by kernel_rfl) z z) (by kernel_rfl) z z
    intro W s
    refine s.an [] λt=>?_
    exact .ts' 23 z (λW t=>pkf hg1 z z z) t z (.eqv 42 z (nk h_b1) (.done (⟨z,sb z,s.to []⟩)))
   intro x E W hJ
   obtain ⟨rfl,hE,s⟩:=hJ
   refine ⟨_,hE.sub,?_⟩
   refine .cs z h ?_ ?_ <;> intro h
   ·refine .g (.qn z (.ret ?_))
    cases h
    exact ⟨by simp,z,aa (vs:=[_]) () (rt z rn) z (s.to [])⟩
   refine .skip (.region (.q z (.q z (.q z (.nil ?_)))))
   cases h
   exact ⟨z,sb z,s.to []⟩
  refine .exit ?_
  cases h
  exact ⟨by simp,z,sb z,s.to []⟩
 intro x E W hJ
 rcases y1 with o3 | o4
 ·have h:=bW h
  obtain ⟨rfl,hF⟩:=hJ
  refine ⟨_,λ_ _ h=>h,?_⟩
  cases h
  exact hF
 have h:=bX h
 obtain ⟨rfl,hE,s⟩:=hJ
 refine ⟨_,hE.sub,?_⟩
 obtain rfl:=o9 h
 exact .g (.qn z (.ret (aa () (rt z rn) z (s.to []))))
def wl (w:World) (r:Int):Env->World->Prop:=Fin Tryz.prog Tryz.f156 No w (λs:Unit=>.int .i64 r) (λs=>[]) .ret
theorem vw {a0:List ab} {a1:List (List Bool)} {a2:List Int} {v_0:Hd} {v_1:Hd} {v_2:Hd} {w:World} {r:Int} (h:lw a0 a1 a2=some r) (q_0:RO w v_0 70 5 ah a0) (q_1:RO w v_1 188 1 (λ(l:List Bool)=>D.row 4 1 (l.map D.bool)) a1) (q_2:RO w v_2 3 1 (D.int .i64) a2):CL 156 #[sv v_0,sv v_1,sv v_2] w (RU w (.int .i64 r)):=by
 unfold lw at h
 refine ao func156 z z ?_
 have s:=Sep.start w
 refine .g (.qn z (.g (.q z (.s (aE (s.keep q_2) u23 z z) z (.qn z (.seq (.g (.qn z (.block (bv h λy1 hy1 h=>?_))))))))))
 refine .via (.iter (λs1 E' W'=>aq E' [(0,(sv v_0)),(1,(sv v_1)),(2,(sv v_2)),(7,vi (a2.length:Int)),(8,vi s1)]/\Sep No w W' []) (λy2 x E' W'=>(match y2 with | .inl o1=>x=.ret/\wl w o1 E' W' | .inr o2=>x=.exit 0/\aq E' [(7,vi (a2.length:Int))]/\Sep No w W' [])) hy1 ⟨sb rfl,s.to [] rfl⟩ ?_) ?_
 ·intro s1 y3 E W h hI
  obtain ⟨hE,s⟩:=hI
  refine CW.sub hE ?_
  unfold ng at h
  refine .seq (.g (.q z (.q z (.q z (.nil ?_)))))
  refine .cs z h ?_ ?_ <;> intro h
  ·refine .skip (.seq (.block (.g (.qn z (.seq (.g (.qn z (.block (bv h λy4 hy4 h=>?_)))))))))
   refine .via (.iter (λs2 E' W'=>aq E' [(0,(sv v_0)),(1,(sv v_1)),(2,(sv v_2)),(7,vi (a2.length:Int)),(8,vi s1),(9,.bool s2.1),(10,vi s2.2)]/\Sep No w W' []) (λy5 x E' W'=>x=.exit 2/\aq E' [(0,(sv v_0)),(1,(sv v_1)),(2,(sv v_2)),(7,vi (a2.length:Int)),(8,vi s1),(9,.bool y5)]/\Sep No w W' []) hy4 ⟨sb z,s.to []⟩ ?_) ?_
   ·intro s2 y6 E W h hI
    obtain ⟨hE,s⟩:=hI
    refine CW.sub hE ?_
    unfold kI at h
    refine .seq (.g (.q z (.q z (.q z (.nil ?_)))))
    refine .cs z h ?_ ?_ <;> intro h
    ·refine .skip (bv h λy7 hy7 h=>?_)
     refine .seq (CW.via (R':=λx E' W'=>x=.normal/\aq E' [(0,(sv v_0)),(1,(sv v_1)),(2,(sv v_2)),(7,vi (a2.length:Int)),(8,vi s1),(9,.bool y7),(10,vi s2.2)]/\Sep No w W' []) ?_ ?_)
     ·have h:=hy7
      refine .block (.g (.q z (.q z (bv h λx1 hx1 h=>.s (ixv (s.keep q_2) hx1 u23 t3 z z z) z (.s (lde (RV.flat (s.keep q_2) hx1 z) t3 z z z z z) z (.q z (.q z (.q z (bv h λb1 hb1 h=>.cu 6 35 (b1) s ?_ ?_)))))))))
      ·refine .both (x1==s1) (λb=>?_) (λb=>?_)
       ·have hg1:=b
        have h:=aK b hb1
        refine .g hg1 (.q z (.g hg1 (.q z (.g hg1 (.q z (.g hg1 (.q z (bv h λy8 hy8 h=>.g hg1 (.c (.cO s func206 (wj hy8 (s.keep q_0) (s.keep q_1)) z z ?_))))))))))
        intro W s
        refine .s (pkt hg1 z z z) z ?_
        cases h
        exact .nil (ck 6 s)
       refine .xx b z (.xx b z (.xx b z (.xx b z (.xx b z ?_))))
       cases aL b hb1
       exact .s (pkf b z z z) z (.nil (ck 6 s))
      intro W s
      refine .nil ?_
      refine .cs z h ?_ ?_ <;> intro h
      ·refine .region (.q z (.nil ?_))
       obtain rfl:=o9 h
       exact ⟨z,sb z,s.to []⟩
      refine .skip ?_
      cases h
      exact ⟨z,sb z,s.to []⟩
     intro x E W hJ
     obtain ⟨rfl,hE,s⟩:=hJ
     refine ⟨_,hE.sub,?_⟩
     refine .region (.q z (.q z (.q z (.nil ?_))))
     cases h
     exact ⟨z,sb z,s.to []⟩
    refine .exit ?_
    cases h
    exact ⟨by simp,z,sb z,s.to []⟩
   intro x E W hJ
   obtain ⟨rfl,hE,s⟩:=hJ
   refine ⟨_,hE.sub,?_⟩
   refine .g (.q z (.nil ?_))
   refine .cs z h ?_ ?_ <;> intro h
   ·refine .g (.q z (.qn z (.ret ?_)))
    cases h
    exact ⟨by simp,z,aa (vs:=[_]) () (rt z rn) z (s.to [])⟩
   refine .skip (.region (.q z (.q z (.q z (.nil ?_)))))
   cases h
   exact ⟨z,sb z,s.to []⟩
  refine .exit ?_
  cases h
  exact ⟨by simp,z,sb z,s.to []⟩
 intro x E W hJ
 rcases y1 with o3 | o4
 ·have h:=bW h
  obtain ⟨rfl,hF⟩:=hJ
  refine ⟨_,λ_ _ h=>h,?_⟩
  cases h
  exact hF
 have h:=bX h
 obtain ⟨rfl,hE,s⟩:=hJ
 refine ⟨_,hE.sub,?_⟩
 cases h
 exact .g (.q z (.qn z (.ret (aa () (rt z rn) z (s.to [])))))
theorem vx {a0:List ab} {v_0:Hd} {w:World} {r:(List Int)} (h:jl a0=some r) (q_0:RO w v_0 70 5 ah a0):CL 107 #[sv v_0] w (Ret No w (λs:Hd=>(sv s)) (λs=>[ac (sv s) 3 1 (D.int .i64) r])):=by
 unfold jl at h
 refine ao func107 z z ?_
 have s:=Sep.start w
 refine .g (.qn z (.g (.c (.liv [] (D.int .i64) u23 t3 s z z z z ?_ z (λ_=>z)))))
 intro v1 W s
 refine .qn z (.seq (.g (.q z (bv h λy1 hy1 h=>.c (.cO s func106 (bp hy1 (s.keep q_0)) z z ?_)))))
 intro W s
 refine .q z (.nil ?_)
 refine .cs z h ?_ ?_ <;> intro h
 ·cases h
  exact .g (.q z (.qn z (.ret (aa v1 (rt z rn) z (s.tk [0])))))
 refine .skip (.g (.q z (bv h λy2 hy2 h=>.c (.cV s func155 (vu hy2 (s.keep q_0)) z z ?_))))
 intro v2 W s
 refine .qn z (.seq (.g (.qn z (.block (bv h λy3 hy3 h=>?_)))))
 refine .via (.iter (λs1 E' W'=>∃ (v5:Hd),aq E' [(0,(sv v_0)),(3,(sv v5)),(4,(sv v2)),(5,vi s1.2)]/\Sep No w W' [ac (sv v2) 188 1 (λ(l:List Bool)=>D.row 4 1 (l.map D.bool)) y2,ac (sv v5) 3 1 (D.int .i64) s1.1]) (λy4 x E' W'=>x=.exit 0/\∃ (v6:Hd),aq E' [(3,(sv v6))]/\Sep No w W' [ac (sv v2) 188 1 (λ(l:List Bool)=>D.row 4 1 (l.map D.bool)) y2,ac (sv v6) 3 1 (D.int .i64) y4]) hy3 ⟨v1,sb z,s.tk [0,0]⟩ ?_) ?_
 ·intro s1 y5 E W h hI
  obtain ⟨v4,hE,s⟩:=hI
  refine CW.sub hE ?_
  unfold nh at h
  refine .seq (.g (.q z (.q z (.nil ?_))))
  refine .cs z h ?_ ?_ <;> intro h
  ·refine .skip (.seq (.block (.region (.q z (.q z (.q z (.q z (bv h λy6 hy6 h=>.c (.cO s func156 (vw hy6 (s.keep q_0) s.lv s.p1.lv) z z ?_)))))))))
   intro W s
   refine .c (.liv [y6] (D.int .i64) u23 t3 s z z z z ?_ z (λ_=>z))
   intro v7 W s
   refine bv h λr1 hr1 h=>?_
   have hT0:=s.p2
   refine .c (.av hr1 hT0 hT0.p1.lv (λ_=>z) u23 t3 z z z ?_)
   intro v8 W s
   refine .qn z (.region (.q z (.q z (.q z (.nil ?_)))))
   cases h
   exact ⟨z,v8,sb z,s.tk [2,0]⟩
  refine .exit ?_
  cases h
  exact ⟨by simp,z,v4,sb z,s.tk [0,0]⟩
 intro x E W hJ
 obtain ⟨rfl,v9,hE,s⟩:=hJ
 refine ⟨_,hE.sub,?_⟩
 obtain rfl:=o9 h
 exact .g (.q z (.qn z (.ret (aa v9 (rt z rn) z (s.tk [1])))))
theorem uf {a0:ab} {a1:List Int} {v_1:Hd} {w:World} {r:ab} (h:jX a0 a1=some r) (q_1:RO w v_1 3 1 (D.int .i64) a1):CL 108 #[.agg #[vi a0.Op,vi a0.Dst,vi a0.A,vi a0.B,vi a0.N],sv v_1] w (RU w (.agg #[vi r.Op,vi r.Dst,vi r.A,vi r.B,vi r.N])):=by
 unfold jX at h
 refine ao func108 z z ?_
 have s:=Sep.start w
 refine .g (.c (.box s z z ?_))
 intro g1 W s
 refine .c (.alloc t70 s ?_)
 intro g2 W s
 refine .nil (bv h λy1 hy1 h=>?_)
 refine .seq (CW.via (R':=λx E' W'=>x=.normal/\aq E' [(1,(sv v_1)),(2,Pt g1),(4,Pt g2)]/\Sep No w W' [.box g2 70 [vi 0,vi 0,vi 0,vi 0,vi 0],.box g1 70 [vi y1.Op,vi y1.Dst,vi y1.A,vi y1.B,vi y1.N]]) ?_ ?_)
 ·have h:=hy1
  refine .g (.s (ld t70 s.p1 z z z z z) z (bv h λy2 hy2 h=>.c (.cO s func157 (iC hy2) z z ?_)))
  intro W s
  refine .q z (.nil ?_)
  refine .cs z h ?_ ?_ <;> intro h
  ·refine .region (.q z (.s (fa f70_1 z z z) z (.s (ld t3 s.p1 z z z z z) z (bv h λx1 hx1 h=>.s (ixv (s.keep q_1) hx1 u23 t3 z z z) z (.s (lde (RV.flat (s.keep q_1) hx1 z) t3 z z z z z) z (.s (fa f70_1 z z z) z (.c (.st t3 s.p1 z z z ?_))))))))
   intro W s
   refine .nil ?_
   cases h
   exact ⟨z,sb z,s.tk [1,0]⟩
  refine .skip ?_
  obtain rfl:=o9 h
  exact ⟨z,sb z,s.tk [0,0]⟩
 intro x E W hJ
 obtain ⟨rfl,hE,s⟩:=hJ
 refine ⟨_,hE.sub,?_⟩
 refine .seq (.g (.s (fa f70_0 z z z) z (.s (ld t3 s.p1 z z z z z) z (.nil (.block (bv h λy3 hy3 h=>?_))))))
 refine .seq (CW.via (R':=λx E' W'=>x=.normal/\aq E' [(1,(sv v_1)),(2,Pt g1),(4,Pt g2),(15,vi y1.Op),(16,.bool y3)]/\Sep No w W' [.box g2 70 [vi 0,vi 0,vi 0,vi 0,vi 0],.box g1 70 [vi y1.Op,vi y1.Dst,vi y1.A,vi y1.B,vi y1.N]]) ?_ ?_)
 ·have h:=hy3
  refine .g (.q z (.q z (.nil ?_)))
  refine .cs z h ?_ ?_ <;> intro h
  ·refine .skip ?_
   cases h
   exact ⟨z,sb z,s.tk [0,0]⟩
  refine .g (.q z (.q z (.nil ?_)))
  refine .cs z h ?_ ?_ <;> intro h
  ·refine .skip ?_
   cases h
   exact ⟨z,sb z,s.tk [0,0]⟩
  refine .g (.q z (.q z (.nil ?_)))
  refine .cs z h ?_ ?_ <;> intro h
  ·refine .skip ?_
   cases h
   exact ⟨z,sb z,s.tk [0,0]⟩
  refine .region (.q z (.q z (.nil ?_)))
  cases h
  exact ⟨z,sb z,s.tk [0,0]⟩
 intro x E W hJ
 obtain ⟨rfl,hE,s⟩:=hJ
 refine ⟨_,hE.sub,?_⟩
 refine .cs z h ?_ ?_ <;> intro h
 ·refine .region (.q z (.s (fa f70_2 z z z) z (.s (ld t3 s.p1 z z z z z) z (bv h λx2 hx2 h=>.s (ixv (s.keep q_1) hx2 u23 t3 z z z) z (.s (lde (RV.flat (s.keep q_1) hx2 z) t3 z z z z z) z (.s (fa f70_2 z z z) z (.c (.st t3 s.p1 z z z ?_))))))))
  intro W s
  refine .nil (.g (.s (ld t70 s z z z z z) z (.c (.st t70 s.p1 z z z ?_))))
  intro W s
  cases h
  exact .nil (.ret (aa () (rc s t70 z rn z z) z (s.to [])))
 refine .g (.q z (.q z (.nil ?_)))
 refine .cs z h ?_ ?_ <;> intro h
 ·refine .g (.q z (.s (fa f70_2 z z z) z (.s (ld t3 s.p1 z z z z z) z (bv h λx3 hx3 h=>.s (ixv (s.keep q_1) hx3 u23 t3 z z z) z (.s (lde (RV.flat (s.keep q_1) hx3 z) t3 z z z z z) z (.s (fa f70_2 z z z) z (.c (.st t3 s.p1 z z z ?_))))))))
  intro W s
  refine .nil (.region (.q z (.s (fa f70_3 z z z) z (.s (ld t3 s z z z z z) z (bv h λx4 hx4 h=>.s (ixv (s.keep q_1) hx4 u23 t3 z z z) z (.s (lde (RV.flat (s.keep q_1) hx4 z) t3 z z z z z) z (.s (fa f70_3 z z z) z (.c (.st t3 s z z z ?_)))))))))
  intro W s
  refine .nil (.g (.s (ld t70 s z z z z z) z (.c (.st t70 s.p1 z z z ?_))))
  intro W s
  cases h
  exact .nil (.ret (aa () (rc s t70 z rn z z) z (s.to [])))
 refine .skip (.g (.s (ld t70 s.p1 z z z z z) z (.c (.st t70 s z z z ?_))))
 intro W s
 obtain rfl:=o9 h
 exact .nil (.ret (aa () (rc s t70 z rn z z) z (s.to [])))
theorem ug {a0:List ab} {v_0:Hd} {w:World} {r:(List ab)×Bool} (h:ie a0=some r) (q_0:RO w v_0 70 5 ah a0):CL 61 #[sv v_0] w (Ret No w (λs:Hd=>.tuple #[sv s,.bool r.2]) (λs=>[ac (sv s) 70 5 ah r.1])):=by
 unfold ie at h
 refine ao func61 z z ?_
 have s:=Sep.start w
 refine .g (.q z (.qn z (.g (.c (.liv [] ah u38 t70 s z z z z ?_ z (λ_=>z))))))
 intro v1 W s
 refine .qn z (.seq (.g (.q z (bv h λy1 hy1 h=>.c (.cO s func106 (bp hy1 (s.keep q_0)) z z ?_)))))
 intro W s
 refine .q z (.nil ?_)
 refine .cs z h ?_ ?_ <;> intro h
 ·cases h
  exact .g (.q z (.q z (.qn z (.ret (aa (vs:=[_,_]) v1 (rt z (rt z rn)) z (s.tk [0]))))))
 refine .skip (.g (.q z (bv h λy2 hy2 h=>.c (.cV s func107 (vx hy2 (s.keep q_0)) z z ?_))))
 intro v2 W s
 refine .qn z (.seq (.g (.qn z (.block (bv h λy3 hy3 h=>?_)))))
 refine .via (.iter (λs1 E' W'=>∃ (v5:Hd),aq E' [(0,(sv v_0)),(4,(sv v5)),(5,(sv v2)),(6,vi s1.2)]/\Sep No w W' [ac (sv v2) 3 1 (D.int .i64) y2,ac (sv v5) 70 5 ah s1.1]) (λy4 x E' W'=>x=.exit 0/\∃ (v6:Hd),aq E' [(4,(sv v6))]/\Sep No w W' [ac (sv v2) 3 1 (D.int .i64) y2,ac (sv v6) 70 5 ah y4]) hy3 ⟨v1,sb z,s.tk [0,0]⟩ ?_) ?_
 ·intro s1 y5 E W h hI
  obtain ⟨v4,hE,s⟩:=hI
  refine CW.sub hE ?_
  unfold gp at h
  refine .seq (.g (.q z (.q z (.s (aE (s.keep q_0) u38 z z) z (.q z (.nil ?_))))))
  refine .cs z h ?_ ?_ <;> intro h
  ·refine .skip (.seq (.block (.region (.q z (.q z (.q z (bv h λx1 hx1 h=>.s (ixv (s.keep q_0) hx1 u38 t70 z z z) z (.s (lde (RV.flat (s.keep q_0) hx1 z) t70 z z z z z) z (.q z (bv h λy6 hy6 h=>.c (.cO s func108 (uf hy6 s.lv) z z ?_)))))))))))
   intro W s
   refine .c (.liv [y6] ah u38 t70 s z z z z ?_ z (λ_=>z))
   intro v7 W s
   refine bv h λr1 hr1 h=>?_
   have hT0:=s.p2
   refine .c (.av hr1 hT0 hT0.p1.lv (λ_=>z) u38 t70 z z z ?_)
   intro v8 W s
   refine .qn z (.region (.q z (.q z (.q z (.nil ?_)))))
   cases h
   exact ⟨z,v8,sb z,s.tk [2,0]⟩
  refine .exit ?_
  cases h
  exact ⟨by simp,z,v4,sb z,s.tk [0,0]⟩
 intro x E W hJ
 obtain ⟨rfl,v9,hE,s⟩:=hJ
 refine ⟨_,hE.sub,?_⟩
 cases h
 exact .g (.q z (.q z (.qn z (.ret (aa (vs:=[_,_]) v9 (rt z (rt z rn)) z (s.tk [1]))))))
theorem tl {k:Nat} {a0:aF} {a1:Int} {aA:Hd} {az:Hd} {w:World} {r:(List (List ab))×Bool} (h:fS k a0 a1=some r) (bh:RO w aA 3 1 (D.int .i64) a0.Rooms) (aB:RO w az 93 1 (λ(l:List ae)=>D.row 95 8 (l.map aP)) a0.Tasks):CL 31 #[.agg #[sv aA,sv az],vi a1] w (Ret No w (λs:Hd=>.tuple #[sv s,.bool r.2]) (λs=>[ac (sv s) 38 1 (λ(l:List ab)=>D.row 70 5 (l.map ah)) r.1])):=by
 unfold fS at h
 refine ao func31 z z ?_
 have s:=Sep.start w
 refine .g (.c (.box s z z ?_))
 intro g1 W s
 refine .q z (.qn z (.g (.s (ld t26 s z z z z z) z (bv h λy1 hy1 h=>.c (.cV s func59 (pZ hy1 (s.keep bh) (s.keep aB)) z z ?_)))))
 intro v1 W s
 refine .q z (.q z (.q z (.q z (.qn z (.seq (.g (.q z (.q z (.nil ?_)))))))))
 refine .cs z h ?_ ?_ <;> intro h
 ·refine .g (.c (.lg (L1:=[]) [] (λ(l:List ab)=>D.row 70 5 (l.map ah)) u32 t38 (s.to [0,0]) z z z (.nil) ?_ z (λ_=>z)))
  intro v2 W s
  cases h
  exact .q z (.qn z (.ret (aa (vs:=[_,_]) v2 (rt z (rt z rn)) z (s.tk [0]))))
 refine .skip (.g (.q z (.q z (bv h λy2 hy2 h=>.c (.cV s func60 (sd hy2 s.lv) z z ?_)))))
 intro v3 W s
 refine .q z (.q z (.q z (.q z (.qn z (.seq (.g (.q z (.q z (.nil ?_)))))))))
 refine .cs z h ?_ ?_ <;> intro h
 ·refine .g (.c (.lg (L1:=[]) [] (λ(l:List ab)=>D.row 70 5 (l.map ah)) u32 t38 (s.to [0,0,0]) z z z (.nil) ?_ z (λ_=>z)))
  intro v4 W s
  cases h
  exact .q z (.qn z (.ret (aa (vs:=[_,_]) v4 (rt z (rt z rn)) z (s.tk [0]))))
 refine .skip (.g (.c (.lg (L1:=[]) [] (λ(l:List ab)=>D.row 70 5 (l.map ah)) u32 t38 (s.to [0,0,0]) z z z (.nil) ?_ z (λ_=>z))))
 intro v5 W s
 refine .qn z (.seq (.g (.qn z (.block (bv h λy3 hy3 h=>?_)))))
 refine .via (.iter (λs1 E' W'=>∃ (v8:Hd),aq E' [(8,(sv v3)),(10,(sv v8)),(11,vi s1.2)]/\Sep No w W' [ac (sv v3) 38 1 (λ(l:List ab)=>D.row 70 5 (l.map ah)) y2.1,ac (sv v1) 38 1 (λ(l:List ab)=>D.row 70 5 (l.map ah)) y1.1,.box g1 26 [sv aA,sv az],ac (sv v8) 38 1 (λ(l:List ab)=>D.row 70 5 (l.map ah)) s1.1]) (λy4 x E' W'=>x=.exit 0/\∃ (v9:Hd),aq E' [(10,(sv v9))]/\Sep No w W' [ac (sv v3) 38 1 (λ(l:List ab)=>D.row 70 5 (l.map ah)) y2.1,ac (sv v1) 38 1 (λ(l:List ab)=>D.row 70 5 (l.map ah)) y1.1,.box g1 26 [sv aA,sv az],ac (sv v9) 38 1 (λ(l:List ab)=>D.row 70 5 (l.map ah)) y4]) hy3 ⟨v5,sb z,s.tk [1,1,1,0]⟩ ?_) ?_
 ·intro s1 y5 E W h hI
  obtain ⟨v7,hE,s⟩:=hI
  refine CW.sub hE ?_
  unfold iW at h
  refine .seq (.g (.q z (.q z (.s (aE s.lv u32 z z) z (.q z (.nil ?_))))))
  refine .cs z h ?_ ?_ <;> intro h
  ·refine .skip (.seq (.block (.g (.q z (.q z (bv h λx1 hx1 h=>.s (ixv s.lv hx1 u32 t38 z z z) z ?_))))))
   obtain ⟨k1,s⟩:=Sep.ov s hx1
   obtain ⟨v10,k1,rfl,s⟩:=s.ow
   obtain ⟨rfl,s⟩:=s.oN
   refine .s (lde (s.p1.hcellsv) t38 z z z z z) z (bv h λy6 hy6 h=>.c (.cV s func61 (ug hy6 s.lv) z z ?_))
   intro v11 W s
   refine .q z (.q z (.q z (.q z (.qn z (.region (.q z (.q z (.c (.lg (L1:=[ac (sv v11) 70 5 ah y6.1]) [y6.1] (λ(l:List ab)=>D.row 70 5 (l.map ah)) u32 t38 (s.to [0,0,0,0,0,0]) z z z (.row (.nil)) ?_ z (λ_=>z))))))))))
   intro v12 W s
   refine bv h λr1 hr1 h=>.c (.appv hr1 (s.to [5,0,0,0,0,0]) u32 t38 z z z ?_)
   intro v13 W s
   refine .qn z (.region (.q z (.q z (.q z (.nil ?_)))))
   have s:=Sep.gat (ds:=[.row 70 5 (x1.map ah)]) (cs:=[sv v10]) (L1:=[ac (sv v10) 70 5 ah x1]) (.row (.nil)) (s.to [1,1,0,0,0])
   have s:Sep _ _ _ [ac (sv v3) 38 1 (λ(l:List ab)=>D.row 70 5 (l.map ah)) y2.1,ac (sv v13) 38 1 (λ(l:List ab)=>D.row 70 5 (l.map ah)) r1,ac (sv v1) 38 1 (λ(l:List ab)=>D.row 70 5 (l.map ah)) y1.1,.box g1 26 [sv aA,sv az]]:=Sep.back0v hx1 s
   cases h
   exact ⟨z,v13,sb z,s.tk [0,1,1,0]⟩
  refine .exit ?_
  cases h
  exact ⟨by simp,z,v7,sb z,s.tk [0,0,0,0]⟩
 intro x E W hJ
 obtain ⟨rfl,v14,hE,s⟩:=hJ
 refine ⟨_,hE.sub,?_⟩
 cases h
 exact .g (.q z (.q z (.qn z (.ret (aa (vs:=[_,_]) v14 (rt z (rt z rn)) z (s.tk [3]))))))
theorem fI {a0:Int} {a1:Int} {a2:Int} {w:World} {r:Int} (h:dH a0 a1 a2=some r):CL 109 #[vi a0,vi a1,vi a2] w (RU w (.int .i64 r)):=by
 unfold dH at h
 refine ao func109 z z ?_
 have s:=Sep.start w
 refine .g (.qn z (.seq (.g (.q z (.q z (.q z (.nil ?_)))))))
 refine .cs z h ?_ ?_ <;> intro h
 ·obtain rfl:=o9 h
  exact .g (.q z (.qn z (.ret (aa () (rt z rn) z (s.to [])))))
 refine .skip (.g (.c (.liv [8,9,18,19,20,21,22,23] (D.int .i64) u23 t3 s z z z z ?_ z (λ_=>z))))
 intro v1 W s
 refine .q z (bv h λx1 hx1 h=>.s (ixv s.lv hx1 u23 t3 z z z) z (.s (lde (RV.flat s.lv hx1 z) t3 z z z z z) z (.qn z (.ret ?_))))
 obtain rfl:=o9 h
 exact aa () (rt z rn) z (s.to [])
theorem kV {a0:List Instr} {a1:Int} {a2:Int} {v_0:Hd} {S:Nat->Prop} {w:World} {r:(List Instr)} (h:eT a0 a1 a2=some r) (hO:bu w [ac (sv v_0) 74 5 ak a0] S) (hlt:∀ b,S b->b<w.heap.size):CL 110 #[sv v_0,vi a1,vi a2] w (Ret S w (λs:Hd=>(sv s)) (λs=>[ac (sv s) 74 5 ak r])):=by
 unfold eT at h
 refine ao func110 z z ?_
 have s:=Sep.sm hO hlt
 refine .g (.qn z (.seq (.g (.q z (.q z (.q z (.nil ?_)))))))
 refine .cs z h ?_ ?_ <;> intro h
 ·obtain rfl:=o9 h
  exact .g (.q z (.qn z (.ret (aa v_0 (rt z rn) z (s.tk [0])))))
 refine .skip (.g (.q z (.q z (.q z (.q z (.q z (.s (bs T.s74 z z) z (.c (.liv [(Instr.mk 16 0 2 7 (w64 (4*(w64 (a1-a2)))))] ak u35 t74 s z z z z ?_ z (λ_=>z))))))))))
 intro v1 W s
 refine bv h λr1 hr1 h=>?_
 have hT0:=s.p1
 refine .c (.av hr1 hT0 hT0.p1.lv (λ_=>z) u35 t74 z z z ?_)
 intro v2 W s
 obtain rfl:=o9 h
 exact .qn z (.ret (aa v2 (rt z rn) z (s.tk [0])))
theorem je {a0:Int} {w:World} {r:Int} (h:cX a0=some r):CL 207 #[vi a0] w (RU w (.int .i64 r)):=by
 unfold cX at h
 refine ao func207 z z ?_
 have s:=Sep.start w
 refine .g (.qn z (.g (.qn z (.seq (.g (.qn z (.block (bv h λy1 hy1 h=>?_))))))))
 refine .via (.iter (λs1 E' W'=>aq E' [(0,vi a0),(3,vi s1.1),(4,vi s1.2)]/\Sep No w W' []) (λy2 x E' W'=>x=.exit 0/\aq E' [(3,vi y2)]/\Sep No w W' []) hy1 ⟨sb z,s.to []⟩ ?_) ?_
 ·intro s1 y3 E W h hI
  obtain ⟨hE,s⟩:=hI
  refine CW.sub hE ?_
  unfold nP at h
  refine .seq (.g (.q z (.q z (.q z (.nil ?_)))))
  refine .cs z h ?_ ?_ <;> intro h
  ·refine .skip (.seq (.block (.region (.q z (.q z (.qn z (.region (.q z (.q z (.q z (.nil ?_)))))))))))
   cases h
   exact ⟨z,sb z,s.to []⟩
  refine .exit ?_
  cases h
  exact ⟨by simp,z,sb z,s.to []⟩
 intro x E W hJ
 obtain ⟨rfl,hE,s⟩:=hJ
 refine ⟨_,hE.sub,?_⟩
 obtain rfl:=o9 h
 exact .g (.q z (.qn z (.ret (aa () (rt z rn) z (s.to [])))))
theorem tm {a0:Int} {a1:Int} {w:World} {r:Int} (h:i9 a0 a1=some r):CL 158 #[vi a0,vi a1] w (RU w (.int .i64 r)):=by
 unfold i9 at h
 refine ao func158 z z ?_
 have s:=Sep.start w
 refine .g (.qn z (.seq (.g (.q z (bv h λy1 hy1 h=>.c (.cO s func32 (bf hy1) z z ?_))))))
 intro W s
 refine .q z (.q z (bv h λb1 hb1 h=>.cu 7 15 (b1) s ?_ ?_))
 ·refine .both (!y1) (λb=>?_) (λb=>?_)
  ·refine .xx b z (.xx b z (.xx b z (.xx b z (.xx b z (.xx b z ?_)))))
   cases aK b hb1
   exact .s (pkt b z z z) z (.nil (ck 7 s))
  have hg1:=b
  have h:=aL b hb1
  refine .g hg1 (.q z (.g hg1 (.q z (bv h λy2 hy2 h=>.g hg1 (.c (.cO s func207 (je hy2) z z ?_))))))
  intro W s
  refine .g hg1 (.q z (bv h λy3 hy3 h=>.g hg1 (.c (.cO s func32 (bf hy3) z z ?_))))
  intro W s
  refine .g hg1 (.q z (.s (pkf hg1 z z z) z ?_))
  cases h
  exact .nil (ck 7 s)
 intro W s
 refine .nil ?_
 refine .cs z h ?_ ?_ <;> intro h
 ·cases h
  exact .g (.qn z (.ret (aa () (rt z rn) z (s.to []))))
 refine .skip (.seq (.g (.q z (.q z (.q z (bv h λy4 hy4 h=>.c (.cO s func207 (je hy4) z z ?_)))))))
 intro W s
 refine .q z (.nil ?_)
 refine .cs z h ?_ ?_ <;> intro h
 ·refine .g (.q z (.q z (bv h λy5 hy5 h=>.c (.cO s func207 (je hy5) z z ?_))))
  intro W s
  cases h
  exact .q z (.qn z (.ret (aa () (rt z rn) z (s.to []))))
 obtain rfl:=o9 h
 exact .skip (.g (.q z (.qn z (.ret (aa () (rt z rn) z (s.to []))))))
theorem uh {a0:Int} {a1:Int} {a2:Int} {w:World} {r:Int} (h:ml a0 a1 a2=some r):CL 159 #[vi a0,vi a1,vi a2] w (RU w (.int .i64 r)):=by
 unfold ml at h
 refine ao func159 z z ?_
 have s:=Sep.start w
 refine .g (.qn z (.seq (.g (.q z (bv h λy1 hy1 h=>.c (.cO s func32 (bf hy1) z z ?_))))))
 intro W s
 refine .q z (.q z (bv h λb1 hb1 h=>.cu 4 14 (b1) s ?_ ?_))
 ·refine .both (!y1) (λb=>?_) (λb=>?_)
  ·refine .xx b z (.xx b z (.xx b z ?_))
   cases aK b hb1
   exact .s (pkt b z z z) z (.nil (ck 4 s))
  have hg1:=b
  have h:=aL b hb1
  refine .g hg1 (.q z (bv h λy2 hy2 h=>.g hg1 (.c (.cO s func32 (bf hy2) z z ?_))))
  intro W s
  refine .g hg1 (.q z (.s (pkf hg1 z z z) z ?_))
  cases h
  exact .nil (ck 4 s)
 intro W s
 refine .q z (bv h λb2 hb2 h=>.cu 6 21 (b2) s ?_ ?_)
 ·refine .both (b1) (λb=>?_) (λb=>?_)
  ·refine .xx b z (.xx b z (.xx b z (.xx b z (.xx b z ?_))))
   cases aK b hb2
   exact .s (pkt b z z z) z (.nil (ck 6 s))
  have hg2:=b
  have h:=aL b hb2
  refine .g hg2 (.q z (.g hg2 (.q z (.g hg2 (.q z (bv h λy3 hy3 h=>.g hg2 (.c (.cO s func32 (bf hy3) z z ?_))))))))
  intro W s
  refine .g hg2 (.q z (.s (pkf hg2 z z z) z ?_))
  cases h
  exact .nil (ck 6 s)
 intro W s
 refine .nil ?_
 refine .cs z h ?_ ?_ <;> intro h
 ·cases h
  exact .g (.qn z (.ret (aa () (rt z rn) z (s.to []))))
 refine .skip (.seq (.rk 8 s [] T.mix ?_))
 intro W s
 have t:=s.to []
 refine .tp' 0 z z t (.tp' 1 z z t (.tp' 4 z z t (bv h λy4 hy4 h=>.by1 2 z (.cO s func207 (je hy4) z z ?_))))
 intro W s
 refine s.an [] λt=>bv h λd1 hd1 h=>.ts' 3 z (λW t=>dq hd1 z z z) t z (bv h λy5 hy5 h=>.by1 5 z (.cO s func207 (je hy5) z z ?_))
 intro W s
 refine s.an [] λt=>bv h λd2 hd2 h=>.ts' 6 z (λW t=>dr hd2 z z z) t z (.tp' 7 z z t (.done (.ret ?_)))
 obtain rfl:=o9 h
 exact aa () (rt z rn) z (s.to [])
theorem pN {a0:Int} {w:World} {r:Int} (h:jm a0=some r):CL 160 #[vi a0] w (RU w (.int .i64 r)):=by
 unfold jm at h
 refine ao func160 z z ?_
 have s:=Sep.start w
 refine .g (.qn z (.seq (.g (.q z (bv h λy1 hy1 h=>.c (.cO s func202 (jD hy1) z z ?_))))))
 intro W s
 refine .q z (.nil ?_)
 refine .cs z h ?_ ?_ <;> intro h
 ·cases h
  exact .g (.qn z (.ret (aa () (rt z rn) z (s.to []))))
 refine .skip (.seq (.g (.q z (.q z (.nil ?_)))))
 refine .cs z h ?_ ?_ <;> intro h
 ·cases h
  exact .g (.q z (.q z (.qn z (.ret (aa () (rt z rn) z (s.to []))))))
 obtain rfl:=o9 h
 exact .skip (.g (.q z (.qn z (.ret (aa () (rt z rn) z (s.to []))))))
theorem vy {a0:Int} {a1:Int} {w:World} {r:(List Instr)} (h:ly a0 a1=some r):CL 111 #[vi a0,vi a1] w (Ret No w (λs:Hd=>(sv s)) (λs=>[ac (sv s) 74 5 ak r])):=by
 unfold ly at h
 refine ao func111 z z ?_
 have s:=Sep.start w
 refine .g (.qn z (.seq (.g (.q z (bv h λy1 hy1 h=>.c (.cO s func32 (bf hy1) z z ?_))))))
 intro W s
 refine .nil ?_
 refine .cs z h ?_ ?_ <;> intro h
 ·refine .g (.q z (.q z (.s (bs T.s74 z z) z (.c (.liv [(Instr.mk 12 a0 0 0 a1)] ak u35 t74 s z z z z ?_ z (λ_=>z))))))
  intro v1 W s
  cases h
  exact .qn z (.ret (aa v1 (rt z rn) z (s.tk [0])))
 refine .skip (.g (.q z (bv h λy2 hy2 h=>.c (.cO s func160 (pN hy2) z z ?_))))
 intro W s
 refine bv h λy3 hy3 h=>.c (.cO s func159 (uh hy3) z z ?_)
 intro W s
 refine bv h λy4 hy4 h=>.c (.cO s func158 (tm hy4) z z ?_)
 intro W s
 refine .qn z (.g (.q z (.q z (.q z (bv h λy5 hy5 h=>.c (.cO s func137 (kU hy5) z z ?_))))))
 intro W s
 refine bv h λy6 hy6 h=>.c (.cO s func160 (pN hy6) z z ?_)
 intro W s
 refine bv h λy7 hy7 h=>.c (.cO s func159 (uh hy7) z z ?_)
 intro W s
 refine .qn z (.g (.q z (.q z (.s (bs T.s74 z z) z (.c (.liv [(Instr.mk 19 a0 0 0 y7)] ak u35 t74 s z z z z ?_ z (λ_=>z)))))))
 intro v2 W s
 refine .qn z (.g (.q z (.q z (.q z (.q z (.s (bs T.s74 z z) z (.c (.liv [(Instr.mk 12 a0 a0 0 y4)] ak u35 t74 s z z z z ?_ z (λ_=>z)))))))))
 intro v3 W s
 refine bv h λr1 hr1 h=>?_
 have hT0:=s.p1
 refine .c (.av hr1 hT0 hT0.p1.lv (λ_=>z) u35 t74 z z z ?_)
 intro v4 W s
 obtain rfl:=o9 h
 exact .qn z (.ret (aa v4 (rt z rn) z (s.tk [0])))
theorem jf {a0:Int} {a1:Int} {a2:Int} {w:World} {r:(List Instr)} (h:eH a0 a1 a2=some r):CL 112 #[vi a0,vi a1,vi a2] w (Ret No w (λs:Hd=>(sv s)) (λs=>[ac (sv s) 74 5 ak r])):=by
 unfold eH at h
 refine ao func112 z z ?_
 have s:=Sep.start w
 refine .g (.qn z (.seq (.g (.q z (.q z (.q z (.nil ?_)))))))
 refine .cs z h ?_ ?_ <;> intro h
 ·refine .g (.c (.liv [] ak u35 t74 s z z z z ?_ z (λ_=>z)))
  intro v1 W s
  cases h
  exact .qn z (.ret (aa v1 (rt z rn) z (s.tk [0])))
 refine .skip (.g (.q z (.q z (.q z (.q z (.q z (.s (bs T.s74 z z) z (.c (.liv [(Instr.mk 14 a2 2 0 (w64 (4*(w64 (a0-a1)))))] ak u35 t74 s z z z z ?_ z (λ_=>z))))))))))
 intro v2 W s
 cases h
 exact .qn z (.ret (aa v2 (rt z rn) z (s.tk [0])))
theorem nU {a0:Int} {a1:Int} {w:World} {r:Instr} (h:gq a0 a1=some r):CL 113 #[vi a0,vi a1] w (RU w (.agg #[vi r.Op,vi r.Rd,vi r.Rs,vi r.Rt,vi r.Imm])):=by
 unfold gq at h
 refine ao func113 z z ?_
 have s:=Sep.start w
 refine .g (.c (.alloc t74 s ?_))
 intro g1 W s
 refine .nil (.g (.q z (.q z (.s (bs T.s74 z z) z (.c (.st t74 s z z z ?_))))))
 intro W s
 cases h
 exact .nil (.ret (aa () (rc s t74 z rn z z) z (s.to [])))
theorem yk {a0:Int} {w:World} {r:Int} (h:oK a0=some r):CL 161 #[vi a0] w (RU w (.int .i64 r)):=by
 unfold oK at h
 refine ao func161 z z ?_
 have s:=Sep.start w
 refine .g (.qn z (.g (.c (.liv [7,8,6,8,11,9,10,1,2,3,4,5] (D.int .i64) u23 t3 s z z z z ?_ z (λ_=>z)))))
 intro v1 W s
 refine .qn z (.g (.q z (.q z (.q z (bv h λx1 hx1 h=>.s (ixv s.lv hx1 u23 t3 z z z) z (.s (lde (RV.flat s.lv hx1 z) t3 z z z z z) z (.qn z (.ret ?_))))))))
 obtain rfl:=o9 h
 exact aa () (rt z rn) z (s.to [])
theorem xJ {a0:ab} {a1:Int} {w:World} {r:(List Instr)} (h:pf a0 a1=some r):CL 114 #[.agg #[vi a0.Op,vi a0.Dst,vi a0.A,vi a0.B,vi a0.N],vi a1] w (Ret No w (λs:Hd=>(sv s)) (λs=>[ac (sv s) 74 5 ak r])):=by
 unfold pf at h
 refine ao func114 z z ?_
 have s:=Sep.start w
 refine .g (.c (.box s z z ?_))
 intro g1 W s
 refine .qn z (.seq (.rk 10 s [0] T.mix ?_))
 intro W s
 have t:=s.to [0]
 refine .ts' 0 z (λW t=>fa f70_2 z z z) t z (.ts' 1 z (λW t=>ld t3 t z z z z z) t z (.tp' 2 z z t (.ts' 4 z (λW t=>fa f70_3 z z z) t z (.ts' 5 z (λW t=>ld t3 t z z z z z) t z (.tp' 6 z z t (bv h λy1 hy1 h=>.by1 3 z (.cV s func112 (jf hy1) z z ?_)))))))
 intro v1 W s
 refine s.an [1] λt=>bv h λy2 hy2 h=>.by1 7 z (.cV s func112 (jf hy2) z z ?_)
 intro v2 W s
 refine s.an [2] λt=>bv h λr1 hr1 h=>?_
 have hT0:=s.p1
 refine .by1 8 z (.av hr1 hT0 hT0.p1.lv (λ_=>z) u35 t74 z z z ?_)
 intro v3 W s
 refine s.an [2] λt=>.tp' 9 z z t (.done (.g (.s (fa f70_1 z z z) z (.s (ld t3 s.p2 z z z z z) z (.q z (bv h λy3 hy3 h=>.c (.cO s func109 (fI hy3) z z ?_)))))))
 intro W s
 refine .qn z (.seq (.rk 17 s [1,1] T.mix ?_))
 intro W s
 have t:=s.to [1,1]
 refine .tp' 0 z z t (.ts' 1 z (λW t=>fa f70_4 z z z) t z (.ts' 2 z (λW t=>ld t3 t.p1 z z z z z) t z (.tp' 4 z z t (.ts' 5 z (λW t=>fa f70_2 z z z) t z (.ts' 6 z (λW t=>ld t3 t.p1 z z z z z) t z (.tp' 7 z z t (.ts' 9 z (λW t=>fa f70_3 z z z) t z (.ts' 10 z (λW t=>ld t3 t.p1 z z z z z) t z (.tp' 11 z z t (bv h λy4 hy4 h=>.by1 3 z (.cO s func161 (yk hy4) z z ?_)))))))))))
 intro W s
 refine s.an [1,1] λt=>bv h λy5 hy5 h=>.by1 8 z (.cO s func109 (fI hy5) z z ?_)
 intro W s
 refine s.an [1,1] λt=>bv h λy6 hy6 h=>.by1 12 z (.cO s func109 (fI hy6) z z ?_)
 intro W s
 refine s.an [1,1] λt=>.ts' 13 z (λW t=>bs T.s74 z z) t z (.by1 14 z (.liv [(Instr.mk y4 y3 y5 y6 0)] ak u35 t74 s z z z z ?_ z (λ_=>z)))
 intro v4 W s
 refine s.an [2,2] λt=>bv h λr2 hr2 h=>?_
 have hT0:=s.p1
 refine .by1 15 z (.av hr2 hT0 hT0.p1.lv (λ_=>z) u35 t74 z z z ?_)
 intro v5 W s
 refine s.an [2,2] λt=>.tp' 16 z z t (.done (bv h λy7 hy7 h=>?_))
 refine .seq (CW.via (R':=λx E' W'=>x=.normal/\∃ (v6:Hd),aq E' [(1,vi a1),(2,Pt g1),(5,(sv v6))]/\Sep No w W' [ac (sv v4) 74 5 ak [(Instr.mk y4 y3 y5 y6 0)],ac (sv v2) 74 5 ak y2,.box g1 70 [vi a0.Op,vi a0.Dst,vi a0.A,vi a0.B,vi a0.N],ac (sv v6) 74 5 ak y7]) ?_ ?_)
 ·have h:=hy7
  refine .g (.s (fa f70_4 z z z) z (.s (ld t3 s.p3 z z z z z) z (.q z (.nil ?_))))
  refine .cs z h ?_ ?_ <;> intro h
  ·refine .region (.q z (.q z (.q z (.s (bs T.s74 z z) z (.c (.liv [(Instr.mk 13 y3 y3 0 1)] ak u35 t74 s z z z z ?_ z (λ_=>z)))))))
   intro v7 W s
   refine bv h λr3 hr3 h=>?_
   have hT0:=s.p1
   refine .c (.av hr3 hT0 hT0.p1.lv (λ_=>z) u35 t74 z z z ?_)
   intro v8 W s
   refine .q z (.nil ?_)
   obtain rfl:=o9 h
   exact ⟨z,v8,sb z,s.tk [2,2,2,0]⟩
  refine .skip ?_
  obtain rfl:=o9 h
  exact ⟨z,v5,sb z,s.tk [1,1,1,0]⟩
 intro x E W hJ
 obtain ⟨rfl,v9,hE,s⟩:=hJ
 refine ⟨_,hE.sub,?_⟩
 refine .g (.q z (.s (fa f70_1 z z z) z (.s (ld t3 s.p2 z z z z z) z (.q z (bv h λy8 hy8 h=>?_)))))
 have s:=s.p3
 refine .c (.cS (L0:=[ac (sv v9) 74 5 ak y7]) s func110 (λS h1 h2 h3=>(kV hy8 h2 (zz h1))) z z ?_)
 rintro v10 W s
 obtain rfl:=o9 h
 exact .qn z (.ret (aa v10 (rt z rn) z (s.tk [0])))
theorem wm {a0:ab} {a1:Int} {a2:Int} {w:World} {r:(List Instr)} (h:ol a0 a1 a2=some r):CL 115 #[.agg #[vi a0.Op,vi a0.Dst,vi a0.A,vi a0.B,vi a0.N],vi a1,vi a2] w (Ret No w (λs:Hd=>(sv s)) (λs=>[ac (sv s) 74 5 ak r])):=by
 unfold ol at h
 refine ao func115 z z ?_
 have s:=Sep.start w
 refine .g (.c (.box s z z ?_))
 intro g1 W s
 refine .qn z (.seq (.rk 12 s [0] T.mix ?_))
 intro W s
 have t:=s.to [0]
 refine .ts' 0 z (λW t=>fa f70_2 z z z) t z (.ts' 1 z (λW t=>ld t3 t z z z z z) t z (.tp' 2 z z t (.ts' 4 z (λW t=>fa f70_2 z z z) t z (.ts' 5 z (λW t=>ld t3 t z z z z z) t z (.tp' 6 z z t (bv h λy1 hy1 h=>.by1 3 z (.cV s func112 (jf hy1) z z ?_)))))))
 intro v1 W s
 refine s.an [1] λt=>bv h λy2 hy2 h=>.by1 7 z (.cO s func109 (fI hy2) z z ?_)
 intro W s
 refine s.an [1] λt=>.ts' 8 z (λW t=>bs T.s74 z z) t z (.by1 9 z (.liv [(Instr.mk 18 0 y2 0 8)] ak u35 t74 s z z z z ?_ z (λ_=>z)))
 intro v2 W s
 refine s.an [2] λt=>bv h λr1 hr1 h=>?_
 have hT0:=s.p1
 refine .by1 10 z (.av hr1 hT0 hT0.p1.lv (λ_=>z) u35 t74 z z z ?_)
 intro v3 W s
 refine s.an [2] λt=>.tp' 11 z z t (.done (.g (.q z (.q z (.q z (.s (aE s.lv u35 z z) z (.q z (.q z (.s (bs T.s74 z z) z (.c (.liv [(Instr.mk 20 0 0 0 (w64 (a2-(w64 (4*(r1.length:Int))))))] ak u35 t74 s z z z z ?_ z (λ_=>z))))))))))))
 intro v4 W s
 refine bv h λr2 hr2 h=>?_
 have hT0:=s.p1
 refine .c (.av hr2 hT0 hT0.p1.lv (λ_=>z) u35 t74 z z z ?_)
 intro v5 W s
 obtain rfl:=o9 h
 exact .qn z (.ret (aa v5 (rt z rn) z (s.tk [0])))
theorem jg {a0:List Instr} {a1:Int} {v_0:Hd} {S:Nat->Prop} {w:World} {r:(List Instr)} (h:eI a0 a1=some r) (hO:bu w [ac (sv v_0) 74 5 ak a0] S) (hlt:∀ b,S b->b<w.heap.size):CL 116 #[sv v_0,vi a1] w (Ret S w (λs:Hd=>(sv s)) (λs=>[ac (sv s) 74 5 ak r])):=by
 unfold eI at h
 refine ao func116 z z ?_
 have s:=Sep.sm hO hlt
 refine .g (.qn z (.g (.q z (.q z (.s (bs T.s74 z z) z (.c (.liv [(Instr.mk 12 17 0 0 a1)] ak u35 t74 s z z z z ?_ z (λ_=>z))))))))
 intro v1 W s
 refine bv h λr1 hr1 h=>?_
 have hT0:=s.p1
 refine .c (.av hr1 hT0 hT0.p1.lv (λ_=>z) u35 t74 z z z ?_)
 intro v2 W s
 refine .qn z (.g (.q z (.s (bs T.s74 z z) z (.c (.liv [(Instr.mk 15 1 0 0 0)] ak u35 t74 s z z z z ?_ z (λ_=>z))))))
 intro v3 W s
 refine bv h λr2 hr2 h=>?_
 have hT0:=s.p1
 refine .c (.av hr2 hT0 hT0.p1.lv (λ_=>z) u35 t74 z z z ?_)
 intro v4 W s
 obtain rfl:=o9 h
 exact .qn z (.ret (aa v4 (rt z rn) z (s.tk [0])))
theorem qh {a0:Int} {a1:Int} {w:World} {r:(List Instr)} (h:kJ a0 a1=some r):CL 117 #[vi a0,vi a1] w (Ret No w (λs:Hd=>(sv s)) (λs=>[ac (sv s) 74 5 ak r])):=by
 unfold kJ at h
 refine ao func117 z z ?_
 have s:=Sep.start w
 refine .g (.qn z (.g (.q z (.q z (bv h λy1 hy1 h=>.c (.cV s func112 (jf hy1) z z ?_))))))
 intro v1 W s
 refine .q z (.q z (bv h λy2 hy2 h=>.c (.cO s func109 (fI hy2) z z ?_)))
 intro W s
 refine bv h λy3 hy3 h=>.c (.cO s func113 (nU hy3) z z ?_)
 intro W s
 refine .c (.liv [y3] ak u35 t74 s z z z z ?_ z (λ_=>z))
 intro v2 W s
 refine bv h λr1 hr1 h=>?_
 have hT0:=s.p1
 refine .c (.av hr1 hT0 hT0.p1.lv (λ_=>z) u35 t74 z z z ?_)
 intro v3 W s
 obtain rfl:=o9 h
 exact .qn z (.ret (aa v3 (rt z rn) z (s.tk [0])))
theorem ri {a0:Int} {w:World} {r:Instr} (h:mm a0=some r):CL 118 #[vi a0] w (RU w (.agg #[vi r.Op,vi r.Rd,vi r.Rs,vi r.Rt,vi r.Imm])):=by
 unfold mm at h
 refine ao func118 z z ?_
 have s:=Sep.start w
 refine .g (.c (.alloc t74 s ?_))
 intro g1 W s
 refine .nil (.g (.q z (.s (bs T.s74 z z) z (.c (.st t74 s z z z ?_)))))
 intro W s
 cases h
 exact .nil (.ret (aa () (rc s t74 z rn z z) z (s.to [])))
theorem qi {a0:ab} {a1:Int} {a2:Int} {w:World} {r:(List Instr)} (h:kK a0 a1 a2=some r):CL 63 #[.agg #[vi a0.Op,vi a0.Dst,vi a0.A,vi a0.B,vi a0.N],vi a1,vi a2] w (Ret No w (λs:Hd=>(sv s)) (λs=>[ac (sv s) 74 5 ak r])):=by
 unfold kK at h
 refine ao func63 z z ?_
 have s:=Sep.start w
 refine .g (.c (.box s z z ?_))
 intro g1 W s
 refine .qn z (.g (.s (fa f70_1 z z z) z (.s (ld t3 s z z z z z) z (.q z (bv h λy1 hy1 h=>.c (.cO s func109 (fI hy1) z z ?_))))))
 intro W s
 refine .qn z (.seq (.g (.s (fa f70_0 z z z) z (.s (ld t3 s z z z z z) z (.nil (.block (.g (.q z (.qn z (.cond z (λb=>?_) (λb=>?_)))))))))))
 ·have h:=aK b h
  refine .seq (.rk 9 s [0] T.mix ?_)
  intro W s
  have t:=s.to [0]
  refine .tp' 0 z z t (.ts' 1 z (λW t=>fa f70_4 z z z) t z (.ts' 2 z (λW t=>ld t3 t z z z z z) t z (.ts' 4 z (λW t=>fa f70_1 z z z) t z (.ts' 5 z (λW t=>ld t3 t z z z z z) t z (.tp' 6 z z t (bv h λy2 hy2 h=>.by1 3 z (.cV s func111 (vy hy2) z z ?_)))))))
  intro v1 W s
  refine s.an [1] λt=>bv h λy3 hy3 h=>.by1 7 z (.cS (L0:=[ac (sv v1) 74 5 ak y2]) s func110 (λS h1 h2 h3=>(kV hy3 h2 (zz h1))) z z ?_)
  rintro v2 W s
  refine s.an [1] λt=>?_
  obtain rfl:=o9 h
  exact .tp' 8 z z t (.done (.ret (aa v2 (rt z rn) z (s.tk [0]))))
 have h:=aL b h
 refine .g (.q z (.qn z (.cond z (λb=>?_) (λb=>?_))))
 ·have h:=aK b h
  refine .seq (.rk 17 s [0] T.mix ?_)
  intro W s
  have t:=s.to [0]
  refine .ts' 0 z (λW t=>fa f70_2 z z z) t z (.ts' 1 z (λW t=>ld t3 t z z z z z) t z (.tp' 2 z z t (.tp' 4 z z t (.ts' 5 z (λW t=>fa f70_2 z z z) t z (.ts' 6 z (λW t=>ld t3 t z z z z z) t z (.tp' 7 z z t (.ts' 12 z (λW t=>fa f70_1 z z z) t z (.ts' 13 z (λW t=>ld t3 t z z z z z) t z (.tp' 14 z z t (bv h λy4 hy4 h=>.by1 3 z (.cV s func112 (jf hy4) z z ?_)))))))))))
  intro v3 W s
  refine s.an [1] λt=>bv h λy5 hy5 h=>.by1 8 z (.cO s func109 (fI hy5) z z ?_)
  intro W s
  refine s.an [1] λt=>bv h λy6 hy6 h=>.by1 9 z (.cO s func113 (nU hy6) z z ?_)
  intro W s
  refine s.an [1] λt=>.by1 10 z (.liv [y6] ak u35 t74 s z z z z ?_ z (λ_=>z))
  intro v4 W s
  refine s.an [2] λt=>bv h λr1 hr1 h=>?_
  have hT0:=s.p1
  refine .by1 11 z (.av hr1 hT0 hT0.p1.lv (λ_=>z) u35 t74 z z z ?_)
  intro v5 W s
  refine s.an [2] λt=>bv h λy7 hy7 h=>.by1 15 z (.cS (L0:=[ac (sv v5) 74 5 ak r1]) s func110 (λS h1 h2 h3=>(kV hy7 h2 (zz h1))) z z ?_)
  rintro v6 W s
  refine s.an [2] λt=>?_
  obtain rfl:=o9 h
  exact .tp' 16 z z t (.done (.ret (aa v6 (rt z rn) z (s.tk [0]))))
 have h:=aL b h
 refine .g (.q z (.q z (.nil ?_)))
 refine .cs z h ?_ ?_ <;> intro h
 ·refine .g (.s (ld t70 s z z z z z) z (.q z (bv h λy8 hy8 h=>.c (.cV s func114 (xJ hy8) z z ?_))))
  intro v7 W s
  obtain rfl:=o9 h
  exact .qn z (.ret (aa v7 (rt z rn) z (s.tk [0])))
 refine .g (.q z (.q z (.nil ?_)))
 refine .cs z h ?_ ?_ <;> intro h
 ·refine .g (.q z (.s (bs T.s74 z z) z (.c (.liv [(Instr.mk 20 0 0 0 a2)] ak u35 t74 s z z z z ?_ z (λ_=>z)))))
  intro v8 W s
  cases h
  exact .qn z (.ret (aa v8 (rt z rn) z (s.tk [0])))
 refine .g (.q z (.q z (.nil ?_)))
 refine .cs z h ?_ ?_ <;> intro h
 ·refine .g (.s (ld t70 s z z z z z) z (.q z (.q z (bv h λy9 hy9 h=>.c (.cV s func115 (wm hy9) z z ?_)))))
  intro v9 W s
  obtain rfl:=o9 h
  exact .qn z (.ret (aa v9 (rt z rn) z (s.tk [0])))
 refine .g (.q z (.qn z (.cond z (λb=>?_) (λb=>?_))))
 ·have h:=aK b h
  refine .seq (.rk 11 s [0] T.mix ?_)
  intro W s
  have t:=s.to [0]
  refine .ts' 0 z (λW t=>fa f70_2 z z z) t z (.ts' 1 z (λW t=>ld t3 t z z z z z) t z (.tp' 2 z z t (.ts' 4 z (λW t=>fa f70_4 z z z) t z (.ts' 5 z (λW t=>ld t3 t z z z z z) t z (bv h λy10 hy10 h=>.by1 3 z (.cV s func117 (qh hy10) z z ?_))))))
  intro v10 W s
  refine s.an [1] λt=>bv h λy11 hy11 h=>.by1 6 z (.cO s func118 (ri hy11) z z ?_)
  intro W s
  refine s.an [1] λt=>.by1 7 z (.liv [y11] ak u35 t74 s z z z z ?_ z (λ_=>z))
  intro v11 W s
  refine s.an [2] λt=>bv h λr2 hr2 h=>?_
  have hT0:=s.p1
  refine .by1 8 z (.av hr2 hT0 hT0.p1.lv (λ_=>z) u35 t74 z z z ?_)
  intro v12 W s
  refine s.an [2] λt=>bv h λy12 hy12 h=>.by1 9 z (.cS (L0:=[ac (sv v12) 74 5 ak r2]) s func116 (λS h1 h2 h3=>(jg hy12 h2 (zz h1))) z z ?_)
  rintro v13 W s
  refine s.an [2] λt=>?_
  obtain rfl:=o9 h
  exact .tp' 10 z z t (.done (.ret (aa v13 (rt z rn) z (s.tk [0]))))
 have h:=aL b h
 refine .g (.q z (.qn z (.cond z (λb=>?_) (λb=>?_))))
 ·have h:=aK b h
  refine .g (.s (fa f70_4 z z z) z (.s (ld t3 s z z z z z) z (bv h λy13 hy13 h=>.c (.cO s func118 (ri hy13) z z ?_))))
  intro W s
  refine .c (.liv [y13] ak u35 t74 s z z z z ?_ z (λ_=>z))
  intro v14 W s
  refine bv h λy14 hy14 h=>.c (.cS (L0:=[ac (sv v14) 74 5 ak [y13]]) s func116 (λS h1 h2 h3=>(jg hy14 h2 (zz h1))) z z ?_)
  rintro v15 W s
  refine .qn z (.seq (.rk 10 s [1] T.mix ?_))
  intro W s
  have t:=s.to [1]
  refine .tp' 0 z z t (.tp' 1 z z t (.ts' 5 z (λW t=>fa f70_1 z z z) t z (.ts' 6 z (λW t=>ld t3 t z z z z z) t z (.tp' 7 z z t (bv h λy15 hy15 h=>.by1 2 z (.cO s func113 (nU hy15) z z ?_))))))
  intro W s
  refine s.an [1] λt=>.by1 3 z (.liv [y15] ak u35 t74 s z z z z ?_ z (λ_=>z))
  intro v16 W s
  refine s.an [2] λt=>bv h λr3 hr3 h=>?_
  have hT0:=s.p1
  refine .by1 4 z (.av hr3 hT0 hT0.p1.lv (λ_=>z) u35 t74 z z z ?_)
  intro v17 W s
  refine s.an [2] λt=>bv h λy16 hy16 h=>.by1 8 z (.cS (L0:=[ac (sv v17) 74 5 ak r3]) s func110 (λS h1 h2 h3=>(kV hy16 h2 (zz h1))) z z ?_)
  rintro v18 W s
  refine s.an [2] λt=>?_
  obtain rfl:=o9 h
  exact .tp' 9 z z t (.done (.ret (aa v18 (rt z rn) z (s.tk [0]))))
 have h:=aL b h
 refine .g (.q z (.qn z (.cond z (λb=>?_) (λb=>?_))))
 ·have h:=aK b h
  refine .g (.c (.liv [] ak u35 t74 s z z z z ?_ z (λ_=>z)))
  intro v19 W s
  refine bv h λy17 hy17 h=>.c (.cS (L0:=[ac (sv v19) 74 5 ak []]) s func116 (λS h1 h2 h3=>(jg hy17 h2 (zz h1))) z z ?_)
  rintro v20 W s
  obtain rfl:=o9 h
  exact .qn z (.ret (aa v20 (rt z rn) z (s.tk [0])))
 have h:=aL b h
 refine .g (.q z (.qn z (.cond z (λb=>?_) (λb=>?_))))
 ·have h:=aK b h
  refine .g (.s (fa f70_2 z z z) z (.s (ld t3 s z z z z z) z (.q z (bv h λy18 hy18 h=>.c (.cV s func117 (qh hy18) z z ?_)))))
  intro v21 W s
  refine bv h λy19 hy19 h=>.c (.cS (L0:=[ac (sv v21) 74 5 ak y18]) s func116 (λS h1 h2 h3=>(jg hy19 h2 (zz h1))) z z ?_)
  rintro v22 W s
  obtain rfl:=o9 h
  exact .qn z (.ret (aa v22 (rt z rn) z (s.tk [0])))
 have h:=aL b h
 refine .skip (.g (.c (.liv [] ak u35 t74 s z z z z ?_ z (λ_=>z))))
 intro v23 W s
 refine bv h λy20 hy20 h=>.c (.cS (L0:=[ac (sv v23) 74 5 ak []]) s func116 (λS h1 h2 h3=>(jg hy20 h2 (zz h1))) z z ?_)
 rintro v24 W s
 obtain rfl:=o9 h
 exact .qn z (.ret (aa v24 (rt z rn) z (s.tk [0])))
theorem ui {a0:List ab} {a1:Int} {v_0:Hd} {w:World} {r:(List Int)} (h:jY a0 a1=some r) (q_0:RO w v_0 70 5 ah a0):CL 62 #[sv v_0,vi a1] w (Ret No w (λs:Hd=>(sv s)) (λs=>[ac (sv s) 3 1 (D.int .i64) r])):=by
 unfold jY at h
 refine ao func62 z z ?_
 have s:=Sep.start w
 refine .g (.qn z (.g (.c (.liv [] (D.int .i64) u23 t3 s z z z z ?_ z (λ_=>z)))))
 intro v1 W s
 refine .qn z (.g (.qn z (.seq (.g (.qn z (.block (bv h λy1 hy1 h=>?_)))))))
 refine .via (.iter (λs1 E' W'=>∃ (v4:Hd),aq E' [(0,(sv v_0)),(1,vi a1),(5,(sv v4)),(6,vi s1.2.1),(7,vi s1.2.2)]/\Sep No w W' [ac (sv v4) 3 1 (D.int .i64) s1.1]) (λy2 x E' W'=>x=.exit 0/\∃ (v5:Hd),aq E' [(5,(sv v5))]/\Sep No w W' [ac (sv v5) 3 1 (D.int .i64) y2]) hy1 ⟨v1,sb z,s.tk [0]⟩ ?_) ?_
 ·intro s1 y3 E W h hI
  obtain ⟨v3,hE,s⟩:=hI
  refine CW.sub hE ?_
  unfold mB at h
  refine .seq (.g (.q z (.q z (.s (aE (s.keep q_0) u38 z z) z (.q z (.nil ?_))))))
  refine .cs z h ?_ ?_ <;> intro h
  ·refine .skip (.seq (.block (.g (.q z (.q z (.c (.liv [s1.2.1] (D.int .i64) u23 t3 s z z z z ?_ z (λ_=>z))))))))
   intro v6 W s
   refine bv h λr1 hr1 h=>?_
   have hT0:=s.p1
   refine .c (.av hr1 hT0 hT0.p1.lv (λ_=>z) u23 t3 z z z ?_)
   intro v7 W s
   refine .qn z (.region (.q z (.q z (.q z (bv h λx1 hx1 h=>.s (ixv (s.keep q_0) hx1 u38 t70 z z z) z (.s (lde (RV.flat (s.keep q_0) hx1 z) t70 z z z z z) z (.q z (bv h λy4 hy4 h=>.c (.cV s func63 (qi hy4) z z ?_)))))))))
   intro v8 W s
   refine .s (aE s.lv u35 z z) z (.q z (.qn z (.region (.q z (.q z (.q z (.nil ?_)))))))
   cases h
   exact ⟨z,v7,sb z,s.tk [1]⟩
  refine .exit ?_
  cases h
  exact ⟨by simp,z,v3,sb z,s.tk [0]⟩
 intro x E W hJ
 obtain ⟨rfl,v9,hE,s⟩:=hJ
 refine ⟨_,hE.sub,?_⟩
 obtain rfl:=o9 h
 exact .g (.q z (.qn z (.ret (aa v9 (rt z rn) z (s.tk [0])))))
theorem wn {a0:List ab} {a1:Int} {v_0:Hd} {w:World} {r:(List Instr)} (h:mC a0 a1=some r) (q_0:RO w v_0 70 5 ah a0):CL 33 #[sv v_0,vi a1] w (Ret No w (λs:Hd=>(sv s)) (λs=>[ac (sv s) 74 5 ak r])):=by
 unfold mC at h
 refine ao func33 z z ?_
 have s:=Sep.start w
 refine .g (.qn z (.g (.q z (.q z (bv h λy1 hy1 h=>.c (.cV s func62 (ui hy1 (s.keep q_0)) z z ?_))))))
 intro v1 W s
 refine .qn z (.g (.c (.liv [] ak u35 t74 s z z z z ?_ z (λ_=>z))))
 intro v2 W s
 refine .qn z (.seq (.g (.qn z (.block (bv h λy2 hy2 h=>?_)))))
 refine .via (.iter (λs1 E' W'=>∃ (v5:Hd),aq E' [(0,(sv v_0)),(1,vi a1),(5,(sv v1)),(6,(sv v5)),(7,vi s1.2)]/\Sep No w W' [ac (sv v1) 3 1 (D.int .i64) y1,ac (sv v5) 74 5 ak s1.1]) (λy3 x E' W'=>x=.exit 0/\∃ (v6:Hd),aq E' [(6,(sv v6))]/\Sep No w W' [ac (sv v1) 3 1 (D.int .i64) y1,ac (sv v6) 74 5 ak y3]) hy2 ⟨v2,sb z,s.tk [1,0]⟩ ?_) ?_
 ·intro s1 y4 E W h hI
  obtain ⟨v4,hE,s⟩:=hI
  refine CW.sub hE ?_
  unfold nQ at h
  refine .seq (.g (.q z (.q z (.s (aE (s.keep q_0) u38 z z) z (.q z (.nil ?_))))))
  refine .cs z h ?_ ?_ <;> intro h
  ·refine .skip (.seq (.block (.g (.qn z (bv h λy5 hy5 h=>?_)))))
   refine .seq (CW.via (R':=λx E' W'=>x=.normal/\aq E' [(0,(sv v_0)),(1,vi a1),(5,(sv v1)),(6,(sv v4)),(7,vi s1.2),(8,vi y5)]/\Sep No w W' [ac (sv v1) 3 1 (D.int .i64) y1,ac (sv v4) 74 5 ak s1.1]) ?_ ?_)
   ·have h:=hy5
    refine .g (.q z (.q z (bv h λx1 hx1 h=>.s (ixv (s.keep q_0) hx1 u38 t70 z z z) z (.s (fe f70_0 z z z) z (.s (lde (RV.flat (s.keep q_0) hx1 z) t3 z z z z z) z (.q z (.q z (bv h λb1 hb1 h=>.cu 7 32 (b1) s ?_ ?_))))))))
    ·refine .both (x1.Op==4) (λb=>?_) (λb=>?_)
     ·refine .xx b z (.xx b z (.xx b z (.xx b z (.xx b z (.xx b z ?_)))))
      cases aK b hb1
      exact .s (pkt b z z z) z (.nil (ck 7 s))
     have hg1:=b
     have h:=aL b hb1
     refine .g hg1 (.q z (.g hg1 (.q z (bv h λx2 hx2 h=>.g hg1 (.s (ixv (s.keep q_0) hx2 u38 t70 z z z) z (.g hg1 (.s (fe f70_0 z z z) z (.g hg1 (.s (lde (RV.flat (s.keep q_0) hx2 z) t3 z z z z z) z (.g hg1 (.q z (.s (pkf hg1 z z z) z ?_))))))))))))
     cases h
     exact .nil (ck 7 s)
    intro W s
    refine .nil ?_
    refine .cs z h ?_ ?_ <;> intro h
    ·refine .rk 15 s [0,0] T.mix ?_
     intro W s
     have t:=s.to [0,0]
     refine .tp' 0 z z t (.tp' 1 z z t (.tp' 2 z z t (bv h λx3 hx3 h=>.ts' 3 z (λW t=>ixv (s.keep q_0) hx3 u38 t70 z z z) t z (.ts' 4 z (λW t=>fe f70_4 z z z) t z (.ts' 5 z (λW t=>lde (RV.flat (t.keep q_0) hx3 z) t3 z z z z z) t z (bv h λx4 hx4 h=>.ts' 6 z (λW t=>ixv s.lv hx4 u23 t3 z z z) t z (.ts' 7 z (λW t=>lde (RV.flat t.lv hx4 z) t3 z z z z z) t z (.tp' 8 z z t (.tp' 9 z z t (bv h λx5 hx5 h=>.ts' 10 z (λW t=>ixv s.lv hx5 u23 t3 z z z) t z (.ts' 11 z (λW t=>lde (RV.flat t.lv hx5 z) t3 z z z z z) t z (.tp' 12 z z t (.tp' 13 z z t (.tp' 14 z z t (.done ?_)))))))))))))))
     cases h
     exact ⟨z,sb z,s.tk [0,0]⟩
    refine .skip ?_
    cases h
    exact ⟨z,sb z,s.tk [0,0]⟩
   intro x E W hJ
   obtain ⟨rfl,hE,s⟩:=hJ
   refine ⟨_,hE.sub,?_⟩
   refine .region (.q z (.q z (.q z (bv h λx6 hx6 h=>.s (ixv (s.keep q_0) hx6 u38 t70 z z z) z (.s (lde (RV.flat (s.keep q_0) hx6 z) t70 z z z z z) z (.q z (.q z (bv h λy6 hy6 h=>.c (.cV s func63 (qi hy6) z z ?_)))))))))
   intro v7 W s
   refine bv h λr1 hr1 h=>?_
   have hT0:=s.p2
   refine .c (.av hr1 hT0 hT0.p1.lv (λ_=>z) u35 t74 z z z ?_)
   intro v8 W s
   refine .qn z (.region (.q z (.q z (.q z (.nil ?_)))))
   cases h
   exact ⟨z,v8,sb z,s.tk [2,0]⟩
  refine .exit ?_
  cases h
  exact ⟨by simp,z,v4,sb z,s.tk [0,0]⟩
 intro x E W hJ
 obtain ⟨rfl,v9,hE,s⟩:=hJ
 refine ⟨_,hE.sub,?_⟩
 obtain rfl:=o9 h
 exact .g (.q z (.qn z (.ret (aa v9 (rt z rn) z (s.tk [1])))))
theorem tq {k:Nat} {a0:aF} {a1:Int} {a2:Int} {aA:Hd} {az:Hd} {w:World} {r:(List (List Instr))×Bool} (h:d8 k a0 a1 a2=some r) (bh:RO w aA 3 1 (D.int .i64) a0.Rooms) (aB:RO w az 93 1 (λ(l:List ae)=>D.row 95 8 (l.map aP)) a0.Tasks):CL 9 #[.agg #[sv aA,sv az],vi a1,vi a2] w (Ret No w (λs:Hd=>.tuple #[sv s,.bool r.2]) (λs=>[ac (sv s) 35 1 (λ(l:List Instr)=>D.row 74 5 (l.map ak)) r.1])):=by
 unfold d8 at h
 refine ao func9 z z ?_
 have s:=Sep.start w
 refine .g (.c (.box s z z ?_))
 intro g1 W s
 refine .q z (.qn z (.g (.c (.lg (L1:=[]) [] (λ(l:List Instr)=>D.row 74 5 (l.map ak)) u29 t35 (s.to [0]) z z z (.nil) ?_ z (λ_=>z)))))
 intro v1 W s
 refine .qn z (.g (.s (ld t26 s.p1 z z z z z) z (.q z (bv h λy1 hy1 h=>.c (.cV s func31 (tl hy1 (s.keep bh) (s.keep aB)) z z ?_)))))
 intro v2 W s
 refine .q z (.q z (.q z (.q z (.qn z (.seq (.g (.q z (.q z (.q z (bv h λb1 hb1 h=>.cu 4 25 (b1) s ?_ ?_))))))))))
 ·refine .both (!y1.2) (λb=>?_) (λb=>?_)
  ·refine .xx b z (.xx b z (.xx b z ?_))
   cases aK b hb1
   exact .s (pkt b z z z) z (.nil (ck 4 s))
  have hg1:=b
  have h:=aL b hb1
  refine .g hg1 (.q z (bv h λy2 hy2 h=>.g hg1 (.c (.cO s func32 (bf hy2) z z ?_))))
  intro W s
  refine .g hg1 (.q z (.s (pkf hg1 z z z) z ?_))
  cases h
  exact .nil (ck 4 s)
 intro W s
 refine .nil ?_
 refine .cs z h ?_ ?_ <;> intro h
 ·cases h
  exact .g (.q z (.q z (.qn z (.ret (aa (vs:=[_,_]) v1 (rt z (rt z rn)) z (s.tk [1]))))))
 refine .skip (.seq (.g (.qn z (.block (bv h λy3 hy3 h=>?_)))))
 refine .via (.iter (λs1 E' W'=>∃ (v5:Hd),aq E' [(2,vi a2),(8,(sv v5)),(9,(sv v2)),(11,vi s1.2)]/\Sep No w W' [ac (sv v2) 38 1 (λ(l:List ab)=>D.row 70 5 (l.map ah)) y1.1,.box g1 26 [sv aA,sv az],ac (sv v5) 35 1 (λ(l:List Instr)=>D.row 74 5 (l.map ak)) s1.1]) (λy4 x E' W'=>x=.exit 0/\∃ (v6:Hd),aq E' [(8,(sv v6))]/\Sep No w W' [ac (sv v2) 38 1 (λ(l:List ab)=>D.row 70 5 (l.map ah)) y1.1,.box g1 26 [sv aA,sv az],ac (sv v6) 35 1 (λ(l:List Instr)=>D.row 74 5 (l.map ak)) y4]) hy3 ⟨v1,sb z,s.tk [0,1,0]⟩ ?_) ?_
 ·intro s1 y5 E W h hI
  obtain ⟨v4,hE,s⟩:=hI
  refine CW.sub hE ?_
  unfold iX at h
  refine .seq (.g (.q z (.q z (.s (aE s.lv u32 z z) z (.q z (.nil ?_))))))
  refine .cs z h ?_ ?_ <;> intro h
  ·refine .skip (.seq (.block (.region (.q z (.q z (.q z (bv h λx1 hx1 h=>.s (ixv s.lv hx1 u32 t38 z z z) z ?_)))))))
   obtain ⟨k1,s⟩:=Sep.ov s hx1
   obtain ⟨v7,k1,rfl,s⟩:=s.ow
   obtain ⟨rfl,s⟩:=s.oN
   refine .s (lde (s.p1.hcellsv) t38 z z z z z) z (.q z (bv h λy6 hy6 h=>.c (.cV s func33 (wn hy6 s.lv) z z ?_)))
   intro v8 W s
   refine .c (.lg (L1:=[ac (sv v8) 74 5 ak y6]) [y6] (λ(l:List Instr)=>D.row 74 5 (l.map ak)) u29 t35 (s.to [0,0,0,0,0]) z z z (.row (.nil)) ?_ z (λ_=>z))
   intro v9 W s
   refine bv h λr1 hr1 h=>.c (.appv hr1 (s.to [4,0,0,0,0]) u29 t35 z z z ?_)
   intro v10 W s
   refine .qn z (.region (.q z (.q z (.q z (.nil ?_)))))
   have s:=Sep.gat (ds:=[.row 70 5 (x1.map ah)]) (cs:=[sv v7]) (L1:=[ac (sv v7) 70 5 ah x1]) (.row (.nil)) (s.to [1,1,0,0])
   have s:Sep _ _ _ [ac (sv v2) 38 1 (λ(l:List ab)=>D.row 70 5 (l.map ah)) y1.1,ac (sv v10) 35 1 (λ(l:List Instr)=>D.row 74 5 (l.map ak)) r1,.box g1 26 [sv aA,sv az]]:=Sep.back0v hx1 s
   cases h
   exact ⟨z,v10,sb z,s.tk [0,1,0]⟩
  refine .exit ?_
  cases h
  exact ⟨by simp,z,v4,sb z,s.tk [0,0,0]⟩
 intro x E W hJ
 obtain ⟨rfl,v11,hE,s⟩:=hJ
 refine ⟨_,hE.sub,?_⟩
 cases h
 exact .g (.q z (.q z (.qn z (.ret (aa (vs:=[_,_]) v11 (rt z (rt z rn)) z (s.tk [2]))))))
end
noncomputable section
theorem xK {a0:List Int} {a1:Int} {v_0:Hd} {w:World} {r:Int} (h:nC a0 a1=some r) (q_0:RO w v_0 3 1 (D.int .i64) a0):CL 40 #[sv v_0,vi a1] w (RU w (.int .i64 r)):=by
 unfold nC at h
 refine ao func40 z z ?_
 have s:=Sep.start w
 refine .g (.qn z (.g (.q z (.q z (.s (aE (s.keep q_0) u23 z z) z (.q z (.qn z (.seq (.g (.q z (.q z (.nil ?_))))))))))))
 refine .cs z h ?_ ?_ <;> intro h
 ·cases h
  exact .g (.qn z (.ret (aa () (rt z rn) z (s.to []))))
 cases h
 exact .skip (.g (.q z (.qn z (.ret (aa () (rt z rn) z (s.to []))))))
def lL (F:ay->Int->Option (Int)):Prop:=∀ {a0:ay} {a1:Int} {aW:Hd} {w:World} {r:Int} (h:F a0 a1=some r) (aw:RO w aW 153 3 iK a0.Args) , CL 180 #[.agg #[vi a0.Op,vi a0.N,sv aW],vi a1] w (RU w (.int .i64 r))
def mR (F:List ay->Int->Option (Int)):Prop:=∀ {a0:List ay} {a1:Int} {v_0:Hd} {w:World} {r:Int} (h:F a0 a1=some r) (q_0:RO w v_0 153 3 iK a0) , CL 219 #[sv v_0,vi a1] w (RU w (.int .i64 r))
theorem yl {k:Nat} {cJ:ay->Int->Option (Int)} {dI:List ay->Int->Option (Int)} (rj:lL cJ) (qj:mR dI):lL (gM k cJ dI):=by
 intro a0 a1 aW w r h aw
 unfold gM at h
 refine ao func180 z z ?_
 have s:=Sep.start w
 refine .g (.c (.box s z z ?_))
 intro g1 W s
 refine .qn z (.g (.s (fa f153_2 z z z) z (.s (ld t151 s z z z z z) z (.q z (bv h λy1 hy1 h=>.c (.cO s func219 (qj hy1 (s.keep aw)) z z ?_))))))
 intro W s
 refine .qn z (.seq (.g (.q z (.q z (.nil ?_)))))
 refine .cs z h ?_ ?_ <;> intro h
 ·cases h
  exact .g (.qn z (.ret (aa () (rt z rn) z (s.to []))))
 obtain rfl:=o9 h
 exact .skip (.g (.q z (.qn z (.ret (aa () (rt z rn) z (s.to []))))))
def xL (w:World) (r:Int):Env->World->Prop:=Fin Tryz.prog Tryz.f219 No w (λs:Unit=>.int .i64 r) (λs=>[]) .ret
theorem xM {k:Nat} {cJ:ay->Int->Option (Int)} {dI:List ay->Int->Option (Int)} (rj:lL cJ) (qj:mR dI):mR (jZ k cJ dI):=by
 intro a0 a1 v_0 w r h q_0
 unfold jZ at h
 refine ao func219 z z ?_
 have s:=Sep.start w
 refine .g (.qn z (.g (.q z (.q z (.s (aE (s.keep q_0) u151 z z) z (.q z (.qn z (.seq (.g (.q z (.q z (.nil ?_))))))))))))
 refine .cs z h ?_ ?_ <;> intro h
 ·cases h
  exact .g (.qn z (.ret (aa () (rt z rn) z (s.to []))))
 refine .skip (.seq (.g (.qn z (.block (bv h λy1 hy1 h=>?_)))))
 refine .via (.iter (λs1 E' W'=>aq E' [(0,(sv v_0)),(1,vi s1.1),(5,vi s1.2)]/\Sep No w W' []) (λy2 x E' W'=>(match y2 with | .inl o1=>x=.ret/\xL w o1 E' W' | .inr o2=>x=.exit 0/\aq E' [(1,vi o2)]/\Sep No w W' [])) hy1 ⟨sb rfl,s.to [] rfl⟩ ?_) ?_
 ·intro s1 y3 E W h hI
  obtain ⟨hE,s⟩:=hI
  refine CW.sub hE ?_
  unfold lW at h
  refine .seq (.g (.q z (.q z (.s (aE (s.keep q_0) u151 z z) z (.q z (.nil ?_))))))
  refine .cs z h ?_ ?_ <;> intro h
  ·refine .skip (.seq (.block (.g (.q z (.q z (bv h λx1 hx1 h=>?_))))))
   obtain ⟨k1,hd,hck1⟩:=RV.el2 q_0 hx1
   have hd1:=dP (wY _) hd
   obtain ⟨k1,rfl,hd2⟩:=a7 q_0 z hd1
   obtain ⟨k1,rfl,hd3⟩:=a7 q_0 z hd2
   obtain ⟨v1,k1,rfl,q1,hd4⟩:=bn q_0 hd3
   obtain rfl:=gU q_0 hd4
   refine .s (ixv (s.keep q_0) hx1 u151 t153 z z z) z (.s (lde (hck1 _ s.agree) t153 z z z z z) z (.q z (bv h λy4 hy4 h=>.c (.cO s func180 (rj hy4 (s.keep (q1 _ q_0))) z z ?_))))
   intro W s
   refine .qn z (.g (.q z (.q z (.nil ?_))))
   refine .cs z h ?_ ?_ <;> intro h
   ·refine .g (.qn z (.ret ?_))
    cases h
    exact ⟨by simp,z,aa (vs:=[_]) () (rt z rn) z (s.to [])⟩
   refine .skip (.region (.q z (.q z (.q z (.nil ?_)))))
   cases h
   exact ⟨z,sb z,s.to []⟩
  refine .exit ?_
  cases h
  exact ⟨by simp,z,sb z,s.to []⟩
 intro x E W hJ
 rcases y1 with o3 | o4
 ·have h:=bW h
  obtain ⟨rfl,hF⟩:=hJ
  refine ⟨_,λ_ _ h=>h,?_⟩
  cases h
  exact hF
 have h:=bX h
 obtain ⟨rfl,hE,s⟩:=hJ
 refine ⟨_,hE.sub,?_⟩
 obtain rfl:=o9 h
 exact .g (.q z (.qn z (.ret (aa () (rt z rn) z (s.to [])))))
theorem tr (k:Nat):lL (j1 k)/\mR (mD k):=by
  induction k with
  | zero=>exact ⟨by intro a0 a1 aW w r h aw; exact no h,by intro a0 a1 v_0 w r h q_0; exact no h⟩
  | succ k ih=>exact ⟨yl (k:=k) ih.1 ih.2,xM (k:=k) ih.1 ih.2⟩
theorem xN {k:Nat}:lL (j1 k):=(tr k).1
def kj (F:List au->Int->Option (Int)):Prop:=∀ {a0:List au} {a1:Int} {v_0:Hd} {w:World} {r:Int} (h:F a0 a1=some r) (q_0:RO w v_0 155 8 cQ a0) , CL 81 #[sv v_0,vi a1] w (RU w (.int .i64 r))
def nq (F:au->Int->Option (Int)):Prop:=∀ {a0:au} {a1:Int} {ar:Hd} {aG:Hd} {aH:Hd} {w:World} {r:Int} (h:F a0 a1=some r) (al:RO w ar 153 3 iK a0.Expr.Args) (aN:RO w aG 155 8 cQ a0.Body) (aI:RO w aH 155 8 cQ a0.Else) , CL 132 #[.agg #[vi a0.Kind,vi a0.Var,vi a0.Box,vi a0.Expr.Op,vi a0.Expr.N,sv ar,sv aG,sv aH],vi a1] w (RU w (.int .i64 r))
def xO (w:World) (r:Int):Env->World->Prop:=Fin Tryz.prog Tryz.f81 No w (λs:Unit=>.int .i64 r) (λs=>[]) .ret
theorem xP {k:Nat} {cY:List au->Int->Option (Int)} {cK:au->Int->Option (Int)} (nV:kj cY) (rl:nq cK):kj (j2 k cY cK):=by
 intro a0 a1 v_0 w r h q_0
 unfold j2 at h
 refine ao func81 z z ?_
 have s:=Sep.start w
 refine .g (.qn z (.g (.q z (.q z (.s (aE (s.keep q_0) u114 z z) z (.q z (.qn z (.seq (.g (.q z (.q z (.nil ?_))))))))))))
 refine .cs z h ?_ ?_ <;> intro h
 ·cases h
  exact .g (.qn z (.ret (aa () (rt z rn) z (s.to []))))
 refine .skip (.seq (.g (.qn z (.block (bv h λy1 hy1 h=>?_)))))
 refine .via (.iter (λs1 E' W'=>aq E' [(0,(sv v_0)),(1,vi s1.1),(5,vi s1.2)]/\Sep No w W' []) (λy2 x E' W'=>(match y2 with | .inl o1=>x=.ret/\xO w o1 E' W' | .inr o2=>x=.exit 0/\aq E' [(1,vi o2)]/\Sep No w W' [])) hy1 ⟨sb rfl,s.to [] rfl⟩ ?_) ?_
 ·intro s1 y3 E W h hI
  obtain ⟨hE,s⟩:=hI
  refine CW.sub hE ?_
  unfold lX at h
  refine .seq (.g (.q z (.q z (.s (aE (s.keep q_0) u114 z z) z (.q z (.nil ?_))))))
  refine .cs z h ?_ ?_ <;> intro h
  ·refine .skip (.seq (.block (.g (.q z (.q z (bv h λx1 hx1 h=>?_))))))
   obtain ⟨k1,hd,hck1⟩:=RV.el2 q_0 hx1
   have hd1:=dP (Be _) hd
   obtain ⟨k1,rfl,hd2⟩:=a7 q_0 z hd1
   obtain ⟨k1,rfl,hd3⟩:=a7 q_0 z hd2
   obtain ⟨k1,rfl,hd4⟩:=a7 q_0 z hd3
   have hd5:=dP (wY _) hd4
   obtain ⟨k1,rfl,hd6⟩:=a7 q_0 z hd5
   obtain ⟨k1,rfl,hd7⟩:=a7 q_0 z hd6
   obtain ⟨v1,k1,rfl,q1,hd8⟩:=bn q_0 hd7
   obtain ⟨v2,k1,rfl,q2,hd9⟩:=bn q_0 hd8
   obtain ⟨v3,k1,rfl,q3,hd10⟩:=bn q_0 hd9
   obtain rfl:=gU q_0 hd10
   refine .s (ixv (s.keep q_0) hx1 u114 t155 z z z) z (.s (lde (hck1 _ s.agree) t155 z z z z z) z (.q z (bv h λy4 hy4 h=>.c (.cO s func132 (rl hy4 (s.keep (q1 _ q_0)) (s.keep (q2 _ q_0)) (s.keep (q3 _ q_0))) z z ?_))))
   intro W s
   refine .qn z (.g (.q z (.q z (.nil ?_))))
   refine .cs z h ?_ ?_ <;> intro h
   ·refine .g (.qn z (.ret ?_))
    cases h
    exact ⟨by simp,z,aa (vs:=[_]) () (rt z rn) z (s.to [])⟩
   refine .skip (.region (.q z (.q z (.q z (.nil ?_)))))
   cases h
   exact ⟨z,sb z,s.to []⟩
  refine .exit ?_
  cases h
  exact ⟨by simp,z,sb z,s.to []⟩
 intro x E W hJ
 rcases y1 with o3 | o4
 ·have h:=bW h
  obtain ⟨rfl,hF⟩:=hJ
  refine ⟨_,λ_ _ h=>h,?_⟩
  cases h
  exact hF
 have h:=bX h
 obtain ⟨rfl,hE,s⟩:=hJ
 refine ⟨_,hE.sub,?_⟩
 obtain rfl:=o9 h
 exact .g (.q z (.qn z (.ret (aa () (rt z rn) z (s.to [])))))
theorem ym {k:Nat} {cY:List au->Int->Option (Int)} {cK:au->Int->Option (Int)} (nV:kj cY) (rl:nq cK):nq (lz k cY cK):=by
 intro a0 a1 ar aG aH w r h al aN aI
 unfold lz at h
 refine ao func132 z z ?_
 have s:=Sep.start w
 refine .g (.c (.box s z z ?_))
 intro g1 W s
 refine .qn z (.g (.s (fa f155_3 z z z) z (.s (ld t153 s z z z z z) z (.q z (bv h λy1 hy1 h=>.c (.cO s func180 (xN hy1 (s.keep al)) z z ?_))))))
 intro W s
 refine .qn z (.seq (.g (.q z (.q z (.nil ?_)))))
 refine .cs z h ?_ ?_ <;> intro h
 ·cases h
  exact .g (.qn z (.ret (aa () (rt z rn) z (s.to []))))
 refine .skip (.g (.s (fa f155_4 z z z) z (.s (ld t114 s z z z z z) z (.q z (bv h λy2 hy2 h=>.c (.cO s func81 (nV hy2 (s.keep aN)) z z ?_))))))
 intro W s
 refine .qn z (.seq (.g (.q z (.q z (.nil ?_)))))
 refine .cs z h ?_ ?_ <;> intro h
 ·cases h
  exact .g (.qn z (.ret (aa () (rt z rn) z (s.to []))))
 refine .skip (.g (.s (fa f155_5 z z z) z (.s (ld t114 s z z z z z) z (.q z (bv h λy3 hy3 h=>.c (.cO s func81 (nV hy3 (s.keep aI)) z z ?_))))))
 intro W s
 refine .qn z (.seq (.g (.q z (.q z (.nil ?_)))))
 refine .cs z h ?_ ?_ <;> intro h
 ·cases h
  exact .g (.qn z (.ret (aa () (rt z rn) z (s.to []))))
 obtain rfl:=o9 h
 exact .skip (.g (.q z (.qn z (.ret (aa () (rt z rn) z (s.to []))))))
theorem sg (k:Nat):kj (kL k)/\nq (qz k):=by
  induction k with
  | zero=>exact ⟨by intro a0 a1 v_0 w r h q_0; exact no h,by intro a0 a1 ar aG aH w r h al aN aI; exact no h⟩
  | succ k ih=>exact ⟨xP (k:=k) ih.1 ih.2,ym (k:=k) ih.1 ih.2⟩
theorem wo {k:Nat}:kj (kL k):=(sg k).1
def wq (w:World) (r:Int):Env->World->Prop:=Fin Tryz.prog Tryz.f41 No w (λs:Unit=>.int .i64 r) (λs=>[]) .ret
theorem vz {k:Nat} {a0:List (List au)} {a1:Int} {v_0:Hd} {w:World} {r:Int} (h:lC k a0 a1=some r) (q_0:RO w v_0 114 1 (λ(l:List au)=>D.row 155 8 (l.map cQ)) a0):CL 41 #[sv v_0,vi a1] w (RU w (.int .i64 r)):=by
 unfold lC at h
 refine ao func41 z z ?_
 have s:=Sep.start w
 refine .g (.qn z (.g (.q z (.q z (.s (aE (s.keep q_0) u41 z z) z (.q z (.qn z (.seq (.g (.q z (.q z (.nil ?_))))))))))))
 refine .cs z h ?_ ?_ <;> intro h
 ·cases h
  exact .g (.qn z (.ret (aa () (rt z rn) z (s.to []))))
 refine .skip (.seq (.g (.qn z (.block (bv h λy1 hy1 h=>?_)))))
 refine .via (.iter (λs1 E' W'=>aq E' [(0,(sv v_0)),(1,vi s1.1),(5,vi s1.2)]/\Sep No w W' []) (λy2 x E' W'=>(match y2 with | .inl o1=>x=.ret/\wq w o1 E' W' | .inr o2=>x=.exit 0/\aq E' [(1,vi o2)]/\Sep No w W' [])) hy1 ⟨sb rfl,s.to [] rfl⟩ ?_) ?_
 ·intro s1 y3 E W h hI
  obtain ⟨hE,s⟩:=hI
  refine CW.sub hE ?_
  unfold kM at h
  refine .seq (.g (.q z (.q z (.s (aE (s.keep q_0) u41 z z) z (.q z (.nil ?_))))))
  refine .cs z h ?_ ?_ <;> intro h
  ·refine .skip (.seq (.block (.g (.q z (.q z (bv h λx1 hx1 h=>?_))))))
   obtain ⟨k1,hd,hck1⟩:=RV.el2 q_0 hx1
   obtain ⟨v1,k1,rfl,q1,hd1⟩:=bn q_0 hd
   obtain rfl:=gU q_0 hd1
   refine .s (ixv (s.keep q_0) hx1 u41 t114 z z z) z (.s (lde (hck1 _ s.agree) t114 z z z z z) z (.q z (bv h λy4 hy4 h=>.c (.cO s func81 (wo hy4 (s.keep (q1 _ q_0))) z z ?_))))
   intro W s
   refine .qn z (.g (.q z (.q z (.nil ?_))))
   refine .cs z h ?_ ?_ <;> intro h
   ·refine .g (.qn z (.ret ?_))
    cases h
    exact ⟨by simp,z,aa (vs:=[_]) () (rt z rn) z (s.to [])⟩
   refine .skip (.region (.q z (.q z (.q z (.nil ?_)))))
   cases h
   exact ⟨z,sb z,s.to []⟩
  refine .exit ?_
  cases h
  exact ⟨by simp,z,sb z,s.to []⟩
 intro x E W hJ
 rcases y1 with o3 | o4
 ·have h:=bW h
  obtain ⟨rfl,hF⟩:=hJ
  refine ⟨_,λ_ _ h=>h,?_⟩
  cases h
  exact hF
 have h:=bX h
 obtain ⟨rfl,hE,s⟩:=hJ
 refine ⟨_,hE.sub,?_⟩
 obtain rfl:=o9 h
 exact .g (.q z (.qn z (.ret (aa () (rt z rn) z (s.to [])))))
theorem uj {k:Nat} {a0:aR} {a1:Int} {aA:Hd} {az:Hd} {w:World} {r:Int} (h:j3 k a0 a1=some r) (bh:RO w aA 3 1 (D.int .i64) a0.Rooms) (aB:RO w az 114 1 (λ(l:List au)=>D.row 155 8 (l.map cQ)) a0.Tasks):CL 13 #[.agg #[sv aA,sv az],vi a1] w (RU w (.int .i64 r)):=by
 unfold j3 at h
 refine ao func13 z z ?_
 have s:=Sep.start w
 refine .g (.c (.box s z z ?_))
 intro g1 W s
 refine .qn z (.g (.s (fa f43_0 z z z) z (.s (ld t23 s z z z z z) z (.q z (bv h λy1 hy1 h=>.c (.cO s func40 (xK hy1 (s.keep bh)) z z ?_))))))
 intro W s
 refine .qn z (.seq (.g (.q z (.q z (.nil ?_)))))
 refine .cs z h ?_ ?_ <;> intro h
 ·cases h
  exact .g (.qn z (.ret (aa () (rt z rn) z (s.to []))))
 refine .skip (.g (.s (fa f43_1 z z z) z (.s (ld t41 s z z z z z) z (.q z (bv h λy2 hy2 h=>.c (.cO s func41 (vz hy2 (s.keep aB)) z z ?_))))))
 intro W s
 refine .qn z (.seq (.g (.q z (.q z (.nil ?_)))))
 refine .cs z h ?_ ?_ <;> intro h
 ·cases h
  exact .g (.qn z (.ret (aa () (rt z rn) z (s.to []))))
 obtain rfl:=o9 h
 exact .skip (.g (.q z (.qn z (.ret (aa () (rt z rn) z (s.to []))))))
theorem xQ {a0:List Int} {v_0:Hd} {w:World} {r:(List Int)} (h:nD a0=some r) (q_0:RO w v_0 3 1 (D.int .i64) a0):CL 42 #[sv v_0] w (Ret No w (λs:Hd=>(sv s)) (λs=>[ac (sv s) 3 1 (D.int .i64) r])):=by
 unfold nD at h
 refine ao func42 z z ?_
 have s:=Sep.start w
 refine .g (.qn z (.g (.q z (.s (aE (s.keep q_0) u23 z z) z (bv h λr1 hr1 h=>.c (.mkv 0 (D.int .i64) hr1 u23 t3 s z z z z z (λ_=>z) ?_))))))
 intro v1 W s
 refine .qn z (.seq (.g (.qn z (.block (bv h λy1 hy1 h=>?_)))))
 refine .via (.iter (λs1 E' W'=>aq E' [(0,(sv v_0)),(3,(sv v1)),(4,vi s1.1)]/\Sep No w W' [ac (sv v1) 3 1 (D.int .i64) s1.2]) (λy2 x E' W'=>x=.exit 0/\aq E' [(3,(sv v1))]/\Sep No w W' [ac (sv v1) 3 1 (D.int .i64) y2]) hy1 ⟨sb z,s.tk [0]⟩ ?_) ?_
 ·intro s1 y3 E W h hI
  obtain ⟨hE,s⟩:=hI
  refine CW.sub hE ?_
  unfold mF at h
  refine .seq (.g (.q z (.q z (.s (aE (s.keep q_0) u23 z z) z (.q z (.nil ?_))))))
  refine .cs z h ?_ ?_ <;> intro h
  ·refine .skip (.seq (.block (.region (.q z (.q z (.q z (.q z (bv h λx1 hx1 h=>.s (ixv (s.keep q_0) hx1 u23 t3 z z z) z (.s (lde (RV.flat (s.keep q_0) hx1 z) t3 z z z z z) z (bv h λx2 hx2 h=>.s (ixv s.lv hx2 u23 t3 z z z) z (bv h λr2 hr2 h=>.c (.sev hr2 hx2 s t3 z z z z z z ?_))))))))))))
   intro W s
   refine .nil (.region (.q z (.q z (.q z (.nil ?_)))))
   cases h
   exact ⟨z,sb z,s.tk [0]⟩
  refine .exit ?_
  cases h
  exact ⟨by simp,z,sb z,s.tk [0]⟩
 intro x E W hJ
 obtain ⟨rfl,hE,s⟩:=hJ
 refine ⟨_,hE.sub,?_⟩
 obtain rfl:=o9 h
 exact .g (.q z (.qn z (.ret (aa v1 (rt z rn) z (s.tk [0])))))
def lM (F:ay->Option (Expr)):Prop:=∀ {a0:ay} {aW:Hd} {w:World} {r:Expr} (h:F a0=some r) (aw:RO w aW 153 3 iK a0.Args) , CL 181 #[.agg #[vi a0.Op,vi a0.N,sv aW]] w (Ret No w (λs:Hd=>.agg #[vi r.Op,vi r.N,sv s]) (λs=>[ac (sv s) 91 3 bL r.Args]))
def mS (F:List ay->Option ((List Expr))):Prop:=∀ {a0:List ay} {v_0:Hd} {w:World} {r:(List Expr)} (h:F a0=some r) (q_0:RO w v_0 153 3 iK a0) , CL 220 #[sv v_0] w (Ret No w (λs:Hd=>(sv s)) (λs=>[ac (sv s) 91 3 bL r]))
theorem yn {k:Nat} {cL:ay->Option (Expr)} {dJ:List ay->Option ((List Expr))} (rm:lM cL) (qk:mS dJ):lM (gN k cL dJ):=by
 intro a0 aW w r h aw
 unfold gN at h
 refine ao func181 z z ?_
 have s:=Sep.start w
 refine .g (.c (.box s z z ?_))
 intro g1 W s
 refine .c (.alloc t91 s ?_)
 intro g2 W s
 refine .nil (.g (.c (.alloc t91 s ?_)))
 intro g3 W s
 refine .nil (.g (.s (fa f153_0 z z z) z (.s (ld t3 s.p2 z z z z z) z (.s (fa f91_0 z z z) z (.c (.st t3 s z z z ?_))))))
 intro W s
 refine .nil (.g (.s (fa f153_1 z z z) z (.s (ld t3 s.p2 z z z z z) z (.s (fa f91_1 z z z) z (.c (.st t3 s z z z ?_))))))
 intro W s
 refine .nil (.g (.s (fa f153_2 z z z) z (.s (ld t151 s.p2 z z z z z) z (bv h λy1 hy1 h=>.c (.cV s func220 (qk hy1 (s.keep aw)) z z ?_)))))
 intro v1 W s
 refine .s (fa f91_2 z z z) z (.c (.st t89 s.p1 z z z ?_))
 intro W s
 refine .nil (.g (.s (ld t91 s z z z z z) z (.c (.st t91 s.p2 z z z ?_))))
 intro W s
 cases h
 exact .nil (.ret (aa v1 (rc s t91 z rn z z) z (s.tk [2])))
theorem xR {k:Nat} {cL:ay->Option (Expr)} {dJ:List ay->Option ((List Expr))} (rm:lM cL) (qk:mS dJ):mS (j4 k cL dJ):=by
 intro a0 v_0 w r h q_0
 unfold j4 at h
 refine ao func220 z z ?_
 have s:=Sep.start w
 refine .g (.qn z (.g (.q z (.s (aE (s.keep q_0) u151 z z) z (bv h λr1 hr1 h=>.c (.mkv (Expr.mk 0 0 []) bL hr1 u89 t91 s z z z z z EP ?_))))))
 intro v1 W s
 refine .qn z (.seq (.g (.qn z (.block (bv h λy1 hy1 h=>?_)))))
 refine .via (.iter (λs1 E' W'=>aq E' [(0,(sv v_0)),(3,(sv v1)),(4,vi s1.1)]/\Sep No w W' [ac (sv v1) 91 3 bL s1.2]) (λy2 x E' W'=>x=.exit 0/\aq E' [(3,(sv v1))]/\Sep No w W' [ac (sv v1) 91 3 bL y2]) hy1 ⟨sb z,s.tk [0]⟩ ?_) ?_
 ·intro s1 y3 E W h hI
  obtain ⟨hE,s⟩:=hI
  refine CW.sub hE ?_
  unfold lY at h
  refine .seq (.g (.q z (.q z (.s (aE (s.keep q_0) u151 z z) z (.q z (.nil ?_))))))
  refine .cs z h ?_ ?_ <;> intro h
  ·refine .skip (.seq (.block (.region (.q z (.q z (.q z (.q z (bv h λx1 hx1 h=>?_))))))))
   obtain ⟨k1,hd,hck1⟩:=RV.el2 q_0 hx1
   have hd1:=dP (wY _) hd
   obtain ⟨k1,rfl,hd2⟩:=a7 q_0 z hd1
   obtain ⟨k1,rfl,hd3⟩:=a7 q_0 z hd2
   obtain ⟨v2,k1,rfl,q1,hd4⟩:=bn q_0 hd3
   obtain rfl:=gU q_0 hd4
   refine .s (ixv (s.keep q_0) hx1 u151 t153 z z z) z (.s (lde (hck1 _ s.agree) t153 z z z z z) z (bv h λy4 hy4 h=>.c (.cV s func181 (rm hy4 (s.keep (q1 _ q_0))) z z ?_)))
   intro v3 W s
   refine bv h λx2 hx2 h=>.s (ixv s.p1.lv hx2 u89 t91 z z z) z ?_
   obtain ⟨k2,s⟩:=Sep.ov s.p1 hx2
   have s:=s.oaggE (gQ _)
   obtain ⟨k2,rfl,s⟩:=Sep.oF z s
   obtain ⟨k2,rfl,s⟩:=Sep.oF z s
   obtain ⟨v4,k2,rfl,s⟩:=s.ow
   obtain ⟨rfl,s⟩:=s.oN
   refine .c (.sthv s.p1 t91 z z z ?_)
   intro W s
   refine .nil (.region (.q z (.q z (.q z (.nil ?_)))))
   have s:=Sep.gat (ds:=[bL (Expr.mk y4.Op y4.N y4.Args)]) (cs:=[vi y4.Op,vi y4.N,sv v3]) (L1:=[ac (sv v3) 91 3 bL y4.Args]) (.aggE (gQ _) (.flat (c1:=[vi y4.Op]) z (.flat (c1:=[vi y4.N]) z (.row .nil)))) (s.to [2,0,0])
   have s:Sep _ _ _ [ac (sv v1) 91 3 bL (s1.2.set (Int.toNat s1.1) (Expr.mk y4.Op y4.N y4.Args)),ac (sv v4) 91 3 bL x2.Args]:=s.bv
   cases h
   exact ⟨z,sb z,s.tk [0]⟩
  refine .exit ?_
  cases h
  exact ⟨by simp,z,sb z,s.tk [0]⟩
 intro x E W hJ
 obtain ⟨rfl,hE,s⟩:=hJ
 refine ⟨_,hE.sub,?_⟩
 obtain rfl:=o9 h
 exact .g (.q z (.qn z (.ret (aa v1 (rt z rn) z (s.tk [0])))))
theorem tt (k:Nat):lM (j5 k)/\mS (mG k):=by
  induction k with
  | zero=>exact ⟨by intro a0 aW w r h aw; exact no h,by intro a0 v_0 w r h q_0; exact no h⟩
  | succ k ih=>exact ⟨yn (k:=k) ih.1 ih.2,xR (k:=k) ih.1 ih.2⟩
theorem xS {k:Nat}:lM (j5 k):=(tt k).1
def km (F:List au->Option ((List ae))):Prop:=∀ {a0:List au} {v_0:Hd} {w:World} {r:(List ae)} (h:F a0=some r) (q_0:RO w v_0 155 8 cQ a0) , CL 82 #[sv v_0] w (Ret No w (λs:Hd=>(sv s)) (λs=>[ac (sv s) 95 8 aP r]))
def nr (F:au->Option (ae)):Prop:=∀ {a0:au} {ar:Hd} {aG:Hd} {aH:Hd} {w:World} {r:ae} (h:F a0=some r) (al:RO w ar 153 3 iK a0.Expr.Args) (aN:RO w aG 155 8 cQ a0.Body) (aI:RO w aH 155 8 cQ a0.Else) , CL 133 #[.agg #[vi a0.Kind,vi a0.Var,vi a0.Box,vi a0.Expr.Op,vi a0.Expr.N,sv ar,sv aG,sv aH]] w (Ret No w (λs:Hd×Hd×Hd=>.agg #[vi r.Kind,vi r.Var,vi r.Box,vi r.Expr.Op,vi r.Expr.N,(sv s.1),(sv s.2.1),(sv s.2.2)]) (λs=>[ac (sv s.1) 91 3 bL r.Expr.Args,ac (sv s.2.1) 95 8 aP r.Body,ac (sv s.2.2) 95 8 aP r.Else]))
theorem xT {k:Nat} {cZ:List au->Option ((List ae))} {cM:au->Option (ae)} (nW:km cZ) (ro:nr cM):km (j6 k cZ cM):=by
 intro a0 v_0 w r h q_0
 unfold j6 at h
 refine ao func82 z z ?_
 have s:=Sep.start w
 refine .g (.qn z (.g (.q z (.s (aE (s.keep q_0) u114 z z) z (bv h λr1 hr1 h=>.c (.mkv (ae.mk 0 0 0 (Expr.mk 0 0 []) [] []) aP hr1 u93 t95 s z z z z z FK ?_))))))
 intro v1 W s
 refine .qn z (.seq (.g (.qn z (.block (bv h λy1 hy1 h=>?_)))))
 refine .via (.iter (λs1 E' W'=>aq E' [(0,(sv v_0)),(3,(sv v1)),(4,vi s1.1)]/\Sep No w W' [ac (sv v1) 95 8 aP s1.2]) (λy2 x E' W'=>x=.exit 0/\aq E' [(3,(sv v1))]/\Sep No w W' [ac (sv v1) 95 8 aP y2]) hy1 ⟨sb z,s.tk [0]⟩ ?_) ?_
 ·intro s1 y3 E W h hI
  obtain ⟨hE,s⟩:=hI
  refine CW.sub hE ?_
  unfold lZ at h
  refine .seq (.g (.q z (.q z (.s (aE (s.keep q_0) u114 z z) z (.q z (.nil ?_))))))
  refine .cs z h ?_ ?_ <;> intro h
  ·refine .skip (.seq (.block (.region (.q z (.q z (.q z (.q z (bv h λx1 hx1 h=>?_))))))))
   obtain ⟨k1,hd,hck1⟩:=RV.el2 q_0 hx1
   have hd1:=dP (Be _) hd
   obtain ⟨k1,rfl,hd2⟩:=a7 q_0 z hd1
   obtain ⟨k1,rfl,hd3⟩:=a7 q_0 z hd2
   obtain ⟨k1,rfl,hd4⟩:=a7 q_0 z hd3
   have hd5:=dP (wY _) hd4
   obtain ⟨k1,rfl,hd6⟩:=a7 q_0 z hd5
   obtain ⟨k1,rfl,hd7⟩:=a7 q_0 z hd6
   obtain ⟨v2,k1,rfl,q1,hd8⟩:=bn q_0 hd7
   obtain ⟨v3,k1,rfl,q2,hd9⟩:=bn q_0 hd8
   obtain ⟨v4,k1,rfl,q3,hd10⟩:=bn q_0 hd9
   obtain rfl:=gU q_0 hd10
   refine .s (ixv (s.keep q_0) hx1 u114 t155 z z z) z (.s (lde (hck1 _ s.agree) t155 z z z z z) z (bv h λy4 hy4 h=>.c (.call s func133 (ro hy4 (s.keep (q1 _ q_0)) (s.keep (q2 _ q_0)) (s.keep (q3 _ q_0))) z z ?_)))
   rintro ⟨v5,v6,v7⟩ W s
   refine bv h λx2 hx2 h=>.s (ixv s.p3.lv hx2 u93 t95 z z z) z ?_
   obtain ⟨k2,s⟩:=Sep.ov s.p3 hx2
   have s:=s.oaggE (pb _)
   obtain ⟨k2,rfl,s⟩:=Sep.oF z s
   obtain ⟨k2,rfl,s⟩:=Sep.oF z s
   obtain ⟨k2,rfl,s⟩:=Sep.oF z s
   have s:=s.oaggE (gQ _)
   obtain ⟨k2,rfl,s⟩:=Sep.oF z s
   obtain ⟨k2,rfl,s⟩:=Sep.oF z s
   obtain ⟨v8,k2,rfl,s⟩:=s.ow
   obtain ⟨v9,k2,rfl,s⟩:=s.ow
   obtain ⟨v10,k2,rfl,s⟩:=s.ow
   obtain ⟨rfl,s⟩:=s.oN
   refine .c (.sthv s.p3 t95 z z z ?_)
   intro W s
   refine .nil (.region (.q z (.q z (.q z (.nil ?_)))))
   have s:=Sep.gat (ds:=[aP (ae.mk y4.Kind y4.Var y4.Box (Expr.mk y4.Expr.Op y4.Expr.N y4.Expr.Args) y4.Body y4.Else)]) (cs:=[vi y4.Kind,vi y4.Var,vi y4.Box,vi y4.Expr.Op,vi y4.Expr.N,sv v5,sv v6,sv v7]) (L1:=[ac (sv v5) 91 3 bL y4.Expr.Args,ac (sv v6) 95 8 aP y4.Body,ac (sv v7) 95 8 aP y4.Else]) (.aggE (pb _) (.flat (c1:=[vi y4.Kind]) z (.flat (c1:=[vi y4.Var]) z (.flat (c1:=[vi y4.Box]) z (.aggE (gQ _) (.flat (c1:=[vi y4.Expr.Op]) z (.flat (c1:=[vi y4.Expr.N]) z (.row (.row (.row .nil)))))))))) (s.to [4,4,4,0,0,0,0])
   have s:Sep _ _ _ [ac (sv v1) 95 8 aP (s1.2.set (Int.toNat s1.1) (ae.mk y4.Kind y4.Var y4.Box (Expr.mk y4.Expr.Op y4.Expr.N y4.Expr.Args) y4.Body y4.Else)),ac (sv v10) 95 8 aP x2.Else,ac (sv v9) 95 8 aP x2.Body,ac (sv v8) 91 3 bL x2.Expr.Args]:=s.bv
   cases h
   exact ⟨z,sb z,s.tk [0]⟩
  refine .exit ?_
  cases h
  exact ⟨by simp,z,sb z,s.tk [0]⟩
 intro x E W hJ
 obtain ⟨rfl,hE,s⟩:=hJ
 refine ⟨_,hE.sub,?_⟩
 obtain rfl:=o9 h
 exact .g (.q z (.qn z (.ret (aa v1 (rt z rn) z (s.tk [0])))))
theorem yo {k:Nat} {cZ:List au->Option ((List ae))} {cM:au->Option (ae)} (nW:km cZ) (ro:nr cM):nr (lD k cZ cM):=by
 intro a0 ar aG aH w r h al aN aI
 unfold lD at h
 refine ao func133 z z ?_
 have s:=Sep.start w
 refine .g (.c (.box s z z ?_))
 intro g1 W s
 refine .c (.alloc t95 s ?_)
 intro g2 W s
 refine .nil (.g (.c (.alloc t95 s ?_)))
 intro g3 W s
 refine .nil (.g (.s (fa f155_0 z z z) z (.s (ld t3 s.p2 z z z z z) z (.s (fa f95_0 z z z) z (.c (.st t3 s z z z ?_))))))
 intro W s
 refine .nil (.g (.s (fa f155_1 z z z) z (.s (ld t3 s.p2 z z z z z) z (.s (fa f95_1 z z z) z (.c (.st t3 s z z z ?_))))))
 intro W s
 refine .nil (.g (.s (fa f155_2 z z z) z (.s (ld t3 s.p2 z z z z z) z (.s (fa f95_2 z z z) z (.c (.st t3 s z z z ?_))))))
 intro W s
 refine .nil (.g (.s (fa f155_3 z z z) z (.s (ld t153 s.p2 z z z z z) z (bv h λy1 hy1 h=>.c (.cV s func181 (xS hy1 (s.keep al)) z z ?_)))))
 intro v1 W s
 refine .s (fa f95_3 z z z) z (.c (.st t91 s.p1 z z z ?_))
 intro W s
 refine .nil (.g (.s (fa f155_4 z z z) z (.s (ld t114 s.p3 z z z z z) z (bv h λy2 hy2 h=>.c (.cV s func82 (nW hy2 (s.keep aN)) z z ?_)))))
 intro v2 W s
 refine .s (fa f95_4 z z z) z (.c (.st t93 s.p1 z z z ?_))
 intro W s
 refine .nil (.g (.s (fa f155_5 z z z) z (.s (ld t114 s.p4 z z z z z) z (bv h λy3 hy3 h=>.c (.cV s func82 (nW hy3 (s.keep aI)) z z ?_)))))
 intro v3 W s
 refine .s (fa f95_5 z z z) z (.c (.st t93 s.p1 z z z ?_))
 intro W s
 refine .nil (.g (.s (ld t95 s z z z z z) z (.c (.st t95 s.p4 z z z ?_))))
 intro W s
 cases h
 exact .nil (.ret (aa (v1,v2,v3) (rc s t95 z rn z z) z (s.tk [4,3,2])))
theorem sh (k:Nat):km (kN k)/\nr (qA k):=by
  induction k with
  | zero=>exact ⟨by intro a0 v_0 w r h q_0; exact no h,by intro a0 ar aG aH w r h al aN aI; exact no h⟩
  | succ k ih=>exact ⟨xT (k:=k) ih.1 ih.2,yo (k:=k) ih.1 ih.2⟩
theorem wr {k:Nat}:km (kN k):=(sh k).1
theorem vA {k:Nat} {a0:List (List au)} {v_0:Hd} {w:World} {r:(List (List ae))} (h:lF k a0=some r) (q_0:RO w v_0 114 1 (λ(l:List au)=>D.row 155 8 (l.map cQ)) a0):CL 43 #[sv v_0] w (Ret No w (λs:Hd=>(sv s)) (λs=>[ac (sv s) 93 1 (λ(l:List ae)=>D.row 95 8 (l.map aP)) r])):=by
 unfold lF at h
 refine ao func43 z z ?_
 have s:=Sep.start w
 refine .g (.qn z (.g (.q z (.s (aE (s.keep q_0) u41 z z) z (bv h λr1 hr1 h=>.c (.mkv [] (λ(l:List ae)=>D.row 95 8 (l.map aP)) hr1 u24 t93 s z z z z z (λ_=>z) ?_))))))
 intro v1 W s
 refine .qn z (.seq (.g (.qn z (.block (bv h λy1 hy1 h=>?_)))))
 refine .via (.iter (λs1 E' W'=>aq E' [(0,(sv v_0)),(3,(sv v1)),(4,vi s1.1)]/\Sep No w W' [ac (sv v1) 93 1 (λ(l:List ae)=>D.row 95 8 (l.map aP)) s1.2]) (λy2 x E' W'=>x=.exit 0/\aq E' [(3,(sv v1))]/\Sep No w W' [ac (sv v1) 93 1 (λ(l:List ae)=>D.row 95 8 (l.map aP)) y2]) hy1 ⟨sb z,s.tk [0]⟩ ?_) ?_
 ·intro s1 y3 E W h hI
  obtain ⟨hE,s⟩:=hI
  refine CW.sub hE ?_
  unfold kO at h
  refine .seq (.g (.q z (.q z (.s (aE (s.keep q_0) u41 z z) z (.q z (.nil ?_))))))
  refine .cs z h ?_ ?_ <;> intro h
  ·refine .skip (.seq (.block (.region (.q z (.q z (.q z (.q z (bv h λx1 hx1 h=>?_))))))))
   obtain ⟨k1,hd,hck1⟩:=RV.el2 q_0 hx1
   obtain ⟨v2,k1,rfl,q1,hd1⟩:=bn q_0 hd
   obtain rfl:=gU q_0 hd1
   refine .s (ixv (s.keep q_0) hx1 u41 t114 z z z) z (.s (lde (hck1 _ s.agree) t114 z z z z z) z (bv h λy4 hy4 h=>.c (.cV s func82 (wr hy4 (s.keep (q1 _ q_0))) z z ?_)))
   intro v3 W s
   refine bv h λx2 hx2 h=>.s (ixv s.p1.lv hx2 u24 t93 z z z) z ?_
   obtain ⟨k2,s⟩:=Sep.ov s.p1 hx2
   obtain ⟨v4,k2,rfl,s⟩:=s.ow
   obtain ⟨rfl,s⟩:=s.oN
   refine .c (.sthv s.p1 t93 z z z ?_)
   intro W s
   refine .nil (.region (.q z (.q z (.q z (.nil ?_)))))
   have s:=Sep.gat (ds:=[.row 95 8 (y4.map aP)]) (cs:=[sv v3]) (L1:=[ac (sv v3) 95 8 aP y4]) (.row (.nil)) (s.to [2,0,0])
   have s:Sep _ _ _ [ac (sv v1) 93 1 (λ(l:List ae)=>D.row 95 8 (l.map aP)) (s1.2.set (Int.toNat s1.1) y4),ac (sv v4) 95 8 aP x2]:=s.bv
   cases h
   exact ⟨z,sb z,s.tk [0]⟩
  refine .exit ?_
  cases h
  exact ⟨by simp,z,sb z,s.tk [0]⟩
 intro x E W hJ
 obtain ⟨rfl,hE,s⟩:=hJ
 refine ⟨_,hE.sub,?_⟩
 obtain rfl:=o9 h
 exact .g (.q z (.qn z (.ret (aa v1 (rt z rn) z (s.tk [0])))))
theorem jE {k:Nat} {a0:aR} {aA:Hd} {az:Hd} {w:World} {r:aF} (h:dK k a0=some r) (bh:RO w aA 3 1 (D.int .i64) a0.Rooms) (aB:RO w az 114 1 (λ(l:List au)=>D.row 155 8 (l.map cQ)) a0.Tasks):CL 14 #[.agg #[sv aA,sv az]] w (Ret No w (λs:Hd×Hd=>.agg #[(sv s.1),(sv s.2)]) (λs=>[ac (sv s.1) 3 1 (D.int .i64) r.Rooms,ac (sv s.2) 93 1 (λ(l:List ae)=>D.row 95 8 (l.map aP)) r.Tasks])):=by
 unfold dK at h
 refine ao func14 z z ?_
 have s:=Sep.start w
 refine .g (.c (.box s z z ?_))
 intro g1 W s
 refine .c (.alloc t26 s ?_)
 intro g2 W s
 refine .nil (.g (.c (.alloc t26 s ?_)))
 intro g3 W s
 refine .nil (.g (.s (fa f43_0 z z z) z (.s (ld t23 s.p2 z z z z z) z (bv h λy1 hy1 h=>.c (.cV s func42 (xQ hy1 (s.keep bh)) z z ?_)))))
 intro v1 W s
 refine .s (fa f26_0 z z z) z (.c (.st t23 s.p1 z z z ?_))
 intro W s
 refine .nil (.g (.s (fa f43_1 z z z) z (.s (ld t41 s.p3 z z z z z) z (bv h λy2 hy2 h=>.c (.cV s func43 (vA hy2 (s.keep aB)) z z ?_)))))
 intro v2 W s
 refine .s (fa f26_1 z z z) z (.c (.st t24 s.p1 z z z ?_))
 intro W s
 refine .nil (.g (.s (ld t26 s z z z z z) z (.c (.st t26 s.p3 z z z ?_))))
 intro W s
 cases h
 exact .nil (.ret (aa (v1,v2) (rc s t26 z rn z z) z (s.tk [3,2])))
theorem ws {a0:Instr} {a1:Instr} {w:World} {r:Bool} (h:mH a0 a1=some r):CL 83 #[.agg #[vi a0.Op,vi a0.Rd,vi a0.Rs,vi a0.Rt,vi a0.Imm],.agg #[vi a1.Op,vi a1.Rd,vi a1.Rs,vi a1.Rt,vi a1.Imm]] w (RU w (.bool r)):=by
 unfold mH at h
 refine ao func83 z z ?_
 have s:=Sep.start w
 refine .g (.c (.box s z z ?_))
 intro g1 W s
 refine .c (.box s z z ?_)
 intro g2 W s
 refine .qn z (.seq (.g (.s (fa f74_0 z z z) z (.s (ld t3 s.p1 z z z z z) z (.s (fa f74_0 z z z) z (.s (ld t3 s z z z z z) z (.q z (.nil ?_))))))))
 refine .cs z h ?_ ?_ <;> intro h
 ·obtain rfl:=o9 h
  exact .g (.qn z (.ret (aa () (rt z rn) z (s.to []))))
 refine .skip (.seq (.g (.s (fa f74_1 z z z) z (.s (ld t3 s.p1 z z z z z) z (.s (fa f74_1 z z z) z (.s (ld t3 s z z z z z) z (.q z (.nil ?_))))))))
 refine .cs z h ?_ ?_ <;> intro h
 ·obtain rfl:=o9 h
  exact .g (.qn z (.ret (aa () (rt z rn) z (s.to []))))
 refine .skip (.seq (.g (.s (fa f74_2 z z z) z (.s (ld t3 s.p1 z z z z z) z (.s (fa f74_2 z z z) z (.s (ld t3 s z z z z z) z (.q z (.nil ?_))))))))
 refine .cs z h ?_ ?_ <;> intro h
 ·obtain rfl:=o9 h
  exact .g (.qn z (.ret (aa () (rt z rn) z (s.to []))))
 refine .skip (.seq (.g (.s (fa f74_3 z z z) z (.s (ld t3 s.p1 z z z z z) z (.s (fa f74_3 z z z) z (.s (ld t3 s z z z z z) z (.q z (.nil ?_))))))))
 refine .cs z h ?_ ?_ <;> intro h
 ·obtain rfl:=o9 h
  exact .g (.qn z (.ret (aa () (rt z rn) z (s.to []))))
 refine .skip (.seq (.g (.s (fa f74_4 z z z) z (.s (ld t3 s.p1 z z z z z) z (.s (fa f74_4 z z z) z (.s (ld t3 s z z z z z) z (.q z (.nil ?_))))))))
 refine .cs z h ?_ ?_ <;> intro h
 ·obtain rfl:=o9 h
  exact .g (.qn z (.ret (aa () (rt z rn) z (s.to []))))
 obtain rfl:=o9 h
 exact .skip (.g (.qn z (.ret (aa () (rt z rn) z (s.to [])))))
def wt (w:World) (r:Bool):Env->World->Prop:=Fin Tryz.prog Tryz.f44 No w (λs:Unit=>.bool r) (λs=>[]) .ret
theorem vB {a0:List Instr} {a1:List Instr} {v_0:Hd} {v_1:Hd} {w:World} {r:Bool} (h:lG a0 a1=some r) (q_0:RO w v_0 74 5 ak a0) (q_1:RO w v_1 74 5 ak a1):CL 44 #[sv v_0,sv v_1] w (RU w (.bool r)):=by
 unfold lG at h
 refine ao func44 z z ?_
 have s:=Sep.start w
 refine .g (.qn z (.seq (.g (.q z (.s (aE (s.keep q_0) u35 z z) z (.q z (.s (aE (s.keep q_1) u35 z z) z (.q z (.nil ?_)))))))))
 refine .cs z h ?_ ?_ <;> intro h
 ·obtain rfl:=o9 h
  exact .g (.qn z (.ret (aa () (rt z rn) z (s.to []))))
 refine .skip (.seq (.g (.qn z (.block (bv h λy1 hy1 h=>?_)))))
 refine .via (.iter (λs1 E' W'=>aq E' [(0,(sv v_0)),(1,(sv v_1)),(5,vi s1)]/\Sep No w W' []) (λy2 x E' W'=>(match y2 with | .inl o1=>x=.ret/\wt w o1 E' W' | .inr o2=>x=.exit 0/\aq E' []/\Sep No w W' [])) hy1 ⟨sb rfl,s.to [] rfl⟩ ?_) ?_
 ·intro s1 y3 E W h hI
  obtain ⟨hE,s⟩:=hI
  refine CW.sub hE ?_
  unfold ig at h
  refine .seq (.g (.q z (.q z (.s (aE (s.keep q_0) u35 z z) z (.q z (.nil ?_))))))
  refine .cs z h ?_ ?_ <;> intro h
  ·refine .skip (.seq (.block (.seq (.rk 10 s [] T.mix ?_))))
   intro W s
   have t:=s.to []
   refine .tp' 0 z z t (.tp' 1 z z t (bv h λx1 hx1 h=>.ts' 2 z (λW t=>ixv (s.keep q_0) hx1 u35 t74 z z z) t z (.ts' 3 z (λW t=>lde (RV.flat (t.keep q_0) hx1 z) t74 z z z z z) t z (.tp' 4 z z t (.tp' 5 z z t (bv h λx2 hx2 h=>.ts' 6 z (λW t=>ixv (s.keep q_1) hx2 u35 t74 z z z) t z (.ts' 7 z (λW t=>lde (RV.flat (t.keep q_1) hx2 z) t74 z z z z z) t z (bv h λy4 hy4 h=>.by1 8 z (.cO s func83 (ws hy4) z z ?_)))))))))
   intro W s
   refine s.an [] λt=>.tp' 9 z z t (.done ?_)
   refine .cs z h ?_ ?_ <;> intro h
   ·refine .g (.qn z (.ret ?_))
    cases h
    exact ⟨by simp,z,aa (vs:=[_]) () (rt z rn) z (s.to [])⟩
   refine .skip (.region (.q z (.q z (.q z (.nil ?_)))))
   cases h
   exact ⟨z,sb z,s.to []⟩
  refine .exit ?_
  cases h
  exact ⟨by simp,z,sb z,s.to []⟩
 intro x E W hJ
 rcases y1 with o3 | o4
 ·have h:=bW h
  obtain ⟨rfl,hF⟩:=hJ
  refine ⟨_,λ_ _ h=>h,?_⟩
  cases h
  exact hF
 have h:=bX h
 obtain ⟨rfl,hE,s⟩:=hJ
 refine ⟨_,hE.sub,?_⟩
 obtain rfl:=o9 h
 exact .g (.qn z (.ret (aa () (rt z rn) z (s.to []))))
def vC (w:World) (r:Bool):Env->World->Prop:=Fin Tryz.prog Tryz.f15 No w (λs:Unit=>.bool r) (λs=>[]) .ret
theorem mT {a0:List (List Instr)} {a1:List (List Instr)} {v_0:Hd} {v_1:Hd} {w:World} {r:Bool} (h:fy a0 a1=some r) (q_0:RO w v_0 35 1 (λ(l:List Instr)=>D.row 74 5 (l.map ak)) a0) (q_1:RO w v_1 35 1 (λ(l:List Instr)=>D.row 74 5 (l.map ak)) a1):CL 15 #[sv v_0,sv v_1] w (RU w (.bool r)):=by
 unfold fy at h
 refine ao func15 z z ?_
 have s:=Sep.start w
 refine .g (.qn z (.seq (.g (.q z (.s (aE (s.keep q_0) u29 z z) z (.q z (.s (aE (s.keep q_1) u29 z z) z (.q z (.nil ?_)))))))))
 refine .cs z h ?_ ?_ <;> intro h
 ·obtain rfl:=o9 h
  exact .g (.qn z (.ret (aa () (rt z rn) z (s.to []))))
 refine .skip (.seq (.g (.qn z (.block (bv h λy1 hy1 h=>?_)))))
 refine .via (.iter (λs1 E' W'=>aq E' [(0,(sv v_0)),(1,(sv v_1)),(5,vi s1)]/\Sep No w W' []) (λy2 x E' W'=>(match y2 with | .inl o1=>x=.ret/\vC w o1 E' W' | .inr o2=>x=.exit 0/\aq E' []/\Sep No w W' [])) hy1 ⟨sb rfl,s.to [] rfl⟩ ?_) ?_
 ·intro s1 y3 E W h hI
  obtain ⟨hE,s⟩:=hI
  refine CW.sub hE ?_
  unfold gr at h
  refine .seq (.g (.q z (.q z (.s (aE (s.keep q_0) u29 z z) z (.q z (.nil ?_))))))
  refine .cs z h ?_ ?_ <;> intro h
  ·refine .skip (.seq (.block (.seq (.rk 10 s [] T.mix ?_))))
   intro W s
   have t:=s.to []
   refine .tp' 0 z z t (.tp' 1 z z t (bv h λx1 hx1 h=>?_))
   obtain ⟨k1,hd,hck1⟩:=RV.el2 q_0 hx1
   obtain ⟨v1,k1,rfl,q1,hd1⟩:=bn q_0 hd
   obtain rfl:=gU q_0 hd1
   refine .ts' 2 z (λW t=>ixv (s.keep q_0) hx1 u29 t35 z z z) t z (.ts' 3 z (λW t=>lde (hck1 _ t.agree) t35 z z z z z) t z (.tp' 4 z z t (.tp' 5 z z t (bv h λx2 hx2 h=>?_))))
   obtain ⟨k2,hd,hck2⟩:=RV.el2 q_1 hx2
   obtain ⟨v2,k2,rfl,q2,hd1⟩:=bn q_1 hd
   obtain rfl:=gU q_1 hd1
   refine .ts' 6 z (λW t=>ixv (s.keep q_1) hx2 u29 t35 z z z) t z (.ts' 7 z (λW t=>lde (hck2 _ t.agree) t35 z z z z z) t z (bv h λy4 hy4 h=>.by1 8 z (.cO s func44 (vB hy4 (s.keep (q1 _ q_0)) (s.keep (q2 _ q_1))) z z ?_)))
   intro W s
   refine s.an [] λt=>.tp' 9 z z t (.done ?_)
   refine .cs z h ?_ ?_ <;> intro h
   ·refine .g (.qn z (.ret ?_))
    cases h
    exact ⟨by simp,z,aa (vs:=[_]) () (rt z rn) z (s.to [])⟩
   refine .skip (.region (.q z (.q z (.q z (.nil ?_)))))
   cases h
   exact ⟨z,sb z,s.to []⟩
  refine .exit ?_
  cases h
  exact ⟨by simp,z,sb z,s.to []⟩
 intro x E W hJ
 rcases y1 with o3 | o4
 ·have h:=bW h
  obtain ⟨rfl,hF⟩:=hJ
  refine ⟨_,λ_ _ h=>h,?_⟩
  cases h
  exact hF
 have h:=bX h
 obtain ⟨rfl,hE,s⟩:=hJ
 refine ⟨_,hE.sub,?_⟩
 obtain rfl:=o9 h
 exact .g (.qn z (.ret (aa () (rt z rn) z (s.to []))))
def yp (w:World) (r:Bool):Env->World->Prop:=Fin Tryz.prog Tryz.f45 No w (λs:Unit=>.bool r) (λs=>[]) .ret
theorem xU {a0:List Int} {a1:List Int} {v_0:Hd} {v_1:Hd} {w:World} {r:Bool} (h:nF a0 a1=some r) (q_0:RO w v_0 3 1 (D.int .i64) a0) (q_1:RO w v_1 3 1 (D.int .i64) a1):CL 45 #[sv v_0,sv v_1] w (RU w (.bool r)):=by
 unfold nF at h
 refine ao func45 z z ?_
 have s:=Sep.start w
 refine .g (.qn z (.seq (.g (.q z (.s (aE (s.keep q_0) u23 z z) z (.q z (.s (aE (s.keep q_1) u23 z z) z (.q z (.nil ?_)))))))))
 refine .cs z h ?_ ?_ <;> intro h
 ·obtain rfl:=o9 h
  exact .g (.qn z (.ret (aa () (rt z rn) z (s.to []))))
 refine .skip (.seq (.g (.qn z (.block (bv h λy1 hy1 h=>?_)))))
 refine .via (.iter (λs1 E' W'=>aq E' [(0,(sv v_0)),(1,(sv v_1)),(5,vi s1)]/\Sep No w W' []) (λy2 x E' W'=>(match y2 with | .inl o1=>x=.ret/\yp w o1 E' W' | .inr o2=>x=.exit 0/\aq E' []/\Sep No w W' [])) hy1 ⟨sb rfl,s.to [] rfl⟩ ?_) ?_
 ·intro s1 y3 E W h hI
  obtain ⟨hE,s⟩:=hI
  refine CW.sub hE ?_
  unfold j7 at h
  refine .seq (.g (.q z (.q z (.s (aE (s.keep q_0) u23 z z) z (.q z (.nil ?_))))))
  refine .cs z h ?_ ?_ <;> intro h
  ·refine .skip (.seq (.block (.seq (.rk 9 s [] T.mix ?_))))
   intro W s
   have t:=s.to []
   refine .tp' 0 z z t (.tp' 1 z z t (bv h λx1 hx1 h=>.ts' 2 z (λW t=>ixv (s.keep q_0) hx1 u23 t3 z z z) t z (.ts' 3 z (λW t=>lde (RV.flat (t.keep q_0) hx1 z) t3 z z z z z) t z (.tp' 4 z z t (.tp' 5 z z t (bv h λx2 hx2 h=>.ts' 6 z (λW t=>ixv (s.keep q_1) hx2 u23 t3 z z z) t z (.ts' 7 z (λW t=>lde (RV.flat (t.keep q_1) hx2 z) t3 z z z z z) t z (.tp' 8 z z t (.done ?_)))))))))
   refine .cs z h ?_ ?_ <;> intro h
   ·refine .g (.qn z (.ret ?_))
    cases h
    exact ⟨by simp,z,aa (vs:=[_]) () (rt z rn) z (s.to [])⟩
   refine .skip (.region (.q z (.q z (.q z (.nil ?_)))))
   cases h
   exact ⟨z,sb z,s.to []⟩
  refine .exit ?_
  cases h
  exact ⟨by simp,z,sb z,s.to []⟩
 intro x E W hJ
 rcases y1 with o3 | o4
 ·have h:=bW h
  obtain ⟨rfl,hF⟩:=hJ
  refine ⟨_,λ_ _ h=>h,?_⟩
  cases h
  exact hF
 have h:=bX h
 obtain ⟨rfl,hE,s⟩:=hJ
 refine ⟨_,hE.sub,?_⟩
 obtain rfl:=o9 h
 exact .g (.qn z (.ret (aa () (rt z rn) z (s.to []))))
def lN (F:Expr->Expr->Option (Bool)):Prop:=∀ {a0:Expr} {a1:Expr} {aW:Hd} {uk:Hd} {w:World} {r:Bool} (h:F a0 a1=some r) (aw:RO w aW 91 3 bL a0.Args) (xV:RO w uk 91 3 bL a1.Args) , CL 182 #[.agg #[vi a0.Op,vi a0.N,sv aW],.agg #[vi a1.Op,vi a1.N,sv uk]] w (RU w (.bool r))
def mU (F:List Expr->List Expr->Option (Bool)):Prop:=∀ {a0:List Expr} {a1:List Expr} {v_0:Hd} {v_1:Hd} {w:World} {r:Bool} (h:F a0 a1=some r) (q_0:RO w v_0 91 3 bL a0) (q_1:RO w v_1 91 3 bL a1) , CL 221 #[sv v_0,sv v_1] w (RU w (.bool r))
theorem yq {k:Nat} {cN:Expr->Expr->Option (Bool)} {dL:List Expr->List Expr->Option (Bool)} (rp:lN cN) (ql:mU dL):lN (gO k cN dL):=by
 intro a0 a1 aW uk w r h aw xV
 unfold gO at h
 refine ao func182 z z ?_
 have s:=Sep.start w
 refine .g (.c (.box s z z ?_))
 intro g1 W s
 refine .c (.box s z z ?_)
 intro g2 W s
 refine .qn z (.seq (.g (.s (fa f91_0 z z z) z (.s (ld t3 s.p1 z z z z z) z (.s (fa f91_0 z z z) z (.s (ld t3 s z z z z z) z (.q z (.nil ?_))))))))
 refine .cs z h ?_ ?_ <;> intro h
 ·obtain rfl:=o9 h
  exact .g (.qn z (.ret (aa () (rt z rn) z (s.to []))))
 refine .skip (.seq (.g (.s (fa f91_1 z z z) z (.s (ld t3 s.p1 z z z z z) z (.s (fa f91_1 z z z) z (.s (ld t3 s z z z z z) z (.q z (.nil ?_))))))))
 refine .cs z h ?_ ?_ <;> intro h
 ·obtain rfl:=o9 h
  exact .g (.qn z (.ret (aa () (rt z rn) z (s.to []))))
 refine .skip (.seq (.g (.s (fa f91_2 z z z) z (.s (ld t89 s.p1 z z z z z) z (.s (fa f91_2 z z z) z (.s (ld t89 s z z z z z) z (bv h λy1 hy1 h=>.c (.cO s func221 (ql hy1 (s.keep aw) (s.keep xV)) z z ?_))))))))
 intro W s
 refine .q z (.nil ?_)
 refine .cs z h ?_ ?_ <;> intro h
 ·obtain rfl:=o9 h
  exact .g (.qn z (.ret (aa () (rt z rn) z (s.to []))))
 obtain rfl:=o9 h
 exact .skip (.g (.qn z (.ret (aa () (rt z rn) z (s.to [])))))
def xW (w:World) (r:Bool):Env->World->Prop:=Fin Tryz.prog Tryz.f221 No w (λs:Unit=>.bool r) (λs=>[]) .ret
theorem xX {k:Nat} {cN:Expr->Expr->Option (Bool)} {dL:List Expr->List Expr->Option (Bool)} (rp:lN cN) (ql:mU dL):mU (j8 k cN dL):=by
 intro a0 a1 v_0 v_1 w r h q_0 q_1
 unfold j8 at h
 refine ao func221 z z ?_
 have s:=Sep.start w
 refine .g (.qn z (.seq (.g (.q z (.s (aE (s.keep q_0) u89 z z) z (.q z (.s (aE (s.keep q_1) u89 z z) z (.q z (.nil ?_)))))))))
 refine .cs z h ?_ ?_ <;> intro h
 ·obtain rfl:=o9 h
  exact .g (.qn z (.ret (aa () (rt z rn) z (s.to []))))
 refine .skip (.seq (.g (.qn z (.block (bv h λy1 hy1 h=>?_)))))
 refine .via (.iter (λs1 E' W'=>aq E' [(0,(sv v_0)),(1,(sv v_1)),(5,vi s1)]/\Sep No w W' []) (λy2 x E' W'=>(match y2 with | .inl o1=>x=.ret/\xW w o1 E' W' | .inr o2=>x=.exit 0/\aq E' []/\Sep No w W' [])) hy1 ⟨sb rfl,s.to [] rfl⟩ ?_) ?_
 ·intro s1 y3 E W h hI
  obtain ⟨hE,s⟩:=hI
  refine CW.sub hE ?_
  unfold ja at h
  refine .seq (.g (.q z (.q z (.s (aE (s.keep q_0) u89 z z) z (.q z (.nil ?_))))))
  refine .cs z h ?_ ?_ <;> intro h
  ·refine .skip (.seq (.block (.seq (.rk 10 s [] T.mix ?_))))
   intro W s
   have t:=s.to []
   refine .tp' 0 z z t (.tp' 1 z z t (bv h λx1 hx1 h=>?_))
   obtain ⟨k1,hd,hck1⟩:=RV.el2 q_0 hx1
   have hd1:=dP (gQ _) hd
   obtain ⟨k1,rfl,hd2⟩:=a7 q_0 z hd1
   obtain ⟨k1,rfl,hd3⟩:=a7 q_0 z hd2
   obtain ⟨v1,k1,rfl,q1,hd4⟩:=bn q_0 hd3
   obtain rfl:=gU q_0 hd4
   refine .ts' 2 z (λW t=>ixv (s.keep q_0) hx1 u89 t91 z z z) t z (.ts' 3 z (λW t=>lde (hck1 _ t.agree) t91 z z z z z) t z (.tp' 4 z z t (.tp' 5 z z t (bv h λx2 hx2 h=>?_))))
   obtain ⟨k2,hd,hck2⟩:=RV.el2 q_1 hx2
   have hd1:=dP (gQ _) hd
   obtain ⟨k2,rfl,hd2⟩:=a7 q_1 z hd1
   obtain ⟨k2,rfl,hd3⟩:=a7 q_1 z hd2
   obtain ⟨v2,k2,rfl,q2,hd4⟩:=bn q_1 hd3
   obtain rfl:=gU q_1 hd4
   refine .ts' 6 z (λW t=>ixv (s.keep q_1) hx2 u89 t91 z z z) t z (.ts' 7 z (λW t=>lde (hck2 _ t.agree) t91 z z z z z) t z (bv h λy4 hy4 h=>.by1 8 z (.cO s func182 (rp hy4 (s.keep (q1 _ q_0)) (s.keep (q2 _ q_1))) z z ?_)))
   intro W s
   refine s.an [] λt=>.tp' 9 z z t (.done ?_)
   refine .cs z h ?_ ?_ <;> intro h
   ·refine .g (.qn z (.ret ?_))
    cases h
    exact ⟨by simp,z,aa (vs:=[_]) () (rt z rn) z (s.to [])⟩
   refine .skip (.region (.q z (.q z (.q z (.nil ?_)))))
   cases h
   exact ⟨z,sb z,s.to []⟩
  refine .exit ?_
  cases h
  exact ⟨by simp,z,sb z,s.to []⟩
 intro x E W hJ
 rcases y1 with o3 | o4
 ·have h:=bW h
  obtain ⟨rfl,hF⟩:=hJ
  refine ⟨_,λ_ _ h=>h,?_⟩
  cases h
  exact hF
 have h:=bX h
 obtain ⟨rfl,hE,s⟩:=hJ
 refine ⟨_,hE.sub,?_⟩
 obtain rfl:=o9 h
 exact .g (.qn z (.ret (aa () (rt z rn) z (s.to []))))
theorem tu (k:Nat):lN (iG k)/\mU (mI k):=by
  induction k with
  | zero=>exact ⟨by intro a0 a1 aW uk w r h aw xV; exact no h,by intro a0 a1 v_0 v_1 w r h q_0 q_1; exact no h⟩
  | succ k ih=>exact ⟨yq (k:=k) ih.1 ih.2,xX (k:=k) ih.1 ih.2⟩
theorem xY {k:Nat}:lN (iG k):=(tu k).1
def ko (F:List ae->List ae->Option (Bool)):Prop:=∀ {a0:List ae} {a1:List ae} {v_0:Hd} {v_1:Hd} {w:World} {r:Bool} (h:F a0 a1=some r) (q_0:RO w v_0 95 8 aP a0) (q_1:RO w v_1 95 8 aP a1) , CL 84 #[sv v_0,sv v_1] w (RU w (.bool r))
def nu (F:ae->ae->Option (Bool)):Prop:=∀ {a0:ae} {a1:ae} {ar:Hd} {aG:Hd} {aH:Hd} {nv:Hd} {ul:Hd} {um:Hd} {w:World} {r:Bool} (h:F a0 a1=some r) (al:RO w ar 91 3 bL a0.Expr.Args) (aN:RO w aG 95 8 aP a0.Body) (aI:RO w aH 95 8 aP a0.Else) (pw:RO w nv 91 3 bL a1.Expr.Args) (xZ:RO w ul 95 8 aP a1.Body) (ya:RO w um 95 8 aP a1.Else) , CL 134 #[.agg #[vi a0.Kind,vi a0.Var,vi a0.Box,vi a0.Expr.Op,vi a0.Expr.N,sv ar,sv aG,sv aH],.agg #[vi a1.Kind,vi a1.Var,vi a1.Box,vi a1.Expr.Op,vi a1.Expr.N,sv nv,sv ul,sv um]] w (RU w (.bool r))
def yb (w:World) (r:Bool):Env->World->Prop:=Fin Tryz.prog Tryz.f84 No w (λs:Unit=>.bool r) (λs=>[]) .ret
theorem yc {k:Nat} {c6:List ae->List ae->Option (Bool)} {cP:ae->ae->Option (Bool)} (nX:ko c6) (rq:nu cP):ko (j9 k c6 cP):=by
 intro a0 a1 v_0 v_1 w r h q_0 q_1
 unfold j9 at h
 refine ao func84 z z ?_
 have s:=Sep.start w
 refine .g (.qn z (.seq (.g (.q z (.s (aE (s.keep q_0) u93 z z) z (.q z (.s (aE (s.keep q_1) u93 z z) z (.q z (.nil ?_)))))))))
 refine .cs z h ?_ ?_ <;> intro h
 ·obtain rfl:=o9 h
  exact .g (.qn z (.ret (aa () (rt z rn) z (s.to []))))
 refine .skip (.seq (.g (.qn z (.block (bv h λy1 hy1 h=>?_)))))
 refine .via (.iter (λs1 E' W'=>aq E' [(0,(sv v_0)),(1,(sv v_1)),(5,vi s1)]/\Sep No w W' []) (λy2 x E' W'=>(match y2 with | .inl o1=>x=.ret/\yb w o1 E' W' | .inr o2=>x=.exit 0/\aq E' []/\Sep No w W' [])) hy1 ⟨sb rfl,s.to [] rfl⟩ ?_) ?_
 ·intro s1 y3 E W h hI
  obtain ⟨hE,s⟩:=hI
  refine CW.sub hE ?_
  unfold jb at h
  refine .seq (.g (.q z (.q z (.s (aE (s.keep q_0) u93 z z) z (.q z (.nil ?_))))))
  refine .cs z h ?_ ?_ <;> intro h
  ·refine .skip (.seq (.block (.seq (.rk 10 s [] T.mix ?_))))
   intro W s
   have t:=s.to []
   refine .tp' 0 z z t (.tp' 1 z z t (bv h λx1 hx1 h=>?_))
   obtain ⟨k1,hd,hck1⟩:=RV.el2 q_0 hx1
   have hd1:=dP (pb _) hd
   obtain ⟨k1,rfl,hd2⟩:=a7 q_0 z hd1
   obtain ⟨k1,rfl,hd3⟩:=a7 q_0 z hd2
   obtain ⟨k1,rfl,hd4⟩:=a7 q_0 z hd3
   have hd5:=dP (gQ _) hd4
   obtain ⟨k1,rfl,hd6⟩:=a7 q_0 z hd5
   obtain ⟨k1,rfl,hd7⟩:=a7 q_0 z hd6
   obtain ⟨v1,k1,rfl,q1,hd8⟩:=bn q_0 hd7
   obtain ⟨v2,k1,rfl,q2,hd9⟩:=bn q_0 hd8
   obtain ⟨v3,k1,rfl,q3,hd10⟩:=bn q_0 hd9
   obtain rfl:=gU q_0 hd10
   refine .ts' 2 z (λW t=>ixv (s.keep q_0) hx1 u93 t95 z z z) t z (.ts' 3 z (λW t=>lde (hck1 _ t.agree) t95 z z z z z) t z (.tp' 4 z z t (.tp' 5 z z t (bv h λx2 hx2 h=>?_))))
   obtain ⟨k2,hd,hck2⟩:=RV.el2 q_1 hx2
   have hd1:=dP (pb _) hd
   obtain ⟨k2,rfl,hd2⟩:=a7 q_1 z hd1
   obtain ⟨k2,rfl,hd3⟩:=a7 q_1 z hd2
   obtain ⟨k2,rfl,hd4⟩:=a7 q_1 z hd3
   have hd5:=dP (gQ _) hd4
   obtain ⟨k2,rfl,hd6⟩:=a7 q_1 z hd5
   obtain ⟨k2,rfl,hd7⟩:=a7 q_1 z hd6
   obtain ⟨v4,k2,rfl,q4,hd8⟩:=bn q_1 hd7
   obtain ⟨v5,k2,rfl,q5,hd9⟩:=bn q_1 hd8
   obtain ⟨v6,k2,rfl,q6,hd10⟩:=bn q_1 hd9
   obtain rfl:=gU q_1 hd10
   refine .ts' 6 z (λW t=>ixv (s.keep q_1) hx2 u93 t95 z z z) t z (.ts' 7 z (λW t=>lde (hck2 _ t.agree) t95 z z z z z) t z (bv h λy4 hy4 h=>.by1 8 z (.cO s func134 (rq hy4 (s.keep (q1 _ q_0)) (s.keep (q2 _ q_0)) (s.keep (q3 _ q_0)) (s.keep (q4 _ q_1)) (s.keep (q5 _ q_1)) (s.keep (q6 _ q_1))) z z ?_)))
   intro W s
   refine s.an [] λt=>.tp' 9 z z t (.done ?_)
   refine .cs z h ?_ ?_ <;> intro h
   ·refine .g (.qn z (.ret ?_))
    cases h
    exact ⟨by simp,z,aa (vs:=[_]) () (rt z rn) z (s.to [])⟩
   refine .skip (.region (.q z (.q z (.q z (.nil ?_)))))
   cases h
   exact ⟨z,sb z,s.to []⟩
  refine .exit ?_
  cases h
  exact ⟨by simp,z,sb z,s.to []⟩
 intro x E W hJ
 rcases y1 with o3 | o4
 ·have h:=bW h
  obtain ⟨rfl,hF⟩:=hJ
  refine ⟨_,λ_ _ h=>h,?_⟩
  cases h
  exact hF
 have h:=bX h
 obtain ⟨rfl,hE,s⟩:=hJ
 refine ⟨_,hE.sub,?_⟩
 obtain rfl:=o9 h
 exact .g (.qn z (.ret (aa () (rt z rn) z (s.to []))))
theorem yr {k:Nat} {c6:List ae->List ae->Option (Bool)} {cP:ae->ae->Option (Bool)} (nX:ko c6) (rq:nu cP):nu (lH k c6 cP):=by
 intro a0 a1 ar aG aH nv ul um w r h al aN aI pw xZ ya
 unfold lH at h
 refine ao func134 z z ?_
 have s:=Sep.start w
 refine .g (.c (.box s z z ?_))
 intro g1 W s
 refine .c (.box s z z ?_)
 intro g2 W s
 refine .qn z (.seq (.g (.s (fa f95_0 z z z) z (.s (ld t3 s.p1 z z z z z) z (.s (fa f95_0 z z z) z (.s (ld t3 s z z z z z) z (.q z (.nil ?_))))))))
 refine .cs z h ?_ ?_ <;> intro h
 ·obtain rfl:=o9 h
  exact .g (.qn z (.ret (aa () (rt z rn) z (s.to []))))
 refine .skip (.seq (.g (.s (fa f95_1 z z z) z (.s (ld t3 s.p1 z z z z z) z (.s (fa f95_1 z z z) z (.s (ld t3 s z z z z z) z (.q z (.nil ?_))))))))
 refine .cs z h ?_ ?_ <;> intro h
 ·obtain rfl:=o9 h
  exact .g (.qn z (.ret (aa () (rt z rn) z (s.to []))))
 refine .skip (.seq (.g (.s (fa f95_2 z z z) z (.s (ld t3 s.p1 z z z z z) z (.s (fa f95_2 z z z) z (.s (ld t3 s z z z z z) z (.q z (.nil ?_))))))))
 refine .cs z h ?_ ?_ <;> intro h
 ·obtain rfl:=o9 h
  exact .g (.qn z (.ret (aa () (rt z rn) z (s.to []))))
 refine .skip (.seq (.g (.s (fa f95_3 z z z) z (.s (ld t91 s.p1 z z z z z) z (.s (fa f95_3 z z z) z (.s (ld t91 s z z z z z) z (bv h λy1 hy1 h=>.c (.cO s func182 (xY hy1 (s.keep al) (s.keep pw)) z z ?_))))))))
 intro W s
 refine .q z (.nil ?_)
 refine .cs z h ?_ ?_ <;> intro h
 ·obtain rfl:=o9 h
  exact .g (.qn z (.ret (aa () (rt z rn) z (s.to []))))
 refine .skip (.seq (.g (.s (fa f95_4 z z z) z (.s (ld t93 s.p1 z z z z z) z (.s (fa f95_4 z z z) z (.s (ld t93 s z z z z z) z (bv h λy2 hy2 h=>.c (.cO s func84 (nX hy2 (s.keep aN) (s.keep xZ)) z z ?_))))))))
 intro W s
 refine .q z (.nil ?_)
 refine .cs z h ?_ ?_ <;> intro h
 ·obtain rfl:=o9 h
  exact .g (.qn z (.ret (aa () (rt z rn) z (s.to []))))
 refine .skip (.seq (.g (.s (fa f95_5 z z z) z (.s (ld t93 s.p1 z z z z z) z (.s (fa f95_5 z z z) z (.s (ld t93 s z z z z z) z (bv h λy3 hy3 h=>.c (.cO s func84 (nX hy3 (s.keep aI) (s.keep ya)) z z ?_))))))))
 intro W s
 refine .q z (.nil ?_)
 refine .cs z h ?_ ?_ <;> intro h
 ·obtain rfl:=o9 h
  exact .g (.qn z (.ret (aa () (rt z rn) z (s.to []))))
 obtain rfl:=o9 h
 exact .skip (.g (.qn z (.ret (aa () (rt z rn) z (s.to [])))))
theorem si (k:Nat):ko (kP k)/\nu (pg k):=by
  induction k with
  | zero=>exact ⟨by intro a0 a1 v_0 v_1 w r h q_0 q_1; exact no h,by intro a0 a1 ar aG aH nv ul um w r h al aN aI pw xZ ya; exact no h⟩
  | succ k ih=>exact ⟨yc (k:=k) ih.1 ih.2,yr (k:=k) ih.1 ih.2⟩
theorem wu {k:Nat}:ko (kP k):=(si k).1
def wv (w:World) (r:Bool):Env->World->Prop:=Fin Tryz.prog Tryz.f46 No w (λs:Unit=>.bool r) (λs=>[]) .ret
theorem vD {k:Nat} {a0:List (List ae)} {a1:List (List ae)} {v_0:Hd} {v_1:Hd} {w:World} {r:Bool} (h:lI k a0 a1=some r) (q_0:RO w v_0 93 1 (λ(l:List ae)=>D.row 95 8 (l.map aP)) a0) (q_1:RO w v_1 93 1 (λ(l:List ae)=>D.row 95 8 (l.map aP)) a1):CL 46 #[sv v_0,sv v_1] w (RU w (.bool r)):=by
 unfold lI at h
 refine ao func46 z z ?_
 have s:=Sep.start w
 refine .g (.qn z (.seq (.g (.q z (.s (aE (s.keep q_0) u24 z z) z (.q z (.s (aE (s.keep q_1) u24 z z) z (.q z (.nil ?_)))))))))
 refine .cs z h ?_ ?_ <;> intro h
 ·obtain rfl:=o9 h
  exact .g (.qn z (.ret (aa () (rt z rn) z (s.to []))))
 refine .skip (.seq (.g (.qn z (.block (bv h λy1 hy1 h=>?_)))))
 refine .via (.iter (λs1 E' W'=>aq E' [(0,(sv v_0)),(1,(sv v_1)),(5,vi s1)]/\Sep No w W' []) (λy2 x E' W'=>(match y2 with | .inl o1=>x=.ret/\wv w o1 E' W' | .inr o2=>x=.exit 0/\aq E' []/\Sep No w W' [])) hy1 ⟨sb rfl,s.to [] rfl⟩ ?_) ?_
 ·intro s1 y3 E W h hI
  obtain ⟨hE,s⟩:=hI
  refine CW.sub hE ?_
  unfold ij at h
  refine .seq (.g (.q z (.q z (.s (aE (s.keep q_0) u24 z z) z (.q z (.nil ?_))))))
  refine .cs z h ?_ ?_ <;> intro h
  ·refine .skip (.seq (.block (.seq (.rk 10 s [] T.mix ?_))))
   intro W s
   have t:=s.to []
   refine .tp' 0 z z t (.tp' 1 z z t (bv h λx1 hx1 h=>?_))
   obtain ⟨k1,hd,hck1⟩:=RV.el2 q_0 hx1
   obtain ⟨v1,k1,rfl,q1,hd1⟩:=bn q_0 hd
   obtain rfl:=gU q_0 hd1
   refine .ts' 2 z (λW t=>ixv (s.keep q_0) hx1 u24 t93 z z z) t z (.ts' 3 z (λW t=>lde (hck1 _ t.agree) t93 z z z z z) t z (.tp' 4 z z t (.tp' 5 z z t (bv h λx2 hx2 h=>?_))))
   obtain ⟨k2,hd,hck2⟩:=RV.el2 q_1 hx2
   obtain ⟨v2,k2,rfl,q2,hd1⟩:=bn q_1 hd
   obtain rfl:=gU q_1 hd1
   refine .ts' 6 z (λW t=>ixv (s.keep q_1) hx2 u24 t93 z z z) t z (.ts' 7 z (λW t=>lde (hck2 _ t.agree) t93 z z z z z) t z (bv h λy4 hy4 h=>.by1 8 z (.cO s func84 (wu hy4 (s.keep (q1 _ q_0)) (s.keep (q2 _ q_1))) z z ?_)))
   intro W s
   refine s.an [] λt=>.tp' 9 z z t (.done ?_)
   refine .cs z h ?_ ?_ <;> intro h
   ·refine .g (.qn z (.ret ?_))
    cases h
    exact ⟨by simp,z,aa (vs:=[_]) () (rt z rn) z (s.to [])⟩
   refine .skip (.region (.q z (.q z (.q z (.nil ?_)))))
   cases h
   exact ⟨z,sb z,s.to []⟩
  refine .exit ?_
  cases h
  exact ⟨by simp,z,sb z,s.to []⟩
 intro x E W hJ
 rcases y1 with o3 | o4
 ·have h:=bW h
  obtain ⟨rfl,hF⟩:=hJ
  refine ⟨_,λ_ _ h=>h,?_⟩
  cases h
  exact hF
 have h:=bX h
 obtain ⟨rfl,hE,s⟩:=hJ
 refine ⟨_,hE.sub,?_⟩
 obtain rfl:=o9 h
 exact .g (.qn z (.ret (aa () (rt z rn) z (s.to []))))
theorem un {k:Nat} {a0:aF} {a1:aF} {aA:Hd} {az:Hd} {yP:Hd} {yQ:Hd} {w:World} {r:Bool} (h:kc k a0 a1=some r) (bh:RO w aA 3 1 (D.int .i64) a0.Rooms) (aB:RO w az 93 1 (λ(l:List ae)=>D.row 95 8 (l.map aP)) a0.Tasks) (C3:RO w yP 3 1 (D.int .i64) a1.Rooms) (C4:RO w yQ 93 1 (λ(l:List ae)=>D.row 95 8 (l.map aP)) a1.Tasks):CL 16 #[.agg #[sv aA,sv az],.agg #[sv yP,sv yQ]] w (RU w (.bool r)):=by
 unfold kc at h
 refine ao func16 z z ?_
 have s:=Sep.start w
 refine .g (.c (.box s z z ?_))
 intro g1 W s
 refine .c (.box s z z ?_)
 intro g2 W s
 refine .qn z (.seq (.g (.s (fa f26_0 z z z) z (.s (ld t23 s.p1 z z z z z) z (.s (fa f26_0 z z z) z (.s (ld t23 s z z z z z) z (bv h λy1 hy1 h=>.c (.cO s func45 (xU hy1 (s.keep bh) (s.keep C3)) z z ?_))))))))
 intro W s
 refine .q z (.nil ?_)
 refine .cs z h ?_ ?_ <;> intro h
 ·obtain rfl:=o9 h
  exact .g (.qn z (.ret (aa () (rt z rn) z (s.to []))))
 refine .skip (.seq (.g (.s (fa f26_1 z z z) z (.s (ld t24 s.p1 z z z z z) z (.s (fa f26_1 z z z) z (.s (ld t24 s z z z z z) z (bv h λy2 hy2 h=>.c (.cO s func46 (vD hy2 (s.keep aB) (s.keep C4)) z z ?_))))))))
 intro W s
 refine .q z (.nil ?_)
 refine .cs z h ?_ ?_ <;> intro h
 ·obtain rfl:=o9 h
  exact .g (.qn z (.ret (aa () (rt z rn) z (s.to []))))
 obtain rfl:=o9 h
 exact .skip (.g (.qn z (.ret (aa () (rt z rn) z (s.to [])))))
theorem vE {a0:List Int} {a1:Int} {v_0:Hd} {S:Nat->Prop} {w:World} {r:Int×(List Int)} (h:lJ a0 a1=some r) (hO:bu w [ac (sv v_0) 3 1 (D.int .i64) a0] S) (hlt:∀ b,S b->b<w.heap.size):CL 47 #[sv v_0,vi a1] w (Ret S w (λs:Unit=>.int .i64 r.1) (λs=>[ac (sv v_0) 3 1 (D.int .i64) r.2])):=by
 unfold lJ at h
 refine ao func47 z z ?_
 have s:=Sep.sm hO hlt
 refine .g (.qn z (.seq (.g (.qn z (.block (bv h λy1 hy1 h=>?_))))))
 refine .via (.iter (λs1 E' W'=>aq E' [(0,(sv v_0)),(1,vi s1.1),(5,vi s1.2.1)]/\Sep S w W' [ac (sv v_0) 3 1 (D.int .i64) s1.2.2]) (λy2 x E' W'=>x=.exit 0/\aq E' [(1,vi y2.1)]/\Sep S w W' [ac (sv v_0) 3 1 (D.int .i64) y2.2]) hy1 ⟨sb z,s.tk [0]⟩ ?_) ?_
 ·intro s1 y3 E W h hI
  obtain ⟨hE,s⟩:=hI
  refine CW.sub hE ?_
  unfold ik at h
  refine .seq (.g (.q z (.q z (.s (aE s.lv u23 z z) z (.q z (.nil ?_))))))
  refine .cs z h ?_ ?_ <;> intro h
  ·refine .skip (.seq (.block (.g (.q z (.q z (.q z (bv h λx1 hx1 h=>.s (ixv s.lv hx1 u23 t3 z z z) z (bv h λr1 hr1 h=>.c (.sev hr1 hx1 s t3 z z z z z z ?_)))))))))
   intro W s
   refine .nil (.region (.q z (.q z (.qn z (.region (.q z (.q z (.q z (.nil ?_)))))))))
   cases h
   exact ⟨z,sb z,s.tk [0]⟩
  refine .exit ?_
  cases h
  exact ⟨by simp,z,sb z,s.tk [0]⟩
 intro x E W hJ
 obtain ⟨rfl,hE,s⟩:=hJ
 refine ⟨_,hE.sub,?_⟩
 cases h
 exact .g (.q z (.qn z (.ret (aa () (rt z rn) z (s.tk [0])))))
def kW (F:List Expr->Int->Option (Int×(List Expr))):Prop:=∀ {a0:List Expr} {a1:Int} {v_0:Hd} {S:Nat->Prop} {w:World} {r:Int×(List Expr)} (h:F a0 a1=some r) (hO:bu w [ac (sv v_0) 91 3 bL a0] S) (hlt:∀ b,S b->b<w.heap.size) , CL 135 #[sv v_0,vi a1] w (Ret S w (λs:Unit=>.int .i64 r.1) (λs=>[ac (sv v_0) 91 3 bL r.2]))
theorem vF {k:Nat} {ff:List Expr->Int->Option (Int×(List Expr))} (uo:kW ff):kW (il k ff):=by
 intro a0 a1 v_0 S w r h hO hlt
 unfold il at h
 refine ao func135 z z ?_
 have s:=Sep.sm hO hlt
 refine .g (.qn z (.seq (.g (.qn z (.block (bv h λy1 hy1 h=>?_))))))
 refine .via (.iter (λs1 E' W'=>aq E' [(0,(sv v_0)),(1,vi s1.1),(5,vi s1.2.1)]/\Sep S w W' [ac (sv v_0) 91 3 bL s1.2.2]) (λy2 x E' W'=>x=.exit 0/\aq E' [(1,vi y2.1)]/\Sep S w W' [ac (sv v_0) 91 3 bL y2.2]) hy1 ⟨sb z,s.tk [0]⟩ ?_) ?_
 ·intro s1 y3 E W h hI
  obtain ⟨hE,s⟩:=hI
  refine CW.sub hE ?_
  unfold gu at h
  refine .seq (.g (.q z (.q z (.s (aE s.lv u89 z z) z (.qn z (.cond z (λb=>?_) (λb=>?_)))))))
  ·have h:=aK b h
   refine .skip (.seq (.block (.g (.q z (.q z (.q z (bv h λx1 hx1 h=>.s (ixv s.lv hx1 u89 t91 z z z) z (.s (fe f91_0 z z z) z ?_))))))))
   obtain ⟨k1,s⟩:=Sep.ov s hx1
   have s:=s.oaggE (gQ _)
   obtain ⟨k1,rfl,s⟩:=Sep.oF z s
   obtain ⟨k1,rfl,s⟩:=Sep.oF z s
   obtain ⟨v1,k1,rfl,s⟩:=s.ow
   obtain ⟨rfl,s⟩:=s.oN
   refine .c (.sthv s.p1 t3 z z z ?_)
   intro W s
   refine .nil (.g (.q z (.q z (.qn z (.g (.q z (.q z (.q z (.s (ixh s hx1 u89 t91 z z z) z (.s (fe f91_1 z z z) z (.c (.sthv s t3 z z z ?_))))))))))))
   intro W s
   refine .nil (.g (.q z (.q z (.qn z (.region (.q z (.q z (.s (ixh s hx1 u89 t91 z z z) z (.s (fe f91_2 z z z) z (.s (lde (s.hcellsv) t89 z z z z z) z (.q z (bv h λy4 hy4 h=>?_))))))))))))
   have s:=s.p1
   refine .c (.cS (L0:=[ac (sv v1) 91 3 bL x1.Args]) s func135 (λS h1 h2 h3=>(uo hy4 h2 (zz h1))) z z ?_)
   rintro ⟨⟩ W s
   refine .qn z (.region (.q z (.q z (.q z (.nil ?_)))))
   have s:=Sep.gat (ds:=[bL (Expr.mk s1.1 (w64 (s1.1+1)) y4.2)]) (cs:=[vi s1.1,vi (w64 (s1.1+1)),sv v1]) (L1:=[ac (sv v1) 91 3 bL y4.2]) (.aggE (gQ _) (.flat (c1:=[vi s1.1]) z (.flat (c1:=[vi (w64 (s1.1+1))]) z (.row .nil)))) (s.to [0,0])
   have s:Sep _ _ _ [ac (sv v_0) 91 3 bL (s1.2.2.set (Int.toNat s1.2.1) (Expr.mk s1.1 (w64 (s1.1+1)) y4.2))]:=s.bv
   cases h
   exact ⟨z,sb z,s.tk [0]⟩
  have h:=aL b h
  refine .exit ?_
  cases h
  exact ⟨by simp,z,sb z,s.tk [0]⟩
 intro x E W hJ
 obtain ⟨rfl,hE,s⟩:=hJ
 refine ⟨_,hE.sub,?_⟩
 cases h
 exact .g (.q z (.qn z (.ret (aa () (rt z rn) z (s.tk [0])))))
theorem qq (k:Nat):kW (fz k):=by
  induction k with
  | zero=>exact by intro a0 a1 v_0 S w r h hO hlt; exact no h
  | succ k ih=>exact vF (k:=k) ih
theorem uq {k:Nat}:kW (fz k):=(qq k)
def kX (F:List ae->Int->Option (Int×(List ae))):Prop:=∀ {a0:List ae} {a1:Int} {v_0:Hd} {S:Nat->Prop} {w:World} {r:Int×(List ae)} (h:F a0 a1=some r) (hO:bu w [ac (sv v_0) 95 8 aP a0] S) (hlt:∀ b,S b->b<w.heap.size) , CL 85 #[sv v_0,vi a1] w (Ret S w (λs:Unit=>.int .i64 r.1) (λs=>[ac (sv v_0) 95 8 aP r.2]))
end

end Go.Proofs.YtfpngipcclmliaaGreatDoor.N
