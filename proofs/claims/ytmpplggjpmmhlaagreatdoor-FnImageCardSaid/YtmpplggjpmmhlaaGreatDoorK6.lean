/- Printed by a program of mine: that the program's functions compute it. -/
import Derived.Test.YtmpplggjpmmhlaaGreatDoorK5
set_option linter.unusedVariables false
set_option linter.unusedSimpArgs false
set_option maxRecDepth 100000
set_option maxHeartbeats 4000000
namespace Go.Proofs.YtmpplggjpmmhlaaGreatDoor.N
open Go.Proofs.YtmpplggjpmmhlaaGreatDoor.X
theorem fcn {a0 : List Quad} {v_0 : Hd} {w : World} {r : (List (List Int))} (h : f6b a0 = some r) (q_0 : RV w (Old No w) (sv v_0) 126 5 dQuad a0) : Calls Tryz.prog 183 #[(sv v_0)] w (Ret No w (fun s : Hd=>(sv s)) (fun s=>[rowV (sv s) 25 1 (fun (l : List Int)=>D.row 3 1 (l.map (D.int .i64))) r])):=by
 unfold f6b at h
 refine enter Tryz.func183 z z ?_
 have hS:=Sep.start w
 refine .g (.qn z (.g (.c (.ligv (L1:=[]) [] (fun (l : List Int)=>D.row 3 1 (l.map (D.int .i64))) T.u54 T.t25 (hS.to [] z) z z z (.nil) ?_ z (fun _=>z) z z z z z))))
 intro v1 W hS
 refine .qn z (.seq (.g (.q z ?_)))
 have ⟨y1,hy1,h⟩:=bnd h
 refine .c (.call0 hS Tryz.func151 (f10 hy1 (hS.keep q_0)) z z ?_ z z z z)
 intro W hS
 refine .qn z (.cond z (fun hb=>?_) (fun hb=>?_))
 ·have h:=sel_t hb h
  cases h
  exact .g (.q z (.qn z (.ret (fin_ret (vs:=[_]) v1 (rt z rn) z (hS.to [0] z)))))
 have h:=sel_f hb h
 refine .skip (.seq (.g (.qn z (.block ?_))))
 have ⟨y2,hy2,h⟩:=bnd h
 refine .via (.iter (fun s1 E' W'=>∃ (v4 : Hd),SubL E' [(0,(sv v_0)),(3,(sv v4)),(4,.int .i64 s1.2)] ∧ Sep No w W' [rowV (sv v4) 25 1 (fun (l : List Int)=>D.row 3 1 (l.map (D.int .i64))) s1.1]) (fun y3 x E' W'=>x = .exit 0 ∧ ∃ (v5 : Hd),SubL E' [(0,(sv v_0)),(3,(sv v5))] ∧ Sep No w W' [rowV (sv v5) 25 1 (fun (l : List Int)=>D.row 3 1 (l.map (D.int .i64))) y3]) hy2 ⟨v1,sb z,hS.to [0] z⟩ ?_) ?_
 ·intro s1 y4 E W h hI
  obtain ⟨v3,hE,hS⟩:=hI
  refine CW.sub hE ?_
  unfold f8r at h
  refine .seq (.g (.q z (.q z (.s (lenv (hS.keep q_0) T.u104 z z) z (.q z (.nil ?_))))))
  refine .cs z h ?_ ?_ <;> intro h
  ·refine .skip (.seq (.block (.region (.q z (.c (.liv [] (D.int .i64) T.u25 T.t3 hS z z z z ?_ z (fun _=>z) z z z z))))))
   intro v6 W hS
   refine .c (.ligv (L1:=[rowV (sv v6) 3 1 (D.int .i64) []]) [[]] (fun (l : List Int)=>D.row 3 1 (l.map (D.int .i64))) T.u54 T.t25 (hS.to [0,0] z) z z z (.row (.nil)) ?_ z (fun _=>z) z z z z z)
   intro v7 W hS
   have ⟨r1,hr1,h⟩:=bnd h
   refine .c (.appv hr1 (hS.to [1,0] z) T.u54 T.t25 z z z ?_ z z z z z)
   intro v8 W hS
   refine .qn z (.region (.q z (.q z (.q z (.nil ?_)))))
   cases h
   exact ⟨z,v8,sb z,hS.to [0] z⟩
  refine .exit ?_
  cases h
  exact ⟨by simp,z,v3,sb z,hS.to [0] z⟩
 intro x E W hJ
 obtain ⟨rfl,v9,hE,hS⟩:=hJ
 refine ⟨_,hE.sub,?_⟩
 refine .g (.q z ?_)
 have ⟨y5,hy5,h⟩:=bnd h
 refine .c (.call1v hS Tryz.func203 (faq hy5) z z ?_ z z z z)
 intro v10 W hS
 have ⟨x1,hx1,h⟩:=bnd h
 refine .s (ixv hS.p1.lendv hx1 T.u54 T.t25 z z z) z ?_
 obtain ⟨k1,hS⟩:=Sep.outv hS.p1 hx1
 obtain ⟨v11,k1,rfl,hS⟩:=hS.orowv
 obtain ⟨rfl,hS⟩:=hS.onil
 refine .c (.sthv hS.p1 T.t25 z z z ?_ z z z z z z)
 intro W hS
 refine .nil (.seq (.block ?_))
 have hS:=Sep.gat (ds:=[.row 3 1 (y5.map (D.int .i64))]) (cs:=[(sv v10)]) (L1:=[rowV (sv v10) 3 1 (D.int .i64) y5]) (.row (.nil)) (hS.to [2,0,0] z)
 have hS : Sep _ _ _ [rowV (sv v9) 25 1 (fun (l : List Int)=>D.row 3 1 (l.map (D.int .i64))) (y2.set (Int.toNat 0) y5),rowV (sv v11) 3 1 (D.int .i64) x1]:=hS.backv
 have ⟨y6,hy6,h⟩:=bnd h
 refine .via (.iter (fun s2 E' W'=>SubL E' [(0,(sv v_0)),(3,(sv v9))] ∧ Sep No w W' [rowV (sv v9) 25 1 (fun (l : List Int)=>D.row 3 1 (l.map (D.int .i64))) s2,rowV (sv v11) 3 1 (D.int .i64) x1]) (fun y7 x E' W'=>x = .exit 2 ∧ SubL E' [(0,(sv v_0)),(3,(sv v9))] ∧ Sep No w W' [rowV (sv v9) 25 1 (fun (l : List Int)=>D.row 3 1 (l.map (D.int .i64))) y7,rowV (sv v11) 3 1 (D.int .i64) x1]) hy6 ⟨sb z,hS.to [0,0] z⟩ ?_) ?_
 ·intro s2 y8 E W h hI
  obtain ⟨hE,hS⟩:=hI
  refine CW.sub hE ?_
  unfold f8i at h
  refine .seq (.g (.q z (.q z ?_)))
  have ⟨y9,hy9,h⟩:=bnd h
  refine .c (.callS2 (L0:=[rowV (sv v9) 25 1 (fun (l : List Int)=>D.row 3 1 (l.map (D.int .i64))) s2]) hS Tryz.func204 (fun S h1 h2 h3=>(fc9 hy9 (hS.keepS q_0 h1) h2 (zz h1))) z z ?_ z z z z)
  rintro ⟨⟩ W hS
  refine .nil ?_
  refine .cs z h ?_ ?_ <;> intro h
  ·refine .skip (.block (.skip ?_))
   cases h
   exact ⟨z,sb z,hS.to [0,0] z⟩
  refine .exit ?_
  cases h
  exact ⟨by simp,z,sb z,hS.to [0,0] z⟩
 intro x E W hJ
 obtain ⟨rfl,hE,hS⟩:=hJ
 refine ⟨_,hE.sub,?_⟩
 refine .seq (.g (.qn z (.block ?_)))
 have ⟨y10,hy10,h⟩:=bnd h
 refine .via (.iter (fun s3 E' W'=>SubL E' [(0,(sv v_0)),(3,(sv v9)),(5,.int .i64 s3.1)] ∧ Sep No w W' [rowV (sv v9) 25 1 (fun (l : List Int)=>D.row 3 1 (l.map (D.int .i64))) s3.2,rowV (sv v11) 3 1 (D.int .i64) x1]) (fun y11 x E' W'=>x = .exit 4 ∧ SubL E' [(3,(sv v9))] ∧ Sep No w W' [rowV (sv v9) 25 1 (fun (l : List Int)=>D.row 3 1 (l.map (D.int .i64))) y11,rowV (sv v11) 3 1 (D.int .i64) x1]) hy10 ⟨sb z,hS.to [0,0] z⟩ ?_) ?_
 ·intro s3 y12 E W h hI
  obtain ⟨hE,hS⟩:=hI
  refine CW.sub hE ?_
  unfold f8k at h
  refine .seq (.g (.q z (.q z (.s (lenv (hS.keep q_0) T.u104 z z) z (.q z (.nil ?_))))))
  refine .cs z h ?_ ?_ <;> intro h
  ·refine .skip ?_
   have ⟨y13,hy13,h⟩:=bnd h
   refine .seq (CW.via (R':=fun x E' W'=>x = .normal ∧ SubL E' [(0,(sv v_0)),(3,(sv v9)),(5,.int .i64 s3.1)] ∧ Sep No w W' [rowV (sv v9) 25 1 (fun (l : List Int)=>D.row 3 1 (l.map (D.int .i64))) y13,rowV (sv v11) 3 1 (D.int .i64) x1]) ?_ ?_)
   ·have h:=hy13
    refine .block (.g (.q z (.q z ?_)))
    have ⟨x2,hx2,h⟩:=bnd h
    refine .s (ixv hS.lendv hx2 T.u54 T.t25 z z z) z ?_
    obtain ⟨k2,hS⟩:=Sep.outv hS hx2
    obtain ⟨v12,k2,rfl,hS⟩:=hS.orowv
    obtain ⟨rfl,hS⟩:=hS.onil
    refine .s (lde (hS.p1.hcellsv) T.t25 z z z z z) z (.s (lenv hS.lendv T.u25 z z) z (.q z (.nil ?_)))
    refine .cs z h ?_ ?_ <;> intro h
    ·refine .region (.q z (.q z ?_))
     have ⟨y14,hy14,h⟩:=bnd h
     refine .c (.call1v hS Tryz.func203 (faq hy14) z z ?_ z z z z)
     intro v13 W hS
     refine .s (ixh hS.p2 hx2 T.u54 T.t25 z z z) z (.c (.sthv hS.p2 T.t25 z z z ?_ z z z z z z))
     intro W hS
     refine .nil ?_
     have hS:=Sep.gat (ds:=[.row 3 1 (y14.map (D.int .i64))]) (cs:=[(sv v13)]) (L1:=[rowV (sv v13) 3 1 (D.int .i64) y14]) (.row (.nil)) (hS.to [1,0,0,0] z)
     have hS : Sep _ _ _ [rowV (sv v9) 25 1 (fun (l : List Int)=>D.row 3 1 (l.map (D.int .i64))) (s3.2.set (Int.toNat s3.1) y14),rowV (sv v12) 3 1 (D.int .i64) x2,rowV (sv v11) 3 1 (D.int .i64) x1]:=hS.backv
     cases h
     exact ⟨z,sb z,hS.to [0,1] z⟩
    refine .skip ?_
    have hS:=Sep.gat (ds:=[.row 3 1 (x2.map (D.int .i64))]) (cs:=[(sv v12)]) (L1:=[rowV (sv v12) 3 1 (D.int .i64) x2]) (.row (.nil)) (hS.to [0,0,0] z)
    have hS : Sep _ _ _ [rowV (sv v9) 25 1 (fun (l : List Int)=>D.row 3 1 (l.map (D.int .i64))) s3.2,rowV (sv v11) 3 1 (D.int .i64) x1]:=Sep.back0v hx2 hS
    cases h
    exact ⟨z,sb z,hS.to [0,0] z⟩
   intro x E W hJ
   obtain ⟨rfl,hE,hS⟩:=hJ
   refine ⟨_,hE.sub,?_⟩
   refine .region (.q z (.q z (.q z (.nil ?_))))
   cases h
   exact ⟨z,sb z,hS.to [0,0] z⟩
  refine .exit ?_
  cases h
  exact ⟨by simp,z,sb z,hS.to [0,0] z⟩
 intro x E W hJ
 obtain ⟨rfl,hE,hS⟩:=hJ
 refine ⟨_,hE.sub,?_⟩
 obtain rfl:=Option.some.inj h
 exact .g (.q z (.qn z (.ret (fin_ret (vs:=[_]) v9 (rt z rn) z (hS.to [0] z)))))
theorem fdi {a0 : Quad} {a1 : List Int} {v_1 : Hd} {w : World} {r : Quad} (h : f7d a0 a1 = some r) (q_1 : RV w (Old No w) (sv v_1) 3 1 (D.int .i64) a1) : Calls Tryz.prog 184 #[.agg #[.int .i64 a0.Op,.int .i64 a0.Dst,.int .i64 a0.A,.int .i64 a0.B,.int .i64 a0.N],(sv v_1)] w (Ret No w (fun s : Unit=>.agg #[.int .i64 r.Op,.int .i64 r.Dst,.int .i64 r.A,.int .i64 r.B,.int .i64 r.N]) (fun s=>[])):=by
 unfold f7d at h
 refine enter Tryz.func184 z z ?_
 have hS:=Sep.start w
 refine .g (.c (.box hS z z ?_ z z))
 intro g1 W hS
 refine .c (.alloc T.t126 hS ?_ z z z)
 intro g2 W hS
 refine .nil (.seq (.g (.s (fa T.f126_0 z z z) z (.s (ld T.t3 hS.p1 z z z z z) z (.nil (.block ?_))))))
 have ⟨y1,hy1,h⟩:=bnd h
 refine .seq (CW.via (R':=fun x E' W'=>x = .normal ∧ SubL E' [(1,(sv v_1)),(2,.pointer (some ⟨g1,0,none⟩)),(4,.pointer (some ⟨g2,0,none⟩)),(6,.int .i64 a0.Op),(7,.bool y1)] ∧ Sep No w W' [.box g2 126 [.int .i64 0,.int .i64 0,.int .i64 0,.int .i64 0,.int .i64 0],.box g1 126 [.int .i64 a0.Op,.int .i64 a0.Dst,.int .i64 a0.A,.int .i64 a0.B,.int .i64 a0.N]]) ?_ ?_)
 ·have h:=hy1
  refine .g (.q z (.q z (.nil ?_)))
  refine .cs z h ?_ ?_ <;> intro h
  ·refine .skip ?_
   cases h
   exact ⟨z,sb z,hS.to [0,0] z⟩
  refine .g (.q z (.q z (.nil ?_)))
  refine .cs z h ?_ ?_ <;> intro h
  ·refine .skip ?_
   cases h
   exact ⟨z,sb z,hS.to [0,0] z⟩
  refine .g (.q z (.q z (.nil ?_)))
  refine .cs z h ?_ ?_ <;> intro h
  ·refine .skip ?_
   cases h
   exact ⟨z,sb z,hS.to [0,0] z⟩
  refine .region (.q z (.q z (.nil ?_)))
  cases h
  exact ⟨z,sb z,hS.to [0,0] z⟩
 intro x E W hJ
 obtain ⟨rfl,hE,hS⟩:=hJ
 refine ⟨_,hE.sub,?_⟩
 refine .cs z h ?_ ?_ <;> intro h
 ·refine .region (.q z (.s (fa T.f126_2 z z z) z (.s (ld T.t3 hS.p1 z z z z z) z ?_)))
  have ⟨x1,hx1,h⟩:=bnd h
  refine .s (ixv (hS.keep q_1) hx1 T.u25 T.t3 z z z) z (.s (lde (RV.flat (hS.keep q_1) hx1 z) T.t3 z z z z z) z (.s (fa T.f126_2 z z z) z (.c (.st T.t3 hS.p1 z z z ?_ z z z z z))))
  intro W hS
  refine .nil (.g (.s (ld T.t126 hS z z z z z) z (.c (.st T.t126 hS.p1 z z z ?_ z z z z z))))
  intro W hS
  cases h
  exact .nil (.ret (fin_ret (vs:=[_]) () (rc hS T.t126 z rn z z) z (hS.to [] z)))
 refine .g (.q z (.q z (.nil ?_)))
 refine .cs z h ?_ ?_ <;> intro h
 ·refine .g (.q z (.s (fa T.f126_2 z z z) z (.s (ld T.t3 hS.p1 z z z z z) z ?_)))
  have ⟨x2,hx2,h⟩:=bnd h
  refine .s (ixv (hS.keep q_1) hx2 T.u25 T.t3 z z z) z (.s (lde (RV.flat (hS.keep q_1) hx2 z) T.t3 z z z z z) z (.s (fa T.f126_2 z z z) z (.c (.st T.t3 hS.p1 z z z ?_ z z z z z))))
  intro W hS
  refine .nil (.region (.q z (.s (fa T.f126_3 z z z) z (.s (ld T.t3 hS z z z z z) z ?_))))
  have ⟨x3,hx3,h⟩:=bnd h
  refine .s (ixv (hS.keep q_1) hx3 T.u25 T.t3 z z z) z (.s (lde (RV.flat (hS.keep q_1) hx3 z) T.t3 z z z z z) z (.s (fa T.f126_3 z z z) z (.c (.st T.t3 hS z z z ?_ z z z z z))))
  intro W hS
  refine .nil (.g (.s (ld T.t126 hS z z z z z) z (.c (.st T.t126 hS.p1 z z z ?_ z z z z z))))
  intro W hS
  cases h
  exact .nil (.ret (fin_ret (vs:=[_]) () (rc hS T.t126 z rn z z) z (hS.to [] z)))
 refine .skip (.g (.s (ld T.t126 hS.p1 z z z z z) z (.c (.st T.t126 hS z z z ?_ z z z z z))))
 intro W hS
 obtain rfl:=Option.some.inj h
 exact .nil (.ret (fin_ret (vs:=[_]) () (rc hS T.t126 z rn z z) z (hS.to [] z)))
theorem fc4 {a0 : List Quad} {v_0 : Hd} {w : World} {r : (List Quad) × Bool} (h : f6f a0 = some r) (q_0 : RV w (Old No w) (sv v_0) 126 5 dQuad a0) : Calls Tryz.prog 167 #[(sv v_0)] w (Ret No w (fun s : Hd=>.tuple #[(sv s),.bool r.2]) (fun s=>[rowV (sv s) 126 5 dQuad r.1])):=by
 unfold f6f at h
 refine enter Tryz.func167 z z ?_
 have hS:=Sep.start w
 refine .g (.q z (.qn z (.g (.c (.liv [] dQuad T.u104 T.t126 hS z z z z ?_ z (fun _=>z) z z z z)))))
 intro v1 W hS
 refine .qn z (.seq (.g (.q z ?_)))
 have ⟨y1,hy1,h⟩:=bnd h
 refine .c (.call0 hS Tryz.func151 (f10 hy1 (hS.keep q_0)) z z ?_ z z z z)
 intro W hS
 refine .q z (.nil ?_)
 refine .cs z h ?_ ?_ <;> intro h
 ·cases h
  exact .g (.q z (.q z (.qn z (.ret (fin_ret (vs:=[_,_]) v1 (rt z (rt z rn)) z (hS.to [0] z))))))
 refine .skip (.g (.q z ?_))
 have ⟨y2,hy2,h⟩:=bnd h
 refine .c (.call1v hS Tryz.func183 (fcn hy2 (hS.keep q_0)) z z ?_ z z z z)
 intro v2 W hS
 refine .qn z (.seq (.g (.qn z (.block ?_))))
 have ⟨y3,hy3,h⟩:=bnd h
 refine .via (.iter (fun s1 E' W'=>∃ (v5 : Hd),SubL E' [(0,(sv v_0)),(4,(sv v5)),(5,(sv v2)),(6,.int .i64 s1.2)] ∧ Sep No w W' [rowV (sv v2) 25 1 (fun (l : List Int)=>D.row 3 1 (l.map (D.int .i64))) y2,rowV (sv v5) 126 5 dQuad s1.1]) (fun y4 x E' W'=>x = .exit 0 ∧ ∃ (v6 : Hd),SubL E' [(4,(sv v6))] ∧ Sep No w W' [rowV (sv v2) 25 1 (fun (l : List Int)=>D.row 3 1 (l.map (D.int .i64))) y2,rowV (sv v6) 126 5 dQuad y4]) hy3 ⟨v1,sb z,hS.to [0,0] z⟩ ?_) ?_
 ·intro s1 y5 E W h hI
  obtain ⟨v4,hE,hS⟩:=hI
  refine CW.sub hE ?_
  unfold f5q at h
  refine .seq (.g (.q z (.q z (.s (lenv (hS.keep q_0) T.u104 z z) z (.q z (.nil ?_))))))
  refine .cs z h ?_ ?_ <;> intro h
  ·refine .skip (.seq (.block ?_))
   have ⟨x1,hx1,h⟩:=bnd h
   obtain ⟨k1,hS⟩:=Sep.outv hS hx1
   obtain ⟨v7,k1,rfl,hS⟩:=hS.orowv
   obtain ⟨rfl,hS⟩:=hS.onil
   refine .rk 13 hS [0,0] T.mix ?_
   intro W hS
   have hT:=hS.to [0,0] z
   refine .tp 0 z z hT (by kernel_rfl) (.tp 1 z z hT (by kernel_rfl) (.tp 2 z z hT (by kernel_rfl) ?_))
   have ⟨x3,hx3,h⟩:=bnd h
   refine .ts 3 z (fun W hT=>ixv (hS.keep q_0) hx3 T.u104 T.t126 z z z) hT z (by kernel_rfl) (.ts 4 z (fun W hT=>lde (RV.flat (hT.keep q_0) hx3 z) T.t126 z z z z z) hT z (by kernel_rfl) (.tp 5 z z hT (by kernel_rfl) (.tp 6 z z hT (by kernel_rfl) (.ts 7 z (fun W hT=>ixh hT.p1 hx1 T.u54 T.t25 z z z) hT z (by kernel_rfl) (.ts 8 z (fun W hT=>lde (hT.p1.hcellsv) T.t25 z z z z z) hT z (by kernel_rfl) ?_)))))
   have ⟨y7,hy7,h⟩:=bnd h
   refine .by1 9 z (.call0 hS Tryz.func184 (fdi hy7 hS.lendv) z z ?_ z z z z) (by kernel_rfl)
   intro W hS
   have hT:=hS.to [0,0] z
   refine ⟨fun _=>hT,.by1 10 z (.liv [y7] dQuad T.u104 T.t126 hS z z z z ?_ z (fun _=>z) z z z z) (by kernel_rfl)⟩
   intro v10 W hS
   have hT:=hS.to [1,1] z
   refine ⟨fun _=>hT,?_⟩
   have ⟨r2,hr2,h⟩:=bnd h
   have hT0:=hS.p3
   refine .by1 11 z (.apprv hr2 hT0 hT0.p1.lendv (fun _=>z) T.u104 T.t126 z z z ?_ z z z z z) (by kernel_rfl)
   intro v11 W hS
   have hT:=hS.to [2,2] z
   refine ⟨fun _=>hT,.tp 12 z z hT (by kernel_rfl) (.done (.region (.q z (.q z (.q z (.nil ?_))))) (by kernel_rfl))⟩
   have hS:=Sep.gat (ds:=[.row 3 1 (x1.map (D.int .i64))]) (cs:=[(sv v7)]) (L1:=[rowV (sv v7) 3 1 (D.int .i64) x1]) (.row (.nil)) (hS.to [2,2,0,0] z)
   have hS : Sep _ _ _ [rowV (sv v2) 25 1 (fun (l : List Int)=>D.row 3 1 (l.map (D.int .i64))) y2,rowV (sv v11) 126 5 dQuad r2,rowV (sv v10) 126 5 dQuad [y7]]:=Sep.back0v hx1 hS
   cases h
   exact ⟨z,v11,sb z,hS.to [0,0] z⟩
  refine .exit ?_
  cases h
  exact ⟨by simp,z,v4,sb z,hS.to [0,0] z⟩
 intro x E W hJ
 obtain ⟨rfl,v12,hE,hS⟩:=hJ
 refine ⟨_,hE.sub,?_⟩
 cases h
 exact .g (.q z (.q z (.qn z (.ret (fin_ret (vs:=[_,_]) v12 (rt z (rt z rn)) z (hS.to [1] z))))))
def fcs (w : World) (r : Int) : Env → World → Prop:=Fin Tryz.prog Tryz.f185 No w (fun s : Unit=>.int .i64 r) (fun s=>[]) .ret
theorem fc3 {a0 : List Quad} {a1 : Int} {v_0 : Hd} {w : World} {r : Int} (h : f5o a0 a1 = some r) (q_0 : RV w (Old No w) (sv v_0) 126 5 dQuad a0) : Calls Tryz.prog 185 #[(sv v_0),.int .i64 a1] w (Ret No w (fun s : Unit=>.int .i64 r) (fun s=>[])):=by
 unfold f5o at h
 refine enter Tryz.func185 z z ?_
 have hS:=Sep.start w
 refine .g (.qn z (.g (.q z (.qn z (.seq (.g (.qn z (.block ?_))))))))
 have ⟨y1,hy1,h⟩:=bnd h
 refine .via (.iter (fun s1 E' W'=>SubL E' [(0,(sv v_0)),(1,.int .i64 a1),(5,.int .i64 s1.1),(6,.int .i64 s1.2)] ∧ Sep No w W' []) (fun y2 x E' W'=>(match y2 with | .inl o1=>x = .ret ∧ fcs w o1 E' W' | .inr o2=>x = .exit 0 ∧ SubL E' [(1,.int .i64 a1)] ∧ Sep No w W' [])) hy1 ⟨sb rfl,hS.to [] rfl⟩ ?_) ?_
 ·intro s1 y3 E W h hI
  obtain ⟨hE,hS⟩:=hI
  refine CW.sub hE ?_
  unfold f7z at h
  refine .seq (.g (.q z (.q z (.s (lenv (hS.keep q_0) T.u104 z z) z (.q z (.nil ?_))))))
  refine .cs z h ?_ ?_ <;> intro h
  ·refine .skip (.seq (.block (.seq (.g (.q z (.q z ?_))))))
   have ⟨x1,hx1,h⟩:=bnd h
   refine .s (ixv (hS.keep q_0) hx1 T.u104 T.t126 z z z) z (.s (fe T.f126_0 z z z) z (.s (lde (RV.flat (hS.keep q_0) hx1 z) T.t3 z z z z z) z (.q z (.nil ?_))))
   refine .cs z h ?_ ?_ <;> intro h
   ·refine .g (.q z (.qn z (.ret ?_)))
    cases h
    exact ⟨by simp,z,fin_ret (vs:=[_]) () (rt z rn) z (hS.to [] z)⟩
   refine .skip (.region (.q z (.q z ?_)))
   have ⟨x2,hx2,h⟩:=bnd h
   refine .s (ixv (hS.keep q_0) hx2 T.u104 T.t126 z z z) z (.s (fe T.f126_4 z z z) z (.s (lde (RV.flat (hS.keep q_0) hx2 z) T.t3 z z z z z) z (.qn z (.region (.q z (.q z (.q z (.nil ?_))))))))
   cases h
   exact ⟨z,sb z,hS.to [] z⟩
  refine .exit ?_
  cases h
  exact ⟨by simp,z,sb z,hS.to [] z⟩
 intro x E W hJ
 rcases y1 with o3 | o4
 ·obtain ⟨rfl,hF⟩:=hJ
  refine ⟨_,fun _ _ h=>h,?_⟩
  cases h
  exact hF
 obtain ⟨rfl,hE,hS⟩:=hJ
 refine ⟨_,hE.sub,?_⟩
 obtain rfl:=Option.some.inj h
 exact .g (.q z (.qn z (.ret (fin_ret (vs:=[_]) () (rt z rn) z (hS.to [] z)))))
theorem fc8 {a0 : List Quad} {v_0 : Hd} {w : World} {r : (List Quad) × Bool} (h : f6d a0 = some r) (q_0 : RV w (Old No w) (sv v_0) 126 5 dQuad a0) : Calls Tryz.prog 168 #[(sv v_0)] w (Ret No w (fun s : Hd=>.tuple #[(sv s),.bool r.2]) (fun s=>[rowV (sv s) 126 5 dQuad r.1])):=by
 unfold f6d at h
 refine enter Tryz.func168 z z ?_
 have hS:=Sep.start w
 refine .g (.q z (.qn z (.g (.c (.liv [] dQuad T.u104 T.t126 hS z z z z ?_ z (fun _=>z) z z z z)))))
 intro v1 W hS
 refine .qn z (.seq (.g (.q z ?_)))
 have ⟨y1,hy1,h⟩:=bnd h
 refine .c (.call0 hS Tryz.func151 (f10 hy1 (hS.keep q_0)) z z ?_ z z z z)
 intro W hS
 refine .q z (.nil ?_)
 refine .cs z h ?_ ?_ <;> intro h
 ·cases h
  exact .g (.q z (.q z (.qn z (.ret (fin_ret (vs:=[_,_]) v1 (rt z (rt z rn)) z (hS.to [0] z))))))
 refine .skip (.seq (.g (.qn z (.block ?_))))
 have ⟨y2,hy2,h⟩:=bnd h
 refine .via (.iter (fun s1 E' W'=>∃ (v4 : Hd),SubL E' [(0,(sv v_0)),(4,(sv v4)),(5,.int .i64 s1.2)] ∧ Sep No w W' [rowV (sv v4) 126 5 dQuad s1.1]) (fun y3 x E' W'=>x = .exit 0 ∧ ∃ (v5 : Hd),SubL E' [(4,(sv v5))] ∧ Sep No w W' [rowV (sv v5) 126 5 dQuad y3]) hy2 ⟨v1,sb z,hS.to [0] z⟩ ?_) ?_
 ·intro s1 y4 E W h hI
  obtain ⟨v3,hE,hS⟩:=hI
  refine CW.sub hE ?_
  unfold f5u at h
  refine .seq (.g (.q z (.q z (.s (lenv (hS.keep q_0) T.u104 z z) z (.q z (.nil ?_))))))
  refine .cs z h ?_ ?_ <;> intro h
  ·refine .skip (.seq (.block (.g (.q z (.q z ?_)))))
   have ⟨x1,hx1,h⟩:=bnd h
   refine .s (ixv (hS.keep q_0) hx1 T.u104 T.t126 z z z) z (.s (lde (RV.flat (hS.keep q_0) hx1 z) T.t126 z z z z z) z (.c (.alloc T.t126 hS ?_ z z z)))
   intro g1 W hS
   refine .c (.st T.t126 hS z z z ?_ z z z z z)
   intro W hS
   refine .nil ?_
   have ⟨y5,hy5,h⟩:=bnd h
   refine .seq (CW.via (R':=fun x E' W'=>x = .normal ∧ SubL E' [(0,(sv v_0)),(4,(sv v3)),(5,.int .i64 s1.2),(6,.pointer (some ⟨g1,0,none⟩))] ∧ Sep No w W' [.box g1 126 [.int .i64 y5.Op,.int .i64 y5.Dst,.int .i64 y5.A,.int .i64 y5.B,.int .i64 y5.N],rowV (sv v3) 126 5 dQuad s1.1]) ?_ ?_)
   ·have h:=hy5
    refine .g (.s (fa T.f126_0 z z z) z (.s (ld T.t3 hS z z z z z) z (.q z (.q z (.chunk 4 29 ((x1.Op == 4) || (x1.Op == 5)) hS ?_ ?_)))))
    ·refine .both (x1.Op == 4) (fun hb=>?_) (fun hb=>?_)
     ·exact .xx hb z (.xx hb z (.xx hb z (.s (pkt hb z z z) z (.nil (ck 4 hS z (or_t hb) z z)))))
     have hg1:=hb
     exact .g hg1 (.s (fa T.f126_0 z z z) z (.g hg1 (.s (ld T.t3 hS z z z z z) z (.g hg1 (.q z (.s (pkf hg1 z z z) z (.nil (ck 4 hS z (or_f hg1) z z)))) z)) z)) z
    intro W hS
    refine .nil ?_
    refine .cs z h ?_ ?_ <;> intro h
    ·refine .region (.q z (.s (fa T.f126_4 z z z) z (.s (ld T.t3 hS z z z z z) z ?_)))
     have ⟨y6,hy6,h⟩:=bnd h
     refine .c (.call0 hS Tryz.func185 (fc3 hy6 (hS.keep q_0)) z z ?_ z z z z)
     intro W hS
     refine .s (fa T.f126_4 z z z) z (.c (.st T.t3 hS z z z ?_ z z z z z))
     intro W hS
     refine .nil ?_
     cases h
     exact ⟨z,sb z,hS.to [0,0] z⟩
    refine .skip ?_
    obtain rfl:=Option.some.inj h
    exact ⟨z,sb z,hS.to [0,0] z⟩
   intro x E W hJ
   obtain ⟨rfl,hE,hS⟩:=hJ
   refine ⟨_,hE.sub,?_⟩
   refine .region (.q z (.s (ld T.t126 hS z z z z z) z (.c (.liv [y5] dQuad T.u104 T.t126 hS z z z z ?_ z (fun _=>z) z z z z))))
   intro v6 W hS
   have ⟨r1,hr1,h⟩:=bnd h
   have hT0:=hS.p2
   refine .c (.apprv hr1 hT0 hT0.p1.lendv (fun _=>z) T.u104 T.t126 z z z ?_ z z z z z)
   intro v7 W hS
   refine .qn z (.region (.q z (.q z (.q z (.nil ?_)))))
   cases h
   exact ⟨z,v7,sb z,hS.to [0] z⟩
  refine .exit ?_
  cases h
  exact ⟨by simp,z,v3,sb z,hS.to [0] z⟩
 intro x E W hJ
 obtain ⟨rfl,v8,hE,hS⟩:=hJ
 refine ⟨_,hE.sub,?_⟩
 cases h
 exact .g (.q z (.q z (.qn z (.ret (fin_ret (vs:=[_,_]) v8 (rt z (rt z rn)) z (hS.to [0] z))))))
theorem fae {a0 : List Quad} {a1 : List (List Bool)} {a2 : Int} {v_0 : Hd} {v_1 : Hd} {w : World} {r : (List Bool)} (h : f4d a0 a1 a2 = some r) (q_0 : RV w (Old No w) (sv v_0) 126 5 dQuad a0) (q_1 : RV w (Old No w) (sv v_1) 55 1 (fun (l : List Bool)=>D.row 4 1 (l.map D.bool)) a1) : Calls Tryz.prog 188 #[(sv v_0),(sv v_1),.int .i64 a2] w (Ret No w (fun s : Hd=>(sv s)) (fun s=>[rowV (sv s) 4 1 D.bool r])):=by
 unfold f4d at h
 refine enter Tryz.func188 z z ?_
 have hS:=Sep.start w
 refine .g (.qn z (.seq (.region ?_)))
 have ⟨r1,hr1,h⟩:=bnd h
 refine .c (.mkv false D.bool hr1 T.u55 T.t4 hS z z z z z (fun _=>z) ?_ z z z)
 intro v1 W hS
 refine .qn z (.g (.q z (.q z ?_)))
 have ⟨y1,hy1,h⟩:=bnd h
 refine .c (.call1v hS Tryz.func206 (f6s hy1 (hS.keep q_0)) z z ?_ z z z z)
 intro v2 W hS
 refine .qn z (.seq (.g (.qn z (.block ?_))))
 have ⟨y2,hy2,h⟩:=bnd h
 refine .via (.iter (fun s1 E' W'=>SubL E' [(1,(sv v_1)),(7,(sv v1)),(8,(sv v2)),(9,.int .i64 s1.1)] ∧ Sep No w W' [rowV (sv v2) 3 1 (D.int .i64) y1,rowV (sv v1) 4 1 D.bool s1.2]) (fun y3 x E' W'=>x = .exit 0 ∧ SubL E' [(7,(sv v1))] ∧ Sep No w W' [rowV (sv v2) 3 1 (D.int .i64) y1,rowV (sv v1) 4 1 D.bool y3]) hy2 ⟨sb z,hS.to [0,0] z⟩ ?_) ?_
 ·intro s1 y4 E W h hI
  obtain ⟨hE,hS⟩:=hI
  refine CW.sub hE ?_
  unfold f8p at h
  refine .seq (.g (.q z (.q z (.s (lenv hS.lendv T.u25 z z) z (.q z (.nil ?_))))))
  refine .cs z h ?_ ?_ <;> intro h
  ·refine .skip (.seq (.block (.g (.qn z (.block ?_)))))
   have ⟨y5,hy5,h⟩:=bnd h
   refine .via (.iter (fun s2 E' W'=>SubL E' [(1,(sv v_1)),(7,(sv v1)),(8,(sv v2)),(9,.int .i64 s1.1),(10,.int .i64 s2.1)] ∧ Sep No w W' [rowV (sv v2) 3 1 (D.int .i64) y1,rowV (sv v1) 4 1 D.bool s2.2]) (fun y6 x E' W'=>x = .exit 2 ∧ SubL E' [(1,(sv v_1)),(7,(sv v1)),(8,(sv v2)),(9,.int .i64 s1.1)] ∧ Sep No w W' [rowV (sv v2) 3 1 (D.int .i64) y1,rowV (sv v1) 4 1 D.bool y6]) hy5 ⟨sb z,hS.to [0,0] z⟩ ?_) ?_
   ·intro s2 y7 E W h hI
    obtain ⟨hE,hS⟩:=hI
    refine CW.sub hE ?_
    unfold f8o at h
    refine .seq (.g (.q z (.q z (.nil ?_))))
    refine .cs z h ?_ ?_ <;> intro h
    ·refine .skip (.seq (.block (.region (.q z (.q z (.q z (.q z ?_)))))))
     have ⟨x1,hx1,h⟩:=bnd h
     refine .s (ixv hS.p1.lendv hx1 T.u55 T.t4 z z z) z (.s (lde (RV.flat hS.p1.lendv hx1 z) T.t4 z z z z z) z (.q z ?_))
     have ⟨b1,hb1,h⟩:=bnd h
     refine .chunk 11 42 (b1) hS ?_ ?_
     ·refine .both (x1) (fun hb=>?_) (fun hb=>?_)
      ·refine .xx hb z (.xx hb z (.xx hb z (.xx hb z (.xx hb z (.xx hb z (.xx hb z (.xx hb z (.xx hb z (.xx hb z ?_)))))))))
       cases sel_t hb hb1
       exact .s (pkt hb z z z) z (.nil (ck 11 hS z z z z))
      have hg1:=hb
      have h:=sel_f hb hb1
      refine .g hg1 (.q z (.g hg1 (.q z (.g hg1 (.q z ?_) z)) z)) z
      have ⟨x2,hx2,h⟩:=bnd h
      refine .g hg1 (.s (ixv hS.lendv hx2 T.u25 T.t3 z z z) z (.g hg1 (.s (lde (RV.flat hS.lendv hx2 z) T.t3 z z z z z) z ?_) z)) z
      have ⟨x3,hx3,h⟩:=bnd h
      obtain ⟨k1,hd,hck1⟩:=RV.el2 q_1 hx3
      obtain ⟨v3,k1,rfl,q1,hd1⟩:=rrowv q_1 hd
      obtain rfl:=rnil q_1 hd1
      refine .g hg1 (.s (ixv (hS.keep q_1) hx3 T.u179 T.t55 z z z) z (.g hg1 (.s (lde (hck1 _ hS.agree) T.t55 z z z z z) z (.g hg1 (.q z ?_) z)) z)) z
      have ⟨x4,hx4,h⟩:=bnd h
      refine .g hg1 (.s (ixv (hS.keep (q1 _ q_1)) hx4 T.u55 T.t4 z z z) z (.g hg1 (.s (lde (RV.flat (hS.keep (q1 _ q_1)) hx4 z) T.t4 z z z z z) z (.s (pkf hg1 z z z) z ?_)) z)) z
      cases h
      exact .nil (ck 11 hS z z z z)
     intro W hS
     have ⟨x5,hx5,h⟩:=bnd h
     refine .s (ixv hS.p1.lendv hx5 T.u55 T.t4 z z z) z ?_
     have ⟨r2,hr2,h⟩:=bnd h
     refine .c (.sev hr2 hx5 hS.p1 T.t4 z z z z z z ?_ z z z z z z)
     intro W hS
     refine .nil (.region (.q z (.q z (.q z (.nil ?_)))))
     cases h
     exact ⟨z,sb z,hS.to [1,0] z⟩
    refine .exit ?_
    cases h
    exact ⟨by simp,z,sb z,hS.to [0,0] z⟩
   intro x E W hJ
   obtain ⟨rfl,hE,hS⟩:=hJ
   refine ⟨_,hE.sub,?_⟩
   refine .region (.q z (.q z (.q z (.nil ?_))))
   cases h
   exact ⟨z,sb z,hS.to [0,0] z⟩
  refine .exit ?_
  cases h
  exact ⟨by simp,z,sb z,hS.to [0,0] z⟩
 intro x E W hJ
 obtain ⟨rfl,hE,hS⟩:=hJ
 refine ⟨_,hE.sub,?_⟩
 obtain rfl:=Option.some.inj h
 exact .g (.q z (.qn z (.ret (fin_ret (vs:=[_]) v1 (rt z rn) z (hS.to [1] z)))))
theorem fcu {a0 : Quad} {w : World} {r : (List Int)} (h : f6a a0 = some r) : Calls Tryz.prog 222 #[.agg #[.int .i64 a0.Op,.int .i64 a0.Dst,.int .i64 a0.A,.int .i64 a0.B,.int .i64 a0.N]] w (Ret No w (fun s : Hd=>(sv s)) (fun s=>[rowV (sv s) 3 1 (D.int .i64) r])):=by
 unfold f6a at h
 refine enter Tryz.func222 z z ?_
 have hS:=Sep.start w
 refine .g (.c (.box hS z z ?_ z z))
 intro g1 W hS
 refine .qn z (.seq (.g (.s (ld T.t126 hS z z z z z) z ?_)))
 have ⟨y1,hy1,h⟩:=bnd h
 refine .c (.call0 hS Tryz.func165 (f7v hy1) z z ?_ z z z z)
 intro W hS
 refine .q z (.nil ?_)
 refine .cs z h ?_ ?_ <;> intro h
 ·refine .g (.c (.liv [] (D.int .i64) T.u25 T.t3 hS z z z z ?_ z (fun _=>z) z z z z))
  intro v1 W hS
  cases h
  exact .qn z (.ret (fin_ret (vs:=[_]) v1 (rt z rn) z (hS.to [0] z)))
 refine .skip (.seq (.g (.s (fa T.f126_0 z z z) z (.s (ld T.t3 hS z z z z z) z (.nil (.block ?_))))))
 have ⟨y2,hy2,h⟩:=bnd h
 refine .seq (CW.via (R':=fun x E' W'=>x = .normal ∧ SubL E' [(1,.pointer (some ⟨g1,0,none⟩)),(8,.int .i64 a0.Op),(9,.bool y2)] ∧ Sep No w W' [.box g1 126 [.int .i64 a0.Op,.int .i64 a0.Dst,.int .i64 a0.A,.int .i64 a0.B,.int .i64 a0.N]]) ?_ ?_)
 ·have h:=hy2
  refine .g (.q z (.q z (.nil ?_)))
  refine .cs z h ?_ ?_ <;> intro h
  ·refine .skip ?_
   cases h
   exact ⟨z,sb z,hS.to [0] z⟩
  refine .g (.q z (.q z (.nil ?_)))
  refine .cs z h ?_ ?_ <;> intro h
  ·refine .skip ?_
   cases h
   exact ⟨z,sb z,hS.to [0] z⟩
  refine .g (.q z (.q z (.nil ?_)))
  refine .cs z h ?_ ?_ <;> intro h
  ·refine .skip ?_
   cases h
   exact ⟨z,sb z,hS.to [0] z⟩
  refine .region (.q z (.q z (.nil ?_)))
  cases h
  exact ⟨z,sb z,hS.to [0] z⟩
 intro x E W hJ
 obtain ⟨rfl,hE,hS⟩:=hJ
 refine ⟨_,hE.sub,?_⟩
 refine .cs z h ?_ ?_ <;> intro h
 ·refine .g (.s (fa T.f126_2 z z z) z (.s (ld T.t3 hS z z z z z) z (.c (.liv [a0.A] (D.int .i64) T.u25 T.t3 hS z z z z ?_ z (fun _=>z) z z z z))))
  intro v2 W hS
  cases h
  exact .qn z (.ret (fin_ret (vs:=[_]) v2 (rt z rn) z (hS.to [0] z)))
 refine .g (.q z (.q z (.nil ?_)))
 refine .cs z h ?_ ?_ <;> intro h
 ·refine .seq (.g (.s (fa T.f126_2 z z z) z (.s (ld T.t3 hS z z z z z) z (.s (fa T.f126_3 z z z) z (.s (ld T.t3 hS z z z z z) z (.q z (.nil ?_)))))))
  refine .cs z h ?_ ?_ <;> intro h
  ·refine .g (.s (fa T.f126_2 z z z) z (.s (ld T.t3 hS z z z z z) z (.c (.liv [a0.A] (D.int .i64) T.u25 T.t3 hS z z z z ?_ z (fun _=>z) z z z z))))
   intro v3 W hS
   cases h
   exact .qn z (.ret (fin_ret (vs:=[_]) v3 (rt z rn) z (hS.to [0] z)))
  refine .skip (.g (.s (fa T.f126_2 z z z) z (.s (ld T.t3 hS z z z z z) z (.s (fa T.f126_3 z z z) z (.s (ld T.t3 hS z z z z z) z (.s (mnv z z z) z (.s (fa T.f126_2 z z z) z (.s (ld T.t3 hS z z z z z) z (.s (fa T.f126_3 z z z) z (.s (ld T.t3 hS z z z z z) z (.s (mxv z z z) z (.c (.liv [min a0.A a0.B,max a0.A a0.B] (D.int .i64) T.u25 T.t3 hS z z z z ?_ z (fun _=>z) z z z z)))))))))))))
  intro v4 W hS
  cases h
  exact .qn z (.ret (fin_ret (vs:=[_]) v4 (rt z rn) z (hS.to [0] z)))
 refine .skip (.g (.c (.liv [] (D.int .i64) T.u25 T.t3 hS z z z z ?_ z (fun _=>z) z z z z)))
 intro v5 W hS
 cases h
 exact .qn z (.ret (fin_ret (vs:=[_]) v5 (rt z rn) z (hS.to [0] z)))
theorem fc1 {a0 : Quad} {a1 : List Bool} {v_1 : Hd} {w : World} {r : (List Bool)} (h : f5p a0 a1 = some r) (q_1 : RV w (Old No w) (sv v_1) 4 1 D.bool a1) : Calls Tryz.prog 217 #[.agg #[.int .i64 a0.Op,.int .i64 a0.Dst,.int .i64 a0.A,.int .i64 a0.B,.int .i64 a0.N],(sv v_1)] w (Ret No w (fun s : Hd=>(sv s)) (fun s=>[rowV (sv s) 4 1 D.bool r])):=by
 unfold f5p at h
 refine enter Tryz.func217 z z ?_
 have hS:=Sep.start w
 refine .g (.c (.box hS z z ?_ z z))
 intro g1 W hS
 refine .qn z (.g (.c (.liv [] D.bool T.u55 T.t4 hS z z z z ?_ z (fun _=>z) z z z z)))
 intro v1 W hS
 refine .q z ?_
 have ⟨r1,hr1,h⟩:=bnd h
 refine .c (.apprv hr1 hS (hS.keep q_1) (fun _=>z) T.u55 T.t4 z z z ?_ z z z z z)
 intro v2 W hS
 refine .q z (.nil ?_)
 have ⟨y1,hy1,h⟩:=bnd h
 refine .seq (CW.via (R':=fun x E' W'=>x = .normal ∧ SubL E' [(2,.pointer (some ⟨g1,0,none⟩)),(5,(sv v2))] ∧ Sep No w W' [rowV (sv v2) 4 1 D.bool y1,.box g1 126 [.int .i64 a0.Op,.int .i64 a0.Dst,.int .i64 a0.A,.int .i64 a0.B,.int .i64 a0.N]]) ?_ ?_)
 ·have h:=hy1
  refine .g (.s (ld T.t126 hS.p1 z z z z z) z ?_)
  have ⟨y2,hy2,h⟩:=bnd h
  refine .c (.call0 hS Tryz.func221 (f8u hy2) z z ?_ z z z z)
  intro W hS
  refine .q z (.nil ?_)
  refine .cs z h ?_ ?_ <;> intro h
  ·refine .region (.q z (.s (ld T.t126 hS.p1 z z z z z) z ?_))
   have ⟨y3,hy3,h⟩:=bnd h
   refine .c (.call0 hS Tryz.func221 (f8u hy3) z z ?_ z z z z)
   intro W hS
   have ⟨x1,hx1,h⟩:=bnd h
   refine .s (ixv hS.lendv hx1 T.u55 T.t4 z z z) z ?_
   have ⟨r2,hr2,h⟩:=bnd h
   refine .c (.sev hr2 hx1 hS T.t4 z z z z z z ?_ z z z z z z)
   intro W hS
   refine .nil ?_
   obtain rfl:=Option.some.inj h
   exact ⟨z,sb z,hS.to [0,0] z⟩
  refine .skip ?_
  obtain rfl:=Option.some.inj h
  exact ⟨z,sb z,hS.to [0,0] z⟩
 intro x E W hJ
 obtain ⟨rfl,hE,hS⟩:=hJ
 refine ⟨_,hE.sub,?_⟩
 refine .g (.s (ld T.t126 hS.p1 z z z z z) z ?_)
 have ⟨y4,hy4,h⟩:=bnd h
 refine .c (.call1v hS Tryz.func222 (fcu hy4) z z ?_ z z z z)
 intro v3 W hS
 refine .qn z (.seq (.g (.qn z (.block ?_))))
 have ⟨y5,hy5,h⟩:=bnd h
 refine .via (.iter (fun s1 E' W'=>SubL E' [(5,(sv v2)),(6,(sv v3)),(7,.int .i64 s1.1)] ∧ Sep No w W' [rowV (sv v3) 3 1 (D.int .i64) y4,rowV (sv v2) 4 1 D.bool s1.2,.box g1 126 [.int .i64 a0.Op,.int .i64 a0.Dst,.int .i64 a0.A,.int .i64 a0.B,.int .i64 a0.N]]) (fun y6 x E' W'=>x = .exit 0 ∧ SubL E' [(5,(sv v2))] ∧ Sep No w W' [rowV (sv v3) 3 1 (D.int .i64) y4,rowV (sv v2) 4 1 D.bool y6,.box g1 126 [.int .i64 a0.Op,.int .i64 a0.Dst,.int .i64 a0.A,.int .i64 a0.B,.int .i64 a0.N]]) hy5 ⟨sb z,hS.to [0,0,0] z⟩ ?_) ?_
 ·intro s1 y7 E W h hI
  obtain ⟨hE,hS⟩:=hI
  refine CW.sub hE ?_
  unfold f80 at h
  refine .seq (.g (.q z (.q z (.s (lenv hS.lendv T.u25 z z) z (.q z (.nil ?_))))))
  refine .cs z h ?_ ?_ <;> intro h
  ·refine .skip (.seq (.block (.region (.q z (.q z (.q z ?_))))))
   have ⟨x2,hx2,h⟩:=bnd h
   refine .s (ixv hS.lendv hx2 T.u25 T.t3 z z z) z (.s (lde (RV.flat hS.lendv hx2 z) T.t3 z z z z z) z ?_)
   have ⟨x3,hx3,h⟩:=bnd h
   refine .s (ixv hS.p1.lendv hx3 T.u55 T.t4 z z z) z ?_
   have ⟨r3,hr3,h⟩:=bnd h
   refine .c (.sev hr3 hx3 hS.p1 T.t4 z z z z z z ?_ z z z z z z)
   intro W hS
   refine .nil (.region (.q z (.q z (.q z (.nil ?_)))))
   cases h
   exact ⟨z,sb z,hS.to [1,0,0] z⟩
  refine .exit ?_
  cases h
  exact ⟨by simp,z,sb z,hS.to [0,0,0] z⟩
 intro x E W hJ
 obtain ⟨rfl,hE,hS⟩:=hJ
 refine ⟨_,hE.sub,?_⟩
 obtain rfl:=Option.some.inj h
 exact .g (.q z (.qn z (.ret (fin_ret (vs:=[_]) v2 (rt z rn) z (hS.to [1] z)))))
def fe8 (w : World) (r : Bool) : Env → World → Prop:=Fin Tryz.prog Tryz.f218 No w (fun s : Unit=>.bool r) (fun s=>[]) .ret
theorem fdp {a0 : List Bool} {a1 : List Bool} {v_0 : Hd} {v_1 : Hd} {w : World} {r : Bool} (h : f6z a0 a1 = some r) (q_0 : RV w (Old No w) (sv v_0) 4 1 D.bool a0) (q_1 : RV w (Old No w) (sv v_1) 4 1 D.bool a1) : Calls Tryz.prog 218 #[(sv v_0),(sv v_1)] w (Ret No w (fun s : Unit=>.bool r) (fun s=>[])):=by
 unfold f6z at h
 refine enter Tryz.func218 z z ?_
 have hS:=Sep.start w
 refine .g (.qn z (.seq (.g (.qn z (.block ?_)))))
 have ⟨y1,hy1,h⟩:=bnd h
 refine .via (.iter (fun s1 E' W'=>SubL E' [(0,(sv v_0)),(1,(sv v_1)),(5,.int .i64 s1)] ∧ Sep No w W' []) (fun y2 x E' W'=>(match y2 with | .inl o1=>x = .ret ∧ fe8 w o1 E' W' | .inr o2=>x = .exit 0 ∧ SubL E' [(0,(sv v_0)),(1,(sv v_1))] ∧ Sep No w W' [])) hy1 ⟨sb rfl,hS.to [] rfl⟩ ?_) ?_
 ·intro s1 y3 E W h hI
  obtain ⟨hE,hS⟩:=hI
  refine CW.sub hE ?_
  unfold f9h at h
  refine .seq (.g (.q z (.q z (.s (lenv (hS.keep q_0) T.u55 z z) z (.q z (.nil ?_))))))
  refine .cs z h ?_ ?_ <;> intro h
  ·refine .skip (.seq (.block (.seq (.rk 9 hS [] T.mix ?_))))
   intro W hS
   have hT:=hS.to [] z
   refine .tp 0 z z hT (by kernel_rfl) (.tp 1 z z hT (by kernel_rfl) ?_)
   have ⟨x1,hx1,h⟩:=bnd h
   refine .ts 2 z (fun W hT=>ixv (hS.keep q_0) hx1 T.u55 T.t4 z z z) hT z (by kernel_rfl) (.ts 3 z (fun W hT=>lde (RV.flat (hT.keep q_0) hx1 z) T.t4 z z z z z) hT z (by kernel_rfl) (.tp 4 z z hT (by kernel_rfl) (.tp 5 z z hT (by kernel_rfl) ?_)))
   have ⟨x2,hx2,h⟩:=bnd h
   refine .ts 6 z (fun W hT=>ixv (hS.keep q_1) hx2 T.u55 T.t4 z z z) hT z (by kernel_rfl) (.ts 7 z (fun W hT=>lde (RV.flat (hT.keep q_1) hx2 z) T.t4 z z z z z) hT z (by kernel_rfl) (.ts 8 z (fun W hT=>neb T.u4 z z z) hT z (by kernel_rfl) (.done ?_ (by kernel_rfl))))
   refine .cs z h ?_ ?_ <;> intro h
   ·refine .g (.qn z (.ret ?_))
    cases h
    exact ⟨by simp,z,fin_ret (vs:=[_]) () (rt z rn) z (hS.to [] z)⟩
   refine .skip (.region (.q z (.q z (.q z (.nil ?_)))))
   cases h
   exact ⟨z,sb z,hS.to [] z⟩
  refine .exit ?_
  cases h
  exact ⟨by simp,z,sb z,hS.to [] z⟩
 intro x E W hJ
 rcases y1 with o3 | o4
 ·obtain ⟨rfl,hF⟩:=hJ
  refine ⟨_,fun _ _ h=>h,?_⟩
  cases h
  exact hF
 obtain ⟨rfl,hE,hS⟩:=hJ
 refine ⟨_,hE.sub,?_⟩
 cases h
 exact .g (.q z (.s (lenv (hS.keep q_0) T.u55 z z) z (.q z (.s (lenv (hS.keep q_1) T.u55 z z) z (.q z (.qn z (.ret (fin_ret (vs:=[_]) () (rt z rn) z (hS.to [] z)))))))))
theorem fd0 {a0 : List Quad} {a1 : List (List Bool)} {v_0 : Hd} {v_1 : Hd} {S : Nat → Prop} {w : World} {r : Bool × (List (List Bool))} (h : f6g a0 a1 = some r) (q_0 : RV w (Old S w) (sv v_0) 126 5 dQuad a0) (hO : Owns w [rowV (sv v_1) 55 1 (fun (l : List Bool)=>D.row 4 1 (l.map D.bool)) a1] S) (hlt : ∀ b,S b → b < w.heap.size) : Calls Tryz.prog 205 #[(sv v_0),(sv v_1)] w (Ret S w (fun s : Unit=>.bool r.1) (fun s=>[rowV (sv v_1) 55 1 (fun (l : List Bool)=>D.row 4 1 (l.map D.bool)) r.2])):=by
 unfold f6g at h
 refine enter Tryz.func205 z z ?_
 have hS:=Sep.startM hO hlt
 refine .g (.qn z (.g (.qn z (.seq (.g (.q z (.s (lenv (hS.keep q_0) T.u104 z z) z (.q z (.qn z (.block ?_))))))))))
 have ⟨y1,hy1,h⟩:=bnd h
 refine .via (.iter (fun s1 E' W'=>SubL E' [(0,(sv v_0)),(1,(sv v_1)),(5,.bool s1.1),(6,.int .i64 s1.2.1)] ∧ Sep S w W' [rowV (sv v_1) 55 1 (fun (l : List Bool)=>D.row 4 1 (l.map D.bool)) s1.2.2]) (fun y2 x E' W'=>x = .exit 0 ∧ SubL E' [(5,.bool y2.1)] ∧ Sep S w W' [rowV (sv v_1) 55 1 (fun (l : List Bool)=>D.row 4 1 (l.map D.bool)) y2.2]) hy1 ⟨sb z,hS.to [0] z⟩ ?_) ?_
 ·intro s1 y3 E W h hI
  obtain ⟨hE,hS⟩:=hI
  refine CW.sub hE ?_
  unfold f8m at h
  refine .seq (.g (.q z (.q z (.nil ?_))))
  refine .cs z h ?_ ?_ <;> intro h
  ·refine .skip ?_
   have ⟨y4,hy4,h⟩:=bnd h
   refine .seq (CW.via (R':=fun x E' W'=>x = .normal ∧ SubL E' [(0,(sv v_0)),(1,(sv v_1)),(5,.bool y4.1),(6,.int .i64 s1.2.1)] ∧ Sep S w W' [rowV (sv v_1) 55 1 (fun (l : List Bool)=>D.row 4 1 (l.map D.bool)) y4.2]) ?_ ?_)
   ·have h:=hy4
    refine .block (.seq (.rk 10 hS [0] T.mix ?_))
    intro W hS
    have hT:=hS.to [0] z
    refine .tp 0 z z hT (by kernel_rfl) (.tp 1 z z hT (by kernel_rfl) ?_)
    have ⟨x1,hx1,h⟩:=bnd h
    refine .ts 2 z (fun W hT=>ixv (hS.keep q_0) hx1 T.u104 T.t126 z z z) hT z (by kernel_rfl) (.ts 3 z (fun W hT=>lde (RV.flat (hT.keep q_0) hx1 z) T.t126 z z z z z) hT z (by kernel_rfl) (.tp 4 z z hT (by kernel_rfl) (.tp 5 z z hT (by kernel_rfl) (.tp 6 z z hT (by kernel_rfl) ?_))))
    have ⟨y5,hy5,h⟩:=bnd h
    refine .by1 7 z (.call1v hS Tryz.func188 (fae hy5 (hS.keep q_0) hS.lendv) z z ?_ z z z z) (by kernel_rfl)
    intro v1 W hS
    have hT:=hS.to [1] z
    refine ⟨fun _=>hT,?_⟩
    have ⟨y6,hy6,h⟩:=bnd h
    refine .by1 8 z (.call1v hS Tryz.func217 (fc1 hy6 hS.lendv) z z ?_ z z z z) (by kernel_rfl)
    intro v2 W hS
    have hT:=hS.to [2] z
    refine ⟨fun _=>hT,.tp 9 z z hT (by kernel_rfl) (.done (.g (.q z (.q z (.q z ?_)))) (by kernel_rfl))⟩
    have ⟨x2,hx2,h⟩:=bnd h
    refine .s (ixv hS.p2.lendv hx2 T.u179 T.t55 z z z) z ?_
    obtain ⟨k1,hS⟩:=Sep.outv hS.p2 hx2
    obtain ⟨v3,k1,rfl,hS⟩:=hS.orowv
    obtain ⟨rfl,hS⟩:=hS.onil
    refine .s (lde (hS.p1.hcellsv) T.t55 z z z z z) z ?_
    have ⟨y7,hy7,h⟩:=bnd h
    refine .c (.call0 hS Tryz.func218 (fdp hy7 hS.p2.lendv hS.lendv) z z ?_ z z z z)
    intro W hS
    refine .q z (.nil ?_)
    refine .cs z h ?_ ?_ <;> intro h
    ·refine .g (.q z (.q z (.q z (.s (ixh hS.p1 hx2 T.u179 T.t55 z z z) z (.c (.sthv hS.p1 T.t55 z z z ?_ z z z z z z))))))
     intro W hS
     refine .nil (.region (.q z (.nil ?_)))
     have hS:=Sep.gat (ds:=[.row 4 1 (y6.map D.bool)]) (cs:=[(sv v2)]) (L1:=[rowV (sv v2) 4 1 D.bool y6]) (.row (.nil)) (hS.to [2,0,0,0] z)
     have hS : Sep _ _ _ [rowV (sv v_1) 55 1 (fun (l : List Bool)=>D.row 4 1 (l.map D.bool)) (s1.2.2.set (Int.toNat s1.2.1) y6),rowV (sv v3) 4 1 D.bool x2,rowV (sv v1) 4 1 D.bool y5]:=hS.backv
     cases h
     exact ⟨z,sb z,hS.to [0] z⟩
    refine .skip ?_
    have hS:=Sep.gat (ds:=[.row 4 1 (x2.map D.bool)]) (cs:=[(sv v3)]) (L1:=[rowV (sv v3) 4 1 D.bool x2]) (.row (.nil)) (hS.to [0,0,0,0] z)
    have hS : Sep _ _ _ [rowV (sv v_1) 55 1 (fun (l : List Bool)=>D.row 4 1 (l.map D.bool)) s1.2.2,rowV (sv v2) 4 1 D.bool y6,rowV (sv v1) 4 1 D.bool y5]:=Sep.back0v hx2 hS
    cases h
    exact ⟨z,sb z,hS.to [0] z⟩
   intro x E W hJ
   obtain ⟨rfl,hE,hS⟩:=hJ
   refine ⟨_,hE.sub,?_⟩
   refine .region (.q z (.q z (.q z (.nil ?_))))
   cases h
   exact ⟨z,sb z,hS.to [0] z⟩
  refine .exit ?_
  cases h
  exact ⟨by simp,z,sb z,hS.to [0] z⟩
 intro x E W hJ
 obtain ⟨rfl,hE,hS⟩:=hJ
 refine ⟨_,hE.sub,?_⟩
 cases h
 exact .g (.q z (.qn z (.ret (fin_ret (vs:=[_]) () (rt z rn) z (hS.to [0] z)))))
theorem fdz {a0 : List Quad} {v_0 : Hd} {w : World} {r : (List (List Bool))} (h : f87 a0 = some r) (q_0 : RV w (Old No w) (sv v_0) 126 5 dQuad a0) : Calls Tryz.prog 186 #[(sv v_0)] w (Ret No w (fun s : Hd=>(sv s)) (fun s=>[rowV (sv s) 55 1 (fun (l : List Bool)=>D.row 4 1 (l.map D.bool)) r])):=by
 unfold f87 at h
 refine enter Tryz.func186 z z ?_
 have hS:=Sep.start w
 refine .g (.qn z (.g (.c (.ligv (L1:=[]) [] (fun (l : List Bool)=>D.row 4 1 (l.map D.bool)) T.u179 T.t55 (hS.to [] z) z z z (.nil) ?_ z (fun _=>z) z z z z z))))
 intro v1 W hS
 refine .qn z (.seq (.g (.q z ?_)))
 have ⟨y1,hy1,h⟩:=bnd h
 refine .c (.call0 hS Tryz.func151 (f10 hy1 (hS.keep q_0)) z z ?_ z z z z)
 intro W hS
 refine .qn z (.cond z (fun hb=>?_) (fun hb=>?_))
 ·have h:=sel_t hb h
  cases h
  exact .g (.q z (.qn z (.ret (fin_ret (vs:=[_]) v1 (rt z rn) z (hS.to [0] z)))))
 have h:=sel_f hb h
 refine .skip (.seq (.g (.qn z (.block ?_))))
 have ⟨y2,hy2,h⟩:=bnd h
 refine .via (.iter (fun s1 E' W'=>∃ (v4 : Hd),SubL E' [(0,(sv v_0)),(3,(sv v4)),(4,.int .i64 s1.2)] ∧ Sep No w W' [rowV (sv v4) 55 1 (fun (l : List Bool)=>D.row 4 1 (l.map D.bool)) s1.1]) (fun y3 x E' W'=>x = .exit 0 ∧ ∃ (v5 : Hd),SubL E' [(0,(sv v_0)),(3,(sv v5))] ∧ Sep No w W' [rowV (sv v5) 55 1 (fun (l : List Bool)=>D.row 4 1 (l.map D.bool)) y3]) hy2 ⟨v1,sb z,hS.to [0] z⟩ ?_) ?_
 ·intro s1 y4 E W h hI
  obtain ⟨v3,hE,hS⟩:=hI
  refine CW.sub hE ?_
  unfold f9q at h
  refine .seq (.g (.q z (.q z (.s (lenv (hS.keep q_0) T.u104 z z) z (.q z (.nil ?_))))))
  refine .cs z h ?_ ?_ <;> intro h
  ·refine .skip (.seq (.block (.region (.q z ?_))))
   have ⟨r1,hr1,h⟩:=bnd h
   refine .c (.mkv false D.bool hr1 T.u55 T.t4 hS z z z z z (fun _=>z) ?_ z z z)
   intro v6 W hS
   refine .c (.ligv (L1:=[rowV (sv v6) 4 1 D.bool r1]) [r1] (fun (l : List Bool)=>D.row 4 1 (l.map D.bool)) T.u179 T.t55 (hS.to [0,0] z) z z z (.row (.nil)) ?_ z (fun _=>z) z z z z z)
   intro v7 W hS
   have ⟨r2,hr2,h⟩:=bnd h
   refine .c (.appv hr2 (hS.to [1,0] z) T.u179 T.t55 z z z ?_ z z z z z)
   intro v8 W hS
   refine .qn z (.region (.q z (.q z (.q z (.nil ?_)))))
   cases h
   exact ⟨z,v8,sb z,hS.to [0] z⟩
  refine .exit ?_
  cases h
  exact ⟨by simp,z,v3,sb z,hS.to [0] z⟩
 intro x E W hJ
 obtain ⟨rfl,v9,hE,hS⟩:=hJ
 refine ⟨_,hE.sub,?_⟩
 refine .seq (.block ?_)
 have ⟨y5,hy5,h⟩:=bnd h
 refine .via (.iter (fun s2 E' W'=>SubL E' [(0,(sv v_0)),(3,(sv v9))] ∧ Sep No w W' [rowV (sv v9) 55 1 (fun (l : List Bool)=>D.row 4 1 (l.map D.bool)) s2]) (fun y6 x E' W'=>x = .exit 2 ∧ SubL E' [(3,(sv v9))] ∧ Sep No w W' [rowV (sv v9) 55 1 (fun (l : List Bool)=>D.row 4 1 (l.map D.bool)) y6]) hy5 ⟨sb z,hS.to [0] z⟩ ?_) ?_
 ·intro s2 y7 E W h hI
  obtain ⟨hE,hS⟩:=hI
  refine CW.sub hE ?_
  unfold f9n at h
  refine .seq (.g (.q z (.q z ?_)))
  have ⟨y8,hy8,h⟩:=bnd h
  refine .c (.callS2 (L0:=[rowV (sv v9) 55 1 (fun (l : List Bool)=>D.row 4 1 (l.map D.bool)) s2]) hS Tryz.func205 (fun S h1 h2 h3=>(fd0 hy8 (hS.keepS q_0 h1) h2 (zz h1))) z z ?_ z z z z)
  rintro ⟨⟩ W hS
  refine .nil ?_
  refine .cs z h ?_ ?_ <;> intro h
  ·refine .skip (.block (.skip ?_))
   cases h
   exact ⟨z,sb z,hS.to [0] z⟩
  refine .exit ?_
  cases h
  exact ⟨by simp,z,sb z,hS.to [0] z⟩
 intro x E W hJ
 obtain ⟨rfl,hE,hS⟩:=hJ
 refine ⟨_,hE.sub,?_⟩
 obtain rfl:=Option.some.inj h
 exact .g (.q z (.qn z (.ret (fin_ret (vs:=[_]) v9 (rt z rn) z (hS.to [0] z)))))
theorem fdk {a0 : Quad} {a1 : List Bool} {v_1 : Hd} {w : World} {r : Bool} (h : f72 a0 a1 = some r) (q_1 : RV w (Old No w) (sv v_1) 4 1 D.bool a1) : Calls Tryz.prog 187 #[.agg #[.int .i64 a0.Op,.int .i64 a0.Dst,.int .i64 a0.A,.int .i64 a0.B,.int .i64 a0.N],(sv v_1)] w (Ret No w (fun s : Unit=>.bool r) (fun s=>[])):=by
 unfold f72 at h
 refine enter Tryz.func187 z z ?_
 have hS:=Sep.start w
 refine .g (.c (.box hS z z ?_ z z))
 intro g1 W hS
 refine .qn z (.seq (.g (.s (fa T.f126_0 z z z) z (.s (ld T.t3 hS z z z z z) z (.nil (.block ?_))))))
 have ⟨y1,hy1,h⟩:=bnd h
 refine .seq (CW.via (R':=fun x E' W'=>x = .normal ∧ SubL E' [(1,(sv v_1)),(2,.pointer (some ⟨g1,0,none⟩)),(7,.bool y1)] ∧ Sep No w W' [.box g1 126 [.int .i64 a0.Op,.int .i64 a0.Dst,.int .i64 a0.A,.int .i64 a0.B,.int .i64 a0.N]]) ?_ ?_)
 ·have h:=hy1
  refine .g (.q z (.q z (.nil ?_)))
  refine .cs z h ?_ ?_ <;> intro h
  ·refine .skip ?_
   cases h
   exact ⟨z,sb z,hS.to [0] z⟩
  refine .g (.q z (.q z (.nil ?_)))
  refine .cs z h ?_ ?_ <;> intro h
  ·refine .skip ?_
   cases h
   exact ⟨z,sb z,hS.to [0] z⟩
  refine .region (.q z (.q z (.nil ?_)))
  cases h
  exact ⟨z,sb z,hS.to [0] z⟩
 intro x E W hJ
 obtain ⟨rfl,hE,hS⟩:=hJ
 refine ⟨_,hE.sub,?_⟩
 refine .cs z h ?_ ?_ <;> intro h
 ·refine .g (.q z (.s (fa T.f126_1 z z z) z (.s (ld T.t3 hS z z z z z) z ?_)))
  have ⟨x1,hx1,h⟩:=bnd h
  cases h
  exact .s (ixv (hS.keep q_1) hx1 T.u55 T.t4 z z z) z (.s (lde (RV.flat (hS.keep q_1) hx1 z) T.t4 z z z z z) z (.q z (.qn z (.ret (fin_ret (vs:=[_]) () (rt z rn) z (hS.to [] z))))))
 obtain rfl:=Option.some.inj h
 exact .skip (.g (.qn z (.ret (fin_ret (vs:=[_]) () (rt z rn) z (hS.to [] z)))))
theorem fcl {a0 : List Quad} {v_0 : Hd} {w : World} {r : (List Quad) × Bool} (h : f6j a0 = some r) (q_0 : RV w (Old No w) (sv v_0) 126 5 dQuad a0) : Calls Tryz.prog 169 #[(sv v_0)] w (Ret No w (fun s : Hd=>.tuple #[(sv s),.bool r.2]) (fun s=>[rowV (sv s) 126 5 dQuad r.1])):=by
 unfold f6j at h
 refine enter Tryz.func169 z z ?_
 have hS:=Sep.start w
 refine .g (.q z (.qn z (.g (.c (.liv [] dQuad T.u104 T.t126 hS z z z z ?_ z (fun _=>z) z z z z)))))
 intro v1 W hS
 refine .qn z (.seq (.g (.q z ?_)))
 have ⟨y1,hy1,h⟩:=bnd h
 refine .c (.call0 hS Tryz.func151 (f10 hy1 (hS.keep q_0)) z z ?_ z z z z)
 intro W hS
 refine .q z (.nil ?_)
 refine .cs z h ?_ ?_ <;> intro h
 ·cases h
  exact .g (.q z (.q z (.qn z (.ret (fin_ret (vs:=[_,_]) v1 (rt z (rt z rn)) z (hS.to [0] z))))))
 refine .skip (.g (.q z ?_))
 have ⟨y2,hy2,h⟩:=bnd h
 refine .c (.call1v hS Tryz.func186 (fdz hy2 (hS.keep q_0)) z z ?_ z z z z)
 intro v2 W hS
 refine .qn z (.seq (.g (.qn z (.block ?_))))
 have ⟨y3,hy3,h⟩:=bnd h
 refine .via (.iter (fun s1 E' W'=>∃ (v5 : Hd),SubL E' [(0,(sv v_0)),(4,(sv v5)),(5,(sv v2)),(6,.int .i64 s1.2)] ∧ Sep No w W' [rowV (sv v2) 55 1 (fun (l : List Bool)=>D.row 4 1 (l.map D.bool)) y2,rowV (sv v5) 126 5 dQuad s1.1]) (fun y4 x E' W'=>x = .exit 0 ∧ ∃ (v6 : Hd),SubL E' [(4,(sv v6))] ∧ Sep No w W' [rowV (sv v2) 55 1 (fun (l : List Bool)=>D.row 4 1 (l.map D.bool)) y2,rowV (sv v6) 126 5 dQuad y4]) hy3 ⟨v1,sb z,hS.to [0,0] z⟩ ?_) ?_
 ·intro s1 y5 E W h hI
  obtain ⟨v4,hE,hS⟩:=hI
  refine CW.sub hE ?_
  unfold f5t at h
  refine .seq (.g (.q z (.q z (.s (lenv (hS.keep q_0) T.u104 z z) z (.q z (.nil ?_))))))
  refine .cs z h ?_ ?_ <;> intro h
  ·refine .skip (.seq (.block (.g (.q z (.q z ?_)))))
   have ⟨x1,hx1,h⟩:=bnd h
   refine .s (ixv (hS.keep q_0) hx1 T.u104 T.t126 z z z) z (.s (lde (RV.flat (hS.keep q_0) hx1 z) T.t126 z z z z z) z (.c (.alloc T.t126 hS ?_ z z z)))
   intro g1 W hS
   refine .c (.st T.t126 hS z z z ?_ z z z z z)
   intro W hS
   refine .nil ?_
   have ⟨y6,hy6,h⟩:=bnd h
   refine .seq (CW.via (R':=fun x E' W'=>x = .normal ∧ SubL E' [(0,(sv v_0)),(4,(sv v4)),(5,(sv v2)),(6,.int .i64 s1.2),(7,.pointer (some ⟨g1,0,none⟩))] ∧ Sep No w W' [.box g1 126 [.int .i64 y6.Op,.int .i64 y6.Dst,.int .i64 y6.A,.int .i64 y6.B,.int .i64 y6.N],rowV (sv v2) 55 1 (fun (l : List Bool)=>D.row 4 1 (l.map D.bool)) y2,rowV (sv v4) 126 5 dQuad s1.1]) ?_ ?_)
   ·have h:=hy6
    refine .seq (.rk 6 hS [0,0,0] T.mix ?_)
    intro W hS
    have hT:=hS.to [0,0,0] z
    refine .ts 0 z (fun W hT=>ld T.t126 hT z z z z z) hT z (by kernel_rfl) (.tp 1 z z hT (by kernel_rfl) (.tp 2 z z hT (by kernel_rfl) (.tp 3 z z hT (by kernel_rfl) ?_)))
    have ⟨y7,hy7,h⟩:=bnd h
    refine .by1 4 z (.call1v hS Tryz.func188 (fae hy7 (hS.keep q_0) hS.p1.lendv) z z ?_ z z z z) (by kernel_rfl)
    intro v7 W hS
    have hT:=hS.to [1,1,1] z
    refine ⟨fun _=>hT,?_⟩
    have ⟨y8,hy8,h⟩:=bnd h
    refine .by1 5 z (.call0 hS Tryz.func187 (fdk hy8 hS.lendv) z z ?_ z z z z) (by kernel_rfl)
    intro W hS
    have hT:=hS.to [1,1,1] z
    refine ⟨fun _=>hT,.done ?_ (by kernel_rfl)⟩
    refine .cs z h ?_ ?_ <;> intro h
    ·refine .region (.q z (.q z (.s (bs T.s126 z z) z (.c (.st T.t126 hS.p1 z z z ?_ z z z z z)))))
     intro W hS
     refine .nil ?_
     cases h
     exact ⟨z,sb z,hS.to [0,1,1] z⟩
    refine .skip ?_
    obtain rfl:=Option.some.inj h
    exact ⟨z,sb z,hS.to [1,1,1] z⟩
   intro x E W hJ
   obtain ⟨rfl,hE,hS⟩:=hJ
   refine ⟨_,hE.sub,?_⟩
   refine .region (.q z (.s (ld T.t126 hS z z z z z) z (.c (.liv [y6] dQuad T.u104 T.t126 hS z z z z ?_ z (fun _=>z) z z z z))))
   intro v8 W hS
   have ⟨r1,hr1,h⟩:=bnd h
   have hT0:=hS.p3
   refine .c (.apprv hr1 hT0 hT0.p1.lendv (fun _=>z) T.u104 T.t126 z z z ?_ z z z z z)
   intro v9 W hS
   refine .qn z (.region (.q z (.q z (.q z (.nil ?_)))))
   cases h
   exact ⟨z,v9,sb z,hS.to [3,0] z⟩
  refine .exit ?_
  cases h
  exact ⟨by simp,z,v4,sb z,hS.to [0,0] z⟩
 intro x E W hJ
 obtain ⟨rfl,v10,hE,hS⟩:=hJ
 refine ⟨_,hE.sub,?_⟩
 cases h
 exact .g (.q z (.q z (.qn z (.ret (fin_ret (vs:=[_,_]) v10 (rt z (rt z rn)) z (hS.to [1] z))))))
theorem fbw {a0 : List Quad} {a1 : List Bool} {v_0 : Hd} {v_1 : Hd} {S : Nat → Prop} {w : World} {r : Bool × (List Bool)} (h : f59 a0 a1 = some r) (q_0 : RV w (Old S w) (sv v_0) 126 5 dQuad a0) (hO : Owns w [rowV (sv v_1) 4 1 D.bool a1] S) (hlt : ∀ b,S b → b < w.heap.size) : Calls Tryz.prog 207 #[(sv v_0),(sv v_1)] w (Ret S w (fun s : Unit=>.bool r.1) (fun s=>[rowV (sv v_1) 4 1 D.bool r.2])):=by
 unfold f59 at h
 refine enter Tryz.func207 z z ?_
 have hS:=Sep.startM hO hlt
 refine .g (.qn z (.g (.qn z (.seq (.g (.qn z (.block ?_)))))))
 have ⟨y1,hy1,h⟩:=bnd h
 refine .via (.iter (fun s1 E' W'=>SubL E' [(0,(sv v_0)),(1,(sv v_1)),(5,.bool s1.1),(6,.int .i64 s1.2.1)] ∧ Sep S w W' [rowV (sv v_1) 4 1 D.bool s1.2.2]) (fun y2 x E' W'=>x = .exit 0 ∧ SubL E' [(5,.bool y2.1)] ∧ Sep S w W' [rowV (sv v_1) 4 1 D.bool y2.2]) hy1 ⟨sb z,hS.to [0] z⟩ ?_) ?_
 ·intro s1 y3 E W h hI
  obtain ⟨hE,hS⟩:=hI
  refine CW.sub hE ?_
  unfold f7x at h
  refine .seq (.g (.q z (.q z (.s (lenv (hS.keep q_0) T.u104 z z) z (.q z (.nil ?_))))))
  refine .cs z h ?_ ?_ <;> intro h
  ·refine .skip ?_
   have ⟨y4,hy4,h⟩:=bnd h
   refine .seq (CW.via (R':=fun x E' W'=>x = .normal ∧ SubL E' [(0,(sv v_0)),(1,(sv v_1)),(5,.bool y4.1),(6,.int .i64 s1.2.1)] ∧ Sep S w W' [rowV (sv v_1) 4 1 D.bool y4.2]) ?_ ?_)
   ·have h:=hy4
    refine .block (.seq (.g (.q z (.q z ?_))))
    have ⟨x1,hx1,h⟩:=bnd h
    refine .s (ixv hS.lendv hx1 T.u55 T.t4 z z z) z (.s (lde (RV.flat hS.lendv hx1 z) T.t4 z z z z z) z (.q z (.nil ?_)))
    refine .cs z h ?_ ?_ <;> intro h
    ·refine .exit ?_
     cases h
     exact ⟨z,sb z,hS.to [0] z⟩
    refine .skip (.g (.q z (.q z ?_)))
    have ⟨y5,hy5,h⟩:=bnd h
    refine .c (.call1v hS Tryz.func206 (f6s hy5 (hS.keep q_0)) z z ?_ z z z z)
    intro v1 W hS
    refine .qn z (.g (.qn z (.block ?_)))
    have ⟨y6,hy6,h⟩:=bnd h
    refine .via (.iter (fun s2 E' W'=>SubL E' [(0,(sv v_0)),(1,(sv v_1)),(5,.bool s2.1),(6,.int .i64 s1.2.1),(7,(sv v1)),(8,.int .i64 s2.2.1)] ∧ Sep S w W' [rowV (sv v1) 3 1 (D.int .i64) y5,rowV (sv v_1) 4 1 D.bool s2.2.2]) (fun y7 x E' W'=>x = .exit 2 ∧ SubL E' [(0,(sv v_0)),(1,(sv v_1)),(5,.bool y7.1),(6,.int .i64 s1.2.1)] ∧ Sep S w W' [rowV (sv v1) 3 1 (D.int .i64) y5,rowV (sv v_1) 4 1 D.bool y7.2]) hy6 ⟨sb z,hS.to [0,0] z⟩ ?_) ?_
    ·intro s2 y8 E W h hI
     obtain ⟨hE,hS⟩:=hI
     refine CW.sub hE ?_
     unfold f7s at h
     refine .seq (.g (.q z (.q z (.s (lenv hS.lendv T.u25 z z) z (.q z (.nil ?_))))))
     refine .cs z h ?_ ?_ <;> intro h
     ·refine .skip ?_
      have ⟨y9,hy9,h⟩:=bnd h
      refine .seq (CW.via (R':=fun x E' W'=>x = .normal ∧ SubL E' [(0,(sv v_0)),(1,(sv v_1)),(5,.bool y9.1),(6,.int .i64 s1.2.1),(7,(sv v1)),(8,.int .i64 s2.2.1)] ∧ Sep S w W' [rowV (sv v1) 3 1 (D.int .i64) y5,rowV (sv v_1) 4 1 D.bool y9.2]) ?_ ?_)
      ·have h:=hy9
       refine .block (.g (.q z (.q z (.q z ?_))))
       have ⟨x2,hx2,h⟩:=bnd h
       refine .s (ixv hS.lendv hx2 T.u25 T.t3 z z z) z (.s (lde (RV.flat hS.lendv hx2 z) T.t3 z z z z z) z ?_)
       have ⟨x3,hx3,h⟩:=bnd h
       refine .s (ixv hS.p1.lendv hx3 T.u55 T.t4 z z z) z (.s (lde (RV.flat hS.p1.lendv hx3 z) T.t4 z z z z z) z (.q z (.nil ?_)))
       refine .cs z h ?_ ?_ <;> intro h
       ·refine .g (.q z (.q z (.q z ?_)))
        have ⟨x4,hx4,h⟩:=bnd h
        refine .s (ixv hS.lendv hx4 T.u25 T.t3 z z z) z (.s (lde (RV.flat hS.lendv hx4 z) T.t3 z z z z z) z ?_)
        have ⟨x5,hx5,h⟩:=bnd h
        refine .s (ixv hS.p1.lendv hx5 T.u55 T.t4 z z z) z ?_
        have ⟨r1,hr1,h⟩:=bnd h
        refine .c (.sev hr1 hx5 hS.p1 T.t4 z z z z z z ?_ z z z z z z)
        intro W hS
        refine .nil (.region (.q z (.nil ?_)))
        cases h
        exact ⟨z,sb z,hS.to [1,0] z⟩
       refine .skip ?_
       cases h
       exact ⟨z,sb z,hS.to [0,0] z⟩
      intro x E W hJ
      obtain ⟨rfl,hE,hS⟩:=hJ
      refine ⟨_,hE.sub,?_⟩
      refine .region (.q z (.q z (.q z (.nil ?_))))
      cases h
      exact ⟨z,sb z,hS.to [0,0] z⟩
     refine .exit ?_
     cases h
     exact ⟨by simp,z,sb z,hS.to [0,0] z⟩
    intro x E W hJ
    obtain ⟨rfl,hE,hS⟩:=hJ
    refine ⟨_,hE.sub,?_⟩
    cases h
    exact ⟨z,sb z,hS.to [1] z⟩
   intro x E W hJ
   obtain ⟨rfl,hE,hS⟩:=hJ
   refine ⟨_,hE.sub,?_⟩
   refine .region (.q z (.q z (.q z (.nil ?_))))
   cases h
   exact ⟨z,sb z,hS.to [0] z⟩
  refine .exit ?_
  cases h
  exact ⟨by simp,z,sb z,hS.to [0] z⟩
 intro x E W hJ
 obtain ⟨rfl,hE,hS⟩:=hJ
 refine ⟨_,hE.sub,?_⟩
 cases h
 exact .g (.q z (.qn z (.ret (fin_ret (vs:=[_]) () (rt z rn) z (hS.to [0] z)))))
theorem fc0 {a0 : List Quad} {v_0 : Hd} {w : World} {r : (List Bool)} (h : f52 a0 = some r) (q_0 : RV w (Old No w) (sv v_0) 126 5 dQuad a0) : Calls Tryz.prog 189 #[(sv v_0)] w (Ret No w (fun s : Hd=>(sv s)) (fun s=>[rowV (sv s) 4 1 D.bool r])):=by
 unfold f52 at h
 refine enter Tryz.func189 z z ?_
 have hS:=Sep.start w
 refine .g (.qn z (.seq (.g (.q z ?_))))
 have ⟨y1,hy1,h⟩:=bnd h
 refine .c (.call0 hS Tryz.func151 (f10 hy1 (hS.keep q_0)) z z ?_ z z z z)
 intro W hS
 refine .qn z (.cond z (fun hb=>?_) (fun hb=>?_))
 ·have h:=sel_t hb h
  refine .g (.c (.liv [] D.bool T.u55 T.t4 hS z z z z ?_ z (fun _=>z) z z z z))
  intro v1 W hS
  cases h
  exact .qn z (.ret (fin_ret (vs:=[_]) v1 (rt z rn) z (hS.to [0] z)))
 have h:=sel_f hb h
 refine .skip (.g (.q z (.s (lenv (hS.keep q_0) T.u104 z z) z ?_)))
 have ⟨r1,hr1,h⟩:=bnd h
 refine .c (.mkv false D.bool hr1 T.u55 T.t4 hS z z z z z (fun _=>z) ?_ z z z)
 intro v2 W hS
 refine .qn z (.g (.q z ?_))
 have ⟨x1,hx1,h⟩:=bnd h
 refine .s (ixv hS.lendv hx1 T.u55 T.t4 z z z) z ?_
 have ⟨r2,hr2,h⟩:=bnd h
 refine .c (.sev hr2 hx1 hS T.t4 z z z z z z ?_ z z z z z z)
 intro W hS
 refine .nil (.seq (.block ?_))
 have ⟨y2,hy2,h⟩:=bnd h
 refine .via (.iter (fun s1 E' W'=>SubL E' [(0,(sv v_0)),(3,(sv v2))] ∧ Sep No w W' [rowV (sv v2) 4 1 D.bool s1]) (fun y3 x E' W'=>x = .exit 0 ∧ SubL E' [(3,(sv v2))] ∧ Sep No w W' [rowV (sv v2) 4 1 D.bool y3]) hy2 ⟨sb z,hS.to [0] z⟩ ?_) ?_
 ·intro s1 y4 E W h hI
  obtain ⟨hE,hS⟩:=hI
  refine CW.sub hE ?_
  unfold f7y at h
  refine .seq (.g (.q z (.q z ?_)))
  have ⟨y5,hy5,h⟩:=bnd h
  refine .c (.callS2 (L0:=[rowV (sv v2) 4 1 D.bool s1]) hS Tryz.func207 (fun S h1 h2 h3=>(fbw hy5 (hS.keepS q_0 h1) h2 (zz h1))) z z ?_ z z z z)
  rintro ⟨⟩ W hS
  refine .nil ?_
  refine .cs z h ?_ ?_ <;> intro h
  ·refine .skip (.block (.skip ?_))
   cases h
   exact ⟨z,sb z,hS.to [0] z⟩
  refine .exit ?_
  cases h
  exact ⟨by simp,z,sb z,hS.to [0] z⟩
 intro x E W hJ
 obtain ⟨rfl,hE,hS⟩:=hJ
 refine ⟨_,hE.sub,?_⟩
 obtain rfl:=Option.some.inj h
 exact .g (.q z (.qn z (.ret (fin_ret (vs:=[_]) v2 (rt z rn) z (hS.to [0] z)))))
theorem fdt {a0 : Quad} {a1 : Int} {w : World} {r : Bool} (h : f76 a0 a1 = some r) : Calls Tryz.prog 190 #[.agg #[.int .i64 a0.Op,.int .i64 a0.Dst,.int .i64 a0.A,.int .i64 a0.B,.int .i64 a0.N],.int .i64 a1] w (Ret No w (fun s : Unit=>.bool r) (fun s=>[])):=by
 unfold f76 at h
 refine enter Tryz.func190 z z ?_
 have hS:=Sep.start w
 refine .g (.c (.box hS z z ?_ z z))
 intro g1 W hS
 refine .qn z (.seq (.g (.s (fa T.f126_0 z z z) z (.s (ld T.t3 hS z z z z z) z (.nil (.block ?_))))))
 have ⟨y1,hy1,h⟩:=bnd h
 refine .seq (CW.via (R':=fun x E' W'=>x = .normal ∧ SubL E' [(1,.int .i64 a1),(2,.pointer (some ⟨g1,0,none⟩)),(6,.int .i64 a0.Op),(7,.bool y1)] ∧ Sep No w W' [.box g1 126 [.int .i64 a0.Op,.int .i64 a0.Dst,.int .i64 a0.A,.int .i64 a0.B,.int .i64 a0.N]]) ?_ ?_)
 ·have h:=hy1
  refine .g (.q z (.q z (.nil ?_)))
  refine .cs z h ?_ ?_ <;> intro h
  ·refine .skip ?_
   cases h
   exact ⟨z,sb z,hS.to [0] z⟩
  refine .region (.q z (.q z (.nil ?_)))
  cases h
  exact ⟨z,sb z,hS.to [0] z⟩
 intro x E W hJ
 obtain ⟨rfl,hE,hS⟩:=hJ
 refine ⟨_,hE.sub,?_⟩
 refine .cs z h ?_ ?_ <;> intro h
 ·cases h
  exact .g (.s (fa T.f126_4 z z z) z (.s (ld T.t3 hS z z z z z) z (.q z (.q z (.q z (.qn z (.ret (fin_ret (vs:=[_]) () (rt z rn) z (hS.to [] z)))))))))
 refine .g (.q z (.q z (.nil ?_)))
 refine .cs z h ?_ ?_ <;> intro h
 ·cases h
  exact .g (.s (fa T.f126_1 z z z) z (.s (ld T.t3 hS z z z z z) z (.s (fa T.f126_2 z z z) z (.s (ld T.t3 hS z z z z z) z (.q z (.qn z (.ret (fin_ret (vs:=[_]) () (rt z rn) z (hS.to [] z)))))))))
 obtain rfl:=Option.some.inj h
 exact .skip (.g (.qn z (.ret (fin_ret (vs:=[_]) () (rt z rn) z (hS.to [] z)))))
theorem fce {a0 : List Bool} {a1 : Int} {v_0 : Hd} {w : World} {r : Int} (h : f60 a0 a1 = some r) (q_0 : RV w (Old No w) (sv v_0) 4 1 D.bool a0) : Calls Tryz.prog 191 #[(sv v_0),.int .i64 a1] w (Ret No w (fun s : Unit=>.int .i64 r) (fun s=>[])):=by
 unfold f60 at h
 refine enter Tryz.func191 z z ?_
 have hS:=Sep.start w
 refine .g (.qn z (.g (.qn z (.seq (.g (.qn z (.block ?_)))))))
 have ⟨y1,hy1,h⟩:=bnd h
 refine .via (.iter (fun s1 E' W'=>SubL E' [(0,(sv v_0)),(1,.int .i64 a1),(5,.int .i64 s1.1),(6,.int .i64 s1.2)] ∧ Sep No w W' []) (fun y2 x E' W'=>x = .exit 0 ∧ SubL E' [(5,.int .i64 y2)] ∧ Sep No w W' []) hy1 ⟨sb z,hS.to [] z⟩ ?_) ?_
 ·intro s1 y3 E W h hI
  obtain ⟨hE,hS⟩:=hI
  refine CW.sub hE ?_
  unfold f8s at h
  refine .seq (.g (.q z (.q z (.q z (.nil ?_)))))
  refine .cs z h ?_ ?_ <;> intro h
  ·refine .skip ?_
   have ⟨y4,hy4,h⟩:=bnd h
   refine .seq (CW.via (R':=fun x E' W'=>x = .normal ∧ SubL E' [(0,(sv v_0)),(1,.int .i64 a1),(5,.int .i64 y4),(6,.int .i64 s1.2)] ∧ Sep No w W' []) ?_ ?_)
   ·have h:=hy4
    refine .block (.g (.q z (.q z ?_)))
    have ⟨x1,hx1,h⟩:=bnd h
    refine .s (ixv (hS.keep q_0) hx1 T.u55 T.t4 z z z) z (.s (lde (RV.flat (hS.keep q_0) hx1 z) T.t4 z z z z z) z (.nil ?_))
    refine .cs z h ?_ ?_ <;> intro h
    ·refine .region (.q z (.q z (.q z (.nil ?_))))
     cases h
     exact ⟨z,sb z,hS.to [] z⟩
    refine .skip ?_
    cases h
    exact ⟨z,sb z,hS.to [] z⟩
   intro x E W hJ
   obtain ⟨rfl,hE,hS⟩:=hJ
   refine ⟨_,hE.sub,?_⟩
   refine .region (.q z (.q z (.q z (.nil ?_))))
   cases h
   exact ⟨z,sb z,hS.to [] z⟩
  refine .exit ?_
  cases h
  exact ⟨by simp,z,sb z,hS.to [] z⟩
 intro x E W hJ
 obtain ⟨rfl,hE,hS⟩:=hJ
 refine ⟨_,hE.sub,?_⟩
 obtain rfl:=Option.some.inj h
 exact .g (.q z (.qn z (.ret (fin_ret (vs:=[_]) () (rt z rn) z (hS.to [] z)))))
theorem fbh {a0 : List Quad} {v_0 : Hd} {w : World} {r : (List Quad) × Bool} (h : f4c a0 = some r) (q_0 : RV w (Old No w) (sv v_0) 126 5 dQuad a0) : Calls Tryz.prog 170 #[(sv v_0)] w (Ret No w (fun s : Hd=>.tuple #[(sv s),.bool r.2]) (fun s=>[rowV (sv s) 126 5 dQuad r.1])):=by
 unfold f4c at h
 refine enter Tryz.func170 z z ?_
 have hS:=Sep.start w
 refine .g (.q z (.qn z (.g (.c (.liv [] dQuad T.u104 T.t126 hS z z z z ?_ z (fun _=>z) z z z z)))))
 intro v1 W hS
 refine .qn z (.seq (.g (.q z ?_)))
 have ⟨y1,hy1,h⟩:=bnd h
 refine .c (.call0 hS Tryz.func151 (f10 hy1 (hS.keep q_0)) z z ?_ z z z z)
 intro W hS
 refine .q z (.nil ?_)
 refine .cs z h ?_ ?_ <;> intro h
 ·cases h
  exact .g (.q z (.q z (.qn z (.ret (fin_ret (vs:=[_,_]) v1 (rt z (rt z rn)) z (hS.to [0] z))))))
 refine .skip (.g (.q z ?_))
 have ⟨y2,hy2,h⟩:=bnd h
 refine .c (.call1v hS Tryz.func189 (fc0 hy2 (hS.keep q_0)) z z ?_ z z z z)
 intro v2 W hS
 refine .qn z (.seq (.g (.qn z (.block ?_))))
 have ⟨y3,hy3,h⟩:=bnd h
 refine .via (.iter (fun s1 E' W'=>SubL E' [(0,(sv v_0)),(4,(sv v1)),(5,(sv v2)),(6,.int .i64 s1.1)] ∧ Sep No w W' [rowV (sv v2) 4 1 D.bool s1.2,rowV (sv v1) 126 5 dQuad []]) (fun y4 x E' W'=>x = .exit 0 ∧ SubL E' [(0,(sv v_0)),(4,(sv v1)),(5,(sv v2))] ∧ Sep No w W' [rowV (sv v2) 4 1 D.bool y4,rowV (sv v1) 126 5 dQuad []]) hy3 ⟨sb z,hS.to [0,0] z⟩ ?_) ?_
 ·intro s1 y5 E W h hI
  obtain ⟨hE,hS⟩:=hI
  refine CW.sub hE ?_
  unfold f6o at h
  refine .seq (.g (.q z (.q z (.s (lenv (hS.keep q_0) T.u104 z z) z (.q z (.nil ?_))))))
  refine .cs z h ?_ ?_ <;> intro h
  ·refine .skip (.seq (.block (.region (.q z (.q z (.q z (.q z ?_)))))))
   have ⟨x1,hx1,h⟩:=bnd h
   refine .s (ixv hS.lendv hx1 T.u55 T.t4 z z z) z (.s (lde (RV.flat hS.lendv hx1 z) T.t4 z z z z z) z (.q z ?_))
   have ⟨b1,hb1,h⟩:=bnd h
   refine .chunk 8 36 (b1) hS ?_ ?_
   ·refine .both (x1) (fun hb=>?_) (fun hb=>?_)
    ·have hg1:=hb
     have h:=sel_t hb hb1
     refine .g hg1 (.q z (.g hg1 (.q z ?_) z)) z
     have ⟨x2,hx2,h⟩:=bnd h
     refine .g hg1 (.s (ixv (hS.keep q_0) hx2 T.u104 T.t126 z z z) z (.g hg1 (.s (lde (RV.flat (hS.keep q_0) hx2 z) T.t126 z z z z z) z (.g hg1 (.q z ?_) z)) z)) z
     have ⟨y6,hy6,h⟩:=bnd h
     refine .g hg1 (.c (.call0 hS Tryz.func190 (fdt hy6) z z ?_ z z z z)) z
     intro W hS
     refine .g hg1 (.q z (.s (pkt hg1 z z z) z ?_)) z
     cases h
     exact .nil (ck 8 hS z z z z)
    refine .xx hb z (.xx hb z (.xx hb z (.xx hb z (.xx hb z (.xx hb z (.xx hb z ?_))))))
    cases sel_f hb hb1
    exact .s (pkf hb z z z) z (.nil (ck 8 hS z z z z))
   intro W hS
   have ⟨x3,hx3,h⟩:=bnd h
   refine .s (ixv hS.lendv hx3 T.u55 T.t4 z z z) z ?_
   have ⟨r1,hr1,h⟩:=bnd h
   refine .c (.sev hr1 hx3 hS T.t4 z z z z z z ?_ z z z z z z)
   intro W hS
   refine .nil (.region (.q z (.q z (.q z (.nil ?_)))))
   cases h
   exact ⟨z,sb z,hS.to [0,0] z⟩
  refine .exit ?_
  cases h
  exact ⟨by simp,z,sb z,hS.to [0,0] z⟩
 intro x E W hJ
 obtain ⟨rfl,hE,hS⟩:=hJ
 refine ⟨_,hE.sub,?_⟩
 refine .seq (.g (.qn z (.block ?_)))
 have ⟨y7,hy7,h⟩:=bnd h
 refine .via (.iter (fun s2 E' W'=>∃ (v5 : Hd),SubL E' [(0,(sv v_0)),(4,(sv v5)),(5,(sv v2)),(7,.int .i64 s2.2)] ∧ Sep No w W' [rowV (sv v2) 4 1 D.bool y3,rowV (sv v5) 126 5 dQuad s2.1]) (fun y8 x E' W'=>x = .exit 2 ∧ ∃ (v6 : Hd),SubL E' [(4,(sv v6))] ∧ Sep No w W' [rowV (sv v2) 4 1 D.bool y3,rowV (sv v6) 126 5 dQuad y8]) hy7 ⟨v1,sb z,hS.to [0,0] z⟩ ?_) ?_
 ·intro s2 y9 E W h hI
  obtain ⟨v4,hE,hS⟩:=hI
  refine CW.sub hE ?_
  unfold f6n at h
  refine .seq (.g (.q z (.q z (.s (lenv (hS.keep q_0) T.u104 z z) z (.q z (.nil ?_))))))
  refine .cs z h ?_ ?_ <;> intro h
  ·refine .skip ?_
   have ⟨y10,hy10,h⟩:=bnd h
   refine .seq (CW.via (R':=fun x E' W'=>x = .normal ∧ ∃ (v7 : Hd),SubL E' [(0,(sv v_0)),(4,(sv v7)),(5,(sv v2)),(7,.int .i64 s2.2)] ∧ Sep No w W' [rowV (sv v2) 4 1 D.bool y3,rowV (sv v7) 126 5 dQuad y10]) ?_ ?_)
   ·have h:=hy10
    refine .block (.g (.q z (.q z ?_)))
    have ⟨x4,hx4,h⟩:=bnd h
    refine .s (ixv (hS.keep q_0) hx4 T.u104 T.t126 z z z) z (.s (lde (RV.flat (hS.keep q_0) hx4 z) T.t126 z z z z z) z (.c (.alloc T.t126 hS ?_ z z z)))
    intro g1 W hS
    refine .c (.st T.t126 hS z z z ?_ z z z z z)
    intro W hS
    refine .nil (.seq (.g (.q z (.q z ?_))))
    have ⟨x5,hx5,h⟩:=bnd h
    refine .s (ixv hS.p1.lendv hx5 T.u55 T.t4 z z z) z (.s (lde (RV.flat hS.p1.lendv hx5 z) T.t4 z z z z z) z (.q z (.nil ?_)))
    refine .cs z h ?_ ?_ <;> intro h
    ·refine .exit ?_
     cases h
     exact ⟨z,v4,sb z,hS.to [1,1] z⟩
    refine .skip ?_
    have ⟨y11,hy11,h⟩:=bnd h
    refine .seq (CW.via (R':=fun x E' W'=>x = .normal ∧ SubL E' [(0,(sv v_0)),(4,(sv v4)),(5,(sv v2)),(7,.int .i64 s2.2),(8,.pointer (some ⟨g1,0,none⟩))] ∧ Sep No w W' [.box g1 126 [.int .i64 y11.Op,.int .i64 y11.Dst,.int .i64 y11.A,.int .i64 y11.B,.int .i64 y11.N],rowV (sv v2) 4 1 D.bool y3,rowV (sv v4) 126 5 dQuad s2.1]) ?_ ?_)
    ·have h:=hy11
     refine .g (.s (fa T.f126_0 z z z) z (.s (ld T.t3 hS z z z z z) z (.q z (.q z (.chunk 4 60 ((x4.Op == 4) || (x4.Op == 5)) hS ?_ ?_)))))
     ·refine .both (x4.Op == 4) (fun hb=>?_) (fun hb=>?_)
      ·exact .xx hb z (.xx hb z (.xx hb z (.s (pkt hb z z z) z (.nil (ck 4 hS z (or_t hb) z z)))))
      have hg2:=hb
      exact .g hg2 (.s (fa T.f126_0 z z z) z (.g hg2 (.s (ld T.t3 hS z z z z z) z (.g hg2 (.q z (.s (pkf hg2 z z z) z (.nil (ck 4 hS z (or_f hg2) z z)))) z)) z)) z
     intro W hS
     refine .nil ?_
     refine .cs z h ?_ ?_ <;> intro h
     ·refine .region (.q z (.s (fa T.f126_4 z z z) z (.s (ld T.t3 hS z z z z z) z ?_)))
      have ⟨y12,hy12,h⟩:=bnd h
      refine .c (.call0 hS Tryz.func191 (fce hy12 hS.p1.lendv) z z ?_ z z z z)
      intro W hS
      refine .s (fa T.f126_4 z z z) z (.c (.st T.t3 hS z z z ?_ z z z z z))
      intro W hS
      refine .nil ?_
      cases h
      exact ⟨z,sb z,hS.to [0,0,0] z⟩
     refine .skip ?_
     obtain rfl:=Option.some.inj h
     exact ⟨z,sb z,hS.to [0,0,0] z⟩
    intro x E W hJ
    obtain ⟨rfl,hE,hS⟩:=hJ
    refine ⟨_,hE.sub,?_⟩
    refine .region (.q z (.s (ld T.t126 hS z z z z z) z (.c (.liv [y11] dQuad T.u104 T.t126 hS z z z z ?_ z (fun _=>z) z z z z))))
    intro v8 W hS
    have ⟨r2,hr2,h⟩:=bnd h
    have hT0:=hS.p3
    refine .c (.apprv hr2 hT0 hT0.p1.lendv (fun _=>z) T.u104 T.t126 z z z ?_ z z z z z)
    intro v9 W hS
    refine .q z (.nil ?_)
    obtain rfl:=Option.some.inj h
    exact ⟨z,v9,sb z,hS.to [3,0] z⟩
   intro x E W hJ
   obtain ⟨rfl,v10,hE,hS⟩:=hJ
   refine ⟨_,hE.sub,?_⟩
   refine .region (.q z (.q z (.q z (.nil ?_))))
   cases h
   exact ⟨z,v10,sb z,hS.to [0,0] z⟩
  refine .exit ?_
  cases h
  exact ⟨by simp,z,v4,sb z,hS.to [0,0] z⟩
 intro x E W hJ
 obtain ⟨rfl,v11,hE,hS⟩:=hJ
 refine ⟨_,hE.sub,?_⟩
 cases h
 exact .g (.q z (.q z (.qn z (.ret (fin_ret (vs:=[_,_]) v11 (rt z (rt z rn)) z (hS.to [1] z))))))
theorem fdj {a0 : List Quad} {v_0 : Hd} {w : World} {r : (List Quad)} (h : f6y a0 = some r) (q_0 : RV w (Old No w) (sv v_0) 126 5 dQuad a0) : Calls Tryz.prog 152 #[(sv v_0)] w (Ret No w (fun s : Hd=>(sv s)) (fun s=>[rowV (sv s) 126 5 dQuad r])):=by
 unfold f6y at h
 refine enter Tryz.func152 z z ?_
 have hS:=Sep.start w
 refine .g (.qn z (.g (.q z ?_)))
 have ⟨y1,hy1,h⟩:=bnd h
 refine .c (.call1v hS Tryz.func166 (fcd hy1 (hS.keep q_0)) z z ?_ z z z z)
 intro v1 W hS
 refine .q z (.q z (.q z (.q z (.qn z (.g (.q z ?_))))))
 have ⟨y2,hy2,h⟩:=bnd h
 refine .c (.call1v hS Tryz.func167 (fc4 hy2 hS.lendv) z z ?_ z z z z)
 intro v2 W hS
 refine .q z (.q z (.q z (.q z (.qn z (.g (.q z ?_))))))
 have ⟨y3,hy3,h⟩:=bnd h
 refine .c (.call1v hS Tryz.func168 (fc8 hy3 hS.lendv) z z ?_ z z z z)
 intro v3 W hS
 refine .q z (.q z (.q z (.q z (.qn z (.g (.q z ?_))))))
 have ⟨y4,hy4,h⟩:=bnd h
 refine .c (.call1v hS Tryz.func169 (fcl hy4 hS.lendv) z z ?_ z z z z)
 intro v4 W hS
 refine .q z (.q z (.q z (.q z (.qn z (.g (.q z ?_))))))
 have ⟨y5,hy5,h⟩:=bnd h
 refine .c (.call1v hS Tryz.func170 (fbh hy5 hS.lendv) z z ?_ z z z z)
 intro v5 W hS
 cases h
 exact .q z (.q z (.q z (.q z (.qn z (.g (.q z (.qn z (.ret (fin_ret (vs:=[_]) v5 (rt z rn) z (hS.to [0] z))))))))))
theorem fb2 {a0 : List Quad} {a1 : Int} {v_0 : Hd} {w : World} {r : (List Quad) × Bool} (h : f3o a0 a1 = some r) (q_0 : RV w (Old No w) (sv v_0) 126 5 dQuad a0) : Calls Tryz.prog 122 #[(sv v_0),.int .i64 a1] w (Ret No w (fun s : Hd=>.tuple #[(sv s),.bool r.2]) (fun s=>[rowV (sv s) 126 5 dQuad r.1])):=by
 unfold f3o at h
 refine enter Tryz.func122 z z ?_
 have hS:=Sep.start w
 refine .g (.q z (.qn z (.seq (.g (.q z ?_)))))
 have ⟨y1,hy1,h⟩:=bnd h
 refine .c (.call0 hS Tryz.func151 (f10 hy1 (hS.keep q_0)) z z ?_ z z z z)
 intro W hS
 refine .q z (.q z ?_)
 have ⟨b1,hb1,h⟩:=bnd h
 refine .chunk 4 15 (b1) hS ?_ ?_
 ·refine .both (!y1) (fun hb=>?_) (fun hb=>?_)
  ·refine .xx hb z (.xx hb z (.xx hb z ?_))
   cases sel_t hb hb1
   exact .s (pkt hb z z z) z (.nil (ck 4 hS z z z z))
  have hg1:=hb
  have h:=sel_f hb hb1
  refine .g hg1 (.q z ?_) z
  have ⟨y2,hy2,h⟩:=bnd h
  refine .g hg1 (.c (.call0 hS Tryz.func48 (f08 hy2) z z ?_ z z z z)) z
  intro W hS
  refine .g hg1 (.q z (.s (pkf hg1 z z z) z ?_)) z
  cases h
  exact .nil (ck 4 hS z z z z)
 intro W hS
 refine .nil ?_
 refine .cs z h ?_ ?_ <;> intro h
 ·refine .g (.c (.liv [] dQuad T.u104 T.t126 hS z z z z ?_ z (fun _=>z) z z z z))
  intro v1 W hS
  cases h
  exact .q z (.qn z (.ret (fin_ret (vs:=[_,_]) v1 (rt z (rt z rn)) z (hS.to [0] z))))
 refine .skip (.g (.c (.liv [] dQuad T.u104 T.t126 hS z z z z ?_ z (fun _=>z) z z z z)))
 intro v2 W hS
 refine .q z ?_
 have ⟨r1,hr1,h⟩:=bnd h
 refine .c (.apprv hr1 hS (hS.keep q_0) (fun _=>z) T.u104 T.t126 z z z ?_ z z z z z)
 intro v3 W hS
 refine .qn z (.seq (.g (.qn z (.block ?_))))
 have ⟨y3,hy3,h⟩:=bnd h
 refine .via (.iter (fun s1 E' W'=>∃ (v6 : Hd),SubL E' [(1,.int .i64 a1),(6,(sv v6)),(7,.int .i64 s1.2)] ∧ Sep No w W' [rowV (sv v6) 126 5 dQuad s1.1]) (fun y4 x E' W'=>x = .exit 0 ∧ ∃ (v7 : Hd),SubL E' [(6,(sv v7))] ∧ Sep No w W' [rowV (sv v7) 126 5 dQuad y4]) hy3 ⟨v3,sb z,hS.to [0] z⟩ ?_) ?_
 ·intro s1 y5 E W h hI
  obtain ⟨v5,hE,hS⟩:=hI
  refine CW.sub hE ?_
  unfold f5w at h
  refine .seq (.g (.q z (.q z (.q z (.nil ?_)))))
  refine .cs z h ?_ ?_ <;> intro h
  ·refine .skip (.seq (.block (.region (.q z ?_))))
   have ⟨y6,hy6,h⟩:=bnd h
   refine .c (.call1v hS Tryz.func152 (fdj hy6 hS.lendv) z z ?_ z z z z)
   intro v8 W hS
   refine .qn z (.region (.q z (.q z (.q z (.nil ?_)))))
   cases h
   exact ⟨z,v8,sb z,hS.to [0] z⟩
  refine .exit ?_
  cases h
  exact ⟨by simp,z,v5,sb z,hS.to [0] z⟩
 intro x E W hJ
 obtain ⟨rfl,v9,hE,hS⟩:=hJ
 refine ⟨_,hE.sub,?_⟩
 cases h
 exact .g (.q z (.q z (.qn z (.ret (fin_ret (vs:=[_,_]) v9 (rt z (rt z rn)) z (hS.to [0] z))))))
theorem fdx {k : Nat} {a0 : L6Rd} {v_0_b : Hd} {g_0 : Nat} {S : Nat → Prop} {w : World} {r : (List Quad) × Int} (h : f75 k a0 = some r) (q_0_b : RV w (Old S w) (sv v_0_b) 5 1 (D.int .u8) a0.b) (hO : Owns w [.box g_0 100 [(sv v_0_b),.int .i64 a0.p]] S) (hlt : ∀ b,S b → b < w.heap.size) : Calls Tryz.prog 99 #[.pointer (some ⟨g_0,0,none⟩)] w (Ret S w (fun s : Hd=>(sv s)) (fun s=>[.box g_0 100 [(sv v_0_b),.int .i64 r.2],rowV (sv s) 126 5 dQuad r.1])):=by
 unfold f75 at h
 refine enter Tryz.func99 z z ?_
 have hS:=Sep.startM hO hlt
 refine .g (.qn z (.seq (.g (.q z ?_))))
 have ⟨y1,hy1,h⟩:=bnd h
 refine .c (.callS2 (L0:=[.box g_0 100 [(sv v_0_b),.int .i64 a0.p]]) hS Tryz.func36 (fun S h1 h2 h3=>(f00 hy1 (hS.keepS q_0_b h1) h2 (zz h1))) z z ?_ z z z z)
 rintro ⟨⟩ W hS
 refine .qn z (.cond z (fun hb=>?_) (fun hb=>?_))
 ·have h:=sel_t hb h
  refine .g (.q z ?_)
  have ⟨y2,hy2,h⟩:=bnd h
  refine .c (.callS2 (L0:=[.box g_0 100 [(sv v_0_b),.int .i64 y1.2]]) hS Tryz.func119 (fun S h1 h2 h3=>(fa3 hy2 (hS.keepS q_0_b h1) h2 (zz h1))) z z ?_ z z z z)
  rintro v1 W hS
  cases h
  exact .qn z (.ret (fin_ret (vs:=[_]) v1 (rt z rn) z (hS.to [0,0] z)))
 have h:=sel_f hb h
 refine .skip (.g (.q z ?_))
 have ⟨y3,hy3,h⟩:=bnd h
 refine .c (.callS2 (L0:=[.box g_0 100 [(sv v_0_b),.int .i64 y1.2]]) hS Tryz.func121 (fun S h1 h2 h3=>(fcy hy3 (hS.keepS q_0_b h1) h2 (zz h1))) z z ?_ z z z z)
 rintro v2 W hS
 have ⟨y4,hy4,h⟩:=bnd h
 refine .c (.call1v hS Tryz.func120 (fbf hy4 hS.p1.lendv) z z ?_ z z z z)
 intro v3 W hS
 refine .q z (.q z (.q z (.q z (.qn z (.seq (.g (.q z (.s (lenv hS.lendv T.u104 z z) z (.qn z (.cond z (fun hb=>?_) (fun hb=>?_)))))))))))
 ·have h:=sel_t hb h
  refine .g (.q z ?_)
  have ⟨y5,hy5,h⟩:=bnd h
  have hS:=hS.p1
  refine .c (.callS2 (L0:=[.box g_0 100 [(sv v_0_b),.int .i64 y3.2]]) hS Tryz.func119 (fun S h1 h2 h3=>(fa3 hy5 (hS.keepS q_0_b h1) h2 (zz h1))) z z ?_ z z z z)
  rintro v4 W hS
  cases h
  exact .qn z (.ret (fin_ret (vs:=[_]) v4 (rt z rn) z (hS.to [0,0] z)))
 have h:=sel_f hb h
 refine .skip (.g (.q z (.q z ?_)))
 have ⟨y6,hy6,h⟩:=bnd h
 have hS:=hS.p1
 refine .c (.callS2 (L0:=[.box g_0 100 [(sv v_0_b),.int .i64 y3.2]]) hS Tryz.func36 (fun S h1 h2 h3=>(f00 hy6 (hS.keepS q_0_b h1) h2 (zz h1))) z z ?_ z z z z)
 rintro ⟨⟩ W hS
 refine .q z ?_
 have ⟨y7,hy7,h⟩:=bnd h
 refine .c (.call1v hS Tryz.func122 (fb2 hy7 hS.p1.lendv) z z ?_ z z z z)
 intro v5 W hS
 cases h
 exact .q z (.q z (.q z (.q z (.qn z (.g (.q z (.qn z (.ret (fin_ret (vs:=[_]) v5 (rt z rn) z (hS.to [1,0] z))))))))))
theorem fcr {k : Nat} {a0 : L6Rd} {v_0_b : Hd} {g_0 : Nat} {S : Nat → Prop} {w : World} {r : (List (List Quad)) × Int} (h : f61 k a0 = some r) (q_0_b : RV w (Old S w) (sv v_0_b) 5 1 (D.int .u8) a0.b) (hO : Owns w [.box g_0 100 [(sv v_0_b),.int .i64 a0.p]] S) (hlt : ∀ b,S b → b < w.heap.size) : Calls Tryz.prog 65 #[.pointer (some ⟨g_0,0,none⟩)] w (Ret S w (fun s : Hd=>(sv s)) (fun s=>[.box g_0 100 [(sv v_0_b),.int .i64 r.2],rowV (sv s) 104 1 (fun (l : List Quad)=>D.row 126 5 (l.map dQuad)) r.1])):=by
 unfold f61 at h
 refine enter Tryz.func65 z z ?_
 have hS:=Sep.startM hO hlt
 refine .g (.qn z (.g (.c (.ligv (L1:=[]) [] (fun (l : List Quad)=>D.row 126 5 (l.map dQuad)) T.u101 T.t104 (hS.to [0] z) z z z (.nil) ?_ z (fun _=>z) z z z z z))))
 intro v1 W hS
 refine .qn z (.g (.q z ?_))
 have ⟨y1,hy1,h⟩:=bnd h
 have hS:=hS.p1
 refine .c (.callS2 (L0:=[.box g_0 100 [(sv v_0_b),.int .i64 a0.p]]) hS Tryz.func36 (fun S h1 h2 h3=>(f00 hy1 (hS.keepS q_0_b h1) h2 (zz h1))) z z ?_ z z z z)
 rintro ⟨⟩ W hS
 refine .q z (.qn z (.seq (.g (.qn z (.block ?_)))))
 have ⟨y2,hy2,h⟩:=bnd h
 refine .via (.iter (fun s1 E' W'=>∃ (v4 : Hd),SubL E' [(0,.pointer (some ⟨g_0,0,none⟩)),(3,(sv v4)),(4,.int .i64 (w64 (1 + y1.1))),(5,.int .i64 s1.2.1)] ∧ Sep S w W' [.box g_0 100 [(sv v_0_b),.int .i64 s1.2.2],rowV (sv v4) 104 1 (fun (l : List Quad)=>D.row 126 5 (l.map dQuad)) s1.1]) (fun y3 x E' W'=>x = .exit 0 ∧ ∃ (v5 : Hd),SubL E' [(3,(sv v5))] ∧ Sep S w W' [.box g_0 100 [(sv v_0_b),.int .i64 y3.2],rowV (sv v5) 104 1 (fun (l : List Quad)=>D.row 126 5 (l.map dQuad)) y3.1]) hy2 ⟨v1,sb z,hS.to [0,0] z⟩ ?_) ?_
 ·intro s1 y4 E W h hI
  obtain ⟨v3,hE,hS⟩:=hI
  refine CW.sub hE ?_
  unfold f8h at h
  refine .seq (.g (.q z (.q z (.qn z (.cond z (fun hb=>?_) (fun hb=>?_))))))
  ·have h:=sel_t hb h
   refine .skip (.seq (.block (.region (.q z (.q z ?_)))))
   have ⟨y5,hy5,h⟩:=bnd h
   refine .c (.callS2 (L0:=[.box g_0 100 [(sv v_0_b),.int .i64 s1.2.2]]) hS Tryz.func99 (fun S h1 h2 h3=>(fdx hy5 (hS.keepS q_0_b h1) h2 (zz h1))) z z ?_ z z z z)
   rintro v6 W hS
   refine .c (.ligv (L1:=[rowV (sv v6) 126 5 dQuad y5.1]) [y5.1] (fun (l : List Quad)=>D.row 126 5 (l.map dQuad)) T.u101 T.t104 (hS.to [1,0,0] z) z z z (.row (.nil)) ?_ z (fun _=>z) z z z z z)
   intro v7 W hS
   have ⟨r1,hr1,h⟩:=bnd h
   refine .c (.appv hr1 (hS.to [2,0,0] z) T.u101 T.t104 z z z ?_ z z z z z)
   intro v8 W hS
   refine .qn z (.region (.q z (.q z (.q z (.nil ?_)))))
   cases h
   exact ⟨z,v8,sb z,hS.to [1,0] z⟩
  have h:=sel_f hb h
  refine .exit ?_
  cases h
  exact ⟨by simp,z,v3,sb z,hS.to [0,0] z⟩
 intro x E W hJ
 obtain ⟨rfl,v9,hE,hS⟩:=hJ
 refine ⟨_,hE.sub,?_⟩
 cases h
 exact .g (.q z (.qn z (.ret (fin_ret (vs:=[_]) v9 (rt z rn) z (hS.to [0,0] z)))))
theorem f2w {a0 : Int} {a1 : Int} {a2 : Int} {w : World} {r : Int} (h : f20 a0 a1 a2 = some r) : Calls Tryz.prog 123 #[.int .i64 a0,.int .i64 a1,.int .i64 a2] w (Ret No w (fun s : Unit=>.int .i64 r) (fun s=>[])):=by
 unfold f20 at h
 refine enter Tryz.func123 z z ?_
 have hS:=Sep.start w
 refine .g (.qn z (.seq (.g (.q z (.q z (.q z (.nil ?_)))))))
 refine .cs z h ?_ ?_ <;> intro h
 ·obtain rfl:=Option.some.inj h
  exact .g (.q z (.qn z (.ret (fin_ret (vs:=[_]) () (rt z rn) z (hS.to [] z)))))
 refine .skip (.g (.c (.liv [8,9,18,19,20,21,22,23] (D.int .i64) T.u25 T.t3 hS z z z z ?_ z (fun _=>z) z z z z)))
 intro v1 W hS
 refine .q z ?_
 have ⟨x1,hx1,h⟩:=bnd h
 obtain rfl:=Option.some.inj h
 exact .s (ixv hS.lendv hx1 T.u25 T.t3 z z z) z (.s (lde (RV.flat hS.lendv hx1 z) T.t3 z z z z z) z (.qn z (.ret (fin_ret (vs:=[_]) () (rt z rn) z (hS.to [] z)))))
theorem f5z {a0 : List Instr} {a1 : Int} {a2 : Int} {v_0 : Hd} {S : Nat → Prop} {w : World} {r : (List Instr)} (h : f2q a0 a1 a2 = some r) (hO : Owns w [rowV (sv v_0) 32 5 dInstr a0] S) (hlt : ∀ b,S b → b < w.heap.size) : Calls Tryz.prog 124 #[(sv v_0),.int .i64 a1,.int .i64 a2] w (Ret S w (fun s : Hd=>(sv s)) (fun s=>[rowV (sv s) 32 5 dInstr r])):=by
 unfold f2q at h
 refine enter Tryz.func124 z z ?_
 have hS:=Sep.startM hO hlt
 refine .g (.qn z (.seq (.g (.q z (.q z (.q z (.nil ?_)))))))
 refine .cs z h ?_ ?_ <;> intro h
 ·obtain rfl:=Option.some.inj h
  exact .g (.q z (.qn z (.ret (fin_ret (vs:=[_]) v_0 (rt z rn) z (hS.to [0] z)))))
 refine .skip (.g (.q z (.q z (.q z (.q z (.q z (.s (bs T.s32 z z) z (.c (.liv [(Instr.mk 16 0 2 7 (w64 (4 * (w64 (a1 - a2)))))] dInstr T.u23 T.t32 hS z z z z ?_ z (fun _=>z) z z z z)))))))))
 intro v1 W hS
 have ⟨r1,hr1,h⟩:=bnd h
 have hT0:=hS.p1
 refine .c (.apprv hr1 hT0 hT0.p1.lendv (fun _=>z) T.u23 T.t32 z z z ?_ z z z z z)
 intro v2 W hS
 obtain rfl:=Option.some.inj h
 exact .qn z (.ret (fin_ret (vs:=[_]) v2 (rt z rn) z (hS.to [0] z)))
theorem fac {a0 : Int} {w : World} {r : Int} (h : f2o a0 = some r) : Calls Tryz.prog 97 #[.int .i64 a0] w (Ret No w (fun s : Unit=>.int .i64 r) (fun s=>[])):=by
 unfold f2o at h
 refine enter Tryz.func97 z z ?_
 have hS:=Sep.start w
 refine .g (.qn z (.seq (.g (.q z ?_))))
 have ⟨y1,hy1,h⟩:=bnd h
 refine .c (.call0 hS Tryz.func94 (f4w hy1) z z ?_ z z z z)
 intro W hS
 refine .q z (.nil ?_)
 refine .cs z h ?_ ?_ <;> intro h
 ·cases h
  exact .g (.qn z (.ret (fin_ret (vs:=[_]) () (rt z rn) z (hS.to [] z))))
 refine .skip (.seq (.g (.q z (.q z (.nil ?_)))))
 refine .cs z h ?_ ?_ <;> intro h
 ·cases h
  exact .g (.q z (.q z (.qn z (.ret (fin_ret (vs:=[_]) () (rt z rn) z (hS.to [] z))))))
 obtain rfl:=Option.some.inj h
 exact .skip (.g (.q z (.qn z (.ret (fin_ret (vs:=[_]) () (rt z rn) z (hS.to [] z))))))
theorem f3a {a0 : Int} {w : World} {r : Int} (h : f0z a0 = some r) : Calls Tryz.prog 154 #[.int .i64 a0] w (Ret No w (fun s : Unit=>.int .i64 r) (fun s=>[])):=by
 unfold f0z at h
 refine enter Tryz.func154 z z ?_
 have hS:=Sep.start w
 refine .g (.qn z (.g (.qn z (.seq (.g (.qn z (.block ?_)))))))
 have ⟨y1,hy1,h⟩:=bnd h
 refine .via (.iter (fun s1 E' W'=>SubL E' [(0,.int .i64 a0),(3,.int .i64 s1.1),(4,.int .i64 s1.2)] ∧ Sep No w W' []) (fun y2 x E' W'=>x = .exit 0 ∧ SubL E' [(3,.int .i64 y2)] ∧ Sep No w W' []) hy1 ⟨sb z,hS.to [] z⟩ ?_) ?_
 ·intro s1 y3 E W h hI
  obtain ⟨hE,hS⟩:=hI
  refine CW.sub hE ?_
  unfold f3f at h
  refine .seq (.g (.q z (.q z (.q z (.nil ?_)))))
  refine .cs z h ?_ ?_ <;> intro h
  ·refine .skip (.seq (.block (.region (.q z (.q z (.qn z (.region (.q z (.q z (.q z (.nil ?_)))))))))))
   cases h
   exact ⟨z,sb z,hS.to [] z⟩
  refine .exit ?_
  cases h
  exact ⟨by simp,z,sb z,hS.to [] z⟩
 intro x E W hJ
 obtain ⟨rfl,hE,hS⟩:=hJ
 refine ⟨_,hE.sub,?_⟩
 obtain rfl:=Option.some.inj h
 exact .g (.q z (.qn z (.ret (fin_ret (vs:=[_]) () (rt z rn) z (hS.to [] z)))))
theorem f1h {a0 : Int} {a1 : Int} {a2 : Int} {w : World} {r : Int} (h : f06 a0 a1 a2 = some r) : Calls Tryz.prog 138 #[.int .i64 a0,.int .i64 a1,.int .i64 a2] w (Ret No w (fun s : Unit=>.int .i64 r) (fun s=>[])):=by
 unfold f06 at h
 refine enter Tryz.func138 z z ?_
 have hS:=Sep.start w
 refine .g (.qn z (.seq (.g (.q z ?_))))
 have ⟨y1,hy1,h⟩:=bnd h
 refine .c (.call0 hS Tryz.func48 (f08 hy1) z z ?_ z z z z)
 intro W hS
 refine .q z (.q z ?_)
 have ⟨b1,hb1,h⟩:=bnd h
 refine .chunk 4 14 (b1) hS ?_ ?_
 ·refine .both (!y1) (fun hb=>?_) (fun hb=>?_)
  ·refine .xx hb z (.xx hb z (.xx hb z ?_))
   cases sel_t hb hb1
   exact .s (pkt hb z z z) z (.nil (ck 4 hS z z z z))
  have hg1:=hb
  have h:=sel_f hb hb1
  refine .g hg1 (.q z ?_) z
  have ⟨y2,hy2,h⟩:=bnd h
  refine .g hg1 (.c (.call0 hS Tryz.func48 (f08 hy2) z z ?_ z z z z)) z
  intro W hS
  refine .g hg1 (.q z (.s (pkf hg1 z z z) z ?_)) z
  cases h
  exact .nil (ck 4 hS z z z z)
 intro W hS
 refine .q z ?_
 have ⟨b2,hb2,h⟩:=bnd h
 refine .chunk 6 21 (b2) hS ?_ ?_
 ·refine .both (b1) (fun hb=>?_) (fun hb=>?_)
  ·refine .xx hb z (.xx hb z (.xx hb z (.xx hb z (.xx hb z ?_))))
   cases sel_t hb hb2
   exact .s (pkt hb z z z) z (.nil (ck 6 hS z z z z))
  have hg2:=hb
  have h:=sel_f hb hb2
  refine .g hg2 (.q z (.g hg2 (.q z (.g hg2 (.q z ?_) z)) z)) z
  have ⟨y3,hy3,h⟩:=bnd h
  refine .g hg2 (.c (.call0 hS Tryz.func48 (f08 hy3) z z ?_ z z z z)) z
  intro W hS
  refine .g hg2 (.q z (.s (pkf hg2 z z z) z ?_)) z
  cases h
  exact .nil (ck 6 hS z z z z)
 intro W hS
 refine .nil ?_
 refine .cs z h ?_ ?_ <;> intro h
 ·cases h
  exact .g (.qn z (.ret (fin_ret (vs:=[_]) () (rt z rn) z (hS.to [] z))))
 refine .skip (.seq (.rk 8 hS [] T.mix ?_))
 intro W hS
 have hT:=hS.to [] z
 refine .tp 0 z z hT (by kernel_rfl) (.tp 1 z z hT (by kernel_rfl) (.tp 4 z z hT (by kernel_rfl) ?_))
 have ⟨y4,hy4,h⟩:=bnd h
 refine .by1 2 z (.call0 hS Tryz.func154 (f3a hy4) z z ?_ z z z z) (by kernel_rfl)
 intro W hS
 have hT:=hS.to [] z
 refine ⟨fun _=>hT,?_⟩
 have ⟨d1,hd1,h⟩:=bnd h
 refine .ts 3 z (fun W hT=>dq hd1 z z z) hT z (by kernel_rfl) ?_
 have ⟨y5,hy5,h⟩:=bnd h
 refine .by1 5 z (.call0 hS Tryz.func154 (f3a hy5) z z ?_ z z z z) (by kernel_rfl)
 intro W hS
 have hT:=hS.to [] z
 refine ⟨fun _=>hT,?_⟩
 have ⟨d2,hd2,h⟩:=bnd h
 obtain rfl:=Option.some.inj h
 exact .ts 6 z (fun W hT=>dr hd2 z z z) hT z (by kernel_rfl) (.tp 7 z z hT (by kernel_rfl) (.done (.ret (fin_ret (vs:=[_]) () (rt z rn) z (hS.to [] z))) (by kernel_rfl)))
theorem fbr {a0 : Int} {a1 : Int} {w : World} {r : Int} (h : f11 a0 a1 = some r) : Calls Tryz.prog 144 #[.int .i64 a0,.int .i64 a1] w (Ret No w (fun s : Unit=>.int .i64 r) (fun s=>[])):=by
 unfold f11 at h
 refine enter Tryz.func144 z z ?_
 have hS:=Sep.start w
 refine .g (.qn z (.seq (.g (.q z ?_))))
 have ⟨y1,hy1,h⟩:=bnd h
 refine .c (.call0 hS Tryz.func48 (f08 hy1) z z ?_ z z z z)
 intro W hS
 refine .q z (.q z ?_)
 have ⟨b1,hb1,h⟩:=bnd h
 refine .chunk 7 15 (b1) hS ?_ ?_
 ·refine .both (!y1) (fun hb=>?_) (fun hb=>?_)
  ·refine .xx hb z (.xx hb z (.xx hb z (.xx hb z (.xx hb z (.xx hb z ?_)))))
   cases sel_t hb hb1
   exact .s (pkt hb z z z) z (.nil (ck 7 hS z z z z))
  have hg1:=hb
  have h:=sel_f hb hb1
  refine .g hg1 (.q z (.g hg1 (.q z ?_) z)) z
  have ⟨y2,hy2,h⟩:=bnd h
  refine .g hg1 (.c (.call0 hS Tryz.func154 (f3a hy2) z z ?_ z z z z)) z
  intro W hS
  refine .g hg1 (.q z ?_) z
  have ⟨y3,hy3,h⟩:=bnd h
  refine .g hg1 (.c (.call0 hS Tryz.func48 (f08 hy3) z z ?_ z z z z)) z
  intro W hS
  refine .g hg1 (.q z (.s (pkf hg1 z z z) z ?_)) z
  cases h
  exact .nil (ck 7 hS z z z z)
 intro W hS
 refine .nil ?_
 refine .cs z h ?_ ?_ <;> intro h
 ·cases h
  exact .g (.qn z (.ret (fin_ret (vs:=[_]) () (rt z rn) z (hS.to [] z))))
 refine .skip (.seq (.g (.q z (.q z (.q z ?_)))))
 have ⟨y4,hy4,h⟩:=bnd h
 refine .c (.call0 hS Tryz.func154 (f3a hy4) z z ?_ z z z z)
 intro W hS
 refine .q z (.nil ?_)
 refine .cs z h ?_ ?_ <;> intro h
 ·refine .g (.q z (.q z ?_))
  have ⟨y5,hy5,h⟩:=bnd h
  refine .c (.call0 hS Tryz.func154 (f3a hy5) z z ?_ z z z z)
  intro W hS
  cases h
  exact .q z (.qn z (.ret (fin_ret (vs:=[_]) () (rt z rn) z (hS.to [] z))))
 obtain rfl:=Option.some.inj h
 exact .skip (.g (.q z (.qn z (.ret (fin_ret (vs:=[_]) () (rt z rn) z (hS.to [] z))))))
theorem fco {a0 : Int} {a1 : Int} {w : World} {r : (List Instr)} (h : f62 a0 a1 = some r) : Calls Tryz.prog 125 #[.int .i64 a0,.int .i64 a1] w (Ret No w (fun s : Hd=>(sv s)) (fun s=>[rowV (sv s) 32 5 dInstr r])):=by
 unfold f62 at h
 refine enter Tryz.func125 z z ?_
 have hS:=Sep.start w
 refine .g (.qn z (.seq (.g (.q z ?_))))
 have ⟨y1,hy1,h⟩:=bnd h
 refine .c (.call0 hS Tryz.func48 (f08 hy1) z z ?_ z z z z)
 intro W hS
 refine .nil ?_
 refine .cs z h ?_ ?_ <;> intro h
 ·refine .g (.q z (.q z (.s (bs T.s32 z z) z (.c (.liv [(Instr.mk 12 a0 0 0 a1)] dInstr T.u23 T.t32 hS z z z z ?_ z (fun _=>z) z z z z)))))
  intro v1 W hS
  cases h
  exact .qn z (.ret (fin_ret (vs:=[_]) v1 (rt z rn) z (hS.to [0] z)))
 refine .skip (.g (.q z ?_))
 have ⟨y2,hy2,h⟩:=bnd h
 refine .c (.call0 hS Tryz.func97 (fac hy2) z z ?_ z z z z)
 intro W hS
 have ⟨y3,hy3,h⟩:=bnd h
 refine .c (.call0 hS Tryz.func138 (f1h hy3) z z ?_ z z z z)
 intro W hS
 have ⟨y4,hy4,h⟩:=bnd h
 refine .c (.call0 hS Tryz.func144 (fbr hy4) z z ?_ z z z z)
 intro W hS
 refine .qn z (.g (.q z (.q z (.q z ?_))))
 have ⟨y5,hy5,h⟩:=bnd h
 refine .c (.call0 hS Tryz.func68 (f39 hy5) z z ?_ z z z z)
 intro W hS
 have ⟨y6,hy6,h⟩:=bnd h
 refine .c (.call0 hS Tryz.func97 (fac hy6) z z ?_ z z z z)
 intro W hS
 have ⟨y7,hy7,h⟩:=bnd h
 refine .c (.call0 hS Tryz.func138 (f1h hy7) z z ?_ z z z z)
 intro W hS
 refine .qn z (.g (.q z (.q z (.s (bs T.s32 z z) z (.c (.liv [(Instr.mk 19 a0 0 0 y7)] dInstr T.u23 T.t32 hS z z z z ?_ z (fun _=>z) z z z z))))))
 intro v2 W hS
 refine .qn z (.g (.q z (.q z (.q z (.q z (.s (bs T.s32 z z) z (.c (.liv [(Instr.mk 12 a0 a0 0 y4)] dInstr T.u23 T.t32 hS z z z z ?_ z (fun _=>z) z z z z))))))))
 intro v3 W hS
 have ⟨r1,hr1,h⟩:=bnd h
 have hT0:=hS.p1
 refine .c (.apprv hr1 hT0 hT0.p1.lendv (fun _=>z) T.u23 T.t32 z z z ?_ z z z z z)
 intro v4 W hS
 obtain rfl:=Option.some.inj h
 exact .qn z (.ret (fin_ret (vs:=[_]) v4 (rt z rn) z (hS.to [0] z)))
theorem f4j {a0 : Int} {a1 : Int} {a2 : Int} {w : World} {r : (List Instr)} (h : f2c a0 a1 a2 = some r) : Calls Tryz.prog 126 #[.int .i64 a0,.int .i64 a1,.int .i64 a2] w (Ret No w (fun s : Hd=>(sv s)) (fun s=>[rowV (sv s) 32 5 dInstr r])):=by
 unfold f2c at h
 refine enter Tryz.func126 z z ?_
 have hS:=Sep.start w
 refine .g (.qn z (.seq (.g (.q z (.q z (.q z (.nil ?_)))))))
 refine .cs z h ?_ ?_ <;> intro h
 ·refine .g (.c (.liv [] dInstr T.u23 T.t32 hS z z z z ?_ z (fun _=>z) z z z z))
  intro v1 W hS
  cases h
  exact .qn z (.ret (fin_ret (vs:=[_]) v1 (rt z rn) z (hS.to [0] z)))
 refine .skip (.g (.q z (.q z (.q z (.q z (.q z (.s (bs T.s32 z z) z (.c (.liv [(Instr.mk 14 a2 2 0 (w64 (4 * (w64 (a0 - a1)))))] dInstr T.u23 T.t32 hS z z z z ?_ z (fun _=>z) z z z z)))))))))
 intro v2 W hS
 cases h
 exact .qn z (.ret (fin_ret (vs:=[_]) v2 (rt z rn) z (hS.to [0] z)))
theorem f91 {a0 : Int} {a1 : Int} {w : World} {r : Instr} (h : f35 a0 a1 = some r) : Calls Tryz.prog 127 #[.int .i64 a0,.int .i64 a1] w (Ret No w (fun s : Unit=>.agg #[.int .i64 r.Op,.int .i64 r.Rd,.int .i64 r.Rs,.int .i64 r.Rt,.int .i64 r.Imm]) (fun s=>[])):=by
 unfold f35 at h
 refine enter Tryz.func127 z z ?_
 have hS:=Sep.start w
 refine .g (.c (.alloc T.t32 hS ?_ z z z))
 intro g1 W hS
 refine .nil (.g (.q z (.q z (.s (bs T.s32 z z) z (.c (.st T.t32 hS z z z ?_ z z z z z))))))
 intro W hS
 cases h
 exact .nil (.ret (fin_ret (vs:=[_]) () (rc hS T.t32 z rn z z) z (hS.to [] z)))
theorem feg {a0 : Int} {w : World} {r : Int} (h : f92 a0 = some r) : Calls Tryz.prog 153 #[.int .i64 a0] w (Ret No w (fun s : Unit=>.int .i64 r) (fun s=>[])):=by
 unfold f92 at h
 refine enter Tryz.func153 z z ?_
 have hS:=Sep.start w
 refine .g (.qn z (.g (.c (.liv [7,8,6,8,11,9,10,1,2,3,4,5] (D.int .i64) T.u25 T.t3 hS z z z z ?_ z (fun _=>z) z z z z))))
 intro v1 W hS
 refine .qn z (.g (.q z (.q z (.q z ?_))))
 have ⟨x1,hx1,h⟩:=bnd h
 obtain rfl:=Option.some.inj h
 exact .s (ixv hS.lendv hx1 T.u25 T.t3 z z z) z (.s (lde (RV.flat hS.lendv hx1 z) T.t3 z z z z z) z (.qn z (.ret (fin_ret (vs:=[_]) () (rt z rn) z (hS.to [] z)))))
end Go.Proofs.YtmpplggjpmmhlaaGreatDoor.N
namespace Go.Proofs.YtmpplggjpmmhlaaGreatDoor.N
open Go.Proofs.YtmpplggjpmmhlaaGreatDoor.X
theorem fe0 {a0 : Quad} {a1 : Int} {w : World} {r : (List Instr)} (h : f9t a0 a1 = some r) : Calls Tryz.prog 128 #[.agg #[.int .i64 a0.Op,.int .i64 a0.Dst,.int .i64 a0.A,.int .i64 a0.B,.int .i64 a0.N],.int .i64 a1] w (Ret No w (fun s : Hd=>(sv s)) (fun s=>[rowV (sv s) 32 5 dInstr r])):=by
 unfold f9t at h
 refine enter Tryz.func128 z z ?_
 have hS:=Sep.start w
 refine .g (.c (.box hS z z ?_ z z))
 intro g1 W hS
 refine .qn z (.seq (.rk 10 hS [0] T.mix ?_))
 intro W hS
 have hT:=hS.to [0] z
 refine .ts 0 z (fun W hT=>fa T.f126_2 z z z) hT z (by kernel_rfl) (.ts 1 z (fun W hT=>ld T.t3 hT z z z z z) hT z (by kernel_rfl) (.tp 2 z z hT (by kernel_rfl) (.ts 4 z (fun W hT=>fa T.f126_3 z z z) hT z (by kernel_rfl) (.ts 5 z (fun W hT=>ld T.t3 hT z z z z z) hT z (by kernel_rfl) (.tp 6 z z hT (by kernel_rfl) ?_)))))
 have ⟨y1,hy1,h⟩:=bnd h
 refine .by1 3 z (.call1v hS Tryz.func126 (f4j hy1) z z ?_ z z z z) (by kernel_rfl)
 intro v1 W hS
 have hT:=hS.to [1] z
 refine ⟨fun _=>hT,?_⟩
 have ⟨y2,hy2,h⟩:=bnd h
 refine .by1 7 z (.call1v hS Tryz.func126 (f4j hy2) z z ?_ z z z z) (by kernel_rfl)
 intro v2 W hS
 have hT:=hS.to [2] z
 refine ⟨fun _=>hT,?_⟩
 have ⟨r1,hr1,h⟩:=bnd h
 have hT0:=hS.p1
 refine .by1 8 z (.apprv hr1 hT0 hT0.p1.lendv (fun _=>z) T.u23 T.t32 z z z ?_ z z z z z) (by kernel_rfl)
 intro v3 W hS
 have hT:=hS.to [2] z
 refine ⟨fun _=>hT,.tp 9 z z hT (by kernel_rfl) (.done (.g (.s (fa T.f126_1 z z z) z (.s (ld T.t3 hS.p2 z z z z z) z (.q z ?_)))) (by kernel_rfl))⟩
 have ⟨y3,hy3,h⟩:=bnd h
 refine .c (.call0 hS Tryz.func123 (f2w hy3) z z ?_ z z z z)
 intro W hS
 refine .qn z (.seq (.rk 17 hS [1,1] T.mix ?_))
 intro W hS
 have hT:=hS.to [1,1] z
 refine .tp 0 z z hT (by kernel_rfl) (.ts 1 z (fun W hT=>fa T.f126_4 z z z) hT z (by kernel_rfl) (.ts 2 z (fun W hT=>ld T.t3 hT.p1 z z z z z) hT z (by kernel_rfl) (.tp 4 z z hT (by kernel_rfl) (.ts 5 z (fun W hT=>fa T.f126_2 z z z) hT z (by kernel_rfl) (.ts 6 z (fun W hT=>ld T.t3 hT.p1 z z z z z) hT z (by kernel_rfl) (.tp 7 z z hT (by kernel_rfl) (.ts 9 z (fun W hT=>fa T.f126_3 z z z) hT z (by kernel_rfl) (.ts 10 z (fun W hT=>ld T.t3 hT.p1 z z z z z) hT z (by kernel_rfl) (.tp 11 z z hT (by kernel_rfl) ?_)))))))))
 have ⟨y4,hy4,h⟩:=bnd h
 refine .by1 3 z (.call0 hS Tryz.func153 (feg hy4) z z ?_ z z z z) (by kernel_rfl)
 intro W hS
 have hT:=hS.to [1,1] z
 refine ⟨fun _=>hT,?_⟩
 have ⟨y5,hy5,h⟩:=bnd h
 refine .by1 8 z (.call0 hS Tryz.func123 (f2w hy5) z z ?_ z z z z) (by kernel_rfl)
 intro W hS
 have hT:=hS.to [1,1] z
 refine ⟨fun _=>hT,?_⟩
 have ⟨y6,hy6,h⟩:=bnd h
 refine .by1 12 z (.call0 hS Tryz.func123 (f2w hy6) z z ?_ z z z z) (by kernel_rfl)
 intro W hS
 have hT:=hS.to [1,1] z
 refine ⟨fun _=>hT,.ts 13 z (fun W hT=>bs T.s32 z z) hT z (by kernel_rfl) (.by1 14 z (.liv [(Instr.mk y4 y3 y5 y6 0)] dInstr T.u23 T.t32 hS z z z z ?_ z (fun _=>z) z z z z) (by kernel_rfl))⟩
 intro v4 W hS
 have hT:=hS.to [2,2] z
 refine ⟨fun _=>hT,?_⟩
 have ⟨r2,hr2,h⟩:=bnd h
 have hT0:=hS.p1
 refine .by1 15 z (.apprv hr2 hT0 hT0.p1.lendv (fun _=>z) T.u23 T.t32 z z z ?_ z z z z z) (by kernel_rfl)
 intro v5 W hS
 have hT:=hS.to [2,2] z
 refine ⟨fun _=>hT,.tp 16 z z hT (by kernel_rfl) (.done ?_ (by kernel_rfl))⟩
 have ⟨y7,hy7,h⟩:=bnd h
 refine .seq (CW.via (R':=fun x E' W'=>x = .normal ∧ ∃ (v6 : Hd),SubL E' [(1,.int .i64 a1),(2,.pointer (some ⟨g1,0,none⟩)),(5,(sv v6))] ∧ Sep No w W' [rowV (sv v4) 32 5 dInstr [(Instr.mk y4 y3 y5 y6 0)],rowV (sv v2) 32 5 dInstr y2,.box g1 126 [.int .i64 a0.Op,.int .i64 a0.Dst,.int .i64 a0.A,.int .i64 a0.B,.int .i64 a0.N],rowV (sv v6) 32 5 dInstr y7]) ?_ ?_)
 ·have h:=hy7
  refine .g (.s (fa T.f126_4 z z z) z (.s (ld T.t3 hS.p3 z z z z z) z (.q z (.nil ?_))))
  refine .cs z h ?_ ?_ <;> intro h
  ·refine .region (.q z (.q z (.q z (.s (bs T.s32 z z) z (.c (.liv [(Instr.mk 13 y3 y3 0 1)] dInstr T.u23 T.t32 hS z z z z ?_ z (fun _=>z) z z z z))))))
   intro v7 W hS
   have ⟨r3,hr3,h⟩:=bnd h
   have hT0:=hS.p1
   refine .c (.apprv hr3 hT0 hT0.p1.lendv (fun _=>z) T.u23 T.t32 z z z ?_ z z z z z)
   intro v8 W hS
   refine .q z (.nil ?_)
   obtain rfl:=Option.some.inj h
   exact ⟨z,v8,sb z,hS.to [2,2,2,0] z⟩
  refine .skip ?_
  obtain rfl:=Option.some.inj h
  exact ⟨z,v5,sb z,hS.to [1,1,1,0] z⟩
 intro x E W hJ
 obtain ⟨rfl,v9,hE,hS⟩:=hJ
 refine ⟨_,hE.sub,?_⟩
 refine .g (.q z (.s (fa T.f126_1 z z z) z (.s (ld T.t3 hS.p2 z z z z z) z (.q z ?_))))
 have ⟨y8,hy8,h⟩:=bnd h
 have hS:=hS.p3
 refine .c (.callS2 (L0:=[rowV (sv v9) 32 5 dInstr y7]) hS Tryz.func124 (fun S h1 h2 h3=>(f5z hy8 h2 (zz h1))) z z ?_ z z z z)
 rintro v10 W hS
 obtain rfl:=Option.some.inj h
 exact .qn z (.ret (fin_ret (vs:=[_]) v10 (rt z rn) z (hS.to [0] z)))
theorem fdh {a0 : Quad} {a1 : Int} {a2 : Int} {w : World} {r : (List Instr)} (h : f98 a0 a1 a2 = some r) : Calls Tryz.prog 129 #[.agg #[.int .i64 a0.Op,.int .i64 a0.Dst,.int .i64 a0.A,.int .i64 a0.B,.int .i64 a0.N],.int .i64 a1,.int .i64 a2] w (Ret No w (fun s : Hd=>(sv s)) (fun s=>[rowV (sv s) 32 5 dInstr r])):=by
 unfold f98 at h
 refine enter Tryz.func129 z z ?_
 have hS:=Sep.start w
 refine .g (.c (.box hS z z ?_ z z))
 intro g1 W hS
 refine .qn z (.seq (.rk 12 hS [0] T.mix ?_))
 intro W hS
 have hT:=hS.to [0] z
 refine .ts 0 z (fun W hT=>fa T.f126_2 z z z) hT z (by kernel_rfl) (.ts 1 z (fun W hT=>ld T.t3 hT z z z z z) hT z (by kernel_rfl) (.tp 2 z z hT (by kernel_rfl) (.ts 4 z (fun W hT=>fa T.f126_2 z z z) hT z (by kernel_rfl) (.ts 5 z (fun W hT=>ld T.t3 hT z z z z z) hT z (by kernel_rfl) (.tp 6 z z hT (by kernel_rfl) ?_)))))
 have ⟨y1,hy1,h⟩:=bnd h
 refine .by1 3 z (.call1v hS Tryz.func126 (f4j hy1) z z ?_ z z z z) (by kernel_rfl)
 intro v1 W hS
 have hT:=hS.to [1] z
 refine ⟨fun _=>hT,?_⟩
 have ⟨y2,hy2,h⟩:=bnd h
 refine .by1 7 z (.call0 hS Tryz.func123 (f2w hy2) z z ?_ z z z z) (by kernel_rfl)
 intro W hS
 have hT:=hS.to [1] z
 refine ⟨fun _=>hT,.ts 8 z (fun W hT=>bs T.s32 z z) hT z (by kernel_rfl) (.by1 9 z (.liv [(Instr.mk 18 0 y2 0 8)] dInstr T.u23 T.t32 hS z z z z ?_ z (fun _=>z) z z z z) (by kernel_rfl))⟩
 intro v2 W hS
 have hT:=hS.to [2] z
 refine ⟨fun _=>hT,?_⟩
 have ⟨r1,hr1,h⟩:=bnd h
 have hT0:=hS.p1
 refine .by1 10 z (.apprv hr1 hT0 hT0.p1.lendv (fun _=>z) T.u23 T.t32 z z z ?_ z z z z z) (by kernel_rfl)
 intro v3 W hS
 have hT:=hS.to [2] z
 refine ⟨fun _=>hT,.tp 11 z z hT (by kernel_rfl) (.done (.g (.q z (.q z (.q z (.s (lenv hS.lendv T.u23 z z) z (.q z (.q z (.s (bs T.s32 z z) z (.c (.liv [(Instr.mk 20 0 0 0 (w64 (a2 - (w64 (4 * (r1.length : Int))))))] dInstr T.u23 T.t32 hS z z z z ?_ z (fun _=>z) z z z z)))))))))) (by kernel_rfl))⟩
 intro v4 W hS
 have ⟨r2,hr2,h⟩:=bnd h
 have hT0:=hS.p1
 refine .c (.apprv hr2 hT0 hT0.p1.lendv (fun _=>z) T.u23 T.t32 z z z ?_ z z z z z)
 intro v5 W hS
 obtain rfl:=Option.some.inj h
 exact .qn z (.ret (fin_ret (vs:=[_]) v5 (rt z rn) z (hS.to [0] z)))
theorem f4r {a0 : List Instr} {a1 : Int} {v_0 : Hd} {S : Nat → Prop} {w : World} {r : (List Instr)} (h : f2j a0 a1 = some r) (hO : Owns w [rowV (sv v_0) 32 5 dInstr a0] S) (hlt : ∀ b,S b → b < w.heap.size) : Calls Tryz.prog 130 #[(sv v_0),.int .i64 a1] w (Ret S w (fun s : Hd=>(sv s)) (fun s=>[rowV (sv s) 32 5 dInstr r])):=by
 unfold f2j at h
 refine enter Tryz.func130 z z ?_
 have hS:=Sep.startM hO hlt
 refine .g (.qn z (.g (.q z (.q z (.s (bs T.s32 z z) z (.c (.liv [(Instr.mk 12 17 0 0 a1)] dInstr T.u23 T.t32 hS z z z z ?_ z (fun _=>z) z z z z)))))))
 intro v1 W hS
 have ⟨r1,hr1,h⟩:=bnd h
 have hT0:=hS.p1
 refine .c (.apprv hr1 hT0 hT0.p1.lendv (fun _=>z) T.u23 T.t32 z z z ?_ z z z z z)
 intro v2 W hS
 refine .qn z (.g (.q z (.s (bs T.s32 z z) z (.c (.liv [(Instr.mk 15 1 0 0 0)] dInstr T.u23 T.t32 hS z z z z ?_ z (fun _=>z) z z z z)))))
 intro v3 W hS
 have ⟨r2,hr2,h⟩:=bnd h
 have hT0:=hS.p1
 refine .c (.apprv hr2 hT0 hT0.p1.lendv (fun _=>z) T.u23 T.t32 z z z ?_ z z z z z)
 intro v4 W hS
 obtain rfl:=Option.some.inj h
 exact .qn z (.ret (fin_ret (vs:=[_]) v4 (rt z rn) z (hS.to [0] z)))
theorem fap {a0 : Int} {a1 : Int} {w : World} {r : (List Instr)} (h : f5f a0 a1 = some r) : Calls Tryz.prog 131 #[.int .i64 a0,.int .i64 a1] w (Ret No w (fun s : Hd=>(sv s)) (fun s=>[rowV (sv s) 32 5 dInstr r])):=by
 unfold f5f at h
 refine enter Tryz.func131 z z ?_
 have hS:=Sep.start w
 refine .g (.qn z (.g (.q z (.q z ?_))))
 have ⟨y1,hy1,h⟩:=bnd h
 refine .c (.call1v hS Tryz.func126 (f4j hy1) z z ?_ z z z z)
 intro v1 W hS
 refine .q z (.q z ?_)
 have ⟨y2,hy2,h⟩:=bnd h
 refine .c (.call0 hS Tryz.func123 (f2w hy2) z z ?_ z z z z)
 intro W hS
 have ⟨y3,hy3,h⟩:=bnd h
 refine .c (.call0 hS Tryz.func127 (f91 hy3) z z ?_ z z z z)
 intro W hS
 refine .c (.liv [y3] dInstr T.u23 T.t32 hS z z z z ?_ z (fun _=>z) z z z z)
 intro v2 W hS
 have ⟨r1,hr1,h⟩:=bnd h
 have hT0:=hS.p1
 refine .c (.apprv hr1 hT0 hT0.p1.lendv (fun _=>z) T.u23 T.t32 z z z ?_ z z z z z)
 intro v3 W hS
 obtain rfl:=Option.some.inj h
 exact .qn z (.ret (fin_ret (vs:=[_]) v3 (rt z rn) z (hS.to [0] z)))
theorem fb1 {a0 : Int} {w : World} {r : Instr} (h : f6k a0 = some r) : Calls Tryz.prog 132 #[.int .i64 a0] w (Ret No w (fun s : Unit=>.agg #[.int .i64 r.Op,.int .i64 r.Rd,.int .i64 r.Rs,.int .i64 r.Rt,.int .i64 r.Imm]) (fun s=>[])):=by
 unfold f6k at h
 refine enter Tryz.func132 z z ?_
 have hS:=Sep.start w
 refine .g (.c (.alloc T.t32 hS ?_ z z z))
 intro g1 W hS
 refine .nil (.g (.q z (.s (bs T.s32 z z) z (.c (.st T.t32 hS z z z ?_ z z z z z)))))
 intro W hS
 cases h
 exact .nil (.ret (fin_ret (vs:=[_]) () (rc hS T.t32 z rn z z) z (hS.to [] z)))
theorem fas {a0 : Quad} {a1 : Int} {a2 : Int} {w : World} {r : (List Instr)} (h : f5c a0 a1 a2 = some r) : Calls Tryz.prog 101 #[.agg #[.int .i64 a0.Op,.int .i64 a0.Dst,.int .i64 a0.A,.int .i64 a0.B,.int .i64 a0.N],.int .i64 a1,.int .i64 a2] w (Ret No w (fun s : Hd=>(sv s)) (fun s=>[rowV (sv s) 32 5 dInstr r])):=by
 unfold f5c at h
 refine enter Tryz.func101 z z ?_
 have hS:=Sep.start w
 refine .g (.c (.box hS z z ?_ z z))
 intro g1 W hS
 refine .qn z (.g (.s (fa T.f126_1 z z z) z (.s (ld T.t3 hS z z z z z) z (.q z ?_))))
 have ⟨y1,hy1,h⟩:=bnd h
 refine .c (.call0 hS Tryz.func123 (f2w hy1) z z ?_ z z z z)
 intro W hS
 refine .qn z (.seq (.g (.s (fa T.f126_0 z z z) z (.s (ld T.t3 hS z z z z z) z (.nil (.block (.g (.q z (.qn z (.cond z (fun hb=>?_) (fun hb=>?_)))))))))))
 ·have h:=sel_t hb h
  refine .seq (.rk 9 hS [0] T.mix ?_)
  intro W hS
  have hT:=hS.to [0] z
  refine .tp 0 z z hT (by kernel_rfl) (.ts 1 z (fun W hT=>fa T.f126_4 z z z) hT z (by kernel_rfl) (.ts 2 z (fun W hT=>ld T.t3 hT z z z z z) hT z (by kernel_rfl) (.ts 4 z (fun W hT=>fa T.f126_1 z z z) hT z (by kernel_rfl) (.ts 5 z (fun W hT=>ld T.t3 hT z z z z z) hT z (by kernel_rfl) (.tp 6 z z hT (by kernel_rfl) ?_)))))
  have ⟨y2,hy2,h⟩:=bnd h
  refine .by1 3 z (.call1v hS Tryz.func125 (fco hy2) z z ?_ z z z z) (by kernel_rfl)
  intro v1 W hS
  have hT:=hS.to [1] z
  refine ⟨fun _=>hT,?_⟩
  have ⟨y3,hy3,h⟩:=bnd h
  refine .by1 7 z (.callS2 (L0:=[rowV (sv v1) 32 5 dInstr y2]) hS Tryz.func124 (fun S h1 h2 h3=>(f5z hy3 h2 (zz h1))) z z ?_ z z z z) (by kernel_rfl)
  rintro v2 W hS
  have hT:=hS.to [1] z
  refine ⟨fun _=>hT,?_⟩
  obtain rfl:=Option.some.inj h
  exact .tp 8 z z hT (by kernel_rfl) (.done (.ret (fin_ret (vs:=[_]) v2 (rt z rn) z (hS.to [0] z))) (by kernel_rfl))
 have h:=sel_f hb h
 refine .g (.q z (.qn z (.cond z (fun hb=>?_) (fun hb=>?_))))
 ·have h:=sel_t hb h
  refine .seq (.rk 17 hS [0] T.mix ?_)
  intro W hS
  have hT:=hS.to [0] z
  refine .ts 0 z (fun W hT=>fa T.f126_2 z z z) hT z (by kernel_rfl) (.ts 1 z (fun W hT=>ld T.t3 hT z z z z z) hT z (by kernel_rfl) (.tp 2 z z hT (by kernel_rfl) (.tp 4 z z hT (by kernel_rfl) (.ts 5 z (fun W hT=>fa T.f126_2 z z z) hT z (by kernel_rfl) (.ts 6 z (fun W hT=>ld T.t3 hT z z z z z) hT z (by kernel_rfl) (.tp 7 z z hT (by kernel_rfl) (.ts 12 z (fun W hT=>fa T.f126_1 z z z) hT z (by kernel_rfl) (.ts 13 z (fun W hT=>ld T.t3 hT z z z z z) hT z (by kernel_rfl) (.tp 14 z z hT (by kernel_rfl) ?_)))))))))
  have ⟨y4,hy4,h⟩:=bnd h
  refine .by1 3 z (.call1v hS Tryz.func126 (f4j hy4) z z ?_ z z z z) (by kernel_rfl)
  intro v3 W hS
  have hT:=hS.to [1] z
  refine ⟨fun _=>hT,?_⟩
  have ⟨y5,hy5,h⟩:=bnd h
  refine .by1 8 z (.call0 hS Tryz.func123 (f2w hy5) z z ?_ z z z z) (by kernel_rfl)
  intro W hS
  have hT:=hS.to [1] z
  refine ⟨fun _=>hT,?_⟩
  have ⟨y6,hy6,h⟩:=bnd h
  refine .by1 9 z (.call0 hS Tryz.func127 (f91 hy6) z z ?_ z z z z) (by kernel_rfl)
  intro W hS
  have hT:=hS.to [1] z
  refine ⟨fun _=>hT,.by1 10 z (.liv [y6] dInstr T.u23 T.t32 hS z z z z ?_ z (fun _=>z) z z z z) (by kernel_rfl)⟩
  intro v4 W hS
  have hT:=hS.to [2] z
  refine ⟨fun _=>hT,?_⟩
  have ⟨r1,hr1,h⟩:=bnd h
  have hT0:=hS.p1
  refine .by1 11 z (.apprv hr1 hT0 hT0.p1.lendv (fun _=>z) T.u23 T.t32 z z z ?_ z z z z z) (by kernel_rfl)
  intro v5 W hS
  have hT:=hS.to [2] z
  refine ⟨fun _=>hT,?_⟩
  have ⟨y7,hy7,h⟩:=bnd h
  refine .by1 15 z (.callS2 (L0:=[rowV (sv v5) 32 5 dInstr r1]) hS Tryz.func124 (fun S h1 h2 h3=>(f5z hy7 h2 (zz h1))) z z ?_ z z z z) (by kernel_rfl)
  rintro v6 W hS
  have hT:=hS.to [2] z
  refine ⟨fun _=>hT,?_⟩
  obtain rfl:=Option.some.inj h
  exact .tp 16 z z hT (by kernel_rfl) (.done (.ret (fin_ret (vs:=[_]) v6 (rt z rn) z (hS.to [0] z))) (by kernel_rfl))
 have h:=sel_f hb h
 refine .g (.q z (.q z (.nil ?_)))
 refine .cs z h ?_ ?_ <;> intro h
 ·refine .g (.s (ld T.t126 hS z z z z z) z (.q z ?_))
  have ⟨y8,hy8,h⟩:=bnd h
  refine .c (.call1v hS Tryz.func128 (fe0 hy8) z z ?_ z z z z)
  intro v7 W hS
  obtain rfl:=Option.some.inj h
  exact .qn z (.ret (fin_ret (vs:=[_]) v7 (rt z rn) z (hS.to [0] z)))
 refine .g (.q z (.q z (.nil ?_)))
 refine .cs z h ?_ ?_ <;> intro h
 ·refine .g (.q z (.s (bs T.s32 z z) z (.c (.liv [(Instr.mk 20 0 0 0 a2)] dInstr T.u23 T.t32 hS z z z z ?_ z (fun _=>z) z z z z))))
  intro v8 W hS
  cases h
  exact .qn z (.ret (fin_ret (vs:=[_]) v8 (rt z rn) z (hS.to [0] z)))
 refine .g (.q z (.q z (.nil ?_)))
 refine .cs z h ?_ ?_ <;> intro h
 ·refine .g (.s (ld T.t126 hS z z z z z) z (.q z (.q z ?_)))
  have ⟨y9,hy9,h⟩:=bnd h
  refine .c (.call1v hS Tryz.func129 (fdh hy9) z z ?_ z z z z)
  intro v9 W hS
  obtain rfl:=Option.some.inj h
  exact .qn z (.ret (fin_ret (vs:=[_]) v9 (rt z rn) z (hS.to [0] z)))
 refine .g (.q z (.qn z (.cond z (fun hb=>?_) (fun hb=>?_))))
 ·have h:=sel_t hb h
  refine .seq (.rk 11 hS [0] T.mix ?_)
  intro W hS
  have hT:=hS.to [0] z
  refine .ts 0 z (fun W hT=>fa T.f126_2 z z z) hT z (by kernel_rfl) (.ts 1 z (fun W hT=>ld T.t3 hT z z z z z) hT z (by kernel_rfl) (.tp 2 z z hT (by kernel_rfl) (.ts 4 z (fun W hT=>fa T.f126_4 z z z) hT z (by kernel_rfl) (.ts 5 z (fun W hT=>ld T.t3 hT z z z z z) hT z (by kernel_rfl) ?_))))
  have ⟨y10,hy10,h⟩:=bnd h
  refine .by1 3 z (.call1v hS Tryz.func131 (fap hy10) z z ?_ z z z z) (by kernel_rfl)
  intro v10 W hS
  have hT:=hS.to [1] z
  refine ⟨fun _=>hT,?_⟩
  have ⟨y11,hy11,h⟩:=bnd h
  refine .by1 6 z (.call0 hS Tryz.func132 (fb1 hy11) z z ?_ z z z z) (by kernel_rfl)
  intro W hS
  have hT:=hS.to [1] z
  refine ⟨fun _=>hT,.by1 7 z (.liv [y11] dInstr T.u23 T.t32 hS z z z z ?_ z (fun _=>z) z z z z) (by kernel_rfl)⟩
  intro v11 W hS
  have hT:=hS.to [2] z
  refine ⟨fun _=>hT,?_⟩
  have ⟨r2,hr2,h⟩:=bnd h
  have hT0:=hS.p1
  refine .by1 8 z (.apprv hr2 hT0 hT0.p1.lendv (fun _=>z) T.u23 T.t32 z z z ?_ z z z z z) (by kernel_rfl)
  intro v12 W hS
  have hT:=hS.to [2] z
  refine ⟨fun _=>hT,?_⟩
  have ⟨y12,hy12,h⟩:=bnd h
  refine .by1 9 z (.callS2 (L0:=[rowV (sv v12) 32 5 dInstr r2]) hS Tryz.func130 (fun S h1 h2 h3=>(f4r hy12 h2 (zz h1))) z z ?_ z z z z) (by kernel_rfl)
  rintro v13 W hS
  have hT:=hS.to [2] z
  refine ⟨fun _=>hT,?_⟩
  obtain rfl:=Option.some.inj h
  exact .tp 10 z z hT (by kernel_rfl) (.done (.ret (fin_ret (vs:=[_]) v13 (rt z rn) z (hS.to [0] z))) (by kernel_rfl))
 have h:=sel_f hb h
 refine .g (.q z (.qn z (.cond z (fun hb=>?_) (fun hb=>?_))))
 ·have h:=sel_t hb h
  refine .g (.s (fa T.f126_4 z z z) z (.s (ld T.t3 hS z z z z z) z ?_))
  have ⟨y13,hy13,h⟩:=bnd h
  refine .c (.call0 hS Tryz.func132 (fb1 hy13) z z ?_ z z z z)
  intro W hS
  refine .c (.liv [y13] dInstr T.u23 T.t32 hS z z z z ?_ z (fun _=>z) z z z z)
  intro v14 W hS
  have ⟨y14,hy14,h⟩:=bnd h
  refine .c (.callS2 (L0:=[rowV (sv v14) 32 5 dInstr [y13]]) hS Tryz.func130 (fun S h1 h2 h3=>(f4r hy14 h2 (zz h1))) z z ?_ z z z z)
  rintro v15 W hS
  refine .qn z (.seq (.rk 10 hS [1] T.mix ?_))
  intro W hS
  have hT:=hS.to [1] z
  refine .tp 0 z z hT (by kernel_rfl) (.tp 1 z z hT (by kernel_rfl) (.ts 5 z (fun W hT=>fa T.f126_1 z z z) hT z (by kernel_rfl) (.ts 6 z (fun W hT=>ld T.t3 hT z z z z z) hT z (by kernel_rfl) (.tp 7 z z hT (by kernel_rfl) ?_))))
  have ⟨y15,hy15,h⟩:=bnd h
  refine .by1 2 z (.call0 hS Tryz.func127 (f91 hy15) z z ?_ z z z z) (by kernel_rfl)
  intro W hS
  have hT:=hS.to [1] z
  refine ⟨fun _=>hT,.by1 3 z (.liv [y15] dInstr T.u23 T.t32 hS z z z z ?_ z (fun _=>z) z z z z) (by kernel_rfl)⟩
  intro v16 W hS
  have hT:=hS.to [2] z
  refine ⟨fun _=>hT,?_⟩
  have ⟨r3,hr3,h⟩:=bnd h
  have hT0:=hS.p1
  refine .by1 4 z (.apprv hr3 hT0 hT0.p1.lendv (fun _=>z) T.u23 T.t32 z z z ?_ z z z z z) (by kernel_rfl)
  intro v17 W hS
  have hT:=hS.to [2] z
  refine ⟨fun _=>hT,?_⟩
  have ⟨y16,hy16,h⟩:=bnd h
  refine .by1 8 z (.callS2 (L0:=[rowV (sv v17) 32 5 dInstr r3]) hS Tryz.func124 (fun S h1 h2 h3=>(f5z hy16 h2 (zz h1))) z z ?_ z z z z) (by kernel_rfl)
  rintro v18 W hS
  have hT:=hS.to [2] z
  refine ⟨fun _=>hT,?_⟩
  obtain rfl:=Option.some.inj h
  exact .tp 9 z z hT (by kernel_rfl) (.done (.ret (fin_ret (vs:=[_]) v18 (rt z rn) z (hS.to [0] z))) (by kernel_rfl))
 have h:=sel_f hb h
 refine .g (.q z (.qn z (.cond z (fun hb=>?_) (fun hb=>?_))))
 ·have h:=sel_t hb h
  refine .g (.c (.liv [] dInstr T.u23 T.t32 hS z z z z ?_ z (fun _=>z) z z z z))
  intro v19 W hS
  have ⟨y17,hy17,h⟩:=bnd h
  refine .c (.callS2 (L0:=[rowV (sv v19) 32 5 dInstr []]) hS Tryz.func130 (fun S h1 h2 h3=>(f4r hy17 h2 (zz h1))) z z ?_ z z z z)
  rintro v20 W hS
  obtain rfl:=Option.some.inj h
  exact .qn z (.ret (fin_ret (vs:=[_]) v20 (rt z rn) z (hS.to [0] z)))
 have h:=sel_f hb h
 refine .g (.q z (.qn z (.cond z (fun hb=>?_) (fun hb=>?_))))
 ·have h:=sel_t hb h
  refine .g (.s (fa T.f126_2 z z z) z (.s (ld T.t3 hS z z z z z) z (.q z ?_)))
  have ⟨y18,hy18,h⟩:=bnd h
  refine .c (.call1v hS Tryz.func131 (fap hy18) z z ?_ z z z z)
  intro v21 W hS
  have ⟨y19,hy19,h⟩:=bnd h
  refine .c (.callS2 (L0:=[rowV (sv v21) 32 5 dInstr y18]) hS Tryz.func130 (fun S h1 h2 h3=>(f4r hy19 h2 (zz h1))) z z ?_ z z z z)
  rintro v22 W hS
  obtain rfl:=Option.some.inj h
  exact .qn z (.ret (fin_ret (vs:=[_]) v22 (rt z rn) z (hS.to [0] z)))
 have h:=sel_f hb h
 refine .skip (.g (.c (.liv [] dInstr T.u23 T.t32 hS z z z z ?_ z (fun _=>z) z z z z)))
 intro v23 W hS
 have ⟨y20,hy20,h⟩:=bnd h
 refine .c (.callS2 (L0:=[rowV (sv v23) 32 5 dInstr []]) hS Tryz.func130 (fun S h1 h2 h3=>(f4r hy20 h2 (zz h1))) z z ?_ z z z z)
 rintro v24 W hS
 obtain rfl:=Option.some.inj h
 exact .qn z (.ret (fin_ret (vs:=[_]) v24 (rt z rn) z (hS.to [0] z)))
theorem fbz {a0 : List Quad} {a1 : Int} {v_0 : Hd} {w : World} {r : (List Int)} (h : f57 a0 a1 = some r) (q_0 : RV w (Old No w) (sv v_0) 126 5 dQuad a0) : Calls Tryz.prog 100 #[(sv v_0),.int .i64 a1] w (Ret No w (fun s : Hd=>(sv s)) (fun s=>[rowV (sv s) 3 1 (D.int .i64) r])):=by
 unfold f57 at h
 refine enter Tryz.func100 z z ?_
 have hS:=Sep.start w
 refine .g (.qn z (.g (.c (.liv [] (D.int .i64) T.u25 T.t3 hS z z z z ?_ z (fun _=>z) z z z z))))
 intro v1 W hS
 refine .qn z (.g (.qn z (.seq (.g (.qn z (.block ?_))))))
 have ⟨y1,hy1,h⟩:=bnd h
 refine .via (.iter (fun s1 E' W'=>∃ (v4 : Hd),SubL E' [(0,(sv v_0)),(1,.int .i64 a1),(5,(sv v4)),(6,.int .i64 s1.2.1),(7,.int .i64 s1.2.2)] ∧ Sep No w W' [rowV (sv v4) 3 1 (D.int .i64) s1.1]) (fun y2 x E' W'=>x = .exit 0 ∧ ∃ (v5 : Hd),SubL E' [(5,(sv v5))] ∧ Sep No w W' [rowV (sv v5) 3 1 (D.int .i64) y2]) hy1 ⟨v1,sb z,hS.to [0] z⟩ ?_) ?_
 ·intro s1 y3 E W h hI
  obtain ⟨v3,hE,hS⟩:=hI
  refine CW.sub hE ?_
  unfold f7t at h
  refine .seq (.g (.q z (.q z (.s (lenv (hS.keep q_0) T.u104 z z) z (.q z (.nil ?_))))))
  refine .cs z h ?_ ?_ <;> intro h
  ·refine .skip (.seq (.block (.g (.q z (.q z (.c (.liv [s1.2.1] (D.int .i64) T.u25 T.t3 hS z z z z ?_ z (fun _=>z) z z z z)))))))
   intro v6 W hS
   have ⟨r1,hr1,h⟩:=bnd h
   have hT0:=hS.p1
   refine .c (.apprv hr1 hT0 hT0.p1.lendv (fun _=>z) T.u25 T.t3 z z z ?_ z z z z z)
   intro v7 W hS
   refine .qn z (.region (.q z (.q z (.q z ?_))))
   have ⟨x1,hx1,h⟩:=bnd h
   refine .s (ixv (hS.keep q_0) hx1 T.u104 T.t126 z z z) z (.s (lde (RV.flat (hS.keep q_0) hx1 z) T.t126 z z z z z) z (.q z ?_))
   have ⟨y4,hy4,h⟩:=bnd h
   refine .c (.call1v hS Tryz.func101 (fas hy4) z z ?_ z z z z)
   intro v8 W hS
   refine .s (lenv hS.lendv T.u23 z z) z (.q z (.qn z (.region (.q z (.q z (.q z (.nil ?_)))))))
   cases h
   exact ⟨z,v7,sb z,hS.to [1] z⟩
  refine .exit ?_
  cases h
  exact ⟨by simp,z,v3,sb z,hS.to [0] z⟩
 intro x E W hJ
 obtain ⟨rfl,v9,hE,hS⟩:=hJ
 refine ⟨_,hE.sub,?_⟩
 obtain rfl:=Option.some.inj h
 exact .g (.q z (.qn z (.ret (fin_ret (vs:=[_]) v9 (rt z rn) z (hS.to [0] z)))))
theorem fdw {a0 : List Quad} {a1 : Int} {v_0 : Hd} {w : World} {r : (List Instr)} (h : f7g a0 a1 = some r) (q_0 : RV w (Old No w) (sv v_0) 126 5 dQuad a0) : Calls Tryz.prog 66 #[(sv v_0),.int .i64 a1] w (Ret No w (fun s : Hd=>(sv s)) (fun s=>[rowV (sv s) 32 5 dInstr r])):=by
 unfold f7g at h
 refine enter Tryz.func66 z z ?_
 have hS:=Sep.start w
 refine .g (.qn z (.g (.q z (.q z ?_))))
 have ⟨y1,hy1,h⟩:=bnd h
 refine .c (.call1v hS Tryz.func100 (fbz hy1 (hS.keep q_0)) z z ?_ z z z z)
 intro v1 W hS
 refine .qn z (.g (.c (.liv [] dInstr T.u23 T.t32 hS z z z z ?_ z (fun _=>z) z z z z)))
 intro v2 W hS
 refine .qn z (.seq (.g (.qn z (.block ?_))))
 have ⟨y2,hy2,h⟩:=bnd h
 refine .via (.iter (fun s1 E' W'=>∃ (v5 : Hd),SubL E' [(0,(sv v_0)),(1,.int .i64 a1),(5,(sv v1)),(6,(sv v5)),(7,.int .i64 s1.2)] ∧ Sep No w W' [rowV (sv v1) 3 1 (D.int .i64) y1,rowV (sv v5) 32 5 dInstr s1.1]) (fun y3 x E' W'=>x = .exit 0 ∧ ∃ (v6 : Hd),SubL E' [(6,(sv v6))] ∧ Sep No w W' [rowV (sv v1) 3 1 (D.int .i64) y1,rowV (sv v6) 32 5 dInstr y3]) hy2 ⟨v2,sb z,hS.to [1,0] z⟩ ?_) ?_
 ·intro s1 y4 E W h hI
  obtain ⟨v4,hE,hS⟩:=hI
  refine CW.sub hE ?_
  unfold f9g at h
  refine .seq (.g (.q z (.q z (.s (lenv (hS.keep q_0) T.u104 z z) z (.q z (.nil ?_))))))
  refine .cs z h ?_ ?_ <;> intro h
  ·refine .skip (.seq (.block (.g (.q z (.nil ?_)))))
   have ⟨y5,hy5,h⟩:=bnd h
   refine .seq (CW.via (R':=fun x E' W'=>x = .normal ∧ SubL E' [(0,(sv v_0)),(1,.int .i64 a1),(5,(sv v1)),(6,(sv v4)),(7,.int .i64 s1.2),(8,.int .i64 y5)] ∧ Sep No w W' [rowV (sv v1) 3 1 (D.int .i64) y1,rowV (sv v4) 32 5 dInstr s1.1]) ?_ ?_)
   ·have h:=hy5
    refine .g (.q z (.q z ?_))
    have ⟨x1,hx1,h⟩:=bnd h
    refine .s (ixv (hS.keep q_0) hx1 T.u104 T.t126 z z z) z (.s (fe T.f126_0 z z z) z (.s (lde (RV.flat (hS.keep q_0) hx1 z) T.t3 z z z z z) z (.q z (.q z ?_))))
    have ⟨b1,hb1,h⟩:=bnd h
    refine .chunk 7 32 (b1) hS ?_ ?_
    ·refine .both (x1.Op == 4) (fun hb=>?_) (fun hb=>?_)
     ·refine .xx hb z (.xx hb z (.xx hb z (.xx hb z (.xx hb z (.xx hb z ?_)))))
      cases sel_t hb hb1
      exact .s (pkt hb z z z) z (.nil (ck 7 hS z z z z))
     have hg1:=hb
     have h:=sel_f hb hb1
     refine .g hg1 (.q z (.g hg1 (.q z ?_) z)) z
     have ⟨x2,hx2,h⟩:=bnd h
     refine .g hg1 (.s (ixv (hS.keep q_0) hx2 T.u104 T.t126 z z z) z (.g hg1 (.s (fe T.f126_0 z z z) z (.g hg1 (.s (lde (RV.flat (hS.keep q_0) hx2 z) T.t3 z z z z z) z (.g hg1 (.q z (.s (pkf hg1 z z z) z ?_)) z)) z)) z)) z
     cases h
     exact .nil (ck 7 hS z z z z)
    intro W hS
    refine .nil ?_
    refine .cs z h ?_ ?_ <;> intro h
    ·refine .rk 15 hS [0,0] T.mix ?_
     intro W hS
     have hT:=hS.to [0,0] z
     refine .tp 0 z z hT (by kernel_rfl) (.tp 1 z z hT (by kernel_rfl) (.tp 2 z z hT (by kernel_rfl) ?_))
     have ⟨x3,hx3,h⟩:=bnd h
     refine .ts 3 z (fun W hT=>ixv (hS.keep q_0) hx3 T.u104 T.t126 z z z) hT z (by kernel_rfl) (.ts 4 z (fun W hT=>fe T.f126_4 z z z) hT z (by kernel_rfl) (.ts 5 z (fun W hT=>lde (RV.flat (hT.keep q_0) hx3 z) T.t3 z z z z z) hT z (by kernel_rfl) ?_))
     have ⟨x4,hx4,h⟩:=bnd h
     refine .ts 6 z (fun W hT=>ixv hS.lendv hx4 T.u25 T.t3 z z z) hT z (by kernel_rfl) (.ts 7 z (fun W hT=>lde (RV.flat hT.lendv hx4 z) T.t3 z z z z z) hT z (by kernel_rfl) (.tp 8 z z hT (by kernel_rfl) (.tp 9 z z hT (by kernel_rfl) ?_)))
     have ⟨x5,hx5,h⟩:=bnd h
     refine .ts 10 z (fun W hT=>ixv hS.lendv hx5 T.u25 T.t3 z z z) hT z (by kernel_rfl) (.ts 11 z (fun W hT=>lde (RV.flat hT.lendv hx5 z) T.t3 z z z z z) hT z (by kernel_rfl) (.tp 12 z z hT (by kernel_rfl) (.tp 13 z z hT (by kernel_rfl) (.tp 14 z z hT (by kernel_rfl) (.done ?_ (by kernel_rfl))))))
     cases h
     exact ⟨z,sb z,hS.to [0,0] z⟩
    refine .skip ?_
    cases h
    exact ⟨z,sb z,hS.to [0,0] z⟩
   intro x E W hJ
   obtain ⟨rfl,hE,hS⟩:=hJ
   refine ⟨_,hE.sub,?_⟩
   refine .region (.q z (.q z (.q z ?_)))
   have ⟨x6,hx6,h⟩:=bnd h
   refine .s (ixv (hS.keep q_0) hx6 T.u104 T.t126 z z z) z (.s (lde (RV.flat (hS.keep q_0) hx6 z) T.t126 z z z z z) z (.q z (.q z ?_)))
   have ⟨y6,hy6,h⟩:=bnd h
   refine .c (.call1v hS Tryz.func101 (fas hy6) z z ?_ z z z z)
   intro v7 W hS
   have ⟨r1,hr1,h⟩:=bnd h
   have hT0:=hS.p2
   refine .c (.apprv hr1 hT0 hT0.p1.lendv (fun _=>z) T.u23 T.t32 z z z ?_ z z z z z)
   intro v8 W hS
   refine .qn z (.region (.q z (.q z (.q z (.nil ?_)))))
   cases h
   exact ⟨z,v8,sb z,hS.to [2,0] z⟩
  refine .exit ?_
  cases h
  exact ⟨by simp,z,v4,sb z,hS.to [0,0] z⟩
 intro x E W hJ
 obtain ⟨rfl,v9,hE,hS⟩:=hJ
 refine ⟨_,hE.sub,?_⟩
 obtain rfl:=Option.some.inj h
 exact .g (.q z (.qn z (.ret (fin_ret (vs:=[_]) v9 (rt z rn) z (hS.to [1] z)))))
theorem fcc {k : Nat} {a0 : L6Rd} {v_0_b : Hd} {g_0 : Nat} {S : Nat → Prop} {w : World} {r : (List (List Instr)) × Int} (h : f6i k a0 = some r) (q_0_b : RV w (Old S w) (sv v_0_b) 5 1 (D.int .u8) a0.b) (hO : Owns w [.box g_0 100 [(sv v_0_b),.int .i64 a0.p]] S) (hlt : ∀ b,S b → b < w.heap.size) : Calls Tryz.prog 35 #[.pointer (some ⟨g_0,0,none⟩)] w (Ret S w (fun s : Hd=>(sv s)) (fun s=>[.box g_0 100 [(sv v_0_b),.int .i64 r.2],rowV (sv s) 23 1 (fun (l : List Instr)=>D.row 32 5 (l.map dInstr)) r.1])):=by
 unfold f6i at h
 refine enter Tryz.func35 z z ?_
 have hS:=Sep.startM hO hlt
 refine .g (.qn z (.g (.q z ?_)))
 have ⟨y1,hy1,h⟩:=bnd h
 refine .c (.callS2 (L0:=[.box g_0 100 [(sv v_0_b),.int .i64 a0.p]]) hS Tryz.func65 (fun S h1 h2 h3=>(fcr hy1 (hS.keepS q_0_b h1) h2 (zz h1))) z z ?_ z z z z)
 rintro v1 W hS
 refine .qn z (.g (.q z ?_))
 have ⟨y2,hy2,h⟩:=bnd h
 refine .c (.callS2 (L0:=[.box g_0 100 [(sv v_0_b),.int .i64 y1.2]]) hS Tryz.func36 (fun S h1 h2 h3=>(f00 hy2 (hS.keepS q_0_b h1) h2 (zz h1))) z z ?_ z z z z)
 rintro ⟨⟩ W hS
 refine .q z (.qn z (.g (.c (.ligv (L1:=[]) [] (fun (l : List Instr)=>D.row 32 5 (l.map dInstr)) T.u39 T.t23 (hS.to [0,0] z) z z z (.nil) ?_ z (fun _=>z) z z z z z))))
 intro v2 W hS
 refine .qn z (.seq (.g (.qn z (.block ?_))))
 have ⟨y3,hy3,h⟩:=bnd h
 refine .via (.iter (fun s1 E' W'=>∃ (v5 : Hd),SubL E' [(3,(sv v1)),(4,.int .i64 (w64 (1 + y2.1))),(5,(sv v5)),(6,.int .i64 s1.2)] ∧ Sep S w W' [.box g_0 100 [(sv v_0_b),.int .i64 y2.2],rowV (sv v1) 104 1 (fun (l : List Quad)=>D.row 126 5 (l.map dQuad)) y1.1,rowV (sv v5) 23 1 (fun (l : List Instr)=>D.row 32 5 (l.map dInstr)) s1.1]) (fun y4 x E' W'=>x = .exit 0 ∧ ∃ (v6 : Hd),SubL E' [(5,(sv v6))] ∧ Sep S w W' [.box g_0 100 [(sv v_0_b),.int .i64 y2.2],rowV (sv v1) 104 1 (fun (l : List Quad)=>D.row 126 5 (l.map dQuad)) y1.1,rowV (sv v6) 23 1 (fun (l : List Instr)=>D.row 32 5 (l.map dInstr)) y4]) hy3 ⟨v2,sb z,hS.to [1,1,0] z⟩ ?_) ?_
 ·intro s1 y5 E W h hI
  obtain ⟨v4,hE,hS⟩:=hI
  refine CW.sub hE ?_
  unfold f8w at h
  refine .seq (.g (.q z (.q z (.s (lenv hS.p1.lendv T.u101 z z) z (.q z (.nil ?_))))))
  refine .cs z h ?_ ?_ <;> intro h
  ·refine .skip (.seq (.block (.region (.q z (.q z (.q z ?_))))))
   have ⟨x1,hx1,h⟩:=bnd h
   refine .s (ixv hS.p1.lendv hx1 T.u101 T.t104 z z z) z ?_
   obtain ⟨k1,hS⟩:=Sep.outv hS.p1 hx1
   obtain ⟨v7,k1,rfl,hS⟩:=hS.orowv
   obtain ⟨rfl,hS⟩:=hS.onil
   refine .s (lde (hS.p1.hcellsv) T.t104 z z z z z) z (.q z ?_)
   have ⟨y6,hy6,h⟩:=bnd h
   refine .c (.call1v hS Tryz.func66 (fdw hy6 hS.lendv) z z ?_ z z z z)
   intro v8 W hS
   refine .c (.ligv (L1:=[rowV (sv v8) 32 5 dInstr y6]) [y6] (fun (l : List Instr)=>D.row 32 5 (l.map dInstr)) T.u39 T.t23 (hS.to [0,0,0,0,0] z) z z z (.row (.nil)) ?_ z (fun _=>z) z z z z z)
   intro v9 W hS
   have ⟨r1,hr1,h⟩:=bnd h
   refine .c (.appv hr1 (hS.to [4,0,0,0,0] z) T.u39 T.t23 z z z ?_ z z z z z)
   intro v10 W hS
   refine .qn z (.region (.q z (.q z (.q z (.nil ?_)))))
   have hS:=Sep.gat (ds:=[.row 126 5 (x1.map dQuad)]) (cs:=[(sv v7)]) (L1:=[rowV (sv v7) 126 5 dQuad x1]) (.row (.nil)) (hS.to [1,1,0,0] z)
   have hS : Sep _ _ _ [rowV (sv v1) 104 1 (fun (l : List Quad)=>D.row 126 5 (l.map dQuad)) y1.1,rowV (sv v10) 23 1 (fun (l : List Instr)=>D.row 32 5 (l.map dInstr)) r1,.box g_0 100 [(sv v_0_b),.int .i64 y2.2]]:=Sep.back0v hx1 hS
   cases h
   exact ⟨z,v10,sb z,hS.to [2,0,0] z⟩
  refine .exit ?_
  cases h
  exact ⟨by simp,z,v4,sb z,hS.to [0,0,0] z⟩
 intro x E W hJ
 obtain ⟨rfl,v11,hE,hS⟩:=hJ
 refine ⟨_,hE.sub,?_⟩
 cases h
 exact .g (.q z (.qn z (.ret (fin_ret (vs:=[_]) v11 (rt z rn) z (hS.to [0,1] z)))))
theorem f7u {a0 : Int} {w : World} {r : Bool} (h : f1i a0 = some r) : Calls Tryz.prog 43 #[.int .i64 a0] w (Ret No w (fun s : Unit=>.bool r) (fun s=>[])):=by
 unfold f1i at h
 refine enter Tryz.func43 z z ?_
 have hS:=Sep.start w
 refine .g (.qn z (.g (.q z (.q z (.q z (.chunk 3 8 ((decide (a0 ≥ (-2147483648))) && (decide (a0 ≤ 2147483647))) hS ?_ ?_))))))
 ·refine .both (decide (a0 ≥ (-2147483648))) (fun hb=>?_) (fun hb=>?_)
  ·have hg1:=hb
   exact .g hg1 (.q z (.g hg1 (.q z (.s (pkt hg1 z z z) z (.nil (ck 3 hS z (and_t hg1) z z)))) z)) z
  exact .xx hb z (.xx hb z (.s (pkf hb z z z) z (.nil (ck 3 hS z (and_f hb) z z))))
 intro W hS
 cases h
 exact .qn z (.ret (fin_ret (vs:=[_]) () (rt z rn) z (hS.to [] z)))
theorem fad {a0 : Int} {w : World} {r : Int} (h : f0y a0 = some r) : Calls Tryz.prog 16 #[.int .i64 a0] w (Ret No w (fun s : Unit=>.int .i64 r) (fun s=>[])):=by
 unfold f0y at h
 refine enter Tryz.func16 z z ?_
 have hS:=Sep.start w
 refine .g (.qn z (.seq (.g (.q z ?_))))
 have ⟨y1,hy1,h⟩:=bnd h
 refine .c (.call0 hS Tryz.func43 (f7u hy1) z z ?_ z z z z)
 intro W hS
 refine .q z (.nil ?_)
 refine .cs z h ?_ ?_ <;> intro h
 ·cases h
  exact .g (.qn z (.ret (fin_ret (vs:=[_]) () (rt z rn) z (hS.to [] z))))
 cases h
 exact .skip (.g (.q z (.s (cv T.u3 T.u81 z z) z (.s (cv T.u81 T.u3 z z) z (.qn z (.ret (fin_ret (vs:=[_]) () (rt z rn) z (hS.to [] z))))))))
theorem f5y {a0 : Int} {w : World} {r : Int} (h : f0m a0 = some r) : Calls Tryz.prog 69 #[.int .i64 a0] w (Ret No w (fun s : Unit=>.int .u8 r) (fun s=>[])):=by
 unfold f0m at h
 refine enter Tryz.func69 z z ?_
 have hS:=Sep.start w
 refine .g (.qn z (.seq (.block (.g (.q z (.q z (.q z (.chunk 3 9 ((decide (a0 ≥ 1)) && (decide (a0 ≤ 11))) hS ?_ ?_))))))))
 ·refine .both (decide (a0 ≥ 1)) (fun hb=>?_) (fun hb=>?_)
  ·have hg1:=hb
   exact .g hg1 (.q z (.g hg1 (.q z (.s (pkt hg1 z z z) z (.nil (ck 3 hS z (and_t hg1) z z)))) z)) z
  exact .xx hb z (.xx hb z (.s (pkf hb z z z) z (.nil (ck 3 hS z (and_f hb) z z))))
 intro W hS
 refine .q z (.nil ?_)
 refine .cs z h ?_ ?_ <;> intro h
 ·cases h
  exact .g (.qn z (.ret (fin_ret (vs:=[_]) () (rt z rn) z (hS.to [] z))))
 refine .g (.q z (.q z (.q z (.chunk 3 16 ((decide (a0 ≥ 12)) && (decide (a0 ≤ 15))) hS ?_ ?_))))
 ·refine .both (decide (a0 ≥ 12)) (fun hb=>?_) (fun hb=>?_)
  ·have hg2:=hb
   exact .g hg2 (.q z (.g hg2 (.q z (.s (pkt hg2 z z z) z (.nil (ck 3 hS z (and_t hg2) z z)))) z)) z
  exact .xx hb z (.xx hb z (.s (pkf hb z z z) z (.nil (ck 3 hS z (and_f hb) z z))))
 intro W hS
 refine .q z (.nil ?_)
 refine .cs z h ?_ ?_ <;> intro h
 ·cases h
  exact .g (.qn z (.ret (fin_ret (vs:=[_]) () (rt z rn) z (hS.to [] z))))
 refine .g (.q z (.q z (.q z (.nil ?_))))
 refine .cs z h ?_ ?_ <;> intro h
 ·cases h
  exact .g (.qn z (.ret (fin_ret (vs:=[_]) () (rt z rn) z (hS.to [] z))))
 refine .g (.q z (.q z (.q z (.chunk 3 26 ((a0 == 17) || (a0 == 18)) hS ?_ ?_))))
 ·refine .both (a0 == 17) (fun hb=>?_) (fun hb=>?_)
  ·exact .xx hb z (.xx hb z (.s (pkt hb z z z) z (.nil (ck 3 hS z (or_t hb) z z))))
  have hg3:=hb
  exact .g hg3 (.q z (.g hg3 (.q z (.s (pkf hg3 z z z) z (.nil (ck 3 hS z (or_f hg3) z z)))) z)) z
 intro W hS
 refine .q z (.nil ?_)
 refine .cs z h ?_ ?_ <;> intro h
 ·cases h
  exact .g (.qn z (.ret (fin_ret (vs:=[_]) () (rt z rn) z (hS.to [] z))))
 refine .g (.q z (.q z (.q z (.nil ?_))))
 refine .cs z h ?_ ?_ <;> intro h
 ·cases h
  exact .g (.qn z (.ret (fin_ret (vs:=[_]) () (rt z rn) z (hS.to [] z))))
 refine .g (.q z (.q z (.q z (.nil ?_))))
 refine .cs z h ?_ ?_ <;> intro h
 ·cases h
  exact .g (.qn z (.ret (fin_ret (vs:=[_]) () (rt z rn) z (hS.to [] z))))
 refine .g (.q z (.q z (.q z (.nil ?_))))
 refine .cs z h ?_ ?_ <;> intro h
 ·cases h
  exact .g (.qn z (.ret (fin_ret (vs:=[_]) () (rt z rn) z (hS.to [] z))))
 cases h
 exact .skip (.g (.qn z (.ret (fin_ret (vs:=[_]) () (rt z rn) z (hS.to [] z)))))
theorem f5v {a0 : Int} {w : World} {r : Bool} (h : f16 a0 = some r) : Calls Tryz.prog 104 #[.int .i64 a0] w (Ret No w (fun s : Unit=>.bool r) (fun s=>[])):=by
 unfold f16 at h
 refine enter Tryz.func104 z z ?_
 have hS:=Sep.start w
 refine .g (.qn z (.g (.q z (.q z (.q z (.chunk 3 8 ((decide (a0 ≥ 0)) && (decide (a0 < 32))) hS ?_ ?_))))))
 ·refine .both (decide (a0 ≥ 0)) (fun hb=>?_) (fun hb=>?_)
  ·have hg1:=hb
   exact .g hg1 (.q z (.g hg1 (.q z (.s (pkt hg1 z z z) z (.nil (ck 3 hS z (and_t hg1) z z)))) z)) z
  exact .xx hb z (.xx hb z (.s (pkf hb z z z) z (.nil (ck 3 hS z (and_f hb) z z))))
 intro W hS
 cases h
 exact .qn z (.ret (fin_ret (vs:=[_]) () (rt z rn) z (hS.to [] z)))
theorem fbm {a0 : Instr} {w : World} {r : Bool} (h : f0g a0 = some r) : Calls Tryz.prog 72 #[.agg #[.int .i64 a0.Op,.int .i64 a0.Rd,.int .i64 a0.Rs,.int .i64 a0.Rt,.int .i64 a0.Imm]] w (Ret No w (fun s : Unit=>.bool r) (fun s=>[])):=by
 unfold f0g at h
 refine enter Tryz.func72 z z ?_
 have hS:=Sep.start w
 refine .g (.c (.box hS z z ?_ z z))
 intro g1 W hS
 refine .qn z (.seq (.rk 12 hS [0] T.mix ?_))
 intro W hS
 have hT:=hS.to [0] z
 refine .ts 0 z (fun W hT=>fa T.f32_1 z z z) hT z (by kernel_rfl) (.ts 1 z (fun W hT=>ld T.t3 hT z z z z z) hT z (by kernel_rfl) (.ts 3 z (fun W hT=>fa T.f32_2 z z z) hT z (by kernel_rfl) (.ts 4 z (fun W hT=>ld T.t3 hT z z z z z) hT z (by kernel_rfl) (.ts 6 z (fun W hT=>fa T.f32_3 z z z) hT z (by kernel_rfl) (.ts 7 z (fun W hT=>ld T.t3 hT z z z z z) hT z (by kernel_rfl) ?_)))))
 have ⟨y1,hy1,h⟩:=bnd h
 refine .by1 2 z (.call0 hS Tryz.func104 (f5v hy1) z z ?_ z z z z) (by kernel_rfl)
 intro W hS
 have hT:=hS.to [0] z
 refine ⟨fun _=>hT,?_⟩
 have ⟨y2,hy2,h⟩:=bnd h
 refine .by1 5 z (.call0 hS Tryz.func104 (f5v hy2) z z ?_ z z z z) (by kernel_rfl)
 intro W hS
 have hT:=hS.to [0] z
 refine ⟨fun _=>hT,?_⟩
 have ⟨y3,hy3,h⟩:=bnd h
 refine .by1 8 z (.call0 hS Tryz.func104 (f5v hy3) z z ?_ z z z z) (by kernel_rfl)
 intro W hS
 have hT:=hS.to [0] z
 refine ⟨fun _=>hT,.tp 9 z z hT (by kernel_rfl) (.tp 10 z z hT (by kernel_rfl) (.tp 11 z z hT (by kernel_rfl) (.done (.g (.s (fa T.f32_4 z z z) z (.s (ld T.t3 hS z z z z z) z (.q z (.q z (.chunk 4 23 ((decide (a0.Imm ≥ (-2048))) && (decide (a0.Imm ≤ 2047))) hS ?_ ?_)))))) (by kernel_rfl))))⟩
 ·refine .both (decide (a0.Imm ≥ (-2048))) (fun hb=>?_) (fun hb=>?_)
  ·have hg1:=hb
   exact .g hg1 (.s (fa T.f32_4 z z z) z (.g hg1 (.s (ld T.t3 hS z z z z z) z (.g hg1 (.q z (.s (pkt hg1 z z z) z (.nil (ck 4 hS z (and_t hg1) z z)))) z)) z)) z
  exact .xx hb z (.xx hb z (.xx hb z (.s (pkf hb z z z) z (.nil (ck 4 hS z (and_f hb) z z)))))
 intro W hS
 refine .qn z (.seq (.g (.s (fa T.f32_0 z z z) z (.s (ld T.t3 hS z z z z z) z ?_))))
 have ⟨y4,hy4,h⟩:=bnd h
 refine .c (.call0 hS Tryz.func69 (f5y hy4) z z ?_ z z z z)
 intro W hS
 refine .nil (.block (.g (.q z (.q z (.nil ?_)))))
 refine .cs z h ?_ ?_ <;> intro h
 ·refine .g (.q z (.q z (.chunk 2 32 (y1 && y2) hS ?_ ?_)))
  ·refine .both (y1) (fun hb=>?_) (fun hb=>?_)
   ·have hg2:=hb
    exact .g hg2 (.q z (.s (pkt hg2 z z z) z (.nil (ck 2 hS z (and_t hg2) z z)))) z
   exact .xx hb z (.s (pkf hb z z z) z (.nil (ck 2 hS z (and_f hb) z z)))
  intro W hS
  refine .q z (.chunk 2 35 ((y1 && y2) && y3) hS ?_ ?_)
  ·refine .both (y1 && y2) (fun hb=>?_) (fun hb=>?_)
   ·have hg3:=hb
    exact .g hg3 (.q z (.s (pkt hg3 z z z) z (.nil (ck 2 hS z (and_t hg3) z z)))) z
   exact .xx hb z (.s (pkf hb z z z) z (.nil (ck 2 hS z (and_f hb) z z)))
  intro W hS
  refine .q z (.chunk 4 40 (((y1 && y2) && y3) && (a0.Imm == 0)) hS ?_ ?_)
  ·refine .both ((y1 && y2) && y3) (fun hb=>?_) (fun hb=>?_)
   ·have hg4:=hb
    exact .g hg4 (.s (fa T.f32_4 z z z) z (.g hg4 (.s (ld T.t3 hS z z z z z) z (.g hg4 (.q z (.s (pkt hg4 z z z) z (.nil (ck 4 hS z (and_t hg4) z z)))) z)) z)) z
   exact .xx hb z (.xx hb z (.xx hb z (.s (pkf hb z z z) z (.nil (ck 4 hS z (and_f hb) z z)))))
  intro W hS
  cases h
  exact .qn z (.ret (fin_ret (vs:=[_]) () (rt z rn) z (hS.to [] z)))
 refine .g (.q z (.q z (.nil ?_)))
 refine .cs z h ?_ ?_ <;> intro h
 ·refine .g (.q z (.q z (.chunk 2 46 (y1 && y2) hS ?_ ?_)))
  ·refine .both (y1) (fun hb=>?_) (fun hb=>?_)
   ·have hg5:=hb
    exact .g hg5 (.q z (.s (pkt hg5 z z z) z (.nil (ck 2 hS z (and_t hg5) z z)))) z
   exact .xx hb z (.s (pkf hb z z z) z (.nil (ck 2 hS z (and_f hb) z z)))
  intro W hS
  refine .q z (.chunk 4 51 ((y1 && y2) && (a0.Rt == 0)) hS ?_ ?_)
  ·refine .both (y1 && y2) (fun hb=>?_) (fun hb=>?_)
   ·have hg6:=hb
    exact .g hg6 (.s (fa T.f32_3 z z z) z (.g hg6 (.s (ld T.t3 hS z z z z z) z (.g hg6 (.q z (.s (pkt hg6 z z z) z (.nil (ck 4 hS z (and_t hg6) z z)))) z)) z)) z
   exact .xx hb z (.xx hb z (.xx hb z (.s (pkf hb z z z) z (.nil (ck 4 hS z (and_f hb) z z)))))
  intro W hS
  refine .q z (.chunk 2 54 (((y1 && y2) && (a0.Rt == 0)) && ((decide (a0.Imm ≥ (-2048))) && (decide (a0.Imm ≤ 2047)))) hS ?_ ?_)
  ·refine .both ((y1 && y2) && (a0.Rt == 0)) (fun hb=>?_) (fun hb=>?_)
   ·have hg7:=hb
    exact .g hg7 (.q z (.s (pkt hg7 z z z) z (.nil (ck 2 hS z (and_t hg7) z z)))) z
   exact .xx hb z (.s (pkf hb z z z) z (.nil (ck 2 hS z (and_f hb) z z)))
  intro W hS
  cases h
  exact .qn z (.ret (fin_ret (vs:=[_]) () (rt z rn) z (hS.to [] z)))
 refine .g (.q z (.q z (.nil ?_)))
 refine .cs z h ?_ ?_ <;> intro h
 ·refine .g (.s (fa T.f32_1 z z z) z (.s (ld T.t3 hS z z z z z) z (.q z (.q z (.chunk 2 62 ((a0.Rd == 0) && y2) hS ?_ ?_)))))
  ·refine .both (a0.Rd == 0) (fun hb=>?_) (fun hb=>?_)
   ·have hg8:=hb
    exact .g hg8 (.q z (.s (pkt hg8 z z z) z (.nil (ck 2 hS z (and_t hg8) z z)))) z
   exact .xx hb z (.s (pkf hb z z z) z (.nil (ck 2 hS z (and_f hb) z z)))
  intro W hS
  refine .q z (.chunk 2 65 (((a0.Rd == 0) && y2) && y3) hS ?_ ?_)
  ·refine .both ((a0.Rd == 0) && y2) (fun hb=>?_) (fun hb=>?_)
   ·have hg9:=hb
    exact .g hg9 (.q z (.s (pkt hg9 z z z) z (.nil (ck 2 hS z (and_t hg9) z z)))) z
   exact .xx hb z (.s (pkf hb z z z) z (.nil (ck 2 hS z (and_f hb) z z)))
  intro W hS
  refine .q z (.chunk 2 68 ((((a0.Rd == 0) && y2) && y3) && ((decide (a0.Imm ≥ (-2048))) && (decide (a0.Imm ≤ 2047)))) hS ?_ ?_)
  ·refine .both (((a0.Rd == 0) && y2) && y3) (fun hb=>?_) (fun hb=>?_)
   ·have hg10:=hb
    exact .g hg10 (.q z (.s (pkt hg10 z z z) z (.nil (ck 2 hS z (and_t hg10) z z)))) z
   exact .xx hb z (.s (pkf hb z z z) z (.nil (ck 2 hS z (and_f hb) z z)))
  intro W hS
  cases h
  exact .qn z (.ret (fin_ret (vs:=[_]) () (rt z rn) z (hS.to [] z)))
 refine .g (.q z (.q z (.nil ?_)))
 refine .cs z h ?_ ?_ <;> intro h
 ·refine .g (.s (fa T.f32_1 z z z) z (.s (ld T.t3 hS z z z z z) z (.q z (.q z (.chunk 2 76 ((a0.Rd == 0) && y2) hS ?_ ?_)))))
  ·refine .both (a0.Rd == 0) (fun hb=>?_) (fun hb=>?_)
   ·have hg11:=hb
    exact .g hg11 (.q z (.s (pkt hg11 z z z) z (.nil (ck 2 hS z (and_t hg11) z z)))) z
   exact .xx hb z (.s (pkf hb z z z) z (.nil (ck 2 hS z (and_f hb) z z)))
  intro W hS
  refine .q z (.chunk 2 79 (((a0.Rd == 0) && y2) && y3) hS ?_ ?_)
  ·refine .both ((a0.Rd == 0) && y2) (fun hb=>?_) (fun hb=>?_)
   ·have hg12:=hb
    exact .g hg12 (.q z (.s (pkt hg12 z z z) z (.nil (ck 2 hS z (and_t hg12) z z)))) z
   exact .xx hb z (.s (pkf hb z z z) z (.nil (ck 2 hS z (and_f hb) z z)))
  intro W hS
  refine .q z (.chunk 4 84 ((((a0.Rd == 0) && y2) && y3) && (decide (a0.Imm ≥ (-4096)))) hS ?_ ?_)
  ·refine .both (((a0.Rd == 0) && y2) && y3) (fun hb=>?_) (fun hb=>?_)
   ·have hg13:=hb
    exact .g hg13 (.s (fa T.f32_4 z z z) z (.g hg13 (.s (ld T.t3 hS z z z z z) z (.g hg13 (.q z (.s (pkt hg13 z z z) z (.nil (ck 4 hS z (and_t hg13) z z)))) z)) z)) z
   exact .xx hb z (.xx hb z (.xx hb z (.s (pkf hb z z z) z (.nil (ck 4 hS z (and_f hb) z z)))))
  intro W hS
  refine .q z (.chunk 4 89 (((((a0.Rd == 0) && y2) && y3) && (decide (a0.Imm ≥ (-4096)))) && (decide (a0.Imm ≤ 4094))) hS ?_ ?_)
  ·refine .both ((((a0.Rd == 0) && y2) && y3) && (decide (a0.Imm ≥ (-4096)))) (fun hb=>?_) (fun hb=>?_)
   ·have hg14:=hb
    exact .g hg14 (.s (fa T.f32_4 z z z) z (.g hg14 (.s (ld T.t3 hS z z z z z) z (.g hg14 (.q z (.s (pkt hg14 z z z) z (.nil (ck 4 hS z (and_t hg14) z z)))) z)) z)) z
   exact .xx hb z (.xx hb z (.xx hb z (.s (pkf hb z z z) z (.nil (ck 4 hS z (and_f hb) z z)))))
  intro W hS
  refine .q z (.chunk 5 95 ((((((a0.Rd == 0) && y2) && y3) && (decide (a0.Imm ≥ (-4096)))) && (decide (a0.Imm ≤ 4094))) && ((Int.tmod a0.Imm 2) == 0)) hS ?_ ?_)
  ·refine .both (((((a0.Rd == 0) && y2) && y3) && (decide (a0.Imm ≥ (-4096)))) && (decide (a0.Imm ≤ 4094))) (fun hb=>?_) (fun hb=>?_)
   ·have hg15:=hb
    exact .g hg15 (.s (fa T.f32_4 z z z) z (.g hg15 (.s (ld T.t3 hS z z z z z) z (.g hg15 (.q z (.g hg15 (.q z (.s (pkt hg15 z z z) z (.nil (ck 5 hS z (and_t hg15) z z)))) z)) z)) z)) z
   exact .xx hb z (.xx hb z (.xx hb z (.xx hb z (.s (pkf hb z z z) z (.nil (ck 5 hS z (and_f hb) z z))))))
  intro W hS
  cases h
  exact .qn z (.ret (fin_ret (vs:=[_]) () (rt z rn) z (hS.to [] z)))
 refine .g (.q z (.q z (.nil ?_)))
 refine .cs z h ?_ ?_ <;> intro h
 ·refine .g (.q z (.q z (.chunk 4 103 (y1 && (a0.Rs == 0)) hS ?_ ?_)))
  ·refine .both (y1) (fun hb=>?_) (fun hb=>?_)
   ·have hg16:=hb
    exact .g hg16 (.s (fa T.f32_2 z z z) z (.g hg16 (.s (ld T.t3 hS z z z z z) z (.g hg16 (.q z (.s (pkt hg16 z z z) z (.nil (ck 4 hS z (and_t hg16) z z)))) z)) z)) z
   exact .xx hb z (.xx hb z (.xx hb z (.s (pkf hb z z z) z (.nil (ck 4 hS z (and_f hb) z z)))))
  intro W hS
  refine .q z (.chunk 4 108 ((y1 && (a0.Rs == 0)) && (a0.Rt == 0)) hS ?_ ?_)
  ·refine .both (y1 && (a0.Rs == 0)) (fun hb=>?_) (fun hb=>?_)
   ·have hg17:=hb
    exact .g hg17 (.s (fa T.f32_3 z z z) z (.g hg17 (.s (ld T.t3 hS z z z z z) z (.g hg17 (.q z (.s (pkt hg17 z z z) z (.nil (ck 4 hS z (and_t hg17) z z)))) z)) z)) z
   exact .xx hb z (.xx hb z (.xx hb z (.s (pkf hb z z z) z (.nil (ck 4 hS z (and_f hb) z z)))))
  intro W hS
  refine .q z (.chunk 4 113 (((y1 && (a0.Rs == 0)) && (a0.Rt == 0)) && (decide (a0.Imm ≥ 0))) hS ?_ ?_)
  ·refine .both ((y1 && (a0.Rs == 0)) && (a0.Rt == 0)) (fun hb=>?_) (fun hb=>?_)
   ·have hg18:=hb
    exact .g hg18 (.s (fa T.f32_4 z z z) z (.g hg18 (.s (ld T.t3 hS z z z z z) z (.g hg18 (.q z (.s (pkt hg18 z z z) z (.nil (ck 4 hS z (and_t hg18) z z)))) z)) z)) z
   exact .xx hb z (.xx hb z (.xx hb z (.s (pkf hb z z z) z (.nil (ck 4 hS z (and_f hb) z z)))))
  intro W hS
  refine .q z (.chunk 4 118 ((((y1 && (a0.Rs == 0)) && (a0.Rt == 0)) && (decide (a0.Imm ≥ 0))) && (decide (a0.Imm ≤ 1048575))) hS ?_ ?_)
  ·refine .both (((y1 && (a0.Rs == 0)) && (a0.Rt == 0)) && (decide (a0.Imm ≥ 0))) (fun hb=>?_) (fun hb=>?_)
   ·have hg19:=hb
    exact .g hg19 (.s (fa T.f32_4 z z z) z (.g hg19 (.s (ld T.t3 hS z z z z z) z (.g hg19 (.q z (.s (pkt hg19 z z z) z (.nil (ck 4 hS z (and_t hg19) z z)))) z)) z)) z
   exact .xx hb z (.xx hb z (.xx hb z (.s (pkf hb z z z) z (.nil (ck 4 hS z (and_f hb) z z)))))
  intro W hS
  cases h
  exact .qn z (.ret (fin_ret (vs:=[_]) () (rt z rn) z (hS.to [] z)))
 refine .g (.q z (.q z (.nil ?_)))
 refine .cs z h ?_ ?_ <;> intro h
 ·refine .g (.q z (.q z (.chunk 4 126 (y1 && (a0.Rs == 0)) hS ?_ ?_)))
  ·refine .both (y1) (fun hb=>?_) (fun hb=>?_)
   ·have hg20:=hb
    exact .g hg20 (.s (fa T.f32_2 z z z) z (.g hg20 (.s (ld T.t3 hS z z z z z) z (.g hg20 (.q z (.s (pkt hg20 z z z) z (.nil (ck 4 hS z (and_t hg20) z z)))) z)) z)) z
   exact .xx hb z (.xx hb z (.xx hb z (.s (pkf hb z z z) z (.nil (ck 4 hS z (and_f hb) z z)))))
  intro W hS
  refine .q z (.chunk 4 131 ((y1 && (a0.Rs == 0)) && (a0.Rt == 0)) hS ?_ ?_)
  ·refine .both (y1 && (a0.Rs == 0)) (fun hb=>?_) (fun hb=>?_)
   ·have hg21:=hb
    exact .g hg21 (.s (fa T.f32_3 z z z) z (.g hg21 (.s (ld T.t3 hS z z z z z) z (.g hg21 (.q z (.s (pkt hg21 z z z) z (.nil (ck 4 hS z (and_t hg21) z z)))) z)) z)) z
   exact .xx hb z (.xx hb z (.xx hb z (.s (pkf hb z z z) z (.nil (ck 4 hS z (and_f hb) z z)))))
  intro W hS
  refine .q z (.chunk 4 136 (((y1 && (a0.Rs == 0)) && (a0.Rt == 0)) && (decide (a0.Imm ≥ (-1048576)))) hS ?_ ?_)
  ·refine .both ((y1 && (a0.Rs == 0)) && (a0.Rt == 0)) (fun hb=>?_) (fun hb=>?_)
   ·have hg22:=hb
    exact .g hg22 (.s (fa T.f32_4 z z z) z (.g hg22 (.s (ld T.t3 hS z z z z z) z (.g hg22 (.q z (.s (pkt hg22 z z z) z (.nil (ck 4 hS z (and_t hg22) z z)))) z)) z)) z
   exact .xx hb z (.xx hb z (.xx hb z (.s (pkf hb z z z) z (.nil (ck 4 hS z (and_f hb) z z)))))
  intro W hS
  refine .q z (.chunk 4 141 ((((y1 && (a0.Rs == 0)) && (a0.Rt == 0)) && (decide (a0.Imm ≥ (-1048576)))) && (decide (a0.Imm ≤ 1048574))) hS ?_ ?_)
  ·refine .both (((y1 && (a0.Rs == 0)) && (a0.Rt == 0)) && (decide (a0.Imm ≥ (-1048576)))) (fun hb=>?_) (fun hb=>?_)
   ·have hg23:=hb
    exact .g hg23 (.s (fa T.f32_4 z z z) z (.g hg23 (.s (ld T.t3 hS z z z z z) z (.g hg23 (.q z (.s (pkt hg23 z z z) z (.nil (ck 4 hS z (and_t hg23) z z)))) z)) z)) z
   exact .xx hb z (.xx hb z (.xx hb z (.s (pkf hb z z z) z (.nil (ck 4 hS z (and_f hb) z z)))))
  intro W hS
  refine .q z (.chunk 5 147 (((((y1 && (a0.Rs == 0)) && (a0.Rt == 0)) && (decide (a0.Imm ≥ (-1048576)))) && (decide (a0.Imm ≤ 1048574))) && ((Int.tmod a0.Imm 2) == 0)) hS ?_ ?_)
  ·refine .both ((((y1 && (a0.Rs == 0)) && (a0.Rt == 0)) && (decide (a0.Imm ≥ (-1048576)))) && (decide (a0.Imm ≤ 1048574))) (fun hb=>?_) (fun hb=>?_)
   ·have hg24:=hb
    exact .g hg24 (.s (fa T.f32_4 z z z) z (.g hg24 (.s (ld T.t3 hS z z z z z) z (.g hg24 (.q z (.g hg24 (.q z (.s (pkt hg24 z z z) z (.nil (ck 5 hS z (and_t hg24) z z)))) z)) z)) z)) z
   exact .xx hb z (.xx hb z (.xx hb z (.xx hb z (.s (pkf hb z z z) z (.nil (ck 5 hS z (and_f hb) z z))))))
  intro W hS
  cases h
  exact .qn z (.ret (fin_ret (vs:=[_]) () (rt z rn) z (hS.to [] z)))
 refine .g (.q z (.q z (.nil ?_)))
 refine .cs z h ?_ ?_ <;> intro h
 ·cases h
  exact .g (.s (ld T.t32 hS z z z z z) z (.s (bs T.s32 z z) z (.s (eqs T.e32 z z z z) z (.qn z (.ret (fin_ret (vs:=[_]) () (rt z rn) z (hS.to [] z)))))))
 obtain rfl:=Option.some.inj h
 exact .skip (.g (.qn z (.ret (fin_ret (vs:=[_]) () (rt z rn) z (hS.to [] z)))))
theorem f9w {a0 : Int} {w : World} {r : Bool} (h : f2g a0 = some r) : Calls Tryz.prog 39 #[.int .i64 a0] w (Ret No w (fun s : Unit=>.bool r) (fun s=>[])):=by
 unfold f2g at h
 refine enter Tryz.func39 z z ?_
 have hS:=Sep.start w
 refine .g (.qn z (.g (.q z (.q z (.q z (.chunk 3 8 ((decide (a0 ≥ 0)) && (decide (a0 < 4294967296))) hS ?_ ?_))))))
 ·refine .both (decide (a0 ≥ 0)) (fun hb=>?_) (fun hb=>?_)
  ·have hg1:=hb
   exact .g hg1 (.q z (.g hg1 (.q z (.s (pkt hg1 z z z) z (.nil (ck 3 hS z (and_t hg1) z z)))) z)) z
  exact .xx hb z (.xx hb z (.s (pkf hb z z z) z (.nil (ck 3 hS z (and_f hb) z z))))
 intro W hS
 cases h
 exact .qn z (.ret (fin_ret (vs:=[_]) () (rt z rn) z (hS.to [] z)))
theorem f0r {a0 : Int} {a1 : Int} {a2 : Int} {w : World} {r : Int} (h : f0f a0 a1 a2 = some r) : Calls Tryz.prog 70 #[.int .i64 a0,.int .i64 a1,.int .i64 a2] w (Ret No w (fun s : Unit=>.int .i64 r) (fun s=>[])):=by
 unfold f0f at h
 refine enter Tryz.func70 z z ?_
 have hS:=Sep.start w
 refine .g (.qn z (.seq (.g (.q z ?_))))
 have ⟨y1,hy1,h⟩:=bnd h
 refine .c (.call0 hS Tryz.func39 (f9w hy1) z z ?_ z z z z)
 intro W hS
 refine .q z (.q z (.chunk 3 13 ((!y1) || (decide (a1 < 0))) hS ?_ ?_))
 ·refine .both (!y1) (fun hb=>?_) (fun hb=>?_)
  ·exact .xx hb z (.xx hb z (.s (pkt hb z z z) z (.nil (ck 3 hS z (or_t hb) z z))))
  have hg1:=hb
  exact .g hg1 (.q z (.g hg1 (.q z (.s (pkf hg1 z z z) z (.nil (ck 3 hS z (or_f hg1) z z)))) z)) z
 intro W hS
 refine .q z (.chunk 3 17 (((!y1) || (decide (a1 < 0))) || (decide (a1 > 31))) hS ?_ ?_)
 ·refine .both ((!y1) || (decide (a1 < 0))) (fun hb=>?_) (fun hb=>?_)
  ·exact .xx hb z (.xx hb z (.s (pkt hb z z z) z (.nil (ck 3 hS z (or_t hb) z z))))
  have hg2:=hb
  exact .g hg2 (.q z (.g hg2 (.q z (.s (pkf hg2 z z z) z (.nil (ck 3 hS z (or_f hg2) z z)))) z)) z
 intro W hS
 refine .q z (.chunk 3 21 ((((!y1) || (decide (a1 < 0))) || (decide (a1 > 31))) || (decide (a2 < 1))) hS ?_ ?_)
 ·refine .both (((!y1) || (decide (a1 < 0))) || (decide (a1 > 31))) (fun hb=>?_) (fun hb=>?_)
  ·exact .xx hb z (.xx hb z (.s (pkt hb z z z) z (.nil (ck 3 hS z (or_t hb) z z))))
  have hg3:=hb
  exact .g hg3 (.q z (.g hg3 (.q z (.s (pkf hg3 z z z) z (.nil (ck 3 hS z (or_f hg3) z z)))) z)) z
 intro W hS
 refine .q z (.chunk 5 27 (((((!y1) || (decide (a1 < 0))) || (decide (a1 > 31))) || (decide (a2 < 1))) || (decide (a2 > (w64 (32 - a1))))) hS ?_ ?_)
 ·refine .both ((((!y1) || (decide (a1 < 0))) || (decide (a1 > 31))) || (decide (a2 < 1))) (fun hb=>?_) (fun hb=>?_)
  ·exact .xx hb z (.xx hb z (.xx hb z (.xx hb z (.s (pkt hb z z z) z (.nil (ck 5 hS z (or_t hb) z z))))))
  have hg4:=hb
  exact .g hg4 (.q z (.g hg4 (.q z (.g hg4 (.q z (.g hg4 (.q z (.s (pkf hg4 z z z) z (.nil (ck 5 hS z (or_f hg4) z z)))) z)) z)) z)) z
 intro W hS
 refine .nil ?_
 refine .cs z h ?_ ?_ <;> intro h
 ·cases h
  exact .g (.qn z (.ret (fin_ret (vs:=[_]) () (rt z rn) z (hS.to [] z))))
 refine .skip (.seq (.rk 8 hS [] T.mix ?_))
 intro W hS
 have hT:=hS.to [] z
 refine .tp 0 z z hT (by kernel_rfl) (.tp 1 z z hT (by kernel_rfl) ?_)
 have ⟨d1,hd1,h⟩:=bnd h
 refine .ts 2 z (fun W hT=>shr_run hd1 z z z) hT z (by kernel_rfl) (.tp 3 z z hT (by kernel_rfl) ?_)
 have ⟨d2,hd2,h⟩:=bnd h
 cases h
 exact .ts 4 z (fun W hT=>shr_run hd2 z z z) hT z (by kernel_rfl) (.tp 5 z z hT (by kernel_rfl) (.tp 6 z z hT (by kernel_rfl) (.tp 7 z z hT (by kernel_rfl) (.done (.ret (fin_ret (vs:=[_]) () (rt z rn) z (hS.to [] z))) (by kernel_rfl)))))
theorem f0e {a0 : Int} {a1 : Int} {a2 : Int} {a3 : Int} {g_3 : Nat} {w : World} {r : Int} (h : f02 a0 a1 a2 a3 = some r) (b_3 : BR w (Old No w) g_3 3 [.int .i64 a3]) : Calls Tryz.prog 73 #[.int .i64 a0,.int .i64 a1,.int .i64 a2,.pointer (some ⟨g_3,0,none⟩)] w (Ret No w (fun s : Unit=>.int .i64 r) (fun s=>[])):=by
 unfold f02 at h
 refine enter Tryz.func73 z z ?_
 have hS:=Sep.start w
 refine .g (.qn z (.g (.s (ldb T.t3 (hS.keepB b_3) z z z z z) z (.q z (.q z ?_)))))
 have ⟨y1,hy1,h⟩:=bnd h
 refine .c (.call0 hS Tryz.func70 (f0r hy1) z z ?_ z z z z)
 intro W hS
 refine .q z ?_
 have ⟨d1,hd1,h⟩:=bnd h
 obtain rfl:=Option.some.inj h
 exact .s (shr_run hd1 z z z) z (.qn z (.ret (fin_ret (vs:=[_]) () (rt z rn) z (hS.to [] z))))
theorem f9j {a0 : Instr} {w : World} {r : Int × Bool} (h : f0t a0 = some r) (hG : Gl w) : Calls Tryz.prog 42 #[.agg #[.int .i64 a0.Op,.int .i64 a0.Rd,.int .i64 a0.Rs,.int .i64 a0.Rt,.int .i64 a0.Imm]] w (Ret No w (fun s : Unit=>.tuple #[.int .i64 r.1,.bool r.2]) (fun s=>[])):=by
 unfold f0t at h
 refine enter Tryz.func42 z z ?_
 have hS:=Sep.start w
 refine .g (.c (.box hS z z ?_ z z))
 intro g1 W hS
 refine .q z (.qn z (.seq (.g (.s (ld T.t32 hS z z z z z) z ?_))))
 have ⟨y1,hy1,h⟩:=bnd h
 refine .c (.call0 hS Tryz.func72 (fbm hy1) z z ?_ z z z z)
 intro W hS
 refine .q z (.nil ?_)
 refine .cs z h ?_ ?_ <;> intro h
 ·cases h
  exact .g (.q z (.qn z (.ret (fin_ret (vs:=[_,_]) () (rt z (rt z rn)) z (hS.to [] z)))))
 refine .skip (.g (.s (fa T.f32_0 z z z) z (.s (ld T.t3 hS z z z z z) z (.q z ?_))))
 have ⟨x1,hx1,h⟩:=bnd h
 refine .s (ixt hx1 z T.u76 T.t75 z z z) z (.s (ldt (hG.at hS (fun _ _ h=>h)).1 hx1 T.t75 z z z z z) z (.c (.alloc T.t75 hS ?_ z z z)))
 intro g2 W hS
 refine .c (.st T.t75 hS z z z ?_ z z z z z)
 intro W hS
 refine .nil (.g (.s (fa T.f32_4 z z z) z (.s (ld T.t3 hS.p1 z z z z z) z ?_)))
 have ⟨y2,hy2,h⟩:=bnd h
 refine .c (.call0 hS Tryz.func16 (fad hy2) z z ?_ z z z z)
 intro W hS
 refine .c (.alloc T.t3 hS ?_ z z z)
 intro g3 W hS
 refine .c (.st T.t3 hS z z z ?_ z z z z z)
 intro W hS
 refine .nil (.g (.s (mf z z) z (.qn z (.g (.s (fa T.f32_3 z z z) z (.s (ld T.t3 hS.p2 z z z z z) z (.q z (.s (fa T.f32_2 z z z) z (.s (ld T.t3 hS.p2 z z z z z) z (.q z (.q z (.s (fa T.f75_2 z z z) z (.s (ld T.t3 hS.p1 z z z z z) z (.q z (.q z (.s (fa T.f75_1 z z z) z (.s (ld T.t3 hS.p1 z z z z z) z (.q z (.qn z (.seq (.g (.s (fa T.f32_0 z z z) z (.s (ld T.t3 hS.p2 z z z z z) z ?_)))))))))))))))))))))))
 have ⟨y3,hy3,h⟩:=bnd h
 refine .c (.call0 hS Tryz.func69 (f5y hy3) z z ?_ z z z z)
 intro W hS
 refine .nil (.block (.g (.q z (.q z (.nil ?_)))))
 refine .cs z h ?_ ?_ <;> intro h
 ·cases h
  exact .g (.s (fa T.f75_3 z z z) z (.s (ld T.t3 hS.p1 z z z z z) z (.q z (.q z (.q z (.s (fa T.f32_1 z z z) z (.s (ld T.t3 hS.p2 z z z z z) z (.q z (.q z (.q z (.qn z (.ret (fin_ret (vs:=[_,_]) () (rt z (rt z rn)) z (hS.to [] z))))))))))))))
 refine .g (.q z (.q z (.nil ?_)))
 refine .cs z h ?_ ?_ <;> intro h
 ·refine .seq (.rk 10 hS [0,0,0] T.mix ?_)
  intro W hS
  have hT:=hS.to [0,0,0] z
  refine .tp 0 z z hT (by kernel_rfl) (.tp 2 z z hT (by kernel_rfl) (.ts 4 z (fun W hT=>fa T.f32_1 z z z) hT z (by kernel_rfl) (.ts 5 z (fun W hT=>ld T.t3 hT.p2 z z z z z) hT z (by kernel_rfl) (.tp 6 z z hT (by kernel_rfl) ?_))))
  have ⟨y4,hy4,h⟩:=bnd h
  refine .by1 1 z (.callv (vs:=[.int .i64 0,.int .i64 12,.int .i64 20]) (cap:=#[.pointer (some ⟨g3,0,none⟩)]) hS ⟨_,Tryz.func73,z,by kernel_rfl⟩ (f0e hy4 hS.boxB) z z z ?_ z z) (by kernel_rfl)
  rintro ⟨⟩ W hS
  have hT:=hS.to [0,0,0] z
  refine ⟨fun _=>hT,?_⟩
  cases h
  exact .tp 3 z z hT (by kernel_rfl) (.tp 7 z z hT (by kernel_rfl) (.tp 8 z z hT (by kernel_rfl) (.tp 9 z z hT (by kernel_rfl) (.done (.ret (fin_ret (vs:=[_,_]) () (rt z (rt z rn)) z (hS.to [] z))) (by kernel_rfl)))))
 refine .g (.q z (.q z (.nil ?_)))
 refine .cs z h ?_ ?_ <;> intro h
 ·refine .g (.q z ?_)
  have ⟨y5,hy5,h⟩:=bnd h
  refine .c (.callv (vs:=[.int .i64 5,.int .i64 7,.int .i64 25]) (cap:=#[.pointer (some ⟨g3,0,none⟩)]) hS ⟨_,Tryz.func73,z,by kernel_rfl⟩ (f0e hy5 hS.boxB) z z z ?_ z z)
  rintro ⟨⟩ W hS
  refine .q z (.q z (.q z ?_))
  have ⟨y6,hy6,h⟩:=bnd h
  refine .c (.callv (vs:=[.int .i64 0,.int .i64 5,.int .i64 7]) (cap:=#[.pointer (some ⟨g3,0,none⟩)]) hS ⟨_,Tryz.func73,z,by kernel_rfl⟩ (f0e hy6 hS.boxB) z z z ?_ z z)
  rintro ⟨⟩ W hS
  cases h
  exact .q z (.q z (.qn z (.ret (fin_ret (vs:=[_,_]) () (rt z (rt z rn)) z (hS.to [] z)))))
 refine .g (.q z (.q z (.nil ?_)))
 refine .cs z h ?_ ?_ <;> intro h
 ·refine .g (.q z ?_)
  have ⟨y7,hy7,h⟩:=bnd h
  refine .c (.callv (vs:=[.int .i64 12,.int .i64 1,.int .i64 31]) (cap:=#[.pointer (some ⟨g3,0,none⟩)]) hS ⟨_,Tryz.func73,z,by kernel_rfl⟩ (f0e hy7 hS.boxB) z z z ?_ z z)
  rintro ⟨⟩ W hS
  refine .q z ?_
  have ⟨y8,hy8,h⟩:=bnd h
  refine .c (.callv (vs:=[.int .i64 5,.int .i64 6,.int .i64 25]) (cap:=#[.pointer (some ⟨g3,0,none⟩)]) hS ⟨_,Tryz.func73,z,by kernel_rfl⟩ (f0e hy8 hS.boxB) z z z ?_ z z)
  rintro ⟨⟩ W hS
  refine .q z (.q z (.q z (.q z ?_)))
  have ⟨y9,hy9,h⟩:=bnd h
  refine .c (.callv (vs:=[.int .i64 1,.int .i64 4,.int .i64 8]) (cap:=#[.pointer (some ⟨g3,0,none⟩)]) hS ⟨_,Tryz.func73,z,by kernel_rfl⟩ (f0e hy9 hS.boxB) z z z ?_ z z)
  rintro ⟨⟩ W hS
  refine .q z (.q z ?_)
  have ⟨y10,hy10,h⟩:=bnd h
  refine .c (.callv (vs:=[.int .i64 11,.int .i64 1,.int .i64 7]) (cap:=#[.pointer (some ⟨g3,0,none⟩)]) hS ⟨_,Tryz.func73,z,by kernel_rfl⟩ (f0e hy10 hS.boxB) z z z ?_ z z)
  rintro ⟨⟩ W hS
  cases h
  exact .q z (.q z (.qn z (.ret (fin_ret (vs:=[_,_]) () (rt z (rt z rn)) z (hS.to [] z)))))
 refine .g (.q z (.q z (.nil ?_)))
 refine .cs z h ?_ ?_ <;> intro h
 ·refine .seq (.rk 11 hS [0,0,0] T.mix ?_)
  intro W hS
  have hT:=hS.to [0,0,0] z
  refine .tp 0 z z hT (by kernel_rfl) (.ts 2 z (fun W hT=>fa T.f32_1 z z z) hT z (by kernel_rfl) (.ts 3 z (fun W hT=>ld T.t3 hT.p2 z z z z z) hT z (by kernel_rfl) (.tp 4 z z hT (by kernel_rfl) (.ts 6 z (fun W hT=>fa T.f75_1 z z z) hT z (by kernel_rfl) (.ts 7 z (fun W hT=>ld T.t3 hT.p1 z z z z z) hT z (by kernel_rfl) ?_)))))
  have ⟨y11,hy11,h⟩:=bnd h
  refine .by1 1 z (.callv (vs:=[.int .i64 0,.int .i64 20,.int .i64 12]) (cap:=#[.pointer (some ⟨g3,0,none⟩)]) hS ⟨_,Tryz.func73,z,by kernel_rfl⟩ (f0e hy11 hS.boxB) z z z ?_ z z) (by kernel_rfl)
  rintro ⟨⟩ W hS
  have hT:=hS.to [0,0,0] z
  refine ⟨fun _=>hT,?_⟩
  cases h
  exact .tp 5 z z hT (by kernel_rfl) (.tp 8 z z hT (by kernel_rfl) (.tp 9 z z hT (by kernel_rfl) (.tp 10 z z hT (by kernel_rfl) (.done (.ret (fin_ret (vs:=[_,_]) () (rt z (rt z rn)) z (hS.to [] z))) (by kernel_rfl)))))
 refine .g (.q z (.q z (.nil ?_)))
 refine .cs z h ?_ ?_ <;> intro h
 ·refine .seq (.rk 20 hS [0,0,0] T.mix ?_)
  intro W hS
  have hT:=hS.to [0,0,0] z
  refine .tp 0 z z hT (by kernel_rfl) (.tp 2 z z hT (by kernel_rfl) (.tp 5 z z hT (by kernel_rfl) (.tp 8 z z hT (by kernel_rfl) (.ts 11 z (fun W hT=>fa T.f32_1 z z z) hT z (by kernel_rfl) (.ts 12 z (fun W hT=>ld T.t3 hT.p2 z z z z z) hT z (by kernel_rfl) (.tp 13 z z hT (by kernel_rfl) (.ts 15 z (fun W hT=>fa T.f75_1 z z z) hT z (by kernel_rfl) (.ts 16 z (fun W hT=>ld T.t3 hT.p1 z z z z z) hT z (by kernel_rfl) ?_))))))))
  have ⟨y12,hy12,h⟩:=bnd h
  refine .by1 1 z (.callv (vs:=[.int .i64 20,.int .i64 1,.int .i64 31]) (cap:=#[.pointer (some ⟨g3,0,none⟩)]) hS ⟨_,Tryz.func73,z,by kernel_rfl⟩ (f0e hy12 hS.boxB) z z z ?_ z z) (by kernel_rfl)
  rintro ⟨⟩ W hS
  have hT:=hS.to [0,0,0] z
  refine ⟨fun _=>hT,?_⟩
  have ⟨y13,hy13,h⟩:=bnd h
  refine .by1 3 z (.callv (vs:=[.int .i64 1,.int .i64 10,.int .i64 21]) (cap:=#[.pointer (some ⟨g3,0,none⟩)]) hS ⟨_,Tryz.func73,z,by kernel_rfl⟩ (f0e hy13 hS.boxB) z z z ?_ z z) (by kernel_rfl)
  rintro ⟨⟩ W hS
  have hT:=hS.to [0,0,0] z
  refine ⟨fun _=>hT,.tp 4 z z hT (by kernel_rfl) ?_⟩
  have ⟨y14,hy14,h⟩:=bnd h
  refine .by1 6 z (.callv (vs:=[.int .i64 11,.int .i64 1,.int .i64 20]) (cap:=#[.pointer (some ⟨g3,0,none⟩)]) hS ⟨_,Tryz.func73,z,by kernel_rfl⟩ (f0e hy14 hS.boxB) z z z ?_ z z) (by kernel_rfl)
  rintro ⟨⟩ W hS
  have hT:=hS.to [0,0,0] z
  refine ⟨fun _=>hT,.tp 7 z z hT (by kernel_rfl) ?_⟩
  have ⟨y15,hy15,h⟩:=bnd h
  refine .by1 9 z (.callv (vs:=[.int .i64 12,.int .i64 8,.int .i64 12]) (cap:=#[.pointer (some ⟨g3,0,none⟩)]) hS ⟨_,Tryz.func73,z,by kernel_rfl⟩ (f0e hy15 hS.boxB) z z z ?_ z z) (by kernel_rfl)
  rintro ⟨⟩ W hS
  have hT:=hS.to [0,0,0] z
  refine ⟨fun _=>hT,?_⟩
  cases h
  exact .tp 10 z z hT (by kernel_rfl) (.tp 14 z z hT (by kernel_rfl) (.tp 17 z z hT (by kernel_rfl) (.tp 18 z z hT (by kernel_rfl) (.tp 19 z z hT (by kernel_rfl) (.done (.ret (fin_ret (vs:=[_,_]) () (rt z (rt z rn)) z (hS.to [] z))) (by kernel_rfl))))))
 cases h
 exact .skip (.g (.s (fa T.f75_1 z z z) z (.s (ld T.t3 hS.p1 z z z z z) z (.q z (.qn z (.ret (fin_ret (vs:=[_,_]) () (rt z (rt z rn)) z (hS.to [] z))))))))
theorem fej {a0 : Int} {w : World} {r : Int} (h : f1d a0 = some r) : Calls Tryz.prog 61 #[.int .i64 a0] w (Ret No w (fun s : Unit=>.int .i64 r) (fun s=>[])):=by
 unfold f1d at h
 refine enter Tryz.func61 z z ?_
 have hS:=Sep.start w
 cases h
 exact .g (.qn z (.g (.q z (.s (cv T.u3 T.u21 z z) z (.s (cv T.u21 T.u3 z z) z (.qn z (.ret (fin_ret (vs:=[_]) () (rt z rn) z (hS.to [] z)))))))))
def fe1 (w : World) (r : (List Int) × Bool) : Env → World → Prop:=Fin Tryz.prog Tryz.f37 No w (fun s : Hd=>.tuple #[(sv s),.bool r.2]) (fun s=>[rowV (sv s) 3 1 (D.int .i64) r.1]) .ret
theorem faw {a0 : List Instr} {v_0 : Hd} {w : World} {r : (List Int) × Bool} (h : f53 a0 = some r) (q_0 : RV w (Old No w) (sv v_0) 32 5 dInstr a0) (hG : Gl w) : Calls Tryz.prog 37 #[(sv v_0)] w (Ret No w (fun s : Hd=>.tuple #[(sv s),.bool r.2]) (fun s=>[rowV (sv s) 3 1 (D.int .i64) r.1])):=by
 unfold f53 at h
 refine enter Tryz.func37 z z ?_
 have hS:=Sep.start w
 refine .g (.q z (.qn z (.g (.qn z (.seq (.g (.q z (.s (lenv (hS.keep q_0) T.u23 z z) z (.qn z (.block ?_))))))))))
 have hS:=hS.nilv 3 1 (D.int .i64)
 have ⟨y1,hy1,h⟩:=bnd h
 refine .via (.iter (fun s1 E' W'=>∃ (v3 : Hd),SubL E' [(4,(sv v3)),(9,(sv v_0)),(10,.int .i64 (a0.length : Int)),(11,.int .i64 s1.2)] ∧ Sep No w W' [rowV (sv v3) 3 1 (D.int .i64) s1.1]) (fun y2 x E' W'=>(match y2 with | .inl o1=>x = .ret ∧ fe1 w o1 E' W' | .inr o2=>x = .exit 0 ∧ ∃ (v4 : Hd),SubL E' [(4,(sv v4))] ∧ Sep No w W' [rowV (sv v4) 3 1 (D.int .i64) o2])) hy1 ⟨nilH,sb rfl,hS.to [0] rfl⟩ ?_) ?_
 ·intro s1 y3 E W h hI
  obtain ⟨v2,hE,hS⟩:=hI
  refine CW.sub hE ?_
  unfold f3b at h
  refine .g (.qn z (.seq ?_))
  refine .cs z h ?_ ?_ <;> intro h
  ·refine .skip (.seq (.block (.seq (.region ?_))))
   have ⟨x1,hx1,h⟩:=bnd h
   refine .s (ixv (hS.keep q_0) hx1 T.u23 T.t32 z z z) z (.s (lde (RV.flat (hS.keep q_0) hx1 z) T.t32 z z z z z) z (.c (.alloc T.t32 hS ?_ z z z)))
   intro g1 W hS
   refine .c (.st T.t32 hS z z z ?_ z z z z z)
   intro W hS
   refine .nil (.g (.s (ld T.t32 hS z z z z z) z ?_))
   have ⟨y4,hy4,h⟩:=bnd h
   refine .c (.call0 hS Tryz.func42 (f9j hy4 (hG.at hS (fun _ _ h=>h))) z z ?_ z z z z)
   intro W hS
   refine .q z (.q z (.q z (.q z (.qn z (.seq (.g (.q z (.q z (.nil ?_)))))))))
   refine .cs z h ?_ ?_ <;> intro h
   ·refine .g (.q z (.qn z (.ret ?_)))
    have hS:=hS.nilv 3 1 (D.int .i64)
    cases h
    exact ⟨by simp,z,fin_ret (vs:=[_,_]) nilH (rt z (rt z rn)) z (hS.to [0] z)⟩
   refine .skip (.region (.q z (.q z ?_)))
   have ⟨y5,hy5,h⟩:=bnd h
   refine .c (.call0 hS Tryz.func61 (fej hy5) z z ?_ z z z z)
   intro W hS
   refine .c (.liv [y5] (D.int .i64) T.u25 T.t3 hS z z z z ?_ z (fun _=>z) z z z z)
   intro v5 W hS
   have ⟨r1,hr1,h⟩:=bnd h
   have hT0:=hS.p2
   refine .c (.apprv hr1 hT0 hT0.p1.lendv (fun _=>z) T.u25 T.t3 z z z ?_ z z z z z)
   intro v6 W hS
   refine .qn z (.region (.q z (.q z (.nil ?_))))
   cases h
   exact ⟨z,v6,sb z,hS.to [0] z⟩
  refine .exit ?_
  cases h
  exact ⟨by simp,z,v2,sb z,hS.to [0] z⟩
 intro x E W hJ
 rcases y1 with o3 | o4
 ·obtain ⟨rfl,hF⟩:=hJ
  refine ⟨_,fun _ _ h=>h,?_⟩
  cases h
  exact hF
 obtain ⟨rfl,v7,hE,hS⟩:=hJ
 refine ⟨_,hE.sub,?_⟩
 cases h
 exact .g (.q z (.q z (.qn z (.ret (fin_ret (vs:=[_,_]) v7 (rt z (rt z rn)) z (hS.to [0] z))))))
theorem f2l {a0 : Instr} {a1 : Int} {a2 : Int} {a3 : Int} {w : World} {r : Bool} (h : f1o a0 a1 a2 a3 = some r) : Calls Tryz.prog 133 #[.agg #[.int .i64 a0.Op,.int .i64 a0.Rd,.int .i64 a0.Rs,.int .i64 a0.Rt,.int .i64 a0.Imm],.int .i64 a1,.int .i64 a2,.int .i64 a3] w (Ret No w (fun s : Unit=>.bool r) (fun s=>[])):=by
 unfold f1o at h
 refine enter Tryz.func133 z z ?_
 have hS:=Sep.start w
 refine .g (.c (.box hS z z ?_ z z))
 intro g1 W hS
 refine .qn z (.g (.s (fa T.f32_1 z z z) z (.s (ld T.t3 hS z z z z z) z (.q z (.q z ?_)))))
 have ⟨y1,hy1,h⟩:=bnd h
 refine .c (.call0 hS Tryz.func48 (f08 hy1) z z ?_ z z z z)
 intro W hS
 refine .q z ?_
 have ⟨b1,hb1,h⟩:=bnd h
 refine .chunk 6 20 (b1) hS ?_ ?_
 ·refine .both (y1) (fun hb=>?_) (fun hb=>?_)
  ·have hg1:=hb
   have h:=sel_t hb hb1
   refine .g hg1 (.s (fa T.f32_2 z z z) z (.g hg1 (.s (ld T.t3 hS z z z z z) z (.g hg1 (.q z (.g hg1 (.q z ?_) z)) z)) z)) z
   have ⟨y2,hy2,h⟩:=bnd h
   refine .g hg1 (.c (.call0 hS Tryz.func48 (f08 hy2) z z ?_ z z z z)) z
   intro W hS
   refine .s (pkt hg1 z z z) z ?_
   cases h
   exact .nil (ck 6 hS z z z z)
  refine .xx hb z (.xx hb z (.xx hb z (.xx hb z (.xx hb z ?_))))
  cases sel_f hb hb1
  exact .s (pkf hb z z z) z (.nil (ck 6 hS z z z z))
 intro W hS
 refine .q z ?_
 have ⟨b2,hb2,h⟩:=bnd h
 refine .chunk 6 27 (b2) hS ?_ ?_
 ·refine .both (b1) (fun hb=>?_) (fun hb=>?_)
  ·have hg2:=hb
   have h:=sel_t hb hb2
   refine .g hg2 (.s (fa T.f32_3 z z z) z (.g hg2 (.s (ld T.t3 hS z z z z z) z (.g hg2 (.q z (.g hg2 (.q z ?_) z)) z)) z)) z
   have ⟨y3,hy3,h⟩:=bnd h
   refine .g hg2 (.c (.call0 hS Tryz.func48 (f08 hy3) z z ?_ z z z z)) z
   intro W hS
   refine .s (pkt hg2 z z z) z ?_
   cases h
   exact .nil (ck 6 hS z z z z)
  refine .xx hb z (.xx hb z (.xx hb z (.xx hb z (.xx hb z ?_))))
  cases sel_f hb hb2
  exact .s (pkf hb z z z) z (.nil (ck 6 hS z z z z))
 intro W hS
 obtain rfl:=Option.some.inj h
 exact .qn z (.ret (fin_ret (vs:=[_]) () (rt z rn) z (hS.to [] z)))
end Go.Proofs.YtmpplggjpmmhlaaGreatDoor.N
namespace Go.Proofs.YtmpplggjpmmhlaaGreatDoor.N
open Go.Proofs.YtmpplggjpmmhlaaGreatDoor.X
theorem fal {a0 : Int} {a1 : Int} {a2 : Int} {w : World} {r : Bool} (h : f4y a0 a1 a2 = some r) : Calls Tryz.prog 134 #[.int .i64 a0,.int .i64 a1,.int .i64 a2] w (Ret No w (fun s : Unit=>.bool r) (fun s=>[])):=by
 unfold f4y at h
 refine enter Tryz.func134 z z ?_
 have hS:=Sep.start w
 refine .g (.qn z (.g (.q z (.q z (.q z ?_)))))
 have ⟨y1,hy1,h⟩:=bnd h
 refine .c (.call0 hS Tryz.func48 (f08 hy1) z z ?_ z z z z)
 intro W hS
 refine .q z (.chunk 4 15 (y1 && ((Int.tmod a0 2) == 0)) hS ?_ ?_)
 ·refine .both (y1) (fun hb=>?_) (fun hb=>?_)
  ·have hg1:=hb
   exact .g hg1 (.q z (.g hg1 (.q z (.g hg1 (.q z (.s (pkt hg1 z z z) z (.nil (ck 4 hS z (and_t hg1) z z)))) z)) z)) z
  exact .xx hb z (.xx hb z (.xx hb z (.s (pkf hb z z z) z (.nil (ck 4 hS z (and_f hb) z z)))))
 intro W hS
 cases h
 exact .qn z (.ret (fin_ret (vs:=[_]) () (rt z rn) z (hS.to [] z)))
theorem fbp {a0 : Instr} {w : World} {r : Bool} (h : f2k a0 = some r) : Calls Tryz.prog 102 #[.agg #[.int .i64 a0.Op,.int .i64 a0.Rd,.int .i64 a0.Rs,.int .i64 a0.Rt,.int .i64 a0.Imm]] w (Ret No w (fun s : Unit=>.bool r) (fun s=>[])):=by
 unfold f2k at h
 refine enter Tryz.func102 z z ?_
 have hS:=Sep.start w
 refine .g (.c (.box hS z z ?_ z z))
 intro g1 W hS
 refine .qn z (.seq (.block (.g (.s (fa T.f32_0 z z z) z (.s (ld T.t3 hS z z z z z) z ?_)))))
 have ⟨y1,hy1,h⟩:=bnd h
 refine .c (.call0 hS Tryz.func48 (f08 hy1) z z ?_ z z z z)
 intro W hS
 refine .q z (.nil ?_)
 refine .cs z h ?_ ?_ <;> intro h
 ·refine .g (.s (ld T.t32 hS z z z z z) z ?_)
  have ⟨y2,hy2,h⟩:=bnd h
  refine .c (.call0 hS Tryz.func133 (f2l hy2) z z ?_ z z z z)
  intro W hS
  refine .q z (.chunk 4 13 (y2 && (a0.Imm == 0)) hS ?_ ?_)
  ·refine .both (y2) (fun hb=>?_) (fun hb=>?_)
   ·have hg1:=hb
    exact .g hg1 (.s (fa T.f32_4 z z z) z (.g hg1 (.s (ld T.t3 hS z z z z z) z (.g hg1 (.q z (.s (pkt hg1 z z z) z (.nil (ck 4 hS z (and_t hg1) z z)))) z)) z)) z
   exact .xx hb z (.xx hb z (.xx hb z (.s (pkf hb z z z) z (.nil (ck 4 hS z (and_f hb) z z)))))
  intro W hS
  cases h
  exact .qn z (.ret (fin_ret (vs:=[_]) () (rt z rn) z (hS.to [] z)))
 refine .g (.s (fa T.f32_0 z z z) z (.s (ld T.t3 hS z z z z z) z ?_))
 have ⟨y3,hy3,h⟩:=bnd h
 refine .c (.call0 hS Tryz.func48 (f08 hy3) z z ?_ z z z z)
 intro W hS
 refine .q z (.nil ?_)
 refine .cs z h ?_ ?_ <;> intro h
 ·refine .g (.s (ld T.t32 hS z z z z z) z ?_)
  have ⟨y4,hy4,h⟩:=bnd h
  refine .c (.call0 hS Tryz.func133 (f2l hy4) z z ?_ z z z z)
  intro W hS
  refine .q z ?_
  have ⟨b1,hb1,h⟩:=bnd h
  refine .chunk 4 24 (b1) hS ?_ ?_
  ·refine .both (y4) (fun hb=>?_) (fun hb=>?_)
   ·have hg2:=hb
    have h:=sel_t hb hb1
    refine .g hg2 (.s (fa T.f32_4 z z z) z (.g hg2 (.s (ld T.t3 hS z z z z z) z ?_) z)) z
    have ⟨y5,hy5,h⟩:=bnd h
    refine .g hg2 (.c (.call0 hS Tryz.func48 (f08 hy5) z z ?_ z z z z)) z
    intro W hS
    refine .s (pkt hg2 z z z) z ?_
    cases h
    exact .nil (ck 4 hS z z z z)
   refine .xx hb z (.xx hb z (.xx hb z ?_))
   cases sel_f hb hb1
   exact .s (pkf hb z z z) z (.nil (ck 4 hS z z z z))
  intro W hS
  obtain rfl:=Option.some.inj h
  exact .qn z (.ret (fin_ret (vs:=[_]) () (rt z rn) z (hS.to [] z)))
 refine .g (.s (fa T.f32_0 z z z) z (.s (ld T.t3 hS z z z z z) z (.q z (.q z (.nil ?_)))))
 refine .cs z h ?_ ?_ <;> intro h
 ·refine .g (.s (ld T.t32 hS z z z z z) z ?_)
  have ⟨y6,hy6,h⟩:=bnd h
  refine .c (.call0 hS Tryz.func133 (f2l hy6) z z ?_ z z z z)
  intro W hS
  refine .q z ?_
  have ⟨b2,hb2,h⟩:=bnd h
  refine .chunk 4 35 (b2) hS ?_ ?_
  ·refine .both (y6) (fun hb=>?_) (fun hb=>?_)
   ·have hg3:=hb
    have h:=sel_t hb hb2
    refine .g hg3 (.s (fa T.f32_4 z z z) z (.g hg3 (.s (ld T.t3 hS z z z z z) z ?_) z)) z
    have ⟨y7,hy7,h⟩:=bnd h
    refine .g hg3 (.c (.call0 hS Tryz.func48 (f08 hy7) z z ?_ z z z z)) z
    intro W hS
    refine .s (pkt hg3 z z z) z ?_
    cases h
    exact .nil (ck 4 hS z z z z)
   refine .xx hb z (.xx hb z (.xx hb z ?_))
   cases sel_f hb hb2
   exact .s (pkf hb z z z) z (.nil (ck 4 hS z z z z))
  intro W hS
  obtain rfl:=Option.some.inj h
  exact .qn z (.ret (fin_ret (vs:=[_]) () (rt z rn) z (hS.to [] z)))
 refine .g (.s (fa T.f32_0 z z z) z (.s (ld T.t3 hS z z z z z) z (.q z (.q z (.chunk 4 44 ((a0.Op == 17) || (a0.Op == 18)) hS ?_ ?_)))))
 ·refine .both (a0.Op == 17) (fun hb=>?_) (fun hb=>?_)
  ·exact .xx hb z (.xx hb z (.xx hb z (.s (pkt hb z z z) z (.nil (ck 4 hS z (or_t hb) z z)))))
  have hg4:=hb
  exact .g hg4 (.s (fa T.f32_0 z z z) z (.g hg4 (.s (ld T.t3 hS z z z z z) z (.g hg4 (.q z (.s (pkf hg4 z z z) z (.nil (ck 4 hS z (or_f hg4) z z)))) z)) z)) z
 intro W hS
 refine .q z (.nil ?_)
 refine .cs z h ?_ ?_ <;> intro h
 ·refine .g (.s (ld T.t32 hS z z z z z) z ?_)
  have ⟨y8,hy8,h⟩:=bnd h
  refine .c (.call0 hS Tryz.func133 (f2l hy8) z z ?_ z z z z)
  intro W hS
  refine .q z ?_
  have ⟨b3,hb3,h⟩:=bnd h
  refine .chunk 4 51 (b3) hS ?_ ?_
  ·refine .both (y8) (fun hb=>?_) (fun hb=>?_)
   ·have hg5:=hb
    have h:=sel_t hb hb3
    refine .g hg5 (.s (fa T.f32_4 z z z) z (.g hg5 (.s (ld T.t3 hS z z z z z) z ?_) z)) z
    have ⟨y9,hy9,h⟩:=bnd h
    refine .g hg5 (.c (.call0 hS Tryz.func134 (fal hy9) z z ?_ z z z z)) z
    intro W hS
    refine .s (pkt hg5 z z z) z ?_
    cases h
    exact .nil (ck 4 hS z z z z)
   refine .xx hb z (.xx hb z (.xx hb z ?_))
   cases sel_f hb hb3
   exact .s (pkf hb z z z) z (.nil (ck 4 hS z z z z))
  intro W hS
  obtain rfl:=Option.some.inj h
  exact .qn z (.ret (fin_ret (vs:=[_]) () (rt z rn) z (hS.to [] z)))
 refine .g (.s (fa T.f32_0 z z z) z (.s (ld T.t3 hS z z z z z) z (.q z (.q z (.nil ?_)))))
 refine .cs z h ?_ ?_ <;> intro h
 ·refine .g (.s (ld T.t32 hS z z z z z) z ?_)
  have ⟨y10,hy10,h⟩:=bnd h
  refine .c (.call0 hS Tryz.func133 (f2l hy10) z z ?_ z z z z)
  intro W hS
  refine .q z ?_
  have ⟨b4,hb4,h⟩:=bnd h
  refine .chunk 4 62 (b4) hS ?_ ?_
  ·refine .both (y10) (fun hb=>?_) (fun hb=>?_)
   ·have hg6:=hb
    have h:=sel_t hb hb4
    refine .g hg6 (.s (fa T.f32_4 z z z) z (.g hg6 (.s (ld T.t3 hS z z z z z) z ?_) z)) z
    have ⟨y11,hy11,h⟩:=bnd h
    refine .g hg6 (.c (.call0 hS Tryz.func48 (f08 hy11) z z ?_ z z z z)) z
    intro W hS
    refine .s (pkt hg6 z z z) z ?_
    cases h
    exact .nil (ck 4 hS z z z z)
   refine .xx hb z (.xx hb z (.xx hb z ?_))
   cases sel_f hb hb4
   exact .s (pkf hb z z z) z (.nil (ck 4 hS z z z z))
  intro W hS
  obtain rfl:=Option.some.inj h
  exact .qn z (.ret (fin_ret (vs:=[_]) () (rt z rn) z (hS.to [] z)))
 refine .g (.s (fa T.f32_0 z z z) z (.s (ld T.t3 hS z z z z z) z (.q z (.q z (.nil ?_)))))
 refine .cs z h ?_ ?_ <;> intro h
 ·refine .g (.s (ld T.t32 hS z z z z z) z ?_)
  have ⟨y12,hy12,h⟩:=bnd h
  refine .c (.call0 hS Tryz.func133 (f2l hy12) z z ?_ z z z z)
  intro W hS
  refine .q z ?_
  have ⟨b5,hb5,h⟩:=bnd h
  refine .chunk 4 73 (b5) hS ?_ ?_
  ·refine .both (y12) (fun hb=>?_) (fun hb=>?_)
   ·have hg7:=hb
    have h:=sel_t hb hb5
    refine .g hg7 (.s (fa T.f32_4 z z z) z (.g hg7 (.s (ld T.t3 hS z z z z z) z ?_) z)) z
    have ⟨y13,hy13,h⟩:=bnd h
    refine .g hg7 (.c (.call0 hS Tryz.func134 (fal hy13) z z ?_ z z z z)) z
    intro W hS
    refine .s (pkt hg7 z z z) z ?_
    cases h
    exact .nil (ck 4 hS z z z z)
   refine .xx hb z (.xx hb z (.xx hb z ?_))
   cases sel_f hb hb5
   exact .s (pkf hb z z z) z (.nil (ck 4 hS z z z z))
  intro W hS
  obtain rfl:=Option.some.inj h
  exact .qn z (.ret (fin_ret (vs:=[_]) () (rt z rn) z (hS.to [] z)))
 refine .skip (.g (.s (fa T.f32_0 z z z) z (.s (ld T.t3 hS z z z z z) z (.q z (.q z ?_)))))
 have ⟨b6,hb6,h⟩:=bnd h
 refine .chunk 3 80 (b6) hS ?_ ?_
 ·refine .both (a0.Op == 21) (fun hb=>?_) (fun hb=>?_)
  ·have hg8:=hb
   have h:=sel_t hb hb6
   refine .g hg8 (.s (ld T.t32 hS z z z z z) z ?_) z
   have ⟨y14,hy14,h⟩:=bnd h
   refine .g hg8 (.c (.call0 hS Tryz.func133 (f2l hy14) z z ?_ z z z z)) z
   intro W hS
   refine .s (pkt hg8 z z z) z ?_
   cases h
   exact .nil (ck 3 hS z z z z)
  refine .xx hb z (.xx hb z ?_)
  cases sel_f hb hb6
  exact .s (pkf hb z z z) z (.nil (ck 3 hS z z z z))
 intro W hS
 refine .q z (.chunk 4 85 (b6 && (a0.Imm == 0)) hS ?_ ?_)
 ·refine .both (b6) (fun hb=>?_) (fun hb=>?_)
  ·have hg9:=hb
   exact .g hg9 (.s (fa T.f32_4 z z z) z (.g hg9 (.s (ld T.t3 hS z z z z z) z (.g hg9 (.q z (.s (pkt hg9 z z z) z (.nil (ck 4 hS z (and_t hg9) z z)))) z)) z)) z
  exact .xx hb z (.xx hb z (.xx hb z (.s (pkf hb z z z) z (.nil (ck 4 hS z (and_f hb) z z)))))
 intro W hS
 cases h
 exact .qn z (.ret (fin_ret (vs:=[_]) () (rt z rn) z (hS.to [] z)))
theorem f7r {a0 : Int} {a1 : Int} {w : World} {r : Int} (h : f3p a0 a1 = some r) : Calls Tryz.prog 136 #[.int .i64 a0,.int .i64 a1] w (Ret No w (fun s : Unit=>.int .i64 r) (fun s=>[])):=by
 unfold f3p at h
 refine enter Tryz.func136 z z ?_
 have hS:=Sep.start w
 refine .g (.qn z (.seq (.g (.q z (.q z (.nil ?_))))))
 refine .cs z h ?_ ?_ <;> intro h
 ·cases h
  exact .g (.q z (.q z (.q z (.qn z (.ret (fin_ret (vs:=[_]) () (rt z rn) z (hS.to [] z)))))))
 obtain rfl:=Option.some.inj h
 exact .skip (.g (.q z (.qn z (.ret (fin_ret (vs:=[_]) () (rt z rn) z (hS.to [] z))))))
theorem f0a {a0 : Int} {a1 : Int} {w : World} {r : Int} (h : f0c a0 a1 = some r) : Calls Tryz.prog 137 #[.int .i64 a0,.int .i64 a1] w (Ret No w (fun s : Unit=>.int .i64 r) (fun s=>[])):=by
 unfold f0c at h
 refine enter Tryz.func137 z z ?_
 have hS:=Sep.start w
 refine .g (.qn z (.g (.q z (.q z ?_))))
 have ⟨y1,hy1,h⟩:=bnd h
 refine .c (.call0 hS Tryz.func154 (f3a hy1) z z ?_ z z z z)
 intro W hS
 cases h
 exact .q z (.qn z (.ret (fin_ret (vs:=[_]) () (rt z rn) z (hS.to [] z))))
theorem fc5 {a0 : Int} {w : World} {r : Int} (h : f4f a0 = some r) : Calls Tryz.prog 143 #[.int .i64 a0] w (Ret No w (fun s : Unit=>.int .i64 r) (fun s=>[])):=by
 unfold f4f at h
 refine enter Tryz.func143 z z ?_
 have hS:=Sep.start w
 refine .g (.qn z (.g (.c (.liv [0,0,0,4,6,7,6,4,1,5,2,0,3,2,0,2,0,1,0,0,0] (D.int .i64) T.u25 T.t3 hS z z z z ?_ z (fun _=>z) z z z z))))
 intro v1 W hS
 refine .q z (.q z ?_)
 have ⟨x1,hx1,h⟩:=bnd h
 obtain rfl:=Option.some.inj h
 exact .s (ixv hS.lendv hx1 T.u25 T.t3 z z z) z (.s (lde (RV.flat hS.lendv hx1 z) T.t3 z z z z z) z (.qn z (.ret (fin_ret (vs:=[_]) () (rt z rn) z (hS.to [] z)))))
theorem f7n {a0 : Instr} {a1 : Int} {w : World} {r : Int} (h : f3r a0 a1 = some r) : Calls Tryz.prog 139 #[.agg #[.int .i64 a0.Op,.int .i64 a0.Rd,.int .i64 a0.Rs,.int .i64 a0.Rt,.int .i64 a0.Imm],.int .i64 a1] w (Ret No w (fun s : Unit=>.int .i64 r) (fun s=>[])):=by
 unfold f3r at h
 refine enter Tryz.func139 z z ?_
 have hS:=Sep.start w
 refine .g (.c (.box hS z z ?_ z z))
 intro g1 W hS
 refine .qn z (.seq (.rk 11 hS [0] T.mix ?_))
 intro W hS
 have hT:=hS.to [0] z
 refine .ts 0 z (fun W hT=>fa T.f32_2 z z z) hT z (by kernel_rfl) (.ts 1 z (fun W hT=>ld T.t3 hT z z z z z) hT z (by kernel_rfl) (.ts 3 z (fun W hT=>fa T.f32_0 z z z) hT z (by kernel_rfl) (.ts 4 z (fun W hT=>ld T.t3 hT z z z z z) hT z (by kernel_rfl) (.tp 8 z z hT (by kernel_rfl) ?_))))
 have ⟨y1,hy1,h⟩:=bnd h
 refine .by1 2 z (.call0 hS Tryz.func137 (f0a hy1) z z ?_ z z z z) (by kernel_rfl)
 intro W hS
 have hT:=hS.to [0] z
 refine ⟨fun _=>hT,?_⟩
 have ⟨y2,hy2,h⟩:=bnd h
 refine .by1 5 z (.call0 hS Tryz.func143 (fc5 hy2) z z ?_ z z z z) (by kernel_rfl)
 intro W hS
 have hT:=hS.to [0] z
 refine ⟨fun _=>hT,?_⟩
 have ⟨y3,hy3,h⟩:=bnd h
 refine .by1 6 z (.call0 hS Tryz.func137 (f0a hy3) z z ?_ z z z z) (by kernel_rfl)
 intro W hS
 have hT:=hS.to [0] z
 refine ⟨fun _=>hT,?_⟩
 cases h
 exact .tp 7 z z hT (by kernel_rfl) (.tp 9 z z hT (by kernel_rfl) (.tp 10 z z hT (by kernel_rfl) (.done (.ret (fin_ret (vs:=[_]) () (rt z rn) z (hS.to [] z))) (by kernel_rfl))))
theorem f9p {a0 : Instr} {a1 : Int} {w : World} {r : Int} (h : f4t a0 a1 = some r) : Calls Tryz.prog 135 #[.agg #[.int .i64 a0.Op,.int .i64 a0.Rd,.int .i64 a0.Rs,.int .i64 a0.Rt,.int .i64 a0.Imm],.int .i64 a1] w (Ret No w (fun s : Unit=>.int .i64 r) (fun s=>[])):=by
 unfold f4t at h
 refine enter Tryz.func135 z z ?_
 have hS:=Sep.start w
 refine .g (.c (.box hS z z ?_ z z))
 intro g1 W hS
 refine .qn z (.seq (.rk 13 hS [0] T.mix ?_))
 intro W hS
 have hT:=hS.to [0] z
 refine .ts 0 z (fun W hT=>fa T.f32_4 z z z) hT z (by kernel_rfl) (.ts 1 z (fun W hT=>ld T.t3 hT z z z z z) hT z (by kernel_rfl) (.ts 4 z (fun W hT=>ld T.t32 hT z z z z z) hT z (by kernel_rfl) (.tp 5 z z hT (by kernel_rfl) (.ts 8 z (fun W hT=>fa T.f32_1 z z z) hT z (by kernel_rfl) (.ts 9 z (fun W hT=>ld T.t3 hT z z z z z) hT z (by kernel_rfl) ?_)))))
 have ⟨y1,hy1,h⟩:=bnd h
 refine .by1 2 z (.call0 hS Tryz.func136 (f7r hy1) z z ?_ z z z z) (by kernel_rfl)
 intro W hS
 have hT:=hS.to [0] z
 refine ⟨fun _=>hT,?_⟩
 have ⟨y2,hy2,h⟩:=bnd h
 refine .by1 3 z (.call0 hS Tryz.func137 (f0a hy2) z z ?_ z z z z) (by kernel_rfl)
 intro W hS
 have hT:=hS.to [0] z
 refine ⟨fun _=>hT,?_⟩
 have ⟨y3,hy3,h⟩:=bnd h
 refine .by1 6 z (.call0 hS Tryz.func139 (f7n hy3) z z ?_ z z z z) (by kernel_rfl)
 intro W hS
 have hT:=hS.to [0] z
 refine ⟨fun _=>hT,.tp 7 z z hT (by kernel_rfl) ?_⟩
 have ⟨y4,hy4,h⟩:=bnd h
 refine .by1 10 z (.call0 hS Tryz.func137 (f0a hy4) z z ?_ z z z z) (by kernel_rfl)
 intro W hS
 have hT:=hS.to [0] z
 refine ⟨fun _=>hT,?_⟩
 cases h
 exact .tp 11 z z hT (by kernel_rfl) (.tp 12 z z hT (by kernel_rfl) (.done (.ret (fin_ret (vs:=[_]) () (rt z rn) z (hS.to [] z))) (by kernel_rfl)))
theorem fbx {a0 : Instr} {w : World} {r : Int} (h : f5n a0 = some r) : Calls Tryz.prog 140 #[.agg #[.int .i64 a0.Op,.int .i64 a0.Rd,.int .i64 a0.Rs,.int .i64 a0.Rt,.int .i64 a0.Imm]] w (Ret No w (fun s : Unit=>.int .i64 r) (fun s=>[])):=by
 unfold f5n at h
 refine enter Tryz.func140 z z ?_
 have hS:=Sep.start w
 refine .g (.c (.box hS z z ?_ z z))
 intro g1 W hS
 refine .qn z (.g (.s (fa T.f32_4 z z z) z (.s (ld T.t3 hS z z z z z) z ?_)))
 have ⟨y1,hy1,h⟩:=bnd h
 refine .c (.call0 hS Tryz.func136 (f7r hy1) z z ?_ z z z z)
 intro W hS
 refine .qn z (.seq (.rk 12 hS [0] T.mix ?_))
 intro W hS
 have hT:=hS.to [0] z
 refine .tp 0 z z hT (by kernel_rfl) (.tp 3 z z hT (by kernel_rfl) (.ts 7 z (fun W hT=>fa T.f32_3 z z z) hT z (by kernel_rfl) (.ts 8 z (fun W hT=>ld T.t3 hT z z z z z) hT z (by kernel_rfl) ?_)))
 have ⟨y2,hy2,h⟩:=bnd h
 refine .by1 1 z (.call0 hS Tryz.func138 (f1h hy2) z z ?_ z z z z) (by kernel_rfl)
 intro W hS
 have hT:=hS.to [0] z
 refine ⟨fun _=>hT,?_⟩
 have ⟨y3,hy3,h⟩:=bnd h
 refine .by1 2 z (.call0 hS Tryz.func137 (f0a hy3) z z ?_ z z z z) (by kernel_rfl)
 intro W hS
 have hT:=hS.to [0] z
 refine ⟨fun _=>hT,?_⟩
 have ⟨y4,hy4,h⟩:=bnd h
 refine .by1 4 z (.call0 hS Tryz.func138 (f1h hy4) z z ?_ z z z z) (by kernel_rfl)
 intro W hS
 have hT:=hS.to [0] z
 refine ⟨fun _=>hT,?_⟩
 have ⟨y5,hy5,h⟩:=bnd h
 refine .by1 5 z (.call0 hS Tryz.func137 (f0a hy5) z z ?_ z z z z) (by kernel_rfl)
 intro W hS
 have hT:=hS.to [0] z
 refine ⟨fun _=>hT,.tp 6 z z hT (by kernel_rfl) ?_⟩
 have ⟨y6,hy6,h⟩:=bnd h
 refine .by1 9 z (.call0 hS Tryz.func137 (f0a hy6) z z ?_ z z z z) (by kernel_rfl)
 intro W hS
 have hT:=hS.to [0] z
 refine ⟨fun _=>hT,.tp 10 z z hT (by kernel_rfl) (.tp 11 z z hT (by kernel_rfl) (.done (.g (.q z (.s (ld T.t32 hS z z z z z) z ?_))) (by kernel_rfl)))⟩
 have ⟨y7,hy7,h⟩:=bnd h
 refine .c (.call0 hS Tryz.func139 (f7n hy7) z z ?_ z z z z)
 intro W hS
 refine .q z (.q z ?_)
 have ⟨y8,hy8,h⟩:=bnd h
 refine .c (.call0 hS Tryz.func138 (f1h hy8) z z ?_ z z z z)
 intro W hS
 have ⟨y9,hy9,h⟩:=bnd h
 refine .c (.call0 hS Tryz.func137 (f0a hy9) z z ?_ z z z z)
 intro W hS
 refine .q z (.q z ?_)
 have ⟨y10,hy10,h⟩:=bnd h
 refine .c (.call0 hS Tryz.func138 (f1h hy10) z z ?_ z z z z)
 intro W hS
 have ⟨y11,hy11,h⟩:=bnd h
 refine .c (.call0 hS Tryz.func137 (f0a hy11) z z ?_ z z z z)
 intro W hS
 cases h
 exact .q z (.qn z (.ret (fin_ret (vs:=[_]) () (rt z rn) z (hS.to [] z))))
theorem fdu {a0 : Instr} {w : World} {r : Int} (h : f71 a0 = some r) : Calls Tryz.prog 141 #[.agg #[.int .i64 a0.Op,.int .i64 a0.Rd,.int .i64 a0.Rs,.int .i64 a0.Rt,.int .i64 a0.Imm]] w (Ret No w (fun s : Unit=>.int .i64 r) (fun s=>[])):=by
 unfold f71 at h
 refine enter Tryz.func141 z z ?_
 have hS:=Sep.start w
 refine .g (.c (.box hS z z ?_ z z))
 intro g1 W hS
 refine .qn z (.g (.s (fa T.f32_4 z z z) z (.s (ld T.t3 hS z z z z z) z ?_)))
 have ⟨y1,hy1,h⟩:=bnd h
 refine .c (.call0 hS Tryz.func136 (f7r hy1) z z ?_ z z z z)
 intro W hS
 refine .qn z (.g (.q z ?_))
 have ⟨y2,hy2,h⟩:=bnd h
 refine .c (.call0 hS Tryz.func138 (f1h hy2) z z ?_ z z z z)
 intro W hS
 have ⟨y3,hy3,h⟩:=bnd h
 refine .c (.call0 hS Tryz.func137 (f0a hy3) z z ?_ z z z z)
 intro W hS
 refine .q z ?_
 have ⟨y4,hy4,h⟩:=bnd h
 refine .c (.call0 hS Tryz.func138 (f1h hy4) z z ?_ z z z z)
 intro W hS
 have ⟨y5,hy5,h⟩:=bnd h
 refine .c (.call0 hS Tryz.func137 (f0a hy5) z z ?_ z z z z)
 intro W hS
 refine .q z (.q z ?_)
 have ⟨y6,hy6,h⟩:=bnd h
 refine .c (.call0 hS Tryz.func138 (f1h hy6) z z ?_ z z z z)
 intro W hS
 have ⟨y7,hy7,h⟩:=bnd h
 refine .c (.call0 hS Tryz.func137 (f0a hy7) z z ?_ z z z z)
 intro W hS
 refine .q z (.qn z (.seq (.rk 11 hS [0] T.mix ?_)))
 intro W hS
 have hT:=hS.to [0] z
 refine .tp 0 z z hT (by kernel_rfl) (.tp 1 z z hT (by kernel_rfl) (.ts 5 z (fun W hT=>fa T.f32_1 z z z) hT z (by kernel_rfl) (.ts 6 z (fun W hT=>ld T.t3 hT z z z z z) hT z (by kernel_rfl) ?_)))
 have ⟨y8,hy8,h⟩:=bnd h
 refine .by1 2 z (.call0 hS Tryz.func138 (f1h hy8) z z ?_ z z z z) (by kernel_rfl)
 intro W hS
 have hT:=hS.to [0] z
 refine ⟨fun _=>hT,?_⟩
 have ⟨y9,hy9,h⟩:=bnd h
 refine .by1 3 z (.call0 hS Tryz.func137 (f0a hy9) z z ?_ z z z z) (by kernel_rfl)
 intro W hS
 have hT:=hS.to [0] z
 refine ⟨fun _=>hT,.tp 4 z z hT (by kernel_rfl) ?_⟩
 have ⟨y10,hy10,h⟩:=bnd h
 refine .by1 7 z (.call0 hS Tryz.func137 (f0a hy10) z z ?_ z z z z) (by kernel_rfl)
 intro W hS
 have hT:=hS.to [0] z
 refine ⟨fun _=>hT,?_⟩
 cases h
 exact .tp 8 z z hT (by kernel_rfl) (.tp 9 z z hT (by kernel_rfl) (.tp 10 z z hT (by kernel_rfl) (.done (.ret (fin_ret (vs:=[_]) () (rt z rn) z (hS.to [] z))) (by kernel_rfl))))
theorem fd1 {a0 : Int} {w : World} {r : Int} (h : f4e a0 = some r) : Calls Tryz.prog 142 #[.int .i64 a0] w (Ret No w (fun s : Unit=>.int .i64 r) (fun s=>[])):=by
 unfold f4e at h
 refine enter Tryz.func142 z z ?_
 have hS:=Sep.start w
 refine .g (.qn z (.g (.c (.liv [0,32,1,1,1,0,0,0,0,32,0] (D.int .i64) T.u25 T.t3 hS z z z z ?_ z (fun _=>z) z z z z))))
 intro v1 W hS
 refine .q z (.q z ?_)
 have ⟨x1,hx1,h⟩:=bnd h
 obtain rfl:=Option.some.inj h
 exact .s (ixv hS.lendv hx1 T.u25 T.t3 z z z) z (.s (lde (RV.flat hS.lendv hx1 z) T.t3 z z z z z) z (.qn z (.ret (fin_ret (vs:=[_]) () (rt z rn) z (hS.to [] z)))))
theorem fbu {a0 : Instr} {w : World} {r : Int} (h : f0n a0 = some r) : Calls Tryz.prog 103 #[.agg #[.int .i64 a0.Op,.int .i64 a0.Rd,.int .i64 a0.Rs,.int .i64 a0.Rt,.int .i64 a0.Imm]] w (Ret No w (fun s : Unit=>.int .i64 r) (fun s=>[])):=by
 unfold f0n at h
 refine enter Tryz.func103 z z ?_
 have hS:=Sep.start w
 refine .g (.c (.box hS z z ?_ z z))
 intro g1 W hS
 refine .qn z (.seq (.g (.s (fa T.f32_0 z z z) z (.s (ld T.t3 hS z z z z z) z (.nil (.block ?_))))))
 have ⟨y1,hy1,h⟩:=bnd h
 refine .seq (CW.via (R':=fun x E' W'=>x = .normal ∧ SubL E' [(1,.pointer (some ⟨g1,0,none⟩)),(5,.int .i64 a0.Op),(6,.bool y1)] ∧ Sep No w W' [.box g1 32 [.int .i64 a0.Op,.int .i64 a0.Rd,.int .i64 a0.Rs,.int .i64 a0.Rt,.int .i64 a0.Imm]]) ?_ ?_)
 ·have h:=hy1
  refine .g (.q z (.q z (.nil ?_)))
  refine .cs z h ?_ ?_ <;> intro h
  ·refine .skip ?_
   cases h
   exact ⟨z,sb z,hS.to [0] z⟩
  refine .region (.q z (.q z (.nil ?_)))
  cases h
  exact ⟨z,sb z,hS.to [0] z⟩
 intro x E W hJ
 obtain ⟨rfl,hE,hS⟩:=hJ
 refine ⟨_,hE.sub,?_⟩
 refine .cs z h ?_ ?_ <;> intro h
 ·refine .g (.s (ld T.t32 hS z z z z z) z ?_)
  have ⟨y2,hy2,h⟩:=bnd h
  refine .c (.call0 hS Tryz.func135 (f9p hy2) z z ?_ z z z z)
  intro W hS
  obtain rfl:=Option.some.inj h
  exact .qn z (.ret (fin_ret (vs:=[_]) () (rt z rn) z (hS.to [] z)))
 refine .g (.q z (.q z (.nil ?_)))
 refine .cs z h ?_ ?_ <;> intro h
 ·refine .g (.s (ld T.t32 hS z z z z z) z ?_)
  have ⟨y3,hy3,h⟩:=bnd h
  refine .c (.call0 hS Tryz.func135 (f9p hy3) z z ?_ z z z z)
  intro W hS
  obtain rfl:=Option.some.inj h
  exact .qn z (.ret (fin_ret (vs:=[_]) () (rt z rn) z (hS.to [] z)))
 refine .g (.q z (.q z (.nil ?_)))
 refine .cs z h ?_ ?_ <;> intro h
 ·refine .g (.s (ld T.t32 hS z z z z z) z ?_)
  have ⟨y4,hy4,h⟩:=bnd h
  refine .c (.call0 hS Tryz.func135 (f9p hy4) z z ?_ z z z z)
  intro W hS
  obtain rfl:=Option.some.inj h
  exact .qn z (.ret (fin_ret (vs:=[_]) () (rt z rn) z (hS.to [] z)))
 refine .g (.q z (.q z (.nil ?_)))
 refine .cs z h ?_ ?_ <;> intro h
 ·refine .g (.s (fa T.f32_4 z z z) z (.s (ld T.t3 hS z z z z z) z ?_))
  have ⟨y5,hy5,h⟩:=bnd h
  refine .c (.call0 hS Tryz.func136 (f7r hy5) z z ?_ z z z z)
  intro W hS
  refine .qn z (.seq (.rk 15 hS [0] T.mix ?_))
  intro W hS
  have hT:=hS.to [0] z
  refine .tp 0 z z hT (by kernel_rfl) (.ts 3 z (fun W hT=>fa T.f32_3 z z z) hT z (by kernel_rfl) (.ts 4 z (fun W hT=>ld T.t3 hT z z z z z) hT z (by kernel_rfl) (.ts 7 z (fun W hT=>ld T.t32 hT z z z z z) hT z (by kernel_rfl) (.tp 10 z z hT (by kernel_rfl) ?_))))
  have ⟨y6,hy6,h⟩:=bnd h
  refine .by1 1 z (.call0 hS Tryz.func138 (f1h hy6) z z ?_ z z z z) (by kernel_rfl)
  intro W hS
  have hT:=hS.to [0] z
  refine ⟨fun _=>hT,?_⟩
  have ⟨y7,hy7,h⟩:=bnd h
  refine .by1 2 z (.call0 hS Tryz.func137 (f0a hy7) z z ?_ z z z z) (by kernel_rfl)
  intro W hS
  have hT:=hS.to [0] z
  refine ⟨fun _=>hT,?_⟩
  have ⟨y8,hy8,h⟩:=bnd h
  refine .by1 5 z (.call0 hS Tryz.func137 (f0a hy8) z z ?_ z z z z) (by kernel_rfl)
  intro W hS
  have hT:=hS.to [0] z
  refine ⟨fun _=>hT,.tp 6 z z hT (by kernel_rfl) ?_⟩
  have ⟨y9,hy9,h⟩:=bnd h
  refine .by1 8 z (.call0 hS Tryz.func139 (f7n hy9) z z ?_ z z z z) (by kernel_rfl)
  intro W hS
  have hT:=hS.to [0] z
  refine ⟨fun _=>hT,.tp 9 z z hT (by kernel_rfl) ?_⟩
  have ⟨y10,hy10,h⟩:=bnd h
  refine .by1 11 z (.call0 hS Tryz.func138 (f1h hy10) z z ?_ z z z z) (by kernel_rfl)
  intro W hS
  have hT:=hS.to [0] z
  refine ⟨fun _=>hT,?_⟩
  have ⟨y11,hy11,h⟩:=bnd h
  refine .by1 12 z (.call0 hS Tryz.func137 (f0a hy11) z z ?_ z z z z) (by kernel_rfl)
  intro W hS
  have hT:=hS.to [0] z
  refine ⟨fun _=>hT,?_⟩
  cases h
  exact .tp 13 z z hT (by kernel_rfl) (.tp 14 z z hT (by kernel_rfl) (.done (.ret (fin_ret (vs:=[_]) () (rt z rn) z (hS.to [] z))) (by kernel_rfl)))
 have ⟨y12,hy12,h⟩:=bnd h
 refine .seq (CW.via (R':=fun x E' W'=>x = .normal ∧ SubL E' [(1,.pointer (some ⟨g1,0,none⟩)),(5,.int .i64 a0.Op),(38,.bool y12)] ∧ Sep No w W' [.box g1 32 [.int .i64 a0.Op,.int .i64 a0.Rd,.int .i64 a0.Rs,.int .i64 a0.Rt,.int .i64 a0.Imm]]) ?_ ?_)
 ·have h:=hy12
  refine .g (.q z (.q z (.nil ?_)))
  refine .cs z h ?_ ?_ <;> intro h
  ·refine .skip ?_
   cases h
   exact ⟨z,sb z,hS.to [0] z⟩
  refine .region (.q z (.q z (.nil ?_)))
  cases h
  exact ⟨z,sb z,hS.to [0] z⟩
 intro x E W hJ
 obtain ⟨rfl,hE,hS⟩:=hJ
 refine ⟨_,hE.sub,?_⟩
 refine .cs z h ?_ ?_ <;> intro h
 ·refine .g (.s (ld T.t32 hS z z z z z) z ?_)
  have ⟨y13,hy13,h⟩:=bnd h
  refine .c (.call0 hS Tryz.func140 (fbx hy13) z z ?_ z z z z)
  intro W hS
  obtain rfl:=Option.some.inj h
  exact .qn z (.ret (fin_ret (vs:=[_]) () (rt z rn) z (hS.to [] z)))
 refine .g (.q z (.q z (.nil ?_)))
 refine .cs z h ?_ ?_ <;> intro h
 ·refine .seq (.rk 9 hS [0] T.mix ?_)
  intro W hS
  have hT:=hS.to [0] z
  refine .ts 0 z (fun W hT=>fa T.f32_4 z z z) hT z (by kernel_rfl) (.ts 1 z (fun W hT=>ld T.t3 hT z z z z z) hT z (by kernel_rfl) (.ts 3 z (fun W hT=>fa T.f32_1 z z z) hT z (by kernel_rfl) (.ts 4 z (fun W hT=>ld T.t3 hT z z z z z) hT z (by kernel_rfl) ?_)))
  have ⟨y14,hy14,h⟩:=bnd h
  refine .by1 2 z (.call0 hS Tryz.func137 (f0a hy14) z z ?_ z z z z) (by kernel_rfl)
  intro W hS
  have hT:=hS.to [0] z
  refine ⟨fun _=>hT,?_⟩
  have ⟨y15,hy15,h⟩:=bnd h
  refine .by1 5 z (.call0 hS Tryz.func137 (f0a hy15) z z ?_ z z z z) (by kernel_rfl)
  intro W hS
  have hT:=hS.to [0] z
  refine ⟨fun _=>hT,?_⟩
  cases h
  exact .tp 6 z z hT (by kernel_rfl) (.tp 7 z z hT (by kernel_rfl) (.tp 8 z z hT (by kernel_rfl) (.done (.ret (fin_ret (vs:=[_]) () (rt z rn) z (hS.to [] z))) (by kernel_rfl))))
 refine .g (.q z (.q z (.nil ?_)))
 refine .cs z h ?_ ?_ <;> intro h
 ·refine .g (.s (ld T.t32 hS z z z z z) z ?_)
  have ⟨y16,hy16,h⟩:=bnd h
  refine .c (.call0 hS Tryz.func141 (fdu hy16) z z ?_ z z z z)
  intro W hS
  obtain rfl:=Option.some.inj h
  exact .qn z (.ret (fin_ret (vs:=[_]) () (rt z rn) z (hS.to [] z)))
 refine .g (.q z (.q z (.nil ?_)))
 refine .cs z h ?_ ?_ <;> intro h
 ·cases h
  exact .g (.qn z (.ret (fin_ret (vs:=[_]) () (rt z rn) z (hS.to [] z))))
 refine .skip (.seq (.rk 16 hS [0] T.mix ?_))
 intro W hS
 have hT:=hS.to [0] z
 refine .ts 0 z (fun W hT=>fa T.f32_0 z z z) hT z (by kernel_rfl) (.ts 1 z (fun W hT=>ld T.t3 hT z z z z z) hT z (by kernel_rfl) (.ts 4 z (fun W hT=>fa T.f32_3 z z z) hT z (by kernel_rfl) (.ts 5 z (fun W hT=>ld T.t3 hT z z z z z) hT z (by kernel_rfl) (.ts 8 z (fun W hT=>ld T.t32 hT z z z z z) hT z (by kernel_rfl) (.ts 11 z (fun W hT=>fa T.f32_1 z z z) hT z (by kernel_rfl) (.ts 12 z (fun W hT=>ld T.t3 hT z z z z z) hT z (by kernel_rfl) ?_))))))
 have ⟨y17,hy17,h⟩:=bnd h
 refine .by1 2 z (.call0 hS Tryz.func142 (fd1 hy17) z z ?_ z z z z) (by kernel_rfl)
 intro W hS
 have hT:=hS.to [0] z
 refine ⟨fun _=>hT,?_⟩
 have ⟨y18,hy18,h⟩:=bnd h
 refine .by1 3 z (.call0 hS Tryz.func137 (f0a hy18) z z ?_ z z z z) (by kernel_rfl)
 intro W hS
 have hT:=hS.to [0] z
 refine ⟨fun _=>hT,?_⟩
 have ⟨y19,hy19,h⟩:=bnd h
 refine .by1 6 z (.call0 hS Tryz.func137 (f0a hy19) z z ?_ z z z z) (by kernel_rfl)
 intro W hS
 have hT:=hS.to [0] z
 refine ⟨fun _=>hT,.tp 7 z z hT (by kernel_rfl) ?_⟩
 have ⟨y20,hy20,h⟩:=bnd h
 refine .by1 9 z (.call0 hS Tryz.func139 (f7n hy20) z z ?_ z z z z) (by kernel_rfl)
 intro W hS
 have hT:=hS.to [0] z
 refine ⟨fun _=>hT,.tp 10 z z hT (by kernel_rfl) ?_⟩
 have ⟨y21,hy21,h⟩:=bnd h
 refine .by1 13 z (.call0 hS Tryz.func137 (f0a hy21) z z ?_ z z z z) (by kernel_rfl)
 intro W hS
 have hT:=hS.to [0] z
 refine ⟨fun _=>hT,?_⟩
 cases h
 exact .tp 14 z z hT (by kernel_rfl) (.tp 15 z z hT (by kernel_rfl) (.done (.ret (fin_ret (vs:=[_]) () (rt z rn) z (hS.to [] z))) (by kernel_rfl)))
theorem fbl {a0 : Instr} {w : World} {r : Int × Bool} (h : f1p a0 = some r) : Calls Tryz.prog 67 #[.agg #[.int .i64 a0.Op,.int .i64 a0.Rd,.int .i64 a0.Rs,.int .i64 a0.Rt,.int .i64 a0.Imm]] w (Ret No w (fun s : Unit=>.tuple #[.int .i64 r.1,.bool r.2]) (fun s=>[])):=by
 unfold f1p at h
 refine enter Tryz.func67 z z ?_
 have hS:=Sep.start w
 refine .g (.c (.box hS z z ?_ z z))
 intro g1 W hS
 refine .q z (.qn z (.seq (.g (.s (ld T.t32 hS z z z z z) z ?_))))
 have ⟨y1,hy1,h⟩:=bnd h
 refine .c (.call0 hS Tryz.func102 (fbp hy1) z z ?_ z z z z)
 intro W hS
 refine .q z (.nil ?_)
 refine .cs z h ?_ ?_ <;> intro h
 ·cases h
  exact .g (.q z (.qn z (.ret (fin_ret (vs:=[_,_]) () (rt z (rt z rn)) z (hS.to [] z)))))
 refine .skip (.g (.s (ld T.t32 hS z z z z z) z ?_))
 have ⟨y2,hy2,h⟩:=bnd h
 refine .c (.call0 hS Tryz.func103 (fbu hy2) z z ?_ z z z z)
 intro W hS
 cases h
 exact .q z (.qn z (.ret (fin_ret (vs:=[_,_]) () (rt z (rt z rn)) z (hS.to [] z))))
def fed (w : World) (S : Nat → Prop) (v_0 : Hd) (v_1 : Hd) (a0 : List Int) (a1 : List Instr) (r : (List Int) × Bool) : Env → World → Prop:=Fin Tryz.prog Tryz.f38 S w (fun s : Hd=>.tuple #[(sv s),.bool r.2]) (fun s=>[rowV (sv s) 3 1 (D.int .i64) r.1]) .ret
theorem fav {a0 : List Int} {a1 : List Instr} {v_0 : Hd} {v_1 : Hd} {S : Nat → Prop} {w : World} {r : (List Int) × Bool} (h : f5i a0 a1 = some r) (q_1 : RV w (Old S w) (sv v_1) 32 5 dInstr a1) (hO : Owns w [rowV (sv v_0) 3 1 (D.int .i64) a0] S) (hlt : ∀ b,S b → b < w.heap.size) : Calls Tryz.prog 38 #[(sv v_0),(sv v_1)] w (Ret S w (fun s : Hd=>.tuple #[(sv s),.bool r.2]) (fun s=>[rowV (sv s) 3 1 (D.int .i64) r.1])):=by
 unfold f5i at h
 refine enter Tryz.func38 z z ?_
 have hS:=Sep.startM hO hlt
 refine .g (.q z (.qn z (.seq (.g (.qn z (.block ?_))))))
 have ⟨y1,hy1,h⟩:=bnd h
 refine .via (.iter (fun s1 E' W'=>∃ (v3 : Hd),SubL E' [(0,(sv v3)),(1,(sv v_1)),(6,.int .i64 s1.2)] ∧ Sep S w W' [rowV (sv v3) 3 1 (D.int .i64) s1.1]) (fun y2 x E' W'=>(match y2 with | .inl o1=>x = .ret ∧ fed w S v_0 v_1 a0 a1 o1 E' W' | .inr o2=>x = .exit 0 ∧ ∃ (v4 : Hd),SubL E' [(0,(sv v4))] ∧ Sep S w W' [rowV (sv v4) 3 1 (D.int .i64) o2])) hy1 ⟨v_0,sb rfl,hS.to [0] rfl⟩ ?_) ?_
 ·intro s1 y3 E W h hI
  obtain ⟨v2,hE,hS⟩:=hI
  refine CW.sub hE ?_
  unfold f3e at h
  refine .seq (.g (.q z (.q z (.s (lenv (hS.keep q_1) T.u23 z z) z (.q z (.nil ?_))))))
  refine .cs z h ?_ ?_ <;> intro h
  ·refine .skip (.seq (.block (.g (.q z (.q z ?_)))))
   have ⟨x1,hx1,h⟩:=bnd h
   refine .s (ixv (hS.keep q_1) hx1 T.u23 T.t32 z z z) z (.s (lde (RV.flat (hS.keep q_1) hx1 z) T.t32 z z z z z) z ?_)
   have ⟨y4,hy4,h⟩:=bnd h
   refine .c (.call0 hS Tryz.func67 (fbl hy4) z z ?_ z z z z)
   intro W hS
   refine .q z (.q z (.q z (.q z (.qn z (.seq (.g (.q z (.q z (.nil ?_)))))))))
   refine .cs z h ?_ ?_ <;> intro h
   ·refine .g (.q z (.q z (.qn z (.ret ?_))))
    cases h
    exact ⟨by simp,z,fin_ret (vs:=[_,_]) v2 (rt z (rt z rn)) z (hS.to [0] z)⟩
   refine .skip (.region (.q z (.q z ?_)))
   have ⟨y5,hy5,h⟩:=bnd h
   refine .c (.call0 hS Tryz.func68 (f39 hy5) z z ?_ z z z z)
   intro W hS
   refine .c (.liv [y5] (D.int .i64) T.u25 T.t3 hS z z z z ?_ z (fun _=>z) z z z z)
   intro v5 W hS
   have ⟨r1,hr1,h⟩:=bnd h
   have hT0:=hS.p1
   refine .c (.apprv hr1 hT0 hT0.p1.lendv (fun _=>z) T.u25 T.t3 z z z ?_ z z z z z)
   intro v6 W hS
   refine .qn z (.region (.q z (.q z (.q z (.nil ?_)))))
   cases h
   exact ⟨z,v6,sb z,hS.to [0] z⟩
  refine .exit ?_
  cases h
  exact ⟨by simp,z,v2,sb z,hS.to [0] z⟩
 intro x E W hJ
 rcases y1 with o3 | o4
 ·obtain ⟨rfl,hF⟩:=hJ
  refine ⟨_,fun _ _ h=>h,?_⟩
  cases h
  exact hF
 obtain ⟨rfl,v7,hE,hS⟩:=hJ
 refine ⟨_,hE.sub,?_⟩
 cases h
 exact .g (.q z (.q z (.qn z (.ret (fin_ret (vs:=[_,_]) v7 (rt z (rt z rn)) z (hS.to [0] z))))))
def fda (w : World) (r : Bool) : Env → World → Prop:=Fin Tryz.prog Tryz.f18 No w (fun s : Unit=>.bool r) (fun s=>[]) .ret
theorem fak {a0 : List Int} {a1 : List Int} {v_0 : Hd} {v_1 : Hd} {w : World} {r : Bool} (h : f4h a0 a1 = some r) (q_0 : RV w (Old No w) (sv v_0) 3 1 (D.int .i64) a0) (q_1 : RV w (Old No w) (sv v_1) 3 1 (D.int .i64) a1) : Calls Tryz.prog 18 #[(sv v_0),(sv v_1)] w (Ret No w (fun s : Unit=>.bool r) (fun s=>[])):=by
 unfold f4h at h
 refine enter Tryz.func18 z z ?_
 have hS:=Sep.start w
 refine .g (.qn z (.seq (.g (.q z (.s (lenv (hS.keep q_0) T.u25 z z) z (.q z (.s (lenv (hS.keep q_1) T.u25 z z) z (.q z (.nil ?_)))))))))
 refine .cs z h ?_ ?_ <;> intro h
 ·obtain rfl:=Option.some.inj h
  exact .g (.qn z (.ret (fin_ret (vs:=[_]) () (rt z rn) z (hS.to [] z))))
 refine .skip (.seq (.g (.qn z (.block ?_))))
 have ⟨y1,hy1,h⟩:=bnd h
 refine .via (.iter (fun s1 E' W'=>SubL E' [(0,(sv v_0)),(1,(sv v_1)),(5,.int .i64 s1)] ∧ Sep No w W' []) (fun y2 x E' W'=>(match y2 with | .inl o1=>x = .ret ∧ fda w o1 E' W' | .inr o2=>x = .exit 0 ∧ SubL E' [] ∧ Sep No w W' [])) hy1 ⟨sb rfl,hS.to [] rfl⟩ ?_) ?_
 ·intro s1 y3 E W h hI
  obtain ⟨hE,hS⟩:=hI
  refine CW.sub hE ?_
  unfold f42 at h
  refine .seq (.g (.q z (.q z (.s (lenv (hS.keep q_0) T.u25 z z) z (.q z (.nil ?_))))))
  refine .cs z h ?_ ?_ <;> intro h
  ·refine .skip (.seq (.block (.seq (.rk 9 hS [] T.mix ?_))))
   intro W hS
   have hT:=hS.to [] z
   refine .tp 0 z z hT (by kernel_rfl) (.tp 1 z z hT (by kernel_rfl) ?_)
   have ⟨x1,hx1,h⟩:=bnd h
   refine .ts 2 z (fun W hT=>ixv (hS.keep q_0) hx1 T.u25 T.t3 z z z) hT z (by kernel_rfl) (.ts 3 z (fun W hT=>lde (RV.flat (hT.keep q_0) hx1 z) T.t3 z z z z z) hT z (by kernel_rfl) (.tp 4 z z hT (by kernel_rfl) (.tp 5 z z hT (by kernel_rfl) ?_)))
   have ⟨x2,hx2,h⟩:=bnd h
   refine .ts 6 z (fun W hT=>ixv (hS.keep q_1) hx2 T.u25 T.t3 z z z) hT z (by kernel_rfl) (.ts 7 z (fun W hT=>lde (RV.flat (hT.keep q_1) hx2 z) T.t3 z z z z z) hT z (by kernel_rfl) (.tp 8 z z hT (by kernel_rfl) (.done ?_ (by kernel_rfl))))
   refine .cs z h ?_ ?_ <;> intro h
   ·refine .g (.qn z (.ret ?_))
    cases h
    exact ⟨by simp,z,fin_ret (vs:=[_]) () (rt z rn) z (hS.to [] z)⟩
   refine .skip (.region (.q z (.q z (.q z (.nil ?_)))))
   cases h
   exact ⟨z,sb z,hS.to [] z⟩
  refine .exit ?_
  cases h
  exact ⟨by simp,z,sb z,hS.to [] z⟩
 intro x E W hJ
 rcases y1 with o3 | o4
 ·obtain ⟨rfl,hF⟩:=hJ
  refine ⟨_,fun _ _ h=>h,?_⟩
  cases h
  exact hF
 obtain ⟨rfl,hE,hS⟩:=hJ
 refine ⟨_,hE.sub,?_⟩
 obtain rfl:=Option.some.inj h
 exact .g (.qn z (.ret (fin_ret (vs:=[_]) () (rt z rn) z (hS.to [] z))))
theorem f9m {a0 : Machine} {a1 : Machine} {v_0_Regs : Hd} {v_0_Mem : Hd} {v_1_Regs : Hd} {v_1_Mem : Hd} {w : World} {r : Bool} (h : f2u a0 a1 = some r) (q_0_Regs : RV w (Old No w) (sv v_0_Regs) 3 1 (D.int .i64) a0.Regs) (q_0_Mem : RV w (Old No w) (sv v_0_Mem) 3 1 (D.int .i64) a0.Mem) (q_1_Regs : RV w (Old No w) (sv v_1_Regs) 3 1 (D.int .i64) a1.Regs) (q_1_Mem : RV w (Old No w) (sv v_1_Mem) 3 1 (D.int .i64) a1.Mem) : Calls Tryz.prog 14 #[.agg #[(sv v_0_Regs),.int .i64 a0.Pc,(sv v_0_Mem)],.agg #[(sv v_1_Regs),.int .i64 a1.Pc,(sv v_1_Mem)]] w (Ret No w (fun s : Unit=>.bool r) (fun s=>[])):=by
 unfold f2u at h
 refine enter Tryz.func14 z z ?_
 have hS:=Sep.start w
 refine .g (.c (.box hS z z ?_ z z))
 intro g1 W hS
 refine .c (.box hS z z ?_ z z)
 intro g2 W hS
 refine .qn z (.g (.s (fa T.f27_1 z z z) z (.s (ld T.t3 hS.p1 z z z z z) z (.s (fa T.f27_1 z z z) z (.s (ld T.t3 hS z z z z z) z (.q z (.q z ?_)))))))
 have ⟨b1,hb1,h⟩:=bnd h
 refine .chunk 6 16 (b1) hS ?_ ?_
 ·refine .both (a0.Pc == a1.Pc) (fun hb=>?_) (fun hb=>?_)
  ·have hg1:=hb
   have h:=sel_t hb hb1
   refine .g hg1 (.s (fa T.f27_0 z z z) z (.g hg1 (.s (ld T.t25 hS.p1 z z z z z) z (.g hg1 (.s (fa T.f27_0 z z z) z (.g hg1 (.s (ld T.t25 hS z z z z z) z ?_) z)) z)) z)) z
   have ⟨y1,hy1,h⟩:=bnd h
   refine .g hg1 (.c (.call0 hS Tryz.func18 (fak hy1 (hS.keep q_0_Regs) (hS.keep q_1_Regs)) z z ?_ z z z z)) z
   intro W hS
   refine .s (pkt hg1 z z z) z ?_
   cases h
   exact .nil (ck 6 hS z z z z)
  refine .xx hb z (.xx hb z (.xx hb z (.xx hb z (.xx hb z ?_))))
  cases sel_f hb hb1
  exact .s (pkf hb z z z) z (.nil (ck 6 hS z z z z))
 intro W hS
 refine .q z ?_
 have ⟨b2,hb2,h⟩:=bnd h
 refine .chunk 6 23 (b2) hS ?_ ?_
 ·refine .both (b1) (fun hb=>?_) (fun hb=>?_)
  ·have hg2:=hb
   have h:=sel_t hb hb2
   refine .g hg2 (.s (fa T.f27_2 z z z) z (.g hg2 (.s (ld T.t25 hS.p1 z z z z z) z (.g hg2 (.s (fa T.f27_2 z z z) z (.g hg2 (.s (ld T.t25 hS z z z z z) z ?_) z)) z)) z)) z
   have ⟨y2,hy2,h⟩:=bnd h
   refine .g hg2 (.c (.call0 hS Tryz.func18 (fak hy2 (hS.keep q_0_Mem) (hS.keep q_1_Mem)) z z ?_ z z z z)) z
   intro W hS
   refine .s (pkt hg2 z z z) z ?_
   cases h
   exact .nil (ck 6 hS z z z z)
  refine .xx hb z (.xx hb z (.xx hb z (.xx hb z (.xx hb z ?_))))
  cases sel_f hb hb2
  exact .s (pkf hb z z z) z (.nil (ck 6 hS z z z z))
 intro W hS
 obtain rfl:=Option.some.inj h
 exact .qn z (.ret (fin_ret (vs:=[_]) () (rt z rn) z (hS.to [] z)))
theorem fah {a0 : InstrRow} {a1 : Int} {a2 : Int} {w : World} {r : Bool} (h : f0p a0 a1 a2 = some r) : Calls Tryz.prog 40 #[.agg #[.string a0.name,.int .i64 a0.opcode,.int .i64 a0.funct3,.int .i64 a0.funct7],.int .i64 a1,.int .i64 a2] w (Ret No w (fun s : Unit=>.bool r) (fun s=>[])):=by
 unfold f0p at h
 refine enter Tryz.func40 z z ?_
 have hS:=Sep.start w
 refine .g (.c (.box hS z z ?_ z z))
 intro g1 W hS
 refine .qn z (.seq (.g (.s (fa T.f75_1 z z z) z (.s (ld T.t3 hS z z z z z) z (.q z (.q z (.q z (.nil ?_))))))))
 refine .cs z h ?_ ?_ <;> intro h
 ·obtain rfl:=Option.some.inj h
  exact .g (.qn z (.ret (fin_ret (vs:=[_]) () (rt z rn) z (hS.to [] z))))
 refine .skip (.seq (.g (.q z ?_)))
 have ⟨y1,hy1,h⟩:=bnd h
 refine .c (.call0 hS Tryz.func69 (f5y hy1) z z ?_ z z z z)
 intro W hS
 refine .nil (.block (.g (.q z (.q z (.nil ?_)))))
 refine .cs z h ?_ ?_ <;> intro h
 ·refine .seq ?_
  have ⟨y2,hy2,h⟩:=bnd h
  have ⟨b1,hb1,h⟩:=bnd h
  refine .via (R':=fun x E' W'=>x = .normal ∧ SubL E' [(6,.bool b1)] ∧ Sep No w W' [.box g1 75 [.string a0.name,.int .i64 a0.opcode,.int .i64 a0.funct3,.int .i64 a0.funct7]]) ?_ ?_
  ·refine .rk 13 hS [0] T.mix ?_
   intro W hS
   have hT:=hS.to [0] z
   refine .ts 0 z (fun W hT=>fa T.f75_2 z z z) hT z (by kernel_rfl) (.ts 1 z (fun W hT=>ld T.t3 hT z z z z z) hT z (by kernel_rfl) (.tp 2 z z hT (by kernel_rfl) (.by1 3 z (.call0 hS Tryz.func70 (f0r hy2) z z ?_ z z z z) (by kernel_rfl))))
   intro W hS
   have hT:=hS.to [0] z
   refine ⟨fun _=>hT,.tp 4 z z hT (by kernel_rfl) (.tp 5 z z hT (by kernel_rfl) (.both (a0.funct3 == y2) (fun hb=>?_) (fun hb=>?_)))⟩
   ·have hg1:=hb
    have h_b1:=sel_t hb hb1
    refine .t1g 6 z hg1 (fun W hT=>fa T.f75_3 z z z) hT (.t1g 7 z hg1 (fun W hT=>ld T.t3 hT z z z z z) hT (.t1g 8 z hg1 (fun W hT=>pr z) hT ?_ (by kernel_rfl) z z) (by kernel_rfl) z z) (by kernel_rfl) z z
    have ⟨y3,hy3,h_b1⟩:=bnd h_b1
    refine .by1 9 z (.gd hg1 (.call0 hS Tryz.func70 (f0r hy3) z z ?_ z z z z) z) (by kernel_rfl)
    intro W hS
    have hT:=hS.to [0] z
    refine ⟨fun _=>hT,?_⟩
    exact .t1g 10 z hg1 (fun W hT=>pr z) hT (.ts 11 z (fun W hT=>pkt hg1 z z z) hT z (by kernel_rfl) (.eqv 27 z (bool_eq h_b1) (.tp 12 z z hT (by kernel_rfl) (.done (⟨z,sb z,hS.to [0] z⟩) (by kernel_rfl))))) (by kernel_rfl) z z
   exact .off 6 z hb hT (.off 7 z hb hT (.off 8 z hb hT (.off 9 z hb hT (.off 10 z hb hT (.ts 11 z (fun W hT=>pkf hb z z z) hT z (by kernel_rfl) (.eqv 27 z (bool_eq (sel_f hb hb1)) (.tp 12 z z hT (by kernel_rfl) (.done (⟨z,sb z,hS.to [0] z⟩) (by kernel_rfl))))) (by kernel_rfl) z z) (by kernel_rfl) z z) (by kernel_rfl) z z) (by kernel_rfl) z z) (by kernel_rfl) z z
  intro x E W hJ
  obtain ⟨rfl,hE,hS⟩:=hJ
  refine ⟨_,hE.sub,?_⟩
  obtain rfl:=Option.some.inj h
  exact .ret (fin_ret (vs:=[_]) () (rt z rn) z (hS.to [] z))
 have ⟨y4,hy4,h⟩:=bnd h
 refine .seq (CW.via (R':=fun x E' W'=>x = .normal ∧ SubL E' [(2,.int .i64 a2),(3,.pointer (some ⟨g1,0,none⟩)),(28,.bool y4)] ∧ Sep No w W' [.box g1 75 [.string a0.name,.int .i64 a0.opcode,.int .i64 a0.funct3,.int .i64 a0.funct7]]) ?_ ?_)
 ·have h:=hy4
  refine .g (.q z (.q z (.nil ?_)))
  refine .cs z h ?_ ?_ <;> intro h
  ·refine .skip ?_
   cases h
   exact ⟨z,sb z,hS.to [0] z⟩
  refine .g (.q z (.q z (.nil ?_)))
  refine .cs z h ?_ ?_ <;> intro h
  ·refine .skip ?_
   cases h
   exact ⟨z,sb z,hS.to [0] z⟩
  refine .region (.q z (.q z (.nil ?_)))
  cases h
  exact ⟨z,sb z,hS.to [0] z⟩
 intro x E W hJ
 obtain ⟨rfl,hE,hS⟩:=hJ
 refine ⟨_,hE.sub,?_⟩
 refine .cs z h ?_ ?_ <;> intro h
 ·refine .seq (.rk 6 hS [0] T.mix ?_)
  intro W hS
  have hT:=hS.to [0] z
  refine .ts 0 z (fun W hT=>fa T.f75_2 z z z) hT z (by kernel_rfl) (.ts 1 z (fun W hT=>ld T.t3 hT z z z z z) hT z (by kernel_rfl) (.tp 2 z z hT (by kernel_rfl) ?_))
  have ⟨y5,hy5,h⟩:=bnd h
  refine .by1 3 z (.call0 hS Tryz.func70 (f0r hy5) z z ?_ z z z z) (by kernel_rfl)
  intro W hS
  have hT:=hS.to [0] z
  refine ⟨fun _=>hT,?_⟩
  cases h
  exact .tp 4 z z hT (by kernel_rfl) (.tp 5 z z hT (by kernel_rfl) (.done (.ret (fin_ret (vs:=[_]) () (rt z rn) z (hS.to [] z))) (by kernel_rfl)))
 obtain rfl:=Option.some.inj h
 exact .skip (.g (.qn z (.ret (fin_ret (vs:=[_]) () (rt z rn) z (hS.to [] z)))))
theorem f4i {a0 : Int} {a1 : Int} {w : World} {r : Int} (h : f1c a0 a1 = some r) : Calls Tryz.prog 71 #[.int .i64 a0,.int .i64 a1] w (Ret No w (fun s : Unit=>.int .i64 r) (fun s=>[])):=by
 unfold f1c at h
 refine enter Tryz.func71 z z ?_
 have hS:=Sep.start w
 refine .g (.qn z (.seq (.g (.q z (.q z (.q z (.chunk 3 10 ((decide (a1 < 1)) || (decide (a1 > 32))) hS ?_ ?_)))))))
 ·refine .both (decide (a1 < 1)) (fun hb=>?_) (fun hb=>?_)
  ·exact .xx hb z (.xx hb z (.s (pkt hb z z z) z (.nil (ck 3 hS z (or_t hb) z z))))
  have hg1:=hb
  exact .g hg1 (.q z (.g hg1 (.q z (.s (pkf hg1 z z z) z (.nil (ck 3 hS z (or_f hg1) z z)))) z)) z
 intro W hS
 refine .q z (.chunk 3 14 (((decide (a1 < 1)) || (decide (a1 > 32))) || (decide (a0 < 0))) hS ?_ ?_)
 ·refine .both ((decide (a1 < 1)) || (decide (a1 > 32))) (fun hb=>?_) (fun hb=>?_)
  ·exact .xx hb z (.xx hb z (.s (pkt hb z z z) z (.nil (ck 3 hS z (or_t hb) z z))))
  have hg2:=hb
  exact .g hg2 (.q z (.g hg2 (.q z (.s (pkf hg2 z z z) z (.nil (ck 3 hS z (or_f hg2) z z)))) z)) z
 intro W hS
 refine .q z ?_
 have ⟨b1,hb1,h⟩:=bnd h
 refine .chunk 5 20 (b1) hS ?_ ?_
 ·refine .both (((decide (a1 < 1)) || (decide (a1 > 32))) || (decide (a0 < 0))) (fun hb=>?_) (fun hb=>?_)
  ·refine .xx hb z (.xx hb z (.xx hb z (.xx hb z ?_)))
   cases sel_t hb hb1
   exact .s (pkt hb z z z) z (.nil (ck 5 hS z z z z))
  have hg3:=hb
  have h:=sel_f hb hb1
  refine .g hg3 (.q z (.g hg3 (.q z ?_) z)) z
  have ⟨d1,hd1,h⟩:=bnd h
  refine .g hg3 (.s (shr_run hd1 z z z) z (.g hg3 (.q z (.s (pkf hg3 z z z) z ?_)) z)) z
  cases h
  exact .nil (ck 5 hS z z z z)
 intro W hS
 refine .nil ?_
 refine .cs z h ?_ ?_ <;> intro h
 ·cases h
  exact .g (.qn z (.ret (fin_ret (vs:=[_]) () (rt z rn) z (hS.to [] z))))
 refine .skip (.seq (.g (.q z (.q z (.q z ?_)))))
 have ⟨d2,hd2,h⟩:=bnd h
 refine .s (shr_run hd2 z z z) z (.q z (.nil ?_))
 refine .cs z h ?_ ?_ <;> intro h
 ·refine .g (.q z (.q z ?_))
  have ⟨d3,hd3,h⟩:=bnd h
  cases h
  exact .s (shr_run hd3 z z z) z (.q z (.qn z (.ret (fin_ret (vs:=[_]) () (rt z rn) z (hS.to [] z)))))
 obtain rfl:=Option.some.inj h
 exact .skip (.g (.q z (.qn z (.ret (fin_ret (vs:=[_]) () (rt z rn) z (hS.to [] z))))))
theorem fcv {a0 : Int} {a1 : Int} {w : World} {r : Instr} (h : f17 a0 a1 = some r) : Calls Tryz.prog 41 #[.int .i64 a0,.int .i64 a1] w (Ret No w (fun s : Unit=>.agg #[.int .i64 r.Op,.int .i64 r.Rd,.int .i64 r.Rs,.int .i64 r.Rt,.int .i64 r.Imm]) (fun s=>[])):=by
 unfold f17 at h
 refine enter Tryz.func41 z z ?_
 have hS:=Sep.start w
 refine .g (.c (.alloc T.t32 hS ?_ z z z))
 intro g1 W hS
 refine .nil (.g (.q z ?_))
 have ⟨y1,hy1,h⟩:=bnd h
 refine .c (.call0 hS Tryz.func70 (f0r hy1) z z ?_ z z z z)
 intro W hS
 refine .q z ?_
 have ⟨y2,hy2,h⟩:=bnd h
 refine .c (.call0 hS Tryz.func70 (f0r hy2) z z ?_ z z z z)
 intro W hS
 refine .q z ?_
 have ⟨y3,hy3,h⟩:=bnd h
 refine .c (.call0 hS Tryz.func70 (f0r hy3) z z ?_ z z z z)
 intro W hS
 refine .q z (.q z (.qn z (.seq (.g (.q z ?_)))))
 have ⟨y4,hy4,h⟩:=bnd h
 refine .c (.call0 hS Tryz.func69 (f5y hy4) z z ?_ z z z z)
 intro W hS
 refine .nil (.block (.g (.q z (.q z (.nil ?_)))))
 refine .cs z h ?_ ?_ <;> intro h
 ·refine .g (.q z (.q z (.q z (.q z (.s (bs T.s32 z z) z (.c (.st T.t32 hS z z z ?_ z z z z z)))))))
  intro W hS
  cases h
  exact .nil (.ret (fin_ret (vs:=[_]) () (rc hS T.t32 z rn z z) z (hS.to [] z)))
 refine .g (.q z (.q z (.nil ?_)))
 refine .cs z h ?_ ?_ <;> intro h
 ·refine .g (.q z (.q z (.q z (.q z ?_))))
  have ⟨y5,hy5,h⟩:=bnd h
  refine .c (.call0 hS Tryz.func70 (f0r hy5) z z ?_ z z z z)
  intro W hS
  have ⟨y6,hy6,h⟩:=bnd h
  refine .c (.call0 hS Tryz.func71 (f4i hy6) z z ?_ z z z z)
  intro W hS
  refine .s (bs T.s32 z z) z (.c (.st T.t32 hS z z z ?_ z z z z z))
  intro W hS
  cases h
  exact .nil (.ret (fin_ret (vs:=[_]) () (rc hS T.t32 z rn z z) z (hS.to [] z)))
 refine .g (.q z (.q z (.nil ?_)))
 refine .cs z h ?_ ?_ <;> intro h
 ·refine .g (.q z (.q z (.q z (.q z ?_))))
  have ⟨y7,hy7,h⟩:=bnd h
  refine .c (.call0 hS Tryz.func70 (f0r hy7) z z ?_ z z z z)
  intro W hS
  refine .q z (.q z (.q z ?_))
  have ⟨y8,hy8,h⟩:=bnd h
  refine .c (.call0 hS Tryz.func71 (f4i hy8) z z ?_ z z z z)
  intro W hS
  refine .s (bs T.s32 z z) z (.c (.st T.t32 hS z z z ?_ z z z z z))
  intro W hS
  cases h
  exact .nil (.ret (fin_ret (vs:=[_]) () (rc hS T.t32 z rn z z) z (hS.to [] z)))
 refine .g (.q z (.q z (.nil ?_)))
 refine .cs z h ?_ ?_ <;> intro h
 ·refine .g (.q z ?_)
  have ⟨y9,hy9,h⟩:=bnd h
  refine .c (.call0 hS Tryz.func70 (f0r hy9) z z ?_ z z z z)
  intro W hS
  refine .q z (.q z ?_)
  have ⟨y10,hy10,h⟩:=bnd h
  refine .c (.call0 hS Tryz.func70 (f0r hy10) z z ?_ z z z z)
  intro W hS
  refine .q z (.q z (.q z ?_))
  have ⟨y11,hy11,h⟩:=bnd h
  refine .c (.call0 hS Tryz.func70 (f0r hy11) z z ?_ z z z z)
  intro W hS
  refine .q z (.q z (.q z ?_))
  have ⟨y12,hy12,h⟩:=bnd h
  refine .c (.call0 hS Tryz.func70 (f0r hy12) z z ?_ z z z z)
  intro W hS
  refine .q z (.q z (.qn z (.g (.q z (.q z (.q z (.q z ?_)))))))
  have ⟨y13,hy13,h⟩:=bnd h
  refine .c (.call0 hS Tryz.func71 (f4i hy13) z z ?_ z z z z)
  intro W hS
  refine .s (bs T.s32 z z) z (.c (.st T.t32 hS z z z ?_ z z z z z))
  intro W hS
  cases h
  exact .nil (.ret (fin_ret (vs:=[_]) () (rc hS T.t32 z rn z z) z (hS.to [] z)))
 refine .g (.q z (.q z (.nil ?_)))
 refine .cs z h ?_ ?_ <;> intro h
 ·refine .g (.q z (.q z (.q z ?_)))
  have ⟨y14,hy14,h⟩:=bnd h
  refine .c (.call0 hS Tryz.func70 (f0r hy14) z z ?_ z z z z)
  intro W hS
  refine .s (bs T.s32 z z) z (.c (.st T.t32 hS z z z ?_ z z z z z))
  intro W hS
  cases h
  exact .nil (.ret (fin_ret (vs:=[_]) () (rc hS T.t32 z rn z z) z (hS.to [] z)))
 refine .g (.q z (.q z (.nil ?_)))
 refine .cs z h ?_ ?_ <;> intro h
 ·refine .g (.q z ?_)
  have ⟨y15,hy15,h⟩:=bnd h
  refine .c (.call0 hS Tryz.func70 (f0r hy15) z z ?_ z z z z)
  intro W hS
  refine .q z (.q z ?_)
  have ⟨y16,hy16,h⟩:=bnd h
  refine .c (.call0 hS Tryz.func70 (f0r hy16) z z ?_ z z z z)
  intro W hS
  refine .q z (.q z (.q z ?_))
  have ⟨y17,hy17,h⟩:=bnd h
  refine .c (.call0 hS Tryz.func70 (f0r hy17) z z ?_ z z z z)
  intro W hS
  refine .q z (.q z (.q z ?_))
  have ⟨y18,hy18,h⟩:=bnd h
  refine .c (.call0 hS Tryz.func70 (f0r hy18) z z ?_ z z z z)
  intro W hS
  refine .q z (.q z (.qn z (.g (.q z (.q z (.q z ?_))))))
  have ⟨y19,hy19,h⟩:=bnd h
  refine .c (.call0 hS Tryz.func71 (f4i hy19) z z ?_ z z z z)
  intro W hS
  refine .s (bs T.s32 z z) z (.c (.st T.t32 hS z z z ?_ z z z z z))
  intro W hS
  cases h
  exact .nil (.ret (fin_ret (vs:=[_]) () (rc hS T.t32 z rn z z) z (hS.to [] z)))
 refine .skip (.g (.q z (.s (bs T.s32 z z) z (.c (.st T.t32 hS z z z ?_ z z z z z)))))
 intro W hS
 cases h
 exact .nil (.ret (fin_ret (vs:=[_]) () (rc hS T.t32 z rn z z) z (hS.to [] z)))
def f9x (w : World) (r : Instr × Bool) : Env → World → Prop:=Fin Tryz.prog Tryz.f15 No w (fun s : Unit=>.tuple #[.agg #[.int .i64 r.1.Op,.int .i64 r.1.Rd,.int .i64 r.1.Rs,.int .i64 r.1.Rt,.int .i64 r.1.Imm],.bool r.2]) (fun s=>[]) .ret
theorem fbi {a0 : Int} {w : World} {r : Instr × Bool} (h : f12 a0 = some r) (hG : Gl w) : Calls Tryz.prog 15 #[.int .i64 a0] w (Ret No w (fun s : Unit=>.tuple #[.agg #[.int .i64 r.1.Op,.int .i64 r.1.Rd,.int .i64 r.1.Rs,.int .i64 r.1.Rt,.int .i64 r.1.Imm],.bool r.2]) (fun s=>[])):=by
 unfold f12 at h
 refine enter Tryz.func15 z z ?_
 have hS:=Sep.start w
 refine .g (.c (.alloc T.t32 hS ?_ z z z))
 intro g1 W hS
 refine .qn z (.seq (.g (.q z ?_)))
 have ⟨y1,hy1,h⟩:=bnd h
 refine .c (.call0 hS Tryz.func39 (f9w hy1) z z ?_ z z z z)
 intro W hS
 refine .q z (.nil ?_)
 refine .cs z h ?_ ?_ <;> intro h
 ·refine .g (.s (bs T.s32 z z) z (.c (.st T.t32 hS z z z ?_ z z z z z)))
  intro W hS
  cases h
  exact .qn z (.ret (fin_ret (vs:=[_,_]) () (rc hS T.t32 z (rt z rn) z z) z (hS.to [] z)))
 refine .skip (.seq (.g (.qn z (.block ?_))))
 have ⟨y2,hy2,h⟩:=bnd h
 refine .via (.iter (fun s1 E' W'=>SubL E' [(0,.int .i64 a0),(2,.pointer (some ⟨g1,0,none⟩)),(4,.int .i64 s1)] ∧ Sep No w W' [.box g1 32 [.int .i64 0,.int .i64 0,.int .i64 0,.int .i64 0,.int .i64 0]]) (fun y3 x E' W'=>(match y3 with | .inl o1=>x = .ret ∧ f9x w o1 E' W' | .inr o2=>x = .exit 0 ∧ SubL E' [(2,.pointer (some ⟨g1,0,none⟩))] ∧ Sep No w W' [.box g1 32 [.int .i64 0,.int .i64 0,.int .i64 0,.int .i64 0,.int .i64 0]])) hy2 ⟨sb rfl,hS.to [0] rfl⟩ ?_) ?_
 ·intro s1 y4 E W h hI
  obtain ⟨hE,hS⟩:=hI
  refine CW.sub hE ?_
  unfold f1v at h
  refine .seq (.g (.q z (.q z (.nil ?_))))
  refine .cs z h ?_ ?_ <;> intro h
  ·refine .skip ?_
   have ⟨y5,hy5,h⟩:=bnd h
   refine .seq (CW.via (R':=fun x E' W'=>(match y5 with | .inl o3=>x = .normal ∧ SubL E' [(0,.int .i64 a0),(2,.pointer (some ⟨g1,0,none⟩)),(4,.int .i64 s1)] ∧ Sep No w W' [.box g1 32 [.int .i64 0,.int .i64 0,.int .i64 0,.int .i64 0,.int .i64 0]] | .inr o4=>x = .ret ∧ f9x w o4 E' W')) ?_ ?_)
   ·have h:=hy5
    refine .block (.seq (.g (.q z (.q z ?_))))
    have ⟨x1,hx1,h⟩:=bnd h
    refine .s (ixt hx1 z T.u76 T.t75 z z z) z (.s (ldt (hG.at hS (fun _ _ h=>h)).1 hx1 T.t75 z z z z z) z (.q z (.q z ?_)))
    have ⟨y6,hy6,h⟩:=bnd h
    refine .c (.call0 hS Tryz.func40 (fah hy6) z z ?_ z z z z)
    intro W hS
    refine .q z (.nil ?_)
    refine .cs z h ?_ ?_ <;> intro h
    ·refine .exit ?_
     cases h
     exact ⟨z,sb z,hS.to [0] z⟩
    refine .skip (.g (.q z (.q z ?_)))
    have ⟨y7,hy7,h⟩:=bnd h
    refine .c (.call0 hS Tryz.func41 (fcv hy7) z z ?_ z z z z)
    intro W hS
    refine .c (.alloc T.t32 hS ?_ z z z)
    intro g2 W hS
    refine .c (.st T.t32 hS z z z ?_ z z z z z)
    intro W hS
    refine .nil (.g (.s (ld T.t32 hS z z z z z) z ?_))
    have ⟨y8,hy8,h⟩:=bnd h
    refine .c (.call0 hS Tryz.func42 (f9j hy8 (hG.at hS (fun _ _ h=>h))) z z ?_ z z z z)
    intro W hS
    refine .q z (.q z (.q z (.q z (.qn z (.g (.q z (.q z (.chunk 4 37 (y8.2 && (y8.1 == a0)) hS ?_ ?_))))))))
    ·refine .both (y8.2) (fun hb=>?_) (fun hb=>?_)
     ·have hg1:=hb
      exact .g hg1 (.q z (.g hg1 (.q z (.g hg1 (.q z (.s (pkt hg1 z z z) z (.nil (ck 4 hS z (and_t hg1) z z)))) z)) z)) z
     exact .xx hb z (.xx hb z (.xx hb z (.s (pkf hb z z z) z (.nil (ck 4 hS z (and_f hb) z z)))))
    intro W hS
    refine .nil ?_
    refine .cs z h ?_ ?_ <;> intro h
    ·refine .g (.s (ld T.t32 hS z z z z z) z (.c (.st T.t32 hS.p1 z z z ?_ z z z z z)))
     intro W hS
     refine .qn z (.ret ?_)
     cases h
     exact ⟨z,fin_ret (vs:=[_,_]) () (rc hS T.t32 z (rt z rn) z z) z (hS.to [] z)⟩
    refine .skip ?_
    cases h
    exact ⟨z,sb z,hS.to [1] z⟩
   intro x E W hJ
   rcases y5 with o5 | o6
   ·obtain ⟨rfl,hE,hS⟩:=hJ
    refine ⟨_,hE.sub,?_⟩
    refine .region (.q z (.q z (.q z (.nil ?_))))
    cases h
    exact ⟨z,sb z,hS.to [0] z⟩
   obtain ⟨rfl,hF⟩:=hJ
   refine ⟨_,fun _ _ h=>h,?_⟩
   cases h
   exact ⟨by simp,z,hF⟩
  refine .exit ?_
  cases h
  exact ⟨by simp,z,sb z,hS.to [0] z⟩
 intro x E W hJ
 rcases y2 with o7 | o8
 ·obtain ⟨rfl,hF⟩:=hJ
  refine ⟨_,fun _ _ h=>h,?_⟩
  cases h
  exact hF
 obtain ⟨rfl,hE,hS⟩:=hJ
 refine ⟨_,hE.sub,?_⟩
 refine .g (.s (bs T.s32 z z) z (.c (.st T.t32 hS z z z ?_ z z z z z)))
 intro W hS
 cases h
 exact .qn z (.ret (fin_ret (vs:=[_,_]) () (rc hS T.t32 z (rt z rn) z z) z (hS.to [] z)))
def fdg (w : World) (r : Bool) : Env → World → Prop:=Fin Tryz.prog Tryz.f44 No w (fun s : Unit=>.bool r) (fun s=>[]) .ret
theorem faf {a0 : List Int} {v_0 : Hd} {w : World} {r : Bool} (h : f2p a0 = some r) (q_0 : RV w (Old No w) (sv v_0) 3 1 (D.int .i64) a0) : Calls Tryz.prog 44 #[(sv v_0)] w (Ret No w (fun s : Unit=>.bool r) (fun s=>[])):=by
 unfold f2p at h
 refine enter Tryz.func44 z z ?_
 have hS:=Sep.start w
 refine .g (.qn z (.seq (.g (.q z (.s (lenv (hS.keep q_0) T.u25 z z) z (.qn z (.block ?_)))))))
 have ⟨y1,hy1,h⟩:=bnd h
 refine .via (.iter (fun s1 E' W'=>SubL E' [(5,(sv v_0)),(6,.int .i64 (a0.length : Int)),(7,.int .i64 s1)] ∧ Sep No w W' []) (fun y2 x E' W'=>(match y2 with | .inl o1=>x = .ret ∧ fdg w o1 E' W' | .inr o2=>x = .exit 0 ∧ SubL E' [] ∧ Sep No w W' [])) hy1 ⟨sb rfl,hS.to [] rfl⟩ ?_) ?_
 ·intro s1 y3 E W h hI
  obtain ⟨hE,hS⟩:=hI
  refine CW.sub hE ?_
  unfold f4a at h
  refine .g (.qn z (.seq ?_))
  refine .cs z h ?_ ?_ <;> intro h
  ·refine .skip (.seq (.block (.seq (.region ?_))))
   have ⟨x1,hx1,h⟩:=bnd h
   refine .s (ixv (hS.keep q_0) hx1 T.u25 T.t3 z z z) z (.s (lde (RV.flat (hS.keep q_0) hx1 z) T.t3 z z z z z) z (.qn z (.g (.q z ?_))))
   have ⟨y4,hy4,h⟩:=bnd h
   refine .c (.call0 hS Tryz.func43 (f7u hy4) z z ?_ z z z z)
   intro W hS
   refine .q z (.nil ?_)
   refine .cs z h ?_ ?_ <;> intro h
   ·refine .g (.qn z (.ret ?_))
    cases h
    exact ⟨by simp,z,fin_ret (vs:=[_]) () (rt z rn) z (hS.to [] z)⟩
   refine .skip (.region (.q z (.q z (.nil ?_))))
   cases h
   exact ⟨z,sb z,hS.to [] z⟩
  refine .exit ?_
  cases h
  exact ⟨by simp,z,sb z,hS.to [] z⟩
 intro x E W hJ
 rcases y1 with o3 | o4
 ·obtain ⟨rfl,hF⟩:=hJ
  refine ⟨_,fun _ _ h=>h,?_⟩
  cases h
  exact hF
 obtain ⟨rfl,hE,hS⟩:=hJ
 refine ⟨_,hE.sub,?_⟩
 obtain rfl:=Option.some.inj h
 exact .g (.qn z (.ret (fin_ret (vs:=[_]) () (rt z rn) z (hS.to [] z))))
theorem fb5 {a0 : Machine} {v_0_Regs : Hd} {v_0_Mem : Hd} {w : World} {r : Bool} (h : f1u a0 = some r) (q_0_Regs : RV w (Old No w) (sv v_0_Regs) 3 1 (D.int .i64) a0.Regs) (q_0_Mem : RV w (Old No w) (sv v_0_Mem) 3 1 (D.int .i64) a0.Mem) : Calls Tryz.prog 17 #[.agg #[(sv v_0_Regs),.int .i64 a0.Pc,(sv v_0_Mem)]] w (Ret No w (fun s : Unit=>.bool r) (fun s=>[])):=by
 unfold f1u at h
 refine enter Tryz.func17 z z ?_
 have hS:=Sep.start w
 refine .g (.c (.box hS z z ?_ z z))
 intro g1 W hS
 refine .qn z (.g (.s (fa T.f27_0 z z z) z (.s (ld T.t25 hS z z z z z) z (.s (lenv (hS.keep q_0_Regs) T.u25 z z) z (.q z (.q z ?_))))))
 have ⟨b1,hb1,h⟩:=bnd h
 refine .chunk 4 11 (b1) hS ?_ ?_
 ·refine .both ((a0.Regs.length : Int) == 32) (fun hb=>?_) (fun hb=>?_)
  ·have hg1:=hb
   have h:=sel_t hb hb1
   refine .g hg1 (.s (fa T.f27_0 z z z) z (.g hg1 (.s (ld T.t25 hS z z z z z) z ?_) z)) z
   have ⟨y1,hy1,h⟩:=bnd h
   refine .g hg1 (.c (.call0 hS Tryz.func44 (faf hy1 (hS.keep q_0_Regs)) z z ?_ z z z z)) z
   intro W hS
   refine .s (pkt hg1 z z z) z ?_
   cases h
   exact .nil (ck 4 hS z z z z)
  refine .xx hb z (.xx hb z (.xx hb z ?_))
  cases sel_f hb hb1
  exact .s (pkf hb z z z) z (.nil (ck 4 hS z z z z))
 intro W hS
 refine .q z ?_
 have ⟨b2,hb2,h⟩:=bnd h
 refine .chunk 6 18 (b2) hS ?_ ?_
 ·refine .both (b1) (fun hb=>?_) (fun hb=>?_)
  ·have hg2:=hb
   have h:=sel_t hb hb2
   refine .g hg2 (.s (fa T.f27_0 z z z) z (.g hg2 (.s (ld T.t25 hS z z z z z) z ?_) z)) z
   have ⟨x1,hx1,h⟩:=bnd h
   refine .g hg2 (.s (ixv (hS.keep q_0_Regs) hx1 T.u25 T.t3 z z z) z (.g hg2 (.s (lde (RV.flat (hS.keep q_0_Regs) hx1 z) T.t3 z z z z z) z (.g hg2 (.q z (.s (pkt hg2 z z z) z ?_)) z)) z)) z
   cases h
   exact .nil (ck 6 hS z z z z)
  refine .xx hb z (.xx hb z (.xx hb z (.xx hb z (.xx hb z ?_))))
  cases sel_f hb hb2
  exact .s (pkf hb z z z) z (.nil (ck 6 hS z z z z))
 intro W hS
 refine .q z ?_
 have ⟨b3,hb3,h⟩:=bnd h
 refine .chunk 4 23 (b3) hS ?_ ?_
 ·refine .both (b2) (fun hb=>?_) (fun hb=>?_)
  ·have hg3:=hb
   have h:=sel_t hb hb3
   refine .g hg3 (.s (fa T.f27_1 z z z) z (.g hg3 (.s (ld T.t3 hS z z z z z) z ?_) z)) z
   have ⟨y2,hy2,h⟩:=bnd h
   refine .g hg3 (.c (.call0 hS Tryz.func43 (f7u hy2) z z ?_ z z z z)) z
   intro W hS
   refine .s (pkt hg3 z z z) z ?_
   cases h
   exact .nil (ck 4 hS z z z z)
  refine .xx hb z (.xx hb z (.xx hb z ?_))
  cases sel_f hb hb3
  exact .s (pkf hb z z z) z (.nil (ck 4 hS z z z z))
 intro W hS
 refine .q z (.chunk 5 29 (b3 && (decide ((a0.Mem.length : Int) ≤ 10000))) hS ?_ ?_)
 ·refine .both (b3) (fun hb=>?_) (fun hb=>?_)
  ·have hg4:=hb
   exact .g hg4 (.s (fa T.f27_2 z z z) z (.g hg4 (.s (ld T.t25 hS z z z z z) z (.g hg4 (.s (lenv (hS.keep q_0_Mem) T.u25 z z) z (.g hg4 (.q z (.s (pkt hg4 z z z) z (.nil (ck 5 hS z (and_t hg4) z z)))) z)) z)) z)) z
  exact .xx hb z (.xx hb z (.xx hb z (.xx hb z (.s (pkf hb z z z) z (.nil (ck 5 hS z (and_f hb) z z))))))
 intro W hS
 refine .q z ?_
 have ⟨b4,hb4,h⟩:=bnd h
 refine .chunk 4 34 (b4) hS ?_ ?_
 ·refine .both (b3 && (decide ((a0.Mem.length : Int) ≤ 10000))) (fun hb=>?_) (fun hb=>?_)
  ·have hg5:=hb
   have h:=sel_t hb hb4
   refine .g hg5 (.s (fa T.f27_2 z z z) z (.g hg5 (.s (ld T.t25 hS z z z z z) z ?_) z)) z
   have ⟨y3,hy3,h⟩:=bnd h
   refine .g hg5 (.c (.call0 hS Tryz.func44 (faf hy3 (hS.keep q_0_Mem)) z z ?_ z z z z)) z
   intro W hS
   refine .s (pkt hg5 z z z) z ?_
   cases h
   exact .nil (ck 4 hS z z z z)
  refine .xx hb z (.xx hb z (.xx hb z ?_))
  cases sel_f hb hb4
  exact .s (pkf hb z z z) z (.nil (ck 4 hS z z z z))
 intro W hS
 obtain rfl:=Option.some.inj h
 exact .qn z (.ret (fin_ret (vs:=[_]) () (rt z rn) z (hS.to [] z)))
end Go.Proofs.YtmpplggjpmmhlaaGreatDoor.N
namespace Go.Proofs.YtmpplggjpmmhlaaGreatDoor.N
open Go.Proofs.YtmpplggjpmmhlaaGreatDoor.X
theorem fb8 {k : Nat} {a0 : List Int} {v_0 : Hd} {w : World} {r : (List Int) × (List (List Instr))} (h : f3m k a0 = some r) (q_0 : RV w (Old No w) (sv v_0) 5 1 (D.int .u8) a0) : Calls Tryz.prog 19 #[(sv v_0)] w (Ret No w (fun s : Hd × Hd=>.tuple #[(sv s.1),(sv s.2)]) (fun s=>[rowV (sv s.1) 3 1 (D.int .i64) r.1,frzE [((sv s.2),23,1,List.map (fun (l : List Instr)=>D.row 32 5 (l.map dInstr)) r.2)] []])):=by
 unfold f3m at h
 refine enter Tryz.func19 z z ?_
 have hS:=Sep.start w
 have Q_0:=q_0
 refine .g (.q z (.qn z (.g (.q z ?_))))
 have ⟨y1,hy1,h⟩:=bnd h
 have hQ1:=hS
 refine .c (.call hS Tryz.func34 (fe6 hy1 (hS.keep q_0)) z z ?_ z z z z)
 rintro ⟨g1,⟨v1,q1⟩⟩ W hS
 refine .qn z (.g (.q z ?_))
 have ⟨y2,hy2,h⟩:=bnd h
 refine .c (.callS2 (L0:=[.box g1 100 [(sv v1),.int .i64 y1.p]]) hS Tryz.func35 (fun S h1 h2 h3=>(fcc hy2 (hS.keepS (hQ1.wasA (q1 _ (hQ1.keepA q_0 Q_0))) h1) h2 (zz h1))) z z ?_ z z z z)
 rintro v2 W hS
 refine .qn z (.g (.q z ?_))
 have ⟨y3,hy3,h⟩:=bnd h
 refine .c (.callS2 (L0:=[.box g1 100 [(sv v1),.int .i64 y2.2]]) hS Tryz.func36 (fun S h1 h2 h3=>(f00 hy3 (hS.keepS (hQ1.wasA (q1 _ (hQ1.keepA q_0 Q_0))) h1) h2 (zz h1))) z z ?_ z z z z)
 rintro ⟨⟩ W hS
 refine .q z (.q z ?_)
 have ⟨y4,hy4,h⟩:=bnd h
 refine .c (.callS2 (L0:=[.box g1 100 [(sv v1),.int .i64 y3.2]]) hS Tryz.func36 (fun S h1 h2 h3=>(f00 hy4 (hS.keepS (hQ1.wasA (q1 _ (hQ1.keepA q_0 Q_0))) h1) h2 (zz h1))) z z ?_ z z z z)
 rintro ⟨⟩ W hS
 refine .q z (.c (.liv [w64 (1 + y3.1),w64 (1 + y4.1)] (D.int .i64) T.u25 T.t3 hS z z z z ?_ z (fun _=>z) z z z z))
 intro v3 W hS
 refine .q z (.nil ?_)
 have ⟨y5,hy5,h⟩:=bnd h
 refine .seq (CW.via (R':=fun x E' W'=>x = .normal ∧ ∃ (v4 : Hd),SubL E' [(5,(sv v4)),(6,(sv v3))] ∧ Sep No w W' [rowV (sv v3) 3 1 (D.int .i64) y5.2.2,.box g1 100 [(sv v1),.int .i64 y5.2.1],frzE [((sv v4),23,1,List.map (fun (l : List Instr)=>D.row 32 5 (l.map dInstr)) y5.1)] []]) ?_ ?_)
 ·have h:=hy5
  refine .g (.q z ?_)
  have ⟨y6,hy6,h⟩:=bnd h
  have hS:=hS.p1
  refine .c (.callS2 (L0:=[.box g1 100 [(sv v1),.int .i64 y4.2]]) hS Tryz.func36 (fun S h1 h2 h3=>(f00 hy6 (hS.keepS (hQ1.wasA (q1 _ (hQ1.keepA q_0 Q_0))) h1) h2 (zz h1))) z z ?_ z z z z)
  rintro ⟨⟩ W hS
  refine .nil (.block (.g (.q z (.q z (.nil ?_)))))
  refine .cs z h ?_ ?_ <;> intro h
  ·refine .region (.q z ?_)
   have ⟨x1,hx1,h⟩:=bnd h
   refine .s (ixv hS.p1.lendv hx1 T.u25 T.t3 z z z) z ?_
   have ⟨r1,hr1,h⟩:=bnd h
   refine .c (.sev hr1 hx1 hS.p1 T.t3 z z z z z z ?_ z z z z z z)
   intro W hS
   refine .nil ?_
   have hS : Sep _ _ _ [frzE [((sv v2),23,1,List.map (fun (l : List Instr)=>D.row 32 5 (l.map dInstr)) y2.1)] [],rowV (sv v3) 3 1 (D.int .i64) r1,.box g1 100 [(sv v1),.int .i64 y6.2]]:=Sep.frz hS.p2
   cases h
   exact ⟨z,v2,sb z,hS.to [1,1,0] z⟩
  refine .g (.q z (.q z (.nil ?_)))
  refine .cs z h ?_ ?_ <;> intro h
  ·have ⟨x2,hx2,h⟩:=bnd h
   obtain ⟨k1,hS⟩:=Sep.outv hS.p2 hx2
   obtain ⟨v5,k1,rfl,hS⟩:=hS.orowv
   obtain ⟨rfl,hS⟩:=hS.onil
   have ⟨r2,hr2,h⟩:=bnd h
   have hS : Sep _ _ _ [mulE (sv v2) 23 1 (List.map (fun (l : List Instr)=>D.row 32 5 (l.map dInstr)) y2.1) (Int.toNat 0) [(sv v5)] (.row 32 5 (x2.map dInstr)),.box g1 100 [(sv v1),.int .i64 y6.2],rowV (sv v3) 3 1 (D.int .i64) [w64 (1 + y3.1),w64 (1 + y4.1)]]:=(Sep.gat (ds:=[.row 32 5 (x2.map dInstr)]) (cs:=[(sv v5)]) (L1:=[rowV (sv v5) 32 5 dInstr x2]) (.row (.nil)) (hS.to [0,0,0,0] z)).mul
   refine .rm 11 (fun W=>Sep No w W [frzE [((sv v2),23,1,List.map (fun (l : List Instr)=>D.row 32 5 (l.map dInstr)) y2.1),((sv v5),32,5,List.map dInstr x2)] [((sv v2),Int.toNat 0 * 1,(sv v5))]]) hS T.mix ?_
   intro W hS
   have hT : Sep _ _ W [frzE [((sv v2),23,1,List.map (fun (l : List Instr)=>D.row 32 5 (l.map dInstr)) y2.1),((sv v5),32,5,List.map dInstr x2)] [((sv v2),Int.toNat 0 * 1,(sv v5))]]:=Sep.mulz hx2 z (hS.to [0] z)
   refine .tp 0 z (fun W=>pr z) hT (.tp 1 z (fun W=>pr z) hT (.tp 4 z (fun W=>pr z) hT (.tp 7 z (fun W=>pr z) hT (.tp 2 z (fun W=>ixv (hT.lendz 0 z) hx2 T.u39 T.t23 z z z) hT (.tp 5 z (fun W=>ixv (hT.lendz 0 z) hx2 T.u39 T.t23 z z z) hT (.tp 8 z (fun W=>ixv (hT.lendz 0 z) hx2 T.u39 T.t23 z z z) hT (.t1 3 10 z (fun W hT=>lde (hT.cellz 0 z) T.t23 z z z z z) hT (.t1 6 10 z (fun W hT=>lde (hT.cellz 0 z) T.t23 z z z z z) hT (.t1 9 10 z (fun W hT=>lde (hT.cellz 0 z) T.t23 z z z z z) hT (.by1 10 z (.lir (k:=3) hS T.u39 T.t23 z z z z ?_ z z z) (by kernel_rfl)) (by kernel_rfl) z z) (by kernel_rfl) z z) (by kernel_rfl) z z) (by kernel_rfl) z z) (by kernel_rfl) z z) (by kernel_rfl) z z) (by kernel_rfl) z z) (by kernel_rfl) z z) (by kernel_rfl) z z) (by kernel_rfl) z z
   intro v6 W hS
   refine ⟨fun _=>Sep.mulz hx2 z (hS.to [1] z),?_⟩
   refine .byd 11 z (.apm hr2 hx2 hS T.u39 T.t23 z z z ?_ z z z z z) (by kernel_rfl) (by kernel_rfl)
   intro v7 W hS
   refine .byd 12 z (.runs (pr z) z z (.done ?_ (by kernel_rfl))) (by kernel_rfl) (by kernel_rfl)
   cases h
   exact ⟨z,v7,sb z,hS.to [2,1,0] z⟩
  refine .g (.q z (.q z (.nil ?_)))
  refine .cs z h ?_ ?_ <;> intro h
  ·refine .region (.q z (.q z ?_))
   have ⟨x3,hx3,h⟩:=bnd h
   refine .s (ixv hS.p2.lendv hx3 T.u39 T.t23 z z z) z ?_
   obtain ⟨k2,hS⟩:=Sep.outv hS.p2 hx3
   obtain ⟨v8,k2,rfl,hS⟩:=hS.orowv
   obtain ⟨rfl,hS⟩:=hS.onil
   refine .s (lde (hS.p1.hcellsv) T.t23 z z z z z) z (.s (bs T.s32 z z) z (.c (.liv [(Instr.mk 0 0 0 0 0)] dInstr T.u23 T.t32 hS z z z z ?_ z (fun _=>z) z z z z)))
   intro v9 W hS
   have ⟨r3,hr3,h⟩:=bnd h
   have hT0:=hS.p1
   refine .c (.apprv hr3 hT0 hT0.p1.lendv (fun _=>z) T.u23 T.t32 z z z ?_ z z z z z)
   intro v10 W hS
   refine .s (ixh hS.p2 hx3 T.u39 T.t23 z z z) z (.c (.sthv hS.p2 T.t23 z z z ?_ z z z z z z))
   intro W hS
   refine .nil ?_
   have hS:=Sep.gat (ds:=[.row 32 5 (r3.map dInstr)]) (cs:=[(sv v10)]) (L1:=[rowV (sv v10) 32 5 dInstr r3]) (.row (.nil)) (hS.to [1,0,0,0,0] z)
   have hS : Sep _ _ _ [rowV (sv v2) 23 1 (fun (l : List Instr)=>D.row 32 5 (l.map dInstr)) (y2.1.set (Int.toNat 0) r3),rowV (sv v9) 32 5 dInstr [(Instr.mk 0 0 0 0 0)],.box g1 100 [(sv v1),.int .i64 y6.2],rowV (sv v3) 3 1 (D.int .i64) [w64 (1 + y3.1),w64 (1 + y4.1)]]:=hS.backv
   have hS : Sep _ _ _ [frzE [((sv v2),23,1,List.map (fun (l : List Instr)=>D.row 32 5 (l.map dInstr)) (y2.1.set (Int.toNat 0) r3))] [],rowV (sv v9) 32 5 dInstr [(Instr.mk 0 0 0 0 0)],.box g1 100 [(sv v1),.int .i64 y6.2],rowV (sv v3) 3 1 (D.int .i64) [w64 (1 + y3.1),w64 (1 + y4.1)]]:=Sep.frz hS
   cases h
   exact ⟨z,v2,sb z,hS.to [3,2,0] z⟩
  refine .skip ?_
  have hS : Sep _ _ _ [frzE [((sv v2),23,1,List.map (fun (l : List Instr)=>D.row 32 5 (l.map dInstr)) y2.1)] [],.box g1 100 [(sv v1),.int .i64 y6.2],rowV (sv v3) 3 1 (D.int .i64) [w64 (1 + y3.1),w64 (1 + y4.1)]]:=Sep.frz hS.p2
  cases h
  exact ⟨z,v2,sb z,hS.to [2,1,0] z⟩
 intro x E W hJ
 obtain ⟨rfl,v11,hE,hS⟩:=hJ
 refine ⟨_,hE.sub,?_⟩
 cases h
 exact .g (.q z (.q z (.q z (.qn z (.ret (fin_ret (vs:=[_,_]) (v3,v11) (rt z (rt z rn)) z (hS.to [0,1] z)))))))
def fby (w : World) (r : Bool) : Env → World → Prop:=Fin Tryz.prog Tryz.f45 No w (fun s : Unit=>.bool r) (fun s=>[]) .ret
theorem fbq {a0 : List Int} {v_0 : Hd} {w : World} {r : Bool} (h : f4q a0 = some r) (q_0 : RV w (Old No w) (sv v_0) 3 1 (D.int .i64) a0) : Calls Tryz.prog 45 #[(sv v_0)] w (Ret No w (fun s : Unit=>.bool r) (fun s=>[])):=by
 unfold f4q at h
 refine enter Tryz.func45 z z ?_
 have hS:=Sep.start w
 refine .g (.qn z (.seq (.g (.q z (.s (lenv (hS.keep q_0) T.u25 z z) z (.qn z (.block ?_)))))))
 have ⟨y1,hy1,h⟩:=bnd h
 refine .via (.iter (fun s1 E' W'=>SubL E' [(0,(sv v_0)),(5,(sv v_0)),(6,.int .i64 (a0.length : Int)),(7,.int .i64 s1)] ∧ Sep No w W' []) (fun y2 x E' W'=>(match y2 with | .inl o1=>x = .ret ∧ fby w o1 E' W' | .inr o2=>x = .exit 0 ∧ SubL E' [(0,(sv v_0))] ∧ Sep No w W' [])) hy1 ⟨sb rfl,hS.to [] rfl⟩ ?_) ?_
 ·intro s1 y3 E W h hI
  obtain ⟨hE,hS⟩:=hI
  refine CW.sub hE ?_
  unfold f28 at h
  refine .g (.qn z (.seq ?_))
  refine .cs z h ?_ ?_ <;> intro h
  ·refine .skip (.seq (.block (.seq (.region ?_))))
   have ⟨x1,hx1,h⟩:=bnd h
   refine .s (ixv (hS.keep q_0) hx1 T.u25 T.t3 z z z) z (.s (lde (RV.flat (hS.keep q_0) hx1 z) T.t3 z z z z z) z (.qn z (.g (.q z (.q z (.q z (.chunk 3 16 ((decide (x1 < 1)) || (decide (x1 > 4))) hS ?_ ?_)))))))
   ·refine .both (decide (x1 < 1)) (fun hb=>?_) (fun hb=>?_)
    ·exact .xx hb z (.xx hb z (.s (pkt hb z z z) z (.nil (ck 3 hS z (or_t hb) z z))))
    have hg1:=hb
    exact .g hg1 (.q z (.g hg1 (.q z (.s (pkf hg1 z z z) z (.nil (ck 3 hS z (or_f hg1) z z)))) z)) z
   intro W hS
   refine .nil ?_
   refine .cs z h ?_ ?_ <;> intro h
   ·refine .g (.qn z (.ret ?_))
    cases h
    exact ⟨by simp,z,fin_ret (vs:=[_]) () (rt z rn) z (hS.to [] z)⟩
   refine .skip (.region (.q z (.q z (.nil ?_))))
   cases h
   exact ⟨z,sb z,hS.to [] z⟩
  refine .exit ?_
  cases h
  exact ⟨by simp,z,sb z,hS.to [] z⟩
 intro x E W hJ
 rcases y1 with o3 | o4
 ·obtain ⟨rfl,hF⟩:=hJ
  refine ⟨_,fun _ _ h=>h,?_⟩
  cases h
  exact hF
 obtain ⟨rfl,hE,hS⟩:=hJ
 refine ⟨_,hE.sub,?_⟩
 cases h
 exact .g (.q z (.s (lenv (hS.keep q_0) T.u25 z z) z (.q z (.qn z (.ret (fin_ret (vs:=[_]) () (rt z rn) z (hS.to [] z)))))))
def fdq (w : World) (r : Bool) : Env → World → Prop:=Fin Tryz.prog Tryz.f47 No w (fun s : Unit=>.bool r) (fun s=>[]) .ret
theorem fcb {a0 : List Int} {v_0 : Hd} {w : World} {r : Bool} (h : f3g a0 = some r) (q_0 : RV w (Old No w) (sv v_0) 3 1 (D.int .i64) a0) : Calls Tryz.prog 47 #[(sv v_0)] w (Ret No w (fun s : Unit=>.bool r) (fun s=>[])):=by
 unfold f3g at h
 refine enter Tryz.func47 z z ?_
 have hS:=Sep.start w
 refine .g (.qn z (.seq (.g (.qn z (.block ?_)))))
 have ⟨y1,hy1,h⟩:=bnd h
 refine .via (.iter (fun s1 E' W'=>SubL E' [(0,(sv v_0)),(3,.int .i64 s1)] ∧ Sep No w W' []) (fun y2 x E' W'=>(match y2 with | .inl o1=>x = .ret ∧ fdq w o1 E' W' | .inr o2=>x = .exit 0 ∧ SubL E' [(0,(sv v_0))] ∧ Sep No w W' [])) hy1 ⟨sb rfl,hS.to [] rfl⟩ ?_) ?_
 ·intro s1 y3 E W h hI
  obtain ⟨hE,hS⟩:=hI
  refine CW.sub hE ?_
  unfold f2t at h
  refine .seq (.g (.q z (.q z (.s (lenv (hS.keep q_0) T.u25 z z) z (.q z (.nil ?_))))))
  refine .cs z h ?_ ?_ <;> intro h
  ·refine .skip (.seq (.block (.g (.q z (.q z ?_)))))
   have ⟨x1,hx1,h⟩:=bnd h
   refine .s (ixv (hS.keep q_0) hx1 T.u25 T.t3 z z z) z (.s (lde (RV.flat (hS.keep q_0) hx1 z) T.t3 z z z z z) z ?_)
   have ⟨y4,hy4,h⟩:=bnd h
   refine .c (.call0 hS Tryz.func48 (f08 hy4) z z ?_ z z z z)
   intro W hS
   refine .q z (.nil ?_)
   refine .cs z h ?_ ?_ <;> intro h
   ·refine .g (.qn z (.ret ?_))
    cases h
    exact ⟨by simp,z,fin_ret (vs:=[_]) () (rt z rn) z (hS.to [] z)⟩
   refine .skip (.region (.q z (.q z (.q z (.nil ?_)))))
   cases h
   exact ⟨z,sb z,hS.to [] z⟩
  refine .exit ?_
  cases h
  exact ⟨by simp,z,sb z,hS.to [] z⟩
 intro x E W hJ
 rcases y1 with o3 | o4
 ·obtain ⟨rfl,hF⟩:=hJ
  refine ⟨_,fun _ _ h=>h,?_⟩
  cases h
  exact hF
 obtain ⟨rfl,hE,hS⟩:=hJ
 refine ⟨_,hE.sub,?_⟩
 cases h
 exact .g (.q z (.s (lenv (hS.keep q_0) T.u25 z z) z (.q z (.qn z (.ret (fin_ret (vs:=[_]) () (rt z rn) z (hS.to [] z)))))))
theorem fb6 {k : Nat} {a0 : List Int} {v_0 : Hd} {w : World} {r : (List Int) × (List (List Instr))} (h : f3n k a0 = some r) (q_0 : RV w (Old No w) (sv v_0) 5 1 (D.int .u8) a0) : Calls Tryz.prog 24 #[(sv v_0)] w (Ret No w (fun s : Hd × Hd=>.tuple #[(sv s.1),(sv s.2)]) (fun s=>[rowV (sv s.1) 3 1 (D.int .i64) r.1,frzE [((sv s.2),23,1,List.map (fun (l : List Instr)=>D.row 32 5 (l.map dInstr)) r.2)] []])):=by
 unfold f3n at h
 refine enter Tryz.func24 z z ?_
 have hS:=Sep.start w
 refine .g (.q z (.qn z (.g (.q z ?_))))
 have ⟨y1,hy1,h⟩:=bnd h
 refine .c (.call hS Tryz.func19 (fb8 hy1 (hS.keep q_0)) z z ?_ z z z z)
 rintro ⟨v1,v2⟩ W hS
 cases h
 exact .q z (.q z (.q z (.qn z (.ret (fin_ret (vs:=[_,_]) (v1,v2) (rt z (rt z rn)) z (hS.to [0,0] z))))))
end Go.Proofs.YtmpplggjpmmhlaaGreatDoor.N
