/- Printed by a program of mine: that the program's functions compute it. -/
import Derived.Test.YtcljimkjmklkmaaGreatK5
set_option linter.unusedVariables false
set_option linter.unusedSimpArgs false
set_option maxRecDepth 100000
set_option maxHeartbeats 4000000
namespace Go.Proofs.YtcljimkjmklkmaaGreat.N
open Go.Proofs.YtcljimkjmklkmaaGreat.X
theorem fdn {a0 : List Quad} {v_0 : Hd} {w : World} {r : (List (List Int))} (h : f6t a0 = some r) (q_0 : RV w (Old No w) (sv v_0) 82 5 dQuad a0) : Calls Tryz.prog 133 #[(sv v_0)] w (Ret No w (fun s : Hd=>(sv s)) (fun s=>[rowV (sv s) 25 1 (fun (l : List Int)=>D.row 3 1 (l.map (D.int .i64))) r])):=by
 unfold f6t at h
 refine enter Tryz.func133 z z ?_
 have hS:=Sep.start w
 refine .g (.qn z (.g (.c (.ligv (L1:=[]) [] (fun (l : List Int)=>D.row 3 1 (l.map (D.int .i64))) T.u29 T.t25 (hS.to [] z) z z z (.nil) ?_ z (fun _=>z) z z z z z))))
 intro v1 W hS
 refine .qn z (.seq (.g (.q z ?_)))
 have ⟨y1,hy1,h⟩:=bnd h
 refine .c (.call0 hS Tryz.func80 (f12 hy1 (hS.keep q_0)) z z ?_ z z z z)
 intro W hS
 refine .qn z (.cond z (fun hb=>?_) (fun hb=>?_))
 ·have h:=sel_t hb h
  cases h
  exact .g (.q z (.qn z (.ret (fin_ret (vs:=[_]) v1 (rt z rn) z (hS.to [0] z)))))
 have h:=sel_f hb h
 refine .skip (.seq (.g (.qn z (.block ?_))))
 have ⟨y2,hy2,h⟩:=bnd h
 refine .via (.iter (fun s1 E' W'=>∃ (v4 : Hd),SubL E' [(0,(sv v_0)),(3,(sv v4)),(4,.int .i64 s1.2)] ∧ Sep No w W' [rowV (sv v4) 25 1 (fun (l : List Int)=>D.row 3 1 (l.map (D.int .i64))) s1.1]) (fun y3 x E' W'=>x = .exit 0 ∧ ∃ (v5 : Hd),SubL E' [(0,(sv v_0)),(3,(sv v5))] ∧ Sep No w W' [rowV (sv v5) 25 1 (fun (l : List Int)=>D.row 3 1 (l.map (D.int .i64))) y3]) hy2 ⟨v1,sb z,hS.to [0] z⟩ ?_) ?_
 ·intro s1 y4 E W h hI
  obtain ⟨v3,hE,hS⟩:=hI
  refine CW.sub hE ?_
  unfold f9h at h
  refine .seq (.g (.q z (.q z (.s (lenv (hS.keep q_0) T.u68 z z) z (.q z (.nil ?_))))))
  refine .cs z h ?_ ?_ <;> intro h
  ·refine .skip (.seq (.block (.region (.q z (.c (.liv [] (D.int .i64) T.u25 T.t3 hS z z z z ?_ z (fun _=>z) z z z z))))))
   intro v6 W hS
   refine .c (.ligv (L1:=[rowV (sv v6) 3 1 (D.int .i64) []]) [[]] (fun (l : List Int)=>D.row 3 1 (l.map (D.int .i64))) T.u29 T.t25 (hS.to [0,0] z) z z z (.row (.nil)) ?_ z (fun _=>z) z z z z z)
   intro v7 W hS
   have ⟨r1,hr1,h⟩:=bnd h
   refine .c (.appv hr1 (hS.to [1,0] z) T.u29 T.t25 z z z ?_ z z z z z)
   intro v8 W hS
   refine .qn z (.region (.q z (.q z (.q z (.nil ?_)))))
   cases h
   exact ⟨z,v8,sb z,hS.to [0] z⟩
  refine .exit ?_
  cases h
  exact ⟨by simp,z,v3,sb z,hS.to [0] z⟩
 intro x E W hJ
 obtain ⟨rfl,v9,hE,hS⟩:=hJ
 refine ⟨_,hE.sub,?_⟩
 refine .g (.q z ?_)
 have ⟨y5,hy5,h⟩:=bnd h
 refine .c (.call1v hS Tryz.func156 (fb6 hy5) z z ?_ z z z z)
 intro v10 W hS
 have ⟨x1,hx1,h⟩:=bnd h
 refine .s (ixv hS.p1.lendv hx1 T.u29 T.t25 z z z) z ?_
 obtain ⟨k1,hS⟩:=Sep.outv hS.p1 hx1
 obtain ⟨v11,k1,rfl,hS⟩:=hS.orowv
 obtain ⟨rfl,hS⟩:=hS.onil
 refine .c (.sthv hS.p1 T.t25 z z z ?_ z z z z z z)
 intro W hS
 refine .nil (.seq (.block ?_))
 have hS:=Sep.gat (ds:=[.row 3 1 (y5.map (D.int .i64))]) (cs:=[(sv v10)]) (L1:=[rowV (sv v10) 3 1 (D.int .i64) y5]) (.row (.nil)) (hS.to [2,0,0] z)
 have hS : Sep _ _ _ [rowV (sv v9) 25 1 (fun (l : List Int)=>D.row 3 1 (l.map (D.int .i64))) (y2.set (Int.toNat 0) y5),rowV (sv v11) 3 1 (D.int .i64) x1]:=hS.backv
 have ⟨y6,hy6,h⟩:=bnd h
 refine .via (.iter (fun s2 E' W'=>SubL E' [(0,(sv v_0)),(3,(sv v9))] ∧ Sep No w W' [rowV (sv v9) 25 1 (fun (l : List Int)=>D.row 3 1 (l.map (D.int .i64))) s2,rowV (sv v11) 3 1 (D.int .i64) x1]) (fun y7 x E' W'=>x = .exit 2 ∧ SubL E' [(0,(sv v_0)),(3,(sv v9))] ∧ Sep No w W' [rowV (sv v9) 25 1 (fun (l : List Int)=>D.row 3 1 (l.map (D.int .i64))) y7,rowV (sv v11) 3 1 (D.int .i64) x1]) hy6 ⟨sb z,hS.to [0,0] z⟩ ?_) ?_
 ·intro s2 y8 E W h hI
  obtain ⟨hE,hS⟩:=hI
  refine CW.sub hE ?_
  unfold f9l at h
  refine .seq (.g (.q z (.q z ?_)))
  have ⟨y9,hy9,h⟩:=bnd h
  refine .c (.callS2 (L0:=[rowV (sv v9) 25 1 (fun (l : List Int)=>D.row 3 1 (l.map (D.int .i64))) s2]) hS Tryz.func157 (fun S h1 h2 h3=>(fdp hy9 (hS.keepS q_0 h1) h2 (zz h1))) z z ?_ z z z z)
  rintro ⟨⟩ W hS
  refine .nil ?_
  refine .cs z h ?_ ?_ <;> intro h
  ·refine .skip (.block (.skip ?_))
   cases h
   exact ⟨z,sb z,hS.to [0,0] z⟩
  refine .exit ?_
  cases h
  exact ⟨by simp,z,sb z,hS.to [0,0] z⟩
 intro x E W hJ
 obtain ⟨rfl,hE,hS⟩:=hJ
 refine ⟨_,hE.sub,?_⟩
 refine .seq (.g (.qn z (.block ?_)))
 have ⟨y10,hy10,h⟩:=bnd h
 refine .via (.iter (fun s3 E' W'=>SubL E' [(0,(sv v_0)),(3,(sv v9)),(5,.int .i64 s3.1)] ∧ Sep No w W' [rowV (sv v9) 25 1 (fun (l : List Int)=>D.row 3 1 (l.map (D.int .i64))) s3.2,rowV (sv v11) 3 1 (D.int .i64) x1]) (fun y11 x E' W'=>x = .exit 4 ∧ SubL E' [(3,(sv v9))] ∧ Sep No w W' [rowV (sv v9) 25 1 (fun (l : List Int)=>D.row 3 1 (l.map (D.int .i64))) y11,rowV (sv v11) 3 1 (D.int .i64) x1]) hy10 ⟨sb z,hS.to [0,0] z⟩ ?_) ?_
 ·intro s3 y12 E W h hI
  obtain ⟨hE,hS⟩:=hI
  refine CW.sub hE ?_
  unfold f9d at h
  refine .seq (.g (.q z (.q z (.s (lenv (hS.keep q_0) T.u68 z z) z (.q z (.nil ?_))))))
  refine .cs z h ?_ ?_ <;> intro h
  ·refine .skip ?_
   have ⟨y13,hy13,h⟩:=bnd h
   refine .seq (CW.via (R':=fun x E' W'=>x = .normal ∧ SubL E' [(0,(sv v_0)),(3,(sv v9)),(5,.int .i64 s3.1)] ∧ Sep No w W' [rowV (sv v9) 25 1 (fun (l : List Int)=>D.row 3 1 (l.map (D.int .i64))) y13,rowV (sv v11) 3 1 (D.int .i64) x1]) ?_ ?_)
   ·have h:=hy13
    refine .block (.g (.q z (.q z ?_)))
    have ⟨x2,hx2,h⟩:=bnd h
    refine .s (ixv hS.lendv hx2 T.u29 T.t25 z z z) z ?_
    obtain ⟨k2,hS⟩:=Sep.outv hS hx2
    obtain ⟨v12,k2,rfl,hS⟩:=hS.orowv
    obtain ⟨rfl,hS⟩:=hS.onil
    refine .s (lde (hS.p1.hcellsv) T.t25 z z z z z) z (.s (lenv hS.lendv T.u25 z z) z (.q z (.nil ?_)))
    refine .cs z h ?_ ?_ <;> intro h
    ·refine .region (.q z (.q z ?_))
     have ⟨y14,hy14,h⟩:=bnd h
     refine .c (.call1v hS Tryz.func156 (fb6 hy14) z z ?_ z z z z)
     intro v13 W hS
     refine .s (ixh hS.p2 hx2 T.u29 T.t25 z z z) z (.c (.sthv hS.p2 T.t25 z z z ?_ z z z z z z))
     intro W hS
     refine .nil ?_
     have hS:=Sep.gat (ds:=[.row 3 1 (y14.map (D.int .i64))]) (cs:=[(sv v13)]) (L1:=[rowV (sv v13) 3 1 (D.int .i64) y14]) (.row (.nil)) (hS.to [1,0,0,0] z)
     have hS : Sep _ _ _ [rowV (sv v9) 25 1 (fun (l : List Int)=>D.row 3 1 (l.map (D.int .i64))) (s3.2.set (Int.toNat s3.1) y14),rowV (sv v12) 3 1 (D.int .i64) x2,rowV (sv v11) 3 1 (D.int .i64) x1]:=hS.backv
     cases h
     exact ⟨z,sb z,hS.to [0,1] z⟩
    refine .skip ?_
    have hS:=Sep.gat (ds:=[.row 3 1 (x2.map (D.int .i64))]) (cs:=[(sv v12)]) (L1:=[rowV (sv v12) 3 1 (D.int .i64) x2]) (.row (.nil)) (hS.to [0,0,0] z)
    have hS : Sep _ _ _ [rowV (sv v9) 25 1 (fun (l : List Int)=>D.row 3 1 (l.map (D.int .i64))) s3.2,rowV (sv v11) 3 1 (D.int .i64) x1]:=Sep.back0v hx2 hS
    cases h
    exact ⟨z,sb z,hS.to [0,0] z⟩
   intro x E W hJ
   obtain ⟨rfl,hE,hS⟩:=hJ
   refine ⟨_,hE.sub,?_⟩
   refine .region (.q z (.q z (.q z (.nil ?_))))
   cases h
   exact ⟨z,sb z,hS.to [0,0] z⟩
  refine .exit ?_
  cases h
  exact ⟨by simp,z,sb z,hS.to [0,0] z⟩
 intro x E W hJ
 obtain ⟨rfl,hE,hS⟩:=hJ
 refine ⟨_,hE.sub,?_⟩
 obtain rfl:=Option.some.inj h
 exact .g (.q z (.qn z (.ret (fin_ret (vs:=[_]) v9 (rt z rn) z (hS.to [0] z)))))
theorem feu {a0 : Quad} {a1 : List Int} {v_1 : Hd} {w : World} {r : Quad} (h : f8a a0 a1 = some r) (q_1 : RV w (Old No w) (sv v_1) 3 1 (D.int .i64) a1) : Calls Tryz.prog 134 #[.agg #[.int .i64 a0.Op,.int .i64 a0.Dst,.int .i64 a0.A,.int .i64 a0.B,.int .i64 a0.N],(sv v_1)] w (Ret No w (fun s : Unit=>.agg #[.int .i64 r.Op,.int .i64 r.Dst,.int .i64 r.A,.int .i64 r.B,.int .i64 r.N]) (fun s=>[])):=by
 unfold f8a at h
 refine enter Tryz.func134 z z ?_
 have hS:=Sep.start w
 refine .g (.c (.box hS z z ?_ z z))
 intro g1 W hS
 refine .c (.alloc T.t82 hS ?_ z z z)
 intro g2 W hS
 refine .nil (.seq (.g (.s (fa T.f82_0 z z z) z (.s (ld T.t3 hS.p1 z z z z z) z (.nil (.block ?_))))))
 have ⟨y1,hy1,h⟩:=bnd h
 refine .seq (CW.via (R':=fun x E' W'=>x = .normal ∧ SubL E' [(1,(sv v_1)),(2,.pointer (some ⟨g1,0,none⟩)),(4,.pointer (some ⟨g2,0,none⟩)),(6,.int .i64 a0.Op),(7,.bool y1)] ∧ Sep No w W' [.box g2 82 [.int .i64 0,.int .i64 0,.int .i64 0,.int .i64 0,.int .i64 0],.box g1 82 [.int .i64 a0.Op,.int .i64 a0.Dst,.int .i64 a0.A,.int .i64 a0.B,.int .i64 a0.N]]) ?_ ?_)
 ·have h:=hy1
  refine .g (.q z (.q z (.nil ?_)))
  refine .cs z h ?_ ?_ <;> intro h
  ·refine .skip ?_
   cases h
   exact ⟨z,sb z,hS.to [0,0] z⟩
  refine .g (.q z (.q z (.nil ?_)))
  refine .cs z h ?_ ?_ <;> intro h
  ·refine .skip ?_
   cases h
   exact ⟨z,sb z,hS.to [0,0] z⟩
  refine .g (.q z (.q z (.nil ?_)))
  refine .cs z h ?_ ?_ <;> intro h
  ·refine .skip ?_
   cases h
   exact ⟨z,sb z,hS.to [0,0] z⟩
  refine .region (.q z (.q z (.nil ?_)))
  cases h
  exact ⟨z,sb z,hS.to [0,0] z⟩
 intro x E W hJ
 obtain ⟨rfl,hE,hS⟩:=hJ
 refine ⟨_,hE.sub,?_⟩
 refine .cs z h ?_ ?_ <;> intro h
 ·refine .region (.q z (.s (fa T.f82_2 z z z) z (.s (ld T.t3 hS.p1 z z z z z) z ?_)))
  have ⟨x1,hx1,h⟩:=bnd h
  refine .s (ixv (hS.keep q_1) hx1 T.u25 T.t3 z z z) z (.s (lde (RV.flat (hS.keep q_1) hx1 z) T.t3 z z z z z) z (.s (fa T.f82_2 z z z) z (.c (.st T.t3 hS.p1 z z z ?_ z z z z z))))
  intro W hS
  refine .nil (.g (.s (ld T.t82 hS z z z z z) z (.c (.st T.t82 hS.p1 z z z ?_ z z z z z))))
  intro W hS
  cases h
  exact .nil (.ret (fin_ret (vs:=[_]) () (rc hS T.t82 z rn z z) z (hS.to [] z)))
 refine .g (.q z (.q z (.nil ?_)))
 refine .cs z h ?_ ?_ <;> intro h
 ·refine .g (.q z (.s (fa T.f82_2 z z z) z (.s (ld T.t3 hS.p1 z z z z z) z ?_)))
  have ⟨x2,hx2,h⟩:=bnd h
  refine .s (ixv (hS.keep q_1) hx2 T.u25 T.t3 z z z) z (.s (lde (RV.flat (hS.keep q_1) hx2 z) T.t3 z z z z z) z (.s (fa T.f82_2 z z z) z (.c (.st T.t3 hS.p1 z z z ?_ z z z z z))))
  intro W hS
  refine .nil (.region (.q z (.s (fa T.f82_3 z z z) z (.s (ld T.t3 hS z z z z z) z ?_))))
  have ⟨x3,hx3,h⟩:=bnd h
  refine .s (ixv (hS.keep q_1) hx3 T.u25 T.t3 z z z) z (.s (lde (RV.flat (hS.keep q_1) hx3 z) T.t3 z z z z z) z (.s (fa T.f82_3 z z z) z (.c (.st T.t3 hS z z z ?_ z z z z z))))
  intro W hS
  refine .nil (.g (.s (ld T.t82 hS z z z z z) z (.c (.st T.t82 hS.p1 z z z ?_ z z z z z))))
  intro W hS
  cases h
  exact .nil (.ret (fin_ret (vs:=[_]) () (rc hS T.t82 z rn z z) z (hS.to [] z)))
 refine .skip (.g (.s (ld T.t82 hS.p1 z z z z z) z (.c (.st T.t82 hS z z z ?_ z z z z z))))
 intro W hS
 obtain rfl:=Option.some.inj h
 exact .nil (.ret (fin_ret (vs:=[_]) () (rc hS T.t82 z rn z z) z (hS.to [] z)))
theorem fdi {a0 : List Quad} {v_0 : Hd} {w : World} {r : (List Quad) × Bool} (h : f73 a0 = some r) (q_0 : RV w (Old No w) (sv v_0) 82 5 dQuad a0) : Calls Tryz.prog 104 #[(sv v_0)] w (Ret No w (fun s : Hd=>.tuple #[(sv s),.bool r.2]) (fun s=>[rowV (sv s) 82 5 dQuad r.1])):=by
 unfold f73 at h
 refine enter Tryz.func104 z z ?_
 have hS:=Sep.start w
 refine .g (.q z (.qn z (.g (.c (.liv [] dQuad T.u68 T.t82 hS z z z z ?_ z (fun _=>z) z z z z)))))
 intro v1 W hS
 refine .qn z (.seq (.g (.q z ?_)))
 have ⟨y1,hy1,h⟩:=bnd h
 refine .c (.call0 hS Tryz.func80 (f12 hy1 (hS.keep q_0)) z z ?_ z z z z)
 intro W hS
 refine .q z (.nil ?_)
 refine .cs z h ?_ ?_ <;> intro h
 ·cases h
  exact .g (.q z (.q z (.qn z (.ret (fin_ret (vs:=[_,_]) v1 (rt z (rt z rn)) z (hS.to [0] z))))))
 refine .skip (.g (.q z ?_))
 have ⟨y2,hy2,h⟩:=bnd h
 refine .c (.call1v hS Tryz.func133 (fdn hy2 (hS.keep q_0)) z z ?_ z z z z)
 intro v2 W hS
 refine .qn z (.seq (.g (.qn z (.block ?_))))
 have ⟨y3,hy3,h⟩:=bnd h
 refine .via (.iter (fun s1 E' W'=>∃ (v5 : Hd),SubL E' [(0,(sv v_0)),(4,(sv v5)),(5,(sv v2)),(6,.int .i64 s1.2)] ∧ Sep No w W' [rowV (sv v2) 25 1 (fun (l : List Int)=>D.row 3 1 (l.map (D.int .i64))) y2,rowV (sv v5) 82 5 dQuad s1.1]) (fun y4 x E' W'=>x = .exit 0 ∧ ∃ (v6 : Hd),SubL E' [(4,(sv v6))] ∧ Sep No w W' [rowV (sv v2) 25 1 (fun (l : List Int)=>D.row 3 1 (l.map (D.int .i64))) y2,rowV (sv v6) 82 5 dQuad y4]) hy3 ⟨v1,sb z,hS.to [0,0] z⟩ ?_) ?_
 ·intro s1 y5 E W h hI
  obtain ⟨v4,hE,hS⟩:=hI
  refine CW.sub hE ?_
  unfold f6f at h
  refine .seq (.g (.q z (.q z (.s (lenv (hS.keep q_0) T.u68 z z) z (.q z (.nil ?_))))))
  refine .cs z h ?_ ?_ <;> intro h
  ·refine .skip (.seq (.block ?_))
   have ⟨x1,hx1,h⟩:=bnd h
   obtain ⟨k1,hS⟩:=Sep.outv hS hx1
   obtain ⟨v7,k1,rfl,hS⟩:=hS.orowv
   obtain ⟨rfl,hS⟩:=hS.onil
   refine .rk 13 hS [0,0] T.mix ?_
   intro W hS
   have hT:=hS.to [0,0] z
   refine .tp 0 z z hT (by kernel_rfl) (.tp 1 z z hT (by kernel_rfl) (.tp 2 z z hT (by kernel_rfl) ?_))
   have ⟨x3,hx3,h⟩:=bnd h
   refine .ts 3 z (fun W hT=>ixv (hS.keep q_0) hx3 T.u68 T.t82 z z z) hT z (by kernel_rfl) (.ts 4 z (fun W hT=>lde (RV.flat (hT.keep q_0) hx3 z) T.t82 z z z z z) hT z (by kernel_rfl) (.tp 5 z z hT (by kernel_rfl) (.tp 6 z z hT (by kernel_rfl) (.ts 7 z (fun W hT=>ixh hT.p1 hx1 T.u29 T.t25 z z z) hT z (by kernel_rfl) (.ts 8 z (fun W hT=>lde (hT.p1.hcellsv) T.t25 z z z z z) hT z (by kernel_rfl) ?_)))))
   have ⟨y7,hy7,h⟩:=bnd h
   refine .by1 9 z (.call0 hS Tryz.func134 (feu hy7 hS.lendv) z z ?_ z z z z) (by kernel_rfl)
   intro W hS
   have hT:=hS.to [0,0] z
   refine ⟨fun _=>hT,.by1 10 z (.liv [y7] dQuad T.u68 T.t82 hS z z z z ?_ z (fun _=>z) z z z z) (by kernel_rfl)⟩
   intro v10 W hS
   have hT:=hS.to [1,1] z
   refine ⟨fun _=>hT,?_⟩
   have ⟨r2,hr2,h⟩:=bnd h
   have hT0:=hS.p3
   refine .by1 11 z (.apprv hr2 hT0 hT0.p1.lendv (fun _=>z) T.u68 T.t82 z z z ?_ z z z z z) (by kernel_rfl)
   intro v11 W hS
   have hT:=hS.to [2,2] z
   refine ⟨fun _=>hT,.tp 12 z z hT (by kernel_rfl) (.done (.region (.q z (.q z (.q z (.nil ?_))))) (by kernel_rfl))⟩
   have hS:=Sep.gat (ds:=[.row 3 1 (x1.map (D.int .i64))]) (cs:=[(sv v7)]) (L1:=[rowV (sv v7) 3 1 (D.int .i64) x1]) (.row (.nil)) (hS.to [2,2,0,0] z)
   have hS : Sep _ _ _ [rowV (sv v2) 25 1 (fun (l : List Int)=>D.row 3 1 (l.map (D.int .i64))) y2,rowV (sv v11) 82 5 dQuad r2,rowV (sv v10) 82 5 dQuad [y7]]:=Sep.back0v hx1 hS
   cases h
   exact ⟨z,v11,sb z,hS.to [0,0] z⟩
  refine .exit ?_
  cases h
  exact ⟨by simp,z,v4,sb z,hS.to [0,0] z⟩
 intro x E W hJ
 obtain ⟨rfl,v12,hE,hS⟩:=hJ
 refine ⟨_,hE.sub,?_⟩
 cases h
 exact .g (.q z (.q z (.qn z (.ret (fin_ret (vs:=[_,_]) v12 (rt z (rt z rn)) z (hS.to [1] z))))))
def fcz (w : World) (r : Int) : Env → World → Prop:=Fin Tryz.prog Tryz.f135 No w (fun s : Unit=>.int .i64 r) (fun s=>[]) .ret
theorem fco {a0 : List Quad} {a1 : Int} {v_0 : Hd} {w : World} {r : Int} (h : f68 a0 a1 = some r) (q_0 : RV w (Old No w) (sv v_0) 82 5 dQuad a0) : Calls Tryz.prog 135 #[(sv v_0),.int .i64 a1] w (Ret No w (fun s : Unit=>.int .i64 r) (fun s=>[])):=by
 unfold f68 at h
 refine enter Tryz.func135 z z ?_
 have hS:=Sep.start w
 refine .g (.qn z (.g (.q z (.qn z (.seq (.g (.qn z (.block ?_))))))))
 have ⟨y1,hy1,h⟩:=bnd h
 refine .via (.iter (fun s1 E' W'=>SubL E' [(0,(sv v_0)),(1,.int .i64 a1),(5,.int .i64 s1.1),(6,.int .i64 s1.2)] ∧ Sep No w W' []) (fun y2 x E' W'=>(match y2 with | .inl o1=>x = .ret ∧ fcz w o1 E' W' | .inr o2=>x = .exit 0 ∧ SubL E' [(1,.int .i64 a1)] ∧ Sep No w W' [])) hy1 ⟨sb rfl,hS.to [] rfl⟩ ?_) ?_
 ·intro s1 y3 E W h hI
  obtain ⟨hE,hS⟩:=hI
  refine CW.sub hE ?_
  unfold f8t at h
  refine .seq (.g (.q z (.q z (.s (lenv (hS.keep q_0) T.u68 z z) z (.q z (.nil ?_))))))
  refine .cs z h ?_ ?_ <;> intro h
  ·refine .skip (.seq (.block (.seq (.g (.q z (.q z ?_))))))
   have ⟨x1,hx1,h⟩:=bnd h
   refine .s (ixv (hS.keep q_0) hx1 T.u68 T.t82 z z z) z (.s (fe T.f82_0 z z z) z (.s (lde (RV.flat (hS.keep q_0) hx1 z) T.t3 z z z z z) z (.q z (.nil ?_))))
   refine .cs z h ?_ ?_ <;> intro h
   ·refine .g (.q z (.qn z (.ret ?_)))
    cases h
    exact ⟨by simp,z,fin_ret (vs:=[_]) () (rt z rn) z (hS.to [] z)⟩
   refine .skip (.region (.q z (.q z ?_)))
   have ⟨x2,hx2,h⟩:=bnd h
   refine .s (ixv (hS.keep q_0) hx2 T.u68 T.t82 z z z) z (.s (fe T.f82_4 z z z) z (.s (lde (RV.flat (hS.keep q_0) hx2 z) T.t3 z z z z z) z (.qn z (.region (.q z (.q z (.q z (.nil ?_))))))))
   cases h
   exact ⟨z,sb z,hS.to [] z⟩
  refine .exit ?_
  cases h
  exact ⟨by simp,z,sb z,hS.to [] z⟩
 intro x E W hJ
 rcases y1 with o3 | o4
 ·obtain ⟨rfl,hF⟩:=hJ
  refine ⟨_,fun _ _ h=>h,?_⟩
  cases h
  exact hF
 obtain ⟨rfl,hE,hS⟩:=hJ
 refine ⟨_,hE.sub,?_⟩
 obtain rfl:=Option.some.inj h
 exact .g (.q z (.qn z (.ret (fin_ret (vs:=[_]) () (rt z rn) z (hS.to [] z)))))
theorem fdv {a0 : List Quad} {v_0 : Hd} {w : World} {r : (List Quad) × Bool} (h : f6y a0 = some r) (q_0 : RV w (Old No w) (sv v_0) 82 5 dQuad a0) : Calls Tryz.prog 105 #[(sv v_0)] w (Ret No w (fun s : Hd=>.tuple #[(sv s),.bool r.2]) (fun s=>[rowV (sv s) 82 5 dQuad r.1])):=by
 unfold f6y at h
 refine enter Tryz.func105 z z ?_
 have hS:=Sep.start w
 refine .g (.q z (.qn z (.g (.c (.liv [] dQuad T.u68 T.t82 hS z z z z ?_ z (fun _=>z) z z z z)))))
 intro v1 W hS
 refine .qn z (.seq (.g (.q z ?_)))
 have ⟨y1,hy1,h⟩:=bnd h
 refine .c (.call0 hS Tryz.func80 (f12 hy1 (hS.keep q_0)) z z ?_ z z z z)
 intro W hS
 refine .q z (.nil ?_)
 refine .cs z h ?_ ?_ <;> intro h
 ·cases h
  exact .g (.q z (.q z (.qn z (.ret (fin_ret (vs:=[_,_]) v1 (rt z (rt z rn)) z (hS.to [0] z))))))
 refine .skip (.seq (.g (.qn z (.block ?_))))
 have ⟨y2,hy2,h⟩:=bnd h
 refine .via (.iter (fun s1 E' W'=>∃ (v4 : Hd),SubL E' [(0,(sv v_0)),(4,(sv v4)),(5,.int .i64 s1.2)] ∧ Sep No w W' [rowV (sv v4) 82 5 dQuad s1.1]) (fun y3 x E' W'=>x = .exit 0 ∧ ∃ (v5 : Hd),SubL E' [(4,(sv v5))] ∧ Sep No w W' [rowV (sv v5) 82 5 dQuad y3]) hy2 ⟨v1,sb z,hS.to [0] z⟩ ?_) ?_
 ·intro s1 y4 E W h hI
  obtain ⟨v3,hE,hS⟩:=hI
  refine CW.sub hE ?_
  unfold f6d at h
  refine .seq (.g (.q z (.q z (.s (lenv (hS.keep q_0) T.u68 z z) z (.q z (.nil ?_))))))
  refine .cs z h ?_ ?_ <;> intro h
  ·refine .skip (.seq (.block (.g (.q z (.q z ?_)))))
   have ⟨x1,hx1,h⟩:=bnd h
   refine .s (ixv (hS.keep q_0) hx1 T.u68 T.t82 z z z) z (.s (lde (RV.flat (hS.keep q_0) hx1 z) T.t82 z z z z z) z (.c (.alloc T.t82 hS ?_ z z z)))
   intro g1 W hS
   refine .c (.st T.t82 hS z z z ?_ z z z z z)
   intro W hS
   refine .nil ?_
   have ⟨y5,hy5,h⟩:=bnd h
   refine .seq (CW.via (R':=fun x E' W'=>x = .normal ∧ SubL E' [(0,(sv v_0)),(4,(sv v3)),(5,.int .i64 s1.2),(6,.pointer (some ⟨g1,0,none⟩))] ∧ Sep No w W' [.box g1 82 [.int .i64 y5.Op,.int .i64 y5.Dst,.int .i64 y5.A,.int .i64 y5.B,.int .i64 y5.N],rowV (sv v3) 82 5 dQuad s1.1]) ?_ ?_)
   ·have h:=hy5
    refine .g (.s (fa T.f82_0 z z z) z (.s (ld T.t3 hS z z z z z) z (.q z (.q z (.chunk 4 29 ((x1.Op == 4) || (x1.Op == 5)) hS ?_ ?_)))))
    ·refine .both (x1.Op == 4) (fun hb=>?_) (fun hb=>?_)
     ·exact .xx hb z (.xx hb z (.xx hb z (.s (pkt hb z z z) z (.nil (ck 4 hS z (or_t hb) z z)))))
     have hg1:=hb
     exact .g hg1 (.s (fa T.f82_0 z z z) z (.g hg1 (.s (ld T.t3 hS z z z z z) z (.g hg1 (.q z (.s (pkf hg1 z z z) z (.nil (ck 4 hS z (or_f hg1) z z)))) z)) z)) z
    intro W hS
    refine .nil ?_
    refine .cs z h ?_ ?_ <;> intro h
    ·refine .region (.q z (.s (fa T.f82_4 z z z) z (.s (ld T.t3 hS z z z z z) z ?_)))
     have ⟨y6,hy6,h⟩:=bnd h
     refine .c (.call0 hS Tryz.func135 (fco hy6 (hS.keep q_0)) z z ?_ z z z z)
     intro W hS
     refine .s (fa T.f82_4 z z z) z (.c (.st T.t3 hS z z z ?_ z z z z z))
     intro W hS
     refine .nil ?_
     cases h
     exact ⟨z,sb z,hS.to [0,0] z⟩
    refine .skip ?_
    obtain rfl:=Option.some.inj h
    exact ⟨z,sb z,hS.to [0,0] z⟩
   intro x E W hJ
   obtain ⟨rfl,hE,hS⟩:=hJ
   refine ⟨_,hE.sub,?_⟩
   refine .region (.q z (.s (ld T.t82 hS z z z z z) z (.c (.liv [y5] dQuad T.u68 T.t82 hS z z z z ?_ z (fun _=>z) z z z z))))
   intro v6 W hS
   have ⟨r1,hr1,h⟩:=bnd h
   have hT0:=hS.p2
   refine .c (.apprv hr1 hT0 hT0.p1.lendv (fun _=>z) T.u68 T.t82 z z z ?_ z z z z z)
   intro v7 W hS
   refine .qn z (.region (.q z (.q z (.q z (.nil ?_)))))
   cases h
   exact ⟨z,v7,sb z,hS.to [0] z⟩
  refine .exit ?_
  cases h
  exact ⟨by simp,z,v3,sb z,hS.to [0] z⟩
 intro x E W hJ
 obtain ⟨rfl,v8,hE,hS⟩:=hJ
 refine ⟨_,hE.sub,?_⟩
 cases h
 exact .g (.q z (.q z (.qn z (.ret (fin_ret (vs:=[_,_]) v8 (rt z (rt z rn)) z (hS.to [0] z))))))
theorem faz {a0 : List Quad} {a1 : List (List Bool)} {a2 : Int} {v_0 : Hd} {v_1 : Hd} {w : World} {r : (List Bool)} (h : f4t a0 a1 a2 = some r) (q_0 : RV w (Old No w) (sv v_0) 82 5 dQuad a0) (q_1 : RV w (Old No w) (sv v_1) 30 1 (fun (l : List Bool)=>D.row 4 1 (l.map D.bool)) a1) : Calls Tryz.prog 138 #[(sv v_0),(sv v_1),.int .i64 a2] w (Ret No w (fun s : Hd=>(sv s)) (fun s=>[rowV (sv s) 4 1 D.bool r])):=by
 unfold f4t at h
 refine enter Tryz.func138 z z ?_
 have hS:=Sep.start w
 refine .g (.qn z (.seq (.region ?_)))
 have ⟨r1,hr1,h⟩:=bnd h
 refine .c (.mkv false D.bool hr1 T.u30 T.t4 hS z z z z z (fun _=>z) ?_ z z z)
 intro v1 W hS
 refine .qn z (.g (.q z (.q z ?_)))
 have ⟨y1,hy1,h⟩:=bnd h
 refine .c (.call1v hS Tryz.func159 (f7n hy1 (hS.keep q_0)) z z ?_ z z z z)
 intro v2 W hS
 refine .qn z (.seq (.g (.qn z (.block ?_))))
 have ⟨y2,hy2,h⟩:=bnd h
 refine .via (.iter (fun s1 E' W'=>SubL E' [(1,(sv v_1)),(7,(sv v1)),(8,(sv v2)),(9,.int .i64 s1.1)] ∧ Sep No w W' [rowV (sv v2) 3 1 (D.int .i64) y1,rowV (sv v1) 4 1 D.bool s1.2]) (fun y3 x E' W'=>x = .exit 0 ∧ SubL E' [(7,(sv v1))] ∧ Sep No w W' [rowV (sv v2) 3 1 (D.int .i64) y1,rowV (sv v1) 4 1 D.bool y3]) hy2 ⟨sb z,hS.to [0,0] z⟩ ?_) ?_
 ·intro s1 y4 E W h hI
  obtain ⟨hE,hS⟩:=hI
  refine CW.sub hE ?_
  unfold f9p at h
  refine .seq (.g (.q z (.q z (.s (lenv hS.lendv T.u25 z z) z (.q z (.nil ?_))))))
  refine .cs z h ?_ ?_ <;> intro h
  ·refine .skip (.seq (.block (.g (.qn z (.block ?_)))))
   have ⟨y5,hy5,h⟩:=bnd h
   refine .via (.iter (fun s2 E' W'=>SubL E' [(1,(sv v_1)),(7,(sv v1)),(8,(sv v2)),(9,.int .i64 s1.1),(10,.int .i64 s2.1)] ∧ Sep No w W' [rowV (sv v2) 3 1 (D.int .i64) y1,rowV (sv v1) 4 1 D.bool s2.2]) (fun y6 x E' W'=>x = .exit 2 ∧ SubL E' [(1,(sv v_1)),(7,(sv v1)),(8,(sv v2)),(9,.int .i64 s1.1)] ∧ Sep No w W' [rowV (sv v2) 3 1 (D.int .i64) y1,rowV (sv v1) 4 1 D.bool y6]) hy5 ⟨sb z,hS.to [0,0] z⟩ ?_) ?_
   ·intro s2 y7 E W h hI
    obtain ⟨hE,hS⟩:=hI
    refine CW.sub hE ?_
    unfold f9s at h
    refine .seq (.g (.q z (.q z (.nil ?_))))
    refine .cs z h ?_ ?_ <;> intro h
    ·refine .skip (.seq (.block (.region (.q z (.q z (.q z (.q z ?_)))))))
     have ⟨x1,hx1,h⟩:=bnd h
     refine .s (ixv hS.p1.lendv hx1 T.u30 T.t4 z z z) z (.s (lde (RV.flat hS.p1.lendv hx1 z) T.t4 z z z z z) z (.q z ?_))
     have ⟨b1,hb1,h⟩:=bnd h
     refine .chunk 11 42 (b1) hS ?_ ?_
     ·refine .both (x1) (fun hb=>?_) (fun hb=>?_)
      ·refine .xx hb z (.xx hb z (.xx hb z (.xx hb z (.xx hb z (.xx hb z (.xx hb z (.xx hb z (.xx hb z (.xx hb z ?_)))))))))
       cases sel_t hb hb1
       exact .s (pkt hb z z z) z (.nil (ck 11 hS z z z z))
      have hg1:=hb
      have h:=sel_f hb hb1
      refine .g hg1 (.q z (.g hg1 (.q z (.g hg1 (.q z ?_) z)) z)) z
      have ⟨x2,hx2,h⟩:=bnd h
      refine .g hg1 (.s (ixv hS.lendv hx2 T.u25 T.t3 z z z) z (.g hg1 (.s (lde (RV.flat hS.lendv hx2 z) T.t3 z z z z z) z ?_) z)) z
      have ⟨x3,hx3,h⟩:=bnd h
      obtain ⟨k1,hd,hck1⟩:=RV.el2 q_1 hx3
      obtain ⟨v3,k1,rfl,q1,hd1⟩:=rrowv q_1 hd
      obtain rfl:=rnil q_1 hd1
      refine .g hg1 (.s (ixv (hS.keep q_1) hx3 T.u162 T.t30 z z z) z (.g hg1 (.s (lde (hck1 _ hS.agree) T.t30 z z z z z) z (.g hg1 (.q z ?_) z)) z)) z
      have ⟨x4,hx4,h⟩:=bnd h
      refine .g hg1 (.s (ixv (hS.keep (q1 _ q_1)) hx4 T.u30 T.t4 z z z) z (.g hg1 (.s (lde (RV.flat (hS.keep (q1 _ q_1)) hx4 z) T.t4 z z z z z) z (.s (pkf hg1 z z z) z ?_)) z)) z
      cases h
      exact .nil (ck 11 hS z z z z)
     intro W hS
     have ⟨x5,hx5,h⟩:=bnd h
     refine .s (ixv hS.p1.lendv hx5 T.u30 T.t4 z z z) z ?_
     have ⟨r2,hr2,h⟩:=bnd h
     refine .c (.sev hr2 hx5 hS.p1 T.t4 z z z z z z ?_ z z z z z z)
     intro W hS
     refine .nil (.region (.q z (.q z (.q z (.nil ?_)))))
     cases h
     exact ⟨z,sb z,hS.to [1,0] z⟩
    refine .exit ?_
    cases h
    exact ⟨by simp,z,sb z,hS.to [0,0] z⟩
   intro x E W hJ
   obtain ⟨rfl,hE,hS⟩:=hJ
   refine ⟨_,hE.sub,?_⟩
   refine .region (.q z (.q z (.q z (.nil ?_))))
   cases h
   exact ⟨z,sb z,hS.to [0,0] z⟩
  refine .exit ?_
  cases h
  exact ⟨by simp,z,sb z,hS.to [0,0] z⟩
 intro x E W hJ
 obtain ⟨rfl,hE,hS⟩:=hJ
 refine ⟨_,hE.sub,?_⟩
 obtain rfl:=Option.some.inj h
 exact .g (.q z (.qn z (.ret (fin_ret (vs:=[_]) v1 (rt z rn) z (hS.to [1] z)))))
theorem fd2 {a0 : Quad} {w : World} {r : (List Int)} (h : f77 a0 = some r) : Calls Tryz.prog 175 #[.agg #[.int .i64 a0.Op,.int .i64 a0.Dst,.int .i64 a0.A,.int .i64 a0.B,.int .i64 a0.N]] w (Ret No w (fun s : Hd=>(sv s)) (fun s=>[rowV (sv s) 3 1 (D.int .i64) r])):=by
 unfold f77 at h
 refine enter Tryz.func175 z z ?_
 have hS:=Sep.start w
 refine .g (.c (.box hS z z ?_ z z))
 intro g1 W hS
 refine .qn z (.seq (.g (.s (ld T.t82 hS z z z z z) z ?_)))
 have ⟨y1,hy1,h⟩:=bnd h
 refine .c (.call0 hS Tryz.func102 (f8v hy1) z z ?_ z z z z)
 intro W hS
 refine .q z (.nil ?_)
 refine .cs z h ?_ ?_ <;> intro h
 ·refine .g (.c (.liv [] (D.int .i64) T.u25 T.t3 hS z z z z ?_ z (fun _=>z) z z z z))
  intro v1 W hS
  cases h
  exact .qn z (.ret (fin_ret (vs:=[_]) v1 (rt z rn) z (hS.to [0] z)))
 refine .skip (.seq (.g (.s (fa T.f82_0 z z z) z (.s (ld T.t3 hS z z z z z) z (.nil (.block ?_))))))
 have ⟨y2,hy2,h⟩:=bnd h
 refine .seq (CW.via (R':=fun x E' W'=>x = .normal ∧ SubL E' [(1,.pointer (some ⟨g1,0,none⟩)),(8,.int .i64 a0.Op),(9,.bool y2)] ∧ Sep No w W' [.box g1 82 [.int .i64 a0.Op,.int .i64 a0.Dst,.int .i64 a0.A,.int .i64 a0.B,.int .i64 a0.N]]) ?_ ?_)
 ·have h:=hy2
  refine .g (.q z (.q z (.nil ?_)))
  refine .cs z h ?_ ?_ <;> intro h
  ·refine .skip ?_
   cases h
   exact ⟨z,sb z,hS.to [0] z⟩
  refine .g (.q z (.q z (.nil ?_)))
  refine .cs z h ?_ ?_ <;> intro h
  ·refine .skip ?_
   cases h
   exact ⟨z,sb z,hS.to [0] z⟩
  refine .g (.q z (.q z (.nil ?_)))
  refine .cs z h ?_ ?_ <;> intro h
  ·refine .skip ?_
   cases h
   exact ⟨z,sb z,hS.to [0] z⟩
  refine .region (.q z (.q z (.nil ?_)))
  cases h
  exact ⟨z,sb z,hS.to [0] z⟩
 intro x E W hJ
 obtain ⟨rfl,hE,hS⟩:=hJ
 refine ⟨_,hE.sub,?_⟩
 refine .cs z h ?_ ?_ <;> intro h
 ·refine .g (.s (fa T.f82_2 z z z) z (.s (ld T.t3 hS z z z z z) z (.c (.liv [a0.A] (D.int .i64) T.u25 T.t3 hS z z z z ?_ z (fun _=>z) z z z z))))
  intro v2 W hS
  cases h
  exact .qn z (.ret (fin_ret (vs:=[_]) v2 (rt z rn) z (hS.to [0] z)))
 refine .g (.q z (.q z (.nil ?_)))
 refine .cs z h ?_ ?_ <;> intro h
 ·refine .seq (.g (.s (fa T.f82_2 z z z) z (.s (ld T.t3 hS z z z z z) z (.s (fa T.f82_3 z z z) z (.s (ld T.t3 hS z z z z z) z (.q z (.nil ?_)))))))
  refine .cs z h ?_ ?_ <;> intro h
  ·refine .g (.s (fa T.f82_2 z z z) z (.s (ld T.t3 hS z z z z z) z (.c (.liv [a0.A] (D.int .i64) T.u25 T.t3 hS z z z z ?_ z (fun _=>z) z z z z))))
   intro v3 W hS
   cases h
   exact .qn z (.ret (fin_ret (vs:=[_]) v3 (rt z rn) z (hS.to [0] z)))
  refine .skip (.g (.s (fa T.f82_2 z z z) z (.s (ld T.t3 hS z z z z z) z (.s (fa T.f82_3 z z z) z (.s (ld T.t3 hS z z z z z) z (.s (mnv z z z) z (.s (fa T.f82_2 z z z) z (.s (ld T.t3 hS z z z z z) z (.s (fa T.f82_3 z z z) z (.s (ld T.t3 hS z z z z z) z (.s (mxv z z z) z (.c (.liv [min a0.A a0.B,max a0.A a0.B] (D.int .i64) T.u25 T.t3 hS z z z z ?_ z (fun _=>z) z z z z)))))))))))))
  intro v4 W hS
  cases h
  exact .qn z (.ret (fin_ret (vs:=[_]) v4 (rt z rn) z (hS.to [0] z)))
 refine .skip (.g (.c (.liv [] (D.int .i64) T.u25 T.t3 hS z z z z ?_ z (fun _=>z) z z z z)))
 intro v5 W hS
 cases h
 exact .qn z (.ret (fin_ret (vs:=[_]) v5 (rt z rn) z (hS.to [0] z)))
theorem fcq {a0 : Quad} {a1 : List Bool} {v_1 : Hd} {w : World} {r : (List Bool)} (h : f5x a0 a1 = some r) (q_1 : RV w (Old No w) (sv v_1) 4 1 D.bool a1) : Calls Tryz.prog 170 #[.agg #[.int .i64 a0.Op,.int .i64 a0.Dst,.int .i64 a0.A,.int .i64 a0.B,.int .i64 a0.N],(sv v_1)] w (Ret No w (fun s : Hd=>(sv s)) (fun s=>[rowV (sv s) 4 1 D.bool r])):=by
 unfold f5x at h
 refine enter Tryz.func170 z z ?_
 have hS:=Sep.start w
 refine .g (.c (.box hS z z ?_ z z))
 intro g1 W hS
 refine .qn z (.g (.c (.liv [] D.bool T.u30 T.t4 hS z z z z ?_ z (fun _=>z) z z z z)))
 intro v1 W hS
 refine .q z ?_
 have ⟨r1,hr1,h⟩:=bnd h
 refine .c (.apprv hr1 hS (hS.keep q_1) (fun _=>z) T.u30 T.t4 z z z ?_ z z z z z)
 intro v2 W hS
 refine .q z (.nil ?_)
 have ⟨y1,hy1,h⟩:=bnd h
 refine .seq (CW.via (R':=fun x E' W'=>x = .normal ∧ SubL E' [(2,.pointer (some ⟨g1,0,none⟩)),(5,(sv v2))] ∧ Sep No w W' [rowV (sv v2) 4 1 D.bool y1,.box g1 82 [.int .i64 a0.Op,.int .i64 a0.Dst,.int .i64 a0.A,.int .i64 a0.B,.int .i64 a0.N]]) ?_ ?_)
 ·have h:=hy1
  refine .g (.s (ld T.t82 hS.p1 z z z z z) z ?_)
  have ⟨y2,hy2,h⟩:=bnd h
  refine .c (.call0 hS Tryz.func174 (f9b hy2) z z ?_ z z z z)
  intro W hS
  refine .q z (.nil ?_)
  refine .cs z h ?_ ?_ <;> intro h
  ·refine .region (.q z (.s (ld T.t82 hS.p1 z z z z z) z ?_))
   have ⟨y3,hy3,h⟩:=bnd h
   refine .c (.call0 hS Tryz.func174 (f9b hy3) z z ?_ z z z z)
   intro W hS
   have ⟨x1,hx1,h⟩:=bnd h
   refine .s (ixv hS.lendv hx1 T.u30 T.t4 z z z) z ?_
   have ⟨r2,hr2,h⟩:=bnd h
   refine .c (.sev hr2 hx1 hS T.t4 z z z z z z ?_ z z z z z z)
   intro W hS
   refine .nil ?_
   obtain rfl:=Option.some.inj h
   exact ⟨z,sb z,hS.to [0,0] z⟩
  refine .skip ?_
  obtain rfl:=Option.some.inj h
  exact ⟨z,sb z,hS.to [0,0] z⟩
 intro x E W hJ
 obtain ⟨rfl,hE,hS⟩:=hJ
 refine ⟨_,hE.sub,?_⟩
 refine .g (.s (ld T.t82 hS.p1 z z z z z) z ?_)
 have ⟨y4,hy4,h⟩:=bnd h
 refine .c (.call1v hS Tryz.func175 (fd2 hy4) z z ?_ z z z z)
 intro v3 W hS
 refine .qn z (.seq (.g (.qn z (.block ?_))))
 have ⟨y5,hy5,h⟩:=bnd h
 refine .via (.iter (fun s1 E' W'=>SubL E' [(5,(sv v2)),(6,(sv v3)),(7,.int .i64 s1.1)] ∧ Sep No w W' [rowV (sv v3) 3 1 (D.int .i64) y4,rowV (sv v2) 4 1 D.bool s1.2,.box g1 82 [.int .i64 a0.Op,.int .i64 a0.Dst,.int .i64 a0.A,.int .i64 a0.B,.int .i64 a0.N]]) (fun y6 x E' W'=>x = .exit 0 ∧ SubL E' [(5,(sv v2))] ∧ Sep No w W' [rowV (sv v3) 3 1 (D.int .i64) y4,rowV (sv v2) 4 1 D.bool y6,.box g1 82 [.int .i64 a0.Op,.int .i64 a0.Dst,.int .i64 a0.A,.int .i64 a0.B,.int .i64 a0.N]]) hy5 ⟨sb z,hS.to [0,0,0] z⟩ ?_) ?_
 ·intro s1 y7 E W h hI
  obtain ⟨hE,hS⟩:=hI
  refine CW.sub hE ?_
  unfold f8o at h
  refine .seq (.g (.q z (.q z (.s (lenv hS.lendv T.u25 z z) z (.q z (.nil ?_))))))
  refine .cs z h ?_ ?_ <;> intro h
  ·refine .skip (.seq (.block (.region (.q z (.q z (.q z ?_))))))
   have ⟨x2,hx2,h⟩:=bnd h
   refine .s (ixv hS.lendv hx2 T.u25 T.t3 z z z) z (.s (lde (RV.flat hS.lendv hx2 z) T.t3 z z z z z) z ?_)
   have ⟨x3,hx3,h⟩:=bnd h
   refine .s (ixv hS.p1.lendv hx3 T.u30 T.t4 z z z) z ?_
   have ⟨r3,hr3,h⟩:=bnd h
   refine .c (.sev hr3 hx3 hS.p1 T.t4 z z z z z z ?_ z z z z z z)
   intro W hS
   refine .nil (.region (.q z (.q z (.q z (.nil ?_)))))
   cases h
   exact ⟨z,sb z,hS.to [1,0,0] z⟩
  refine .exit ?_
  cases h
  exact ⟨by simp,z,sb z,hS.to [0,0,0] z⟩
 intro x E W hJ
 obtain ⟨rfl,hE,hS⟩:=hJ
 refine ⟨_,hE.sub,?_⟩
 obtain rfl:=Option.some.inj h
 exact .g (.q z (.qn z (.ret (fin_ret (vs:=[_]) v2 (rt z rn) z (hS.to [1] z)))))
def ff8 (w : World) (r : Bool) : Env → World → Prop:=Fin Tryz.prog Tryz.f171 No w (fun s : Unit=>.bool r) (fun s=>[]) .ret
theorem fei {a0 : List Bool} {a1 : List Bool} {v_0 : Hd} {v_1 : Hd} {w : World} {r : Bool} (h : f86 a0 a1 = some r) (q_0 : RV w (Old No w) (sv v_0) 4 1 D.bool a0) (q_1 : RV w (Old No w) (sv v_1) 4 1 D.bool a1) : Calls Tryz.prog 171 #[(sv v_0),(sv v_1)] w (Ret No w (fun s : Unit=>.bool r) (fun s=>[])):=by
 unfold f86 at h
 refine enter Tryz.func171 z z ?_
 have hS:=Sep.start w
 refine .g (.qn z (.seq (.g (.qn z (.block ?_)))))
 have ⟨y1,hy1,h⟩:=bnd h
 refine .via (.iter (fun s1 E' W'=>SubL E' [(0,(sv v_0)),(1,(sv v_1)),(5,.int .i64 s1)] ∧ Sep No w W' []) (fun y2 x E' W'=>(match y2 with | .inl o1=>x = .ret ∧ ff8 w o1 E' W' | .inr o2=>x = .exit 0 ∧ SubL E' [(0,(sv v_0)),(1,(sv v_1))] ∧ Sep No w W' [])) hy1 ⟨sb rfl,hS.to [] rfl⟩ ?_) ?_
 ·intro s1 y3 E W h hI
  obtain ⟨hE,hS⟩:=hI
  refine CW.sub hE ?_
  unfold f9x at h
  refine .seq (.g (.q z (.q z (.s (lenv (hS.keep q_0) T.u30 z z) z (.q z (.nil ?_))))))
  refine .cs z h ?_ ?_ <;> intro h
  ·refine .skip (.seq (.block (.seq (.rk 9 hS [] T.mix ?_))))
   intro W hS
   have hT:=hS.to [] z
   refine .tp 0 z z hT (by kernel_rfl) (.tp 1 z z hT (by kernel_rfl) ?_)
   have ⟨x1,hx1,h⟩:=bnd h
   refine .ts 2 z (fun W hT=>ixv (hS.keep q_0) hx1 T.u30 T.t4 z z z) hT z (by kernel_rfl) (.ts 3 z (fun W hT=>lde (RV.flat (hT.keep q_0) hx1 z) T.t4 z z z z z) hT z (by kernel_rfl) (.tp 4 z z hT (by kernel_rfl) (.tp 5 z z hT (by kernel_rfl) ?_)))
   have ⟨x2,hx2,h⟩:=bnd h
   refine .ts 6 z (fun W hT=>ixv (hS.keep q_1) hx2 T.u30 T.t4 z z z) hT z (by kernel_rfl) (.ts 7 z (fun W hT=>lde (RV.flat (hT.keep q_1) hx2 z) T.t4 z z z z z) hT z (by kernel_rfl) (.ts 8 z (fun W hT=>neb T.u4 z z z) hT z (by kernel_rfl) (.done ?_ (by kernel_rfl))))
   refine .cs z h ?_ ?_ <;> intro h
   ·refine .g (.qn z (.ret ?_))
    cases h
    exact ⟨by simp,z,fin_ret (vs:=[_]) () (rt z rn) z (hS.to [] z)⟩
   refine .skip (.region (.q z (.q z (.q z (.nil ?_)))))
   cases h
   exact ⟨z,sb z,hS.to [] z⟩
  refine .exit ?_
  cases h
  exact ⟨by simp,z,sb z,hS.to [] z⟩
 intro x E W hJ
 rcases y1 with o3 | o4
 ·obtain ⟨rfl,hF⟩:=hJ
  refine ⟨_,fun _ _ h=>h,?_⟩
  cases h
  exact hF
 obtain ⟨rfl,hE,hS⟩:=hJ
 refine ⟨_,hE.sub,?_⟩
 cases h
 exact .g (.q z (.s (lenv (hS.keep q_0) T.u30 z z) z (.q z (.s (lenv (hS.keep q_1) T.u30 z z) z (.q z (.qn z (.ret (fin_ret (vs:=[_]) () (rt z rn) z (hS.to [] z)))))))))
theorem fd3 {a0 : List Quad} {a1 : List (List Bool)} {v_0 : Hd} {v_1 : Hd} {S : Nat → Prop} {w : World} {r : Bool × (List (List Bool))} (h : f6w a0 a1 = some r) (q_0 : RV w (Old S w) (sv v_0) 82 5 dQuad a0) (hO : Owns w [rowV (sv v_1) 30 1 (fun (l : List Bool)=>D.row 4 1 (l.map D.bool)) a1] S) (hlt : ∀ b,S b → b < w.heap.size) : Calls Tryz.prog 158 #[(sv v_0),(sv v_1)] w (Ret S w (fun s : Unit=>.bool r.1) (fun s=>[rowV (sv v_1) 30 1 (fun (l : List Bool)=>D.row 4 1 (l.map D.bool)) r.2])):=by
 unfold f6w at h
 refine enter Tryz.func158 z z ?_
 have hS:=Sep.startM hO hlt
 refine .g (.qn z (.g (.qn z (.seq (.g (.q z (.s (lenv (hS.keep q_0) T.u68 z z) z (.q z (.qn z (.block ?_))))))))))
 have ⟨y1,hy1,h⟩:=bnd h
 refine .via (.iter (fun s1 E' W'=>SubL E' [(0,(sv v_0)),(1,(sv v_1)),(5,.bool s1.1),(6,.int .i64 s1.2.1)] ∧ Sep S w W' [rowV (sv v_1) 30 1 (fun (l : List Bool)=>D.row 4 1 (l.map D.bool)) s1.2.2]) (fun y2 x E' W'=>x = .exit 0 ∧ SubL E' [(5,.bool y2.1)] ∧ Sep S w W' [rowV (sv v_1) 30 1 (fun (l : List Bool)=>D.row 4 1 (l.map D.bool)) y2.2]) hy1 ⟨sb z,hS.to [0] z⟩ ?_) ?_
 ·intro s1 y3 E W h hI
  obtain ⟨hE,hS⟩:=hI
  refine CW.sub hE ?_
  unfold f9i at h
  refine .seq (.g (.q z (.q z (.nil ?_))))
  refine .cs z h ?_ ?_ <;> intro h
  ·refine .skip ?_
   have ⟨y4,hy4,h⟩:=bnd h
   refine .seq (CW.via (R':=fun x E' W'=>x = .normal ∧ SubL E' [(0,(sv v_0)),(1,(sv v_1)),(5,.bool y4.1),(6,.int .i64 s1.2.1)] ∧ Sep S w W' [rowV (sv v_1) 30 1 (fun (l : List Bool)=>D.row 4 1 (l.map D.bool)) y4.2]) ?_ ?_)
   ·have h:=hy4
    refine .block (.seq (.rk 10 hS [0] T.mix ?_))
    intro W hS
    have hT:=hS.to [0] z
    refine .tp 0 z z hT (by kernel_rfl) (.tp 1 z z hT (by kernel_rfl) ?_)
    have ⟨x1,hx1,h⟩:=bnd h
    refine .ts 2 z (fun W hT=>ixv (hS.keep q_0) hx1 T.u68 T.t82 z z z) hT z (by kernel_rfl) (.ts 3 z (fun W hT=>lde (RV.flat (hT.keep q_0) hx1 z) T.t82 z z z z z) hT z (by kernel_rfl) (.tp 4 z z hT (by kernel_rfl) (.tp 5 z z hT (by kernel_rfl) (.tp 6 z z hT (by kernel_rfl) ?_))))
    have ⟨y5,hy5,h⟩:=bnd h
    refine .by1 7 z (.call1v hS Tryz.func138 (faz hy5 (hS.keep q_0) hS.lendv) z z ?_ z z z z) (by kernel_rfl)
    intro v1 W hS
    have hT:=hS.to [1] z
    refine ⟨fun _=>hT,?_⟩
    have ⟨y6,hy6,h⟩:=bnd h
    refine .by1 8 z (.call1v hS Tryz.func170 (fcq hy6 hS.lendv) z z ?_ z z z z) (by kernel_rfl)
    intro v2 W hS
    have hT:=hS.to [2] z
    refine ⟨fun _=>hT,.tp 9 z z hT (by kernel_rfl) (.done (.g (.q z (.q z (.q z ?_)))) (by kernel_rfl))⟩
    have ⟨x2,hx2,h⟩:=bnd h
    refine .s (ixv hS.p2.lendv hx2 T.u162 T.t30 z z z) z ?_
    obtain ⟨k1,hS⟩:=Sep.outv hS.p2 hx2
    obtain ⟨v3,k1,rfl,hS⟩:=hS.orowv
    obtain ⟨rfl,hS⟩:=hS.onil
    refine .s (lde (hS.p1.hcellsv) T.t30 z z z z z) z ?_
    have ⟨y7,hy7,h⟩:=bnd h
    refine .c (.call0 hS Tryz.func171 (fei hy7 hS.p2.lendv hS.lendv) z z ?_ z z z z)
    intro W hS
    refine .q z (.nil ?_)
    refine .cs z h ?_ ?_ <;> intro h
    ·refine .g (.q z (.q z (.q z (.s (ixh hS.p1 hx2 T.u162 T.t30 z z z) z (.c (.sthv hS.p1 T.t30 z z z ?_ z z z z z z))))))
     intro W hS
     refine .nil (.region (.q z (.nil ?_)))
     have hS:=Sep.gat (ds:=[.row 4 1 (y6.map D.bool)]) (cs:=[(sv v2)]) (L1:=[rowV (sv v2) 4 1 D.bool y6]) (.row (.nil)) (hS.to [2,0,0,0] z)
     have hS : Sep _ _ _ [rowV (sv v_1) 30 1 (fun (l : List Bool)=>D.row 4 1 (l.map D.bool)) (s1.2.2.set (Int.toNat s1.2.1) y6),rowV (sv v3) 4 1 D.bool x2,rowV (sv v1) 4 1 D.bool y5]:=hS.backv
     cases h
     exact ⟨z,sb z,hS.to [0] z⟩
    refine .skip ?_
    have hS:=Sep.gat (ds:=[.row 4 1 (x2.map D.bool)]) (cs:=[(sv v3)]) (L1:=[rowV (sv v3) 4 1 D.bool x2]) (.row (.nil)) (hS.to [0,0,0,0] z)
    have hS : Sep _ _ _ [rowV (sv v_1) 30 1 (fun (l : List Bool)=>D.row 4 1 (l.map D.bool)) s1.2.2,rowV (sv v2) 4 1 D.bool y6,rowV (sv v1) 4 1 D.bool y5]:=Sep.back0v hx2 hS
    cases h
    exact ⟨z,sb z,hS.to [0] z⟩
   intro x E W hJ
   obtain ⟨rfl,hE,hS⟩:=hJ
   refine ⟨_,hE.sub,?_⟩
   refine .region (.q z (.q z (.q z (.nil ?_))))
   cases h
   exact ⟨z,sb z,hS.to [0] z⟩
  refine .exit ?_
  cases h
  exact ⟨by simp,z,sb z,hS.to [0] z⟩
 intro x E W hJ
 obtain ⟨rfl,hE,hS⟩:=hJ
 refine ⟨_,hE.sub,?_⟩
 cases h
 exact .g (.q z (.qn z (.ret (fin_ret (vs:=[_]) () (rt z rn) z (hS.to [0] z)))))
theorem fez {a0 : List Quad} {v_0 : Hd} {w : World} {r : (List (List Bool))} (h : f92 a0 = some r) (q_0 : RV w (Old No w) (sv v_0) 82 5 dQuad a0) : Calls Tryz.prog 136 #[(sv v_0)] w (Ret No w (fun s : Hd=>(sv s)) (fun s=>[rowV (sv s) 30 1 (fun (l : List Bool)=>D.row 4 1 (l.map D.bool)) r])):=by
 unfold f92 at h
 refine enter Tryz.func136 z z ?_
 have hS:=Sep.start w
 refine .g (.qn z (.g (.c (.ligv (L1:=[]) [] (fun (l : List Bool)=>D.row 4 1 (l.map D.bool)) T.u162 T.t30 (hS.to [] z) z z z (.nil) ?_ z (fun _=>z) z z z z z))))
 intro v1 W hS
 refine .qn z (.seq (.g (.q z ?_)))
 have ⟨y1,hy1,h⟩:=bnd h
 refine .c (.call0 hS Tryz.func80 (f12 hy1 (hS.keep q_0)) z z ?_ z z z z)
 intro W hS
 refine .qn z (.cond z (fun hb=>?_) (fun hb=>?_))
 ·have h:=sel_t hb h
  cases h
  exact .g (.q z (.qn z (.ret (fin_ret (vs:=[_]) v1 (rt z rn) z (hS.to [0] z)))))
 have h:=sel_f hb h
 refine .skip (.seq (.g (.qn z (.block ?_))))
 have ⟨y2,hy2,h⟩:=bnd h
 refine .via (.iter (fun s1 E' W'=>∃ (v4 : Hd),SubL E' [(0,(sv v_0)),(3,(sv v4)),(4,.int .i64 s1.2)] ∧ Sep No w W' [rowV (sv v4) 30 1 (fun (l : List Bool)=>D.row 4 1 (l.map D.bool)) s1.1]) (fun y3 x E' W'=>x = .exit 0 ∧ ∃ (v5 : Hd),SubL E' [(0,(sv v_0)),(3,(sv v5))] ∧ Sep No w W' [rowV (sv v5) 30 1 (fun (l : List Bool)=>D.row 4 1 (l.map D.bool)) y3]) hy2 ⟨v1,sb z,hS.to [0] z⟩ ?_) ?_
 ·intro s1 y4 E W h hI
  obtain ⟨v3,hE,hS⟩:=hI
  refine CW.sub hE ?_
  unfold fah at h
  refine .seq (.g (.q z (.q z (.s (lenv (hS.keep q_0) T.u68 z z) z (.q z (.nil ?_))))))
  refine .cs z h ?_ ?_ <;> intro h
  ·refine .skip (.seq (.block (.region (.q z ?_))))
   have ⟨r1,hr1,h⟩:=bnd h
   refine .c (.mkv false D.bool hr1 T.u30 T.t4 hS z z z z z (fun _=>z) ?_ z z z)
   intro v6 W hS
   refine .c (.ligv (L1:=[rowV (sv v6) 4 1 D.bool r1]) [r1] (fun (l : List Bool)=>D.row 4 1 (l.map D.bool)) T.u162 T.t30 (hS.to [0,0] z) z z z (.row (.nil)) ?_ z (fun _=>z) z z z z z)
   intro v7 W hS
   have ⟨r2,hr2,h⟩:=bnd h
   refine .c (.appv hr2 (hS.to [1,0] z) T.u162 T.t30 z z z ?_ z z z z z)
   intro v8 W hS
   refine .qn z (.region (.q z (.q z (.q z (.nil ?_)))))
   cases h
   exact ⟨z,v8,sb z,hS.to [0] z⟩
  refine .exit ?_
  cases h
  exact ⟨by simp,z,v3,sb z,hS.to [0] z⟩
 intro x E W hJ
 obtain ⟨rfl,v9,hE,hS⟩:=hJ
 refine ⟨_,hE.sub,?_⟩
 refine .seq (.block ?_)
 have ⟨y5,hy5,h⟩:=bnd h
 refine .via (.iter (fun s2 E' W'=>SubL E' [(0,(sv v_0)),(3,(sv v9))] ∧ Sep No w W' [rowV (sv v9) 30 1 (fun (l : List Bool)=>D.row 4 1 (l.map D.bool)) s2]) (fun y6 x E' W'=>x = .exit 2 ∧ SubL E' [(3,(sv v9))] ∧ Sep No w W' [rowV (sv v9) 30 1 (fun (l : List Bool)=>D.row 4 1 (l.map D.bool)) y6]) hy5 ⟨sb z,hS.to [0] z⟩ ?_) ?_
 ·intro s2 y7 E W h hI
  obtain ⟨hE,hS⟩:=hI
  refine CW.sub hE ?_
  unfold fad at h
  refine .seq (.g (.q z (.q z ?_)))
  have ⟨y8,hy8,h⟩:=bnd h
  refine .c (.callS2 (L0:=[rowV (sv v9) 30 1 (fun (l : List Bool)=>D.row 4 1 (l.map D.bool)) s2]) hS Tryz.func158 (fun S h1 h2 h3=>(fd3 hy8 (hS.keepS q_0 h1) h2 (zz h1))) z z ?_ z z z z)
  rintro ⟨⟩ W hS
  refine .nil ?_
  refine .cs z h ?_ ?_ <;> intro h
  ·refine .skip (.block (.skip ?_))
   cases h
   exact ⟨z,sb z,hS.to [0] z⟩
  refine .exit ?_
  cases h
  exact ⟨by simp,z,sb z,hS.to [0] z⟩
 intro x E W hJ
 obtain ⟨rfl,hE,hS⟩:=hJ
 refine ⟨_,hE.sub,?_⟩
 obtain rfl:=Option.some.inj h
 exact .g (.q z (.qn z (.ret (fin_ret (vs:=[_]) v9 (rt z rn) z (hS.to [0] z)))))
theorem fej {a0 : Quad} {a1 : List Bool} {v_1 : Hd} {w : World} {r : Bool} (h : f8c a0 a1 = some r) (q_1 : RV w (Old No w) (sv v_1) 4 1 D.bool a1) : Calls Tryz.prog 137 #[.agg #[.int .i64 a0.Op,.int .i64 a0.Dst,.int .i64 a0.A,.int .i64 a0.B,.int .i64 a0.N],(sv v_1)] w (Ret No w (fun s : Unit=>.bool r) (fun s=>[])):=by
 unfold f8c at h
 refine enter Tryz.func137 z z ?_
 have hS:=Sep.start w
 refine .g (.c (.box hS z z ?_ z z))
 intro g1 W hS
 refine .qn z (.seq (.g (.s (fa T.f82_0 z z z) z (.s (ld T.t3 hS z z z z z) z (.nil (.block ?_))))))
 have ⟨y1,hy1,h⟩:=bnd h
 refine .seq (CW.via (R':=fun x E' W'=>x = .normal ∧ SubL E' [(1,(sv v_1)),(2,.pointer (some ⟨g1,0,none⟩)),(7,.bool y1)] ∧ Sep No w W' [.box g1 82 [.int .i64 a0.Op,.int .i64 a0.Dst,.int .i64 a0.A,.int .i64 a0.B,.int .i64 a0.N]]) ?_ ?_)
 ·have h:=hy1
  refine .g (.q z (.q z (.nil ?_)))
  refine .cs z h ?_ ?_ <;> intro h
  ·refine .skip ?_
   cases h
   exact ⟨z,sb z,hS.to [0] z⟩
  refine .g (.q z (.q z (.nil ?_)))
  refine .cs z h ?_ ?_ <;> intro h
  ·refine .skip ?_
   cases h
   exact ⟨z,sb z,hS.to [0] z⟩
  refine .region (.q z (.q z (.nil ?_)))
  cases h
  exact ⟨z,sb z,hS.to [0] z⟩
 intro x E W hJ
 obtain ⟨rfl,hE,hS⟩:=hJ
 refine ⟨_,hE.sub,?_⟩
 refine .cs z h ?_ ?_ <;> intro h
 ·refine .g (.q z (.s (fa T.f82_1 z z z) z (.s (ld T.t3 hS z z z z z) z ?_)))
  have ⟨x1,hx1,h⟩:=bnd h
  cases h
  exact .s (ixv (hS.keep q_1) hx1 T.u30 T.t4 z z z) z (.s (lde (RV.flat (hS.keep q_1) hx1 z) T.t4 z z z z z) z (.q z (.qn z (.ret (fin_ret (vs:=[_]) () (rt z rn) z (hS.to [] z))))))
 obtain rfl:=Option.some.inj h
 exact .skip (.g (.qn z (.ret (fin_ret (vs:=[_]) () (rt z rn) z (hS.to [] z)))))
theorem fdm {a0 : List Quad} {v_0 : Hd} {w : World} {r : (List Quad) × Bool} (h : f6n a0 = some r) (q_0 : RV w (Old No w) (sv v_0) 82 5 dQuad a0) : Calls Tryz.prog 106 #[(sv v_0)] w (Ret No w (fun s : Hd=>.tuple #[(sv s),.bool r.2]) (fun s=>[rowV (sv s) 82 5 dQuad r.1])):=by
 unfold f6n at h
 refine enter Tryz.func106 z z ?_
 have hS:=Sep.start w
 refine .g (.q z (.qn z (.g (.c (.liv [] dQuad T.u68 T.t82 hS z z z z ?_ z (fun _=>z) z z z z)))))
 intro v1 W hS
 refine .qn z (.seq (.g (.q z ?_)))
 have ⟨y1,hy1,h⟩:=bnd h
 refine .c (.call0 hS Tryz.func80 (f12 hy1 (hS.keep q_0)) z z ?_ z z z z)
 intro W hS
 refine .q z (.nil ?_)
 refine .cs z h ?_ ?_ <;> intro h
 ·cases h
  exact .g (.q z (.q z (.qn z (.ret (fin_ret (vs:=[_,_]) v1 (rt z (rt z rn)) z (hS.to [0] z))))))
 refine .skip (.g (.q z ?_))
 have ⟨y2,hy2,h⟩:=bnd h
 refine .c (.call1v hS Tryz.func136 (fez hy2 (hS.keep q_0)) z z ?_ z z z z)
 intro v2 W hS
 refine .qn z (.seq (.g (.qn z (.block ?_))))
 have ⟨y3,hy3,h⟩:=bnd h
 refine .via (.iter (fun s1 E' W'=>∃ (v5 : Hd),SubL E' [(0,(sv v_0)),(4,(sv v5)),(5,(sv v2)),(6,.int .i64 s1.2)] ∧ Sep No w W' [rowV (sv v2) 30 1 (fun (l : List Bool)=>D.row 4 1 (l.map D.bool)) y2,rowV (sv v5) 82 5 dQuad s1.1]) (fun y4 x E' W'=>x = .exit 0 ∧ ∃ (v6 : Hd),SubL E' [(4,(sv v6))] ∧ Sep No w W' [rowV (sv v2) 30 1 (fun (l : List Bool)=>D.row 4 1 (l.map D.bool)) y2,rowV (sv v6) 82 5 dQuad y4]) hy3 ⟨v1,sb z,hS.to [0,0] z⟩ ?_) ?_
 ·intro s1 y5 E W h hI
  obtain ⟨v4,hE,hS⟩:=hI
  refine CW.sub hE ?_
  unfold f6i at h
  refine .seq (.g (.q z (.q z (.s (lenv (hS.keep q_0) T.u68 z z) z (.q z (.nil ?_))))))
  refine .cs z h ?_ ?_ <;> intro h
  ·refine .skip (.seq (.block (.g (.q z (.q z ?_)))))
   have ⟨x1,hx1,h⟩:=bnd h
   refine .s (ixv (hS.keep q_0) hx1 T.u68 T.t82 z z z) z (.s (lde (RV.flat (hS.keep q_0) hx1 z) T.t82 z z z z z) z (.c (.alloc T.t82 hS ?_ z z z)))
   intro g1 W hS
   refine .c (.st T.t82 hS z z z ?_ z z z z z)
   intro W hS
   refine .nil ?_
   have ⟨y6,hy6,h⟩:=bnd h
   refine .seq (CW.via (R':=fun x E' W'=>x = .normal ∧ SubL E' [(0,(sv v_0)),(4,(sv v4)),(5,(sv v2)),(6,.int .i64 s1.2),(7,.pointer (some ⟨g1,0,none⟩))] ∧ Sep No w W' [.box g1 82 [.int .i64 y6.Op,.int .i64 y6.Dst,.int .i64 y6.A,.int .i64 y6.B,.int .i64 y6.N],rowV (sv v2) 30 1 (fun (l : List Bool)=>D.row 4 1 (l.map D.bool)) y2,rowV (sv v4) 82 5 dQuad s1.1]) ?_ ?_)
   ·have h:=hy6
    refine .seq (.rk 6 hS [0,0,0] T.mix ?_)
    intro W hS
    have hT:=hS.to [0,0,0] z
    refine .ts 0 z (fun W hT=>ld T.t82 hT z z z z z) hT z (by kernel_rfl) (.tp 1 z z hT (by kernel_rfl) (.tp 2 z z hT (by kernel_rfl) (.tp 3 z z hT (by kernel_rfl) ?_)))
    have ⟨y7,hy7,h⟩:=bnd h
    refine .by1 4 z (.call1v hS Tryz.func138 (faz hy7 (hS.keep q_0) hS.p1.lendv) z z ?_ z z z z) (by kernel_rfl)
    intro v7 W hS
    have hT:=hS.to [1,1,1] z
    refine ⟨fun _=>hT,?_⟩
    have ⟨y8,hy8,h⟩:=bnd h
    refine .by1 5 z (.call0 hS Tryz.func137 (fej hy8 hS.lendv) z z ?_ z z z z) (by kernel_rfl)
    intro W hS
    have hT:=hS.to [1,1,1] z
    refine ⟨fun _=>hT,.done ?_ (by kernel_rfl)⟩
    refine .cs z h ?_ ?_ <;> intro h
    ·refine .region (.q z (.q z (.s (bs T.s82 z z) z (.c (.st T.t82 hS.p1 z z z ?_ z z z z z)))))
     intro W hS
     refine .nil ?_
     cases h
     exact ⟨z,sb z,hS.to [0,1,1] z⟩
    refine .skip ?_
    obtain rfl:=Option.some.inj h
    exact ⟨z,sb z,hS.to [1,1,1] z⟩
   intro x E W hJ
   obtain ⟨rfl,hE,hS⟩:=hJ
   refine ⟨_,hE.sub,?_⟩
   refine .region (.q z (.s (ld T.t82 hS z z z z z) z (.c (.liv [y6] dQuad T.u68 T.t82 hS z z z z ?_ z (fun _=>z) z z z z))))
   intro v8 W hS
   have ⟨r1,hr1,h⟩:=bnd h
   have hT0:=hS.p3
   refine .c (.apprv hr1 hT0 hT0.p1.lendv (fun _=>z) T.u68 T.t82 z z z ?_ z z z z z)
   intro v9 W hS
   refine .qn z (.region (.q z (.q z (.q z (.nil ?_)))))
   cases h
   exact ⟨z,v9,sb z,hS.to [3,0] z⟩
  refine .exit ?_
  cases h
  exact ⟨by simp,z,v4,sb z,hS.to [0,0] z⟩
 intro x E W hJ
 obtain ⟨rfl,v10,hE,hS⟩:=hJ
 refine ⟨_,hE.sub,?_⟩
 cases h
 exact .g (.q z (.q z (.qn z (.ret (fin_ret (vs:=[_,_]) v10 (rt z (rt z rn)) z (hS.to [1] z))))))
theorem fcl {a0 : List Quad} {a1 : List Bool} {v_0 : Hd} {v_1 : Hd} {S : Nat → Prop} {w : World} {r : Bool × (List Bool)} (h : f61 a0 a1 = some r) (q_0 : RV w (Old S w) (sv v_0) 82 5 dQuad a0) (hO : Owns w [rowV (sv v_1) 4 1 D.bool a1] S) (hlt : ∀ b,S b → b < w.heap.size) : Calls Tryz.prog 160 #[(sv v_0),(sv v_1)] w (Ret S w (fun s : Unit=>.bool r.1) (fun s=>[rowV (sv v_1) 4 1 D.bool r.2])):=by
 unfold f61 at h
 refine enter Tryz.func160 z z ?_
 have hS:=Sep.startM hO hlt
 refine .g (.qn z (.g (.qn z (.seq (.g (.qn z (.block ?_)))))))
 have ⟨y1,hy1,h⟩:=bnd h
 refine .via (.iter (fun s1 E' W'=>SubL E' [(0,(sv v_0)),(1,(sv v_1)),(5,.bool s1.1),(6,.int .i64 s1.2.1)] ∧ Sep S w W' [rowV (sv v_1) 4 1 D.bool s1.2.2]) (fun y2 x E' W'=>x = .exit 0 ∧ SubL E' [(5,.bool y2.1)] ∧ Sep S w W' [rowV (sv v_1) 4 1 D.bool y2.2]) hy1 ⟨sb z,hS.to [0] z⟩ ?_) ?_
 ·intro s1 y3 E W h hI
  obtain ⟨hE,hS⟩:=hI
  refine CW.sub hE ?_
  unfold f8n at h
  refine .seq (.g (.q z (.q z (.s (lenv (hS.keep q_0) T.u68 z z) z (.q z (.nil ?_))))))
  refine .cs z h ?_ ?_ <;> intro h
  ·refine .skip ?_
   have ⟨y4,hy4,h⟩:=bnd h
   refine .seq (CW.via (R':=fun x E' W'=>x = .normal ∧ SubL E' [(0,(sv v_0)),(1,(sv v_1)),(5,.bool y4.1),(6,.int .i64 s1.2.1)] ∧ Sep S w W' [rowV (sv v_1) 4 1 D.bool y4.2]) ?_ ?_)
   ·have h:=hy4
    refine .block (.seq (.g (.q z (.q z ?_))))
    have ⟨x1,hx1,h⟩:=bnd h
    refine .s (ixv hS.lendv hx1 T.u30 T.t4 z z z) z (.s (lde (RV.flat hS.lendv hx1 z) T.t4 z z z z z) z (.q z (.nil ?_)))
    refine .cs z h ?_ ?_ <;> intro h
    ·refine .exit ?_
     cases h
     exact ⟨z,sb z,hS.to [0] z⟩
    refine .skip (.g (.q z (.q z ?_)))
    have ⟨y5,hy5,h⟩:=bnd h
    refine .c (.call1v hS Tryz.func159 (f7n hy5 (hS.keep q_0)) z z ?_ z z z z)
    intro v1 W hS
    refine .qn z (.g (.qn z (.block ?_)))
    have ⟨y6,hy6,h⟩:=bnd h
    refine .via (.iter (fun s2 E' W'=>SubL E' [(0,(sv v_0)),(1,(sv v_1)),(5,.bool s2.1),(6,.int .i64 s1.2.1),(7,(sv v1)),(8,.int .i64 s2.2.1)] ∧ Sep S w W' [rowV (sv v1) 3 1 (D.int .i64) y5,rowV (sv v_1) 4 1 D.bool s2.2.2]) (fun y7 x E' W'=>x = .exit 2 ∧ SubL E' [(0,(sv v_0)),(1,(sv v_1)),(5,.bool y7.1),(6,.int .i64 s1.2.1)] ∧ Sep S w W' [rowV (sv v1) 3 1 (D.int .i64) y5,rowV (sv v_1) 4 1 D.bool y7.2]) hy6 ⟨sb z,hS.to [0,0] z⟩ ?_) ?_
    ·intro s2 y8 E W h hI
     obtain ⟨hE,hS⟩:=hI
     refine CW.sub hE ?_
     unfold f8q at h
     refine .seq (.g (.q z (.q z (.s (lenv hS.lendv T.u25 z z) z (.q z (.nil ?_))))))
     refine .cs z h ?_ ?_ <;> intro h
     ·refine .skip ?_
      have ⟨y9,hy9,h⟩:=bnd h
      refine .seq (CW.via (R':=fun x E' W'=>x = .normal ∧ SubL E' [(0,(sv v_0)),(1,(sv v_1)),(5,.bool y9.1),(6,.int .i64 s1.2.1),(7,(sv v1)),(8,.int .i64 s2.2.1)] ∧ Sep S w W' [rowV (sv v1) 3 1 (D.int .i64) y5,rowV (sv v_1) 4 1 D.bool y9.2]) ?_ ?_)
      ·have h:=hy9
       refine .block (.g (.q z (.q z (.q z ?_))))
       have ⟨x2,hx2,h⟩:=bnd h
       refine .s (ixv hS.lendv hx2 T.u25 T.t3 z z z) z (.s (lde (RV.flat hS.lendv hx2 z) T.t3 z z z z z) z ?_)
       have ⟨x3,hx3,h⟩:=bnd h
       refine .s (ixv hS.p1.lendv hx3 T.u30 T.t4 z z z) z (.s (lde (RV.flat hS.p1.lendv hx3 z) T.t4 z z z z z) z (.q z (.nil ?_)))
       refine .cs z h ?_ ?_ <;> intro h
       ·refine .g (.q z (.q z (.q z ?_)))
        have ⟨x4,hx4,h⟩:=bnd h
        refine .s (ixv hS.lendv hx4 T.u25 T.t3 z z z) z (.s (lde (RV.flat hS.lendv hx4 z) T.t3 z z z z z) z ?_)
        have ⟨x5,hx5,h⟩:=bnd h
        refine .s (ixv hS.p1.lendv hx5 T.u30 T.t4 z z z) z ?_
        have ⟨r1,hr1,h⟩:=bnd h
        refine .c (.sev hr1 hx5 hS.p1 T.t4 z z z z z z ?_ z z z z z z)
        intro W hS
        refine .nil (.region (.q z (.nil ?_)))
        cases h
        exact ⟨z,sb z,hS.to [1,0] z⟩
       refine .skip ?_
       cases h
       exact ⟨z,sb z,hS.to [0,0] z⟩
      intro x E W hJ
      obtain ⟨rfl,hE,hS⟩:=hJ
      refine ⟨_,hE.sub,?_⟩
      refine .region (.q z (.q z (.q z (.nil ?_))))
      cases h
      exact ⟨z,sb z,hS.to [0,0] z⟩
     refine .exit ?_
     cases h
     exact ⟨by simp,z,sb z,hS.to [0,0] z⟩
    intro x E W hJ
    obtain ⟨rfl,hE,hS⟩:=hJ
    refine ⟨_,hE.sub,?_⟩
    cases h
    exact ⟨z,sb z,hS.to [1] z⟩
   intro x E W hJ
   obtain ⟨rfl,hE,hS⟩:=hJ
   refine ⟨_,hE.sub,?_⟩
   refine .region (.q z (.q z (.q z (.nil ?_))))
   cases h
   exact ⟨z,sb z,hS.to [0] z⟩
  refine .exit ?_
  cases h
  exact ⟨by simp,z,sb z,hS.to [0] z⟩
 intro x E W hJ
 obtain ⟨rfl,hE,hS⟩:=hJ
 refine ⟨_,hE.sub,?_⟩
 cases h
 exact .g (.q z (.qn z (.ret (fin_ret (vs:=[_]) () (rt z rn) z (hS.to [0] z)))))
theorem fcn {a0 : List Quad} {v_0 : Hd} {w : World} {r : (List Bool)} (h : f5q a0 = some r) (q_0 : RV w (Old No w) (sv v_0) 82 5 dQuad a0) : Calls Tryz.prog 139 #[(sv v_0)] w (Ret No w (fun s : Hd=>(sv s)) (fun s=>[rowV (sv s) 4 1 D.bool r])):=by
 unfold f5q at h
 refine enter Tryz.func139 z z ?_
 have hS:=Sep.start w
 refine .g (.qn z (.seq (.g (.q z ?_))))
 have ⟨y1,hy1,h⟩:=bnd h
 refine .c (.call0 hS Tryz.func80 (f12 hy1 (hS.keep q_0)) z z ?_ z z z z)
 intro W hS
 refine .qn z (.cond z (fun hb=>?_) (fun hb=>?_))
 ·have h:=sel_t hb h
  refine .g (.c (.liv [] D.bool T.u30 T.t4 hS z z z z ?_ z (fun _=>z) z z z z))
  intro v1 W hS
  cases h
  exact .qn z (.ret (fin_ret (vs:=[_]) v1 (rt z rn) z (hS.to [0] z)))
 have h:=sel_f hb h
 refine .skip (.g (.q z (.s (lenv (hS.keep q_0) T.u68 z z) z ?_)))
 have ⟨r1,hr1,h⟩:=bnd h
 refine .c (.mkv false D.bool hr1 T.u30 T.t4 hS z z z z z (fun _=>z) ?_ z z z)
 intro v2 W hS
 refine .qn z (.g (.q z ?_))
 have ⟨x1,hx1,h⟩:=bnd h
 refine .s (ixv hS.lendv hx1 T.u30 T.t4 z z z) z ?_
 have ⟨r2,hr2,h⟩:=bnd h
 refine .c (.sev hr2 hx1 hS T.t4 z z z z z z ?_ z z z z z z)
 intro W hS
 refine .nil (.seq (.block ?_))
 have ⟨y2,hy2,h⟩:=bnd h
 refine .via (.iter (fun s1 E' W'=>SubL E' [(0,(sv v_0)),(3,(sv v2))] ∧ Sep No w W' [rowV (sv v2) 4 1 D.bool s1]) (fun y3 x E' W'=>x = .exit 0 ∧ SubL E' [(3,(sv v2))] ∧ Sep No w W' [rowV (sv v2) 4 1 D.bool y3]) hy2 ⟨sb z,hS.to [0] z⟩ ?_) ?_
 ·intro s1 y4 E W h hI
  obtain ⟨hE,hS⟩:=hI
  refine CW.sub hE ?_
  unfold f8p at h
  refine .seq (.g (.q z (.q z ?_)))
  have ⟨y5,hy5,h⟩:=bnd h
  refine .c (.callS2 (L0:=[rowV (sv v2) 4 1 D.bool s1]) hS Tryz.func160 (fun S h1 h2 h3=>(fcl hy5 (hS.keepS q_0 h1) h2 (zz h1))) z z ?_ z z z z)
  rintro ⟨⟩ W hS
  refine .nil ?_
  refine .cs z h ?_ ?_ <;> intro h
  ·refine .skip (.block (.skip ?_))
   cases h
   exact ⟨z,sb z,hS.to [0] z⟩
  refine .exit ?_
  cases h
  exact ⟨by simp,z,sb z,hS.to [0] z⟩
 intro x E W hJ
 obtain ⟨rfl,hE,hS⟩:=hJ
 refine ⟨_,hE.sub,?_⟩
 obtain rfl:=Option.some.inj h
 exact .g (.q z (.qn z (.ret (fin_ret (vs:=[_]) v2 (rt z rn) z (hS.to [0] z)))))
theorem fel {a0 : Quad} {a1 : Int} {w : World} {r : Bool} (h : f83 a0 a1 = some r) : Calls Tryz.prog 140 #[.agg #[.int .i64 a0.Op,.int .i64 a0.Dst,.int .i64 a0.A,.int .i64 a0.B,.int .i64 a0.N],.int .i64 a1] w (Ret No w (fun s : Unit=>.bool r) (fun s=>[])):=by
 unfold f83 at h
 refine enter Tryz.func140 z z ?_
 have hS:=Sep.start w
 refine .g (.c (.box hS z z ?_ z z))
 intro g1 W hS
 refine .qn z (.seq (.g (.s (fa T.f82_0 z z z) z (.s (ld T.t3 hS z z z z z) z (.nil (.block ?_))))))
 have ⟨y1,hy1,h⟩:=bnd h
 refine .seq (CW.via (R':=fun x E' W'=>x = .normal ∧ SubL E' [(1,.int .i64 a1),(2,.pointer (some ⟨g1,0,none⟩)),(6,.int .i64 a0.Op),(7,.bool y1)] ∧ Sep No w W' [.box g1 82 [.int .i64 a0.Op,.int .i64 a0.Dst,.int .i64 a0.A,.int .i64 a0.B,.int .i64 a0.N]]) ?_ ?_)
 ·have h:=hy1
  refine .g (.q z (.q z (.nil ?_)))
  refine .cs z h ?_ ?_ <;> intro h
  ·refine .skip ?_
   cases h
   exact ⟨z,sb z,hS.to [0] z⟩
  refine .region (.q z (.q z (.nil ?_)))
  cases h
  exact ⟨z,sb z,hS.to [0] z⟩
 intro x E W hJ
 obtain ⟨rfl,hE,hS⟩:=hJ
 refine ⟨_,hE.sub,?_⟩
 refine .cs z h ?_ ?_ <;> intro h
 ·cases h
  exact .g (.s (fa T.f82_4 z z z) z (.s (ld T.t3 hS z z z z z) z (.q z (.q z (.q z (.qn z (.ret (fin_ret (vs:=[_]) () (rt z rn) z (hS.to [] z)))))))))
 refine .g (.q z (.q z (.nil ?_)))
 refine .cs z h ?_ ?_ <;> intro h
 ·cases h
  exact .g (.s (fa T.f82_1 z z z) z (.s (ld T.t3 hS z z z z z) z (.s (fa T.f82_2 z z z) z (.s (ld T.t3 hS z z z z z) z (.q z (.qn z (.ret (fin_ret (vs:=[_]) () (rt z rn) z (hS.to [] z)))))))))
 obtain rfl:=Option.some.inj h
 exact .skip (.g (.qn z (.ret (fin_ret (vs:=[_]) () (rt z rn) z (hS.to [] z)))))
theorem fdl {a0 : List Bool} {a1 : Int} {v_0 : Hd} {w : World} {r : Int} (h : f72 a0 a1 = some r) (q_0 : RV w (Old No w) (sv v_0) 4 1 D.bool a0) : Calls Tryz.prog 141 #[(sv v_0),.int .i64 a1] w (Ret No w (fun s : Unit=>.int .i64 r) (fun s=>[])):=by
 unfold f72 at h
 refine enter Tryz.func141 z z ?_
 have hS:=Sep.start w
 refine .g (.qn z (.g (.qn z (.seq (.g (.qn z (.block ?_)))))))
 have ⟨y1,hy1,h⟩:=bnd h
 refine .via (.iter (fun s1 E' W'=>SubL E' [(0,(sv v_0)),(1,.int .i64 a1),(5,.int .i64 s1.1),(6,.int .i64 s1.2)] ∧ Sep No w W' []) (fun y2 x E' W'=>x = .exit 0 ∧ SubL E' [(5,.int .i64 y2)] ∧ Sep No w W' []) hy1 ⟨sb z,hS.to [] z⟩ ?_) ?_
 ·intro s1 y3 E W h hI
  obtain ⟨hE,hS⟩:=hI
  refine CW.sub hE ?_
  unfold f9e at h
  refine .seq (.g (.q z (.q z (.q z (.nil ?_)))))
  refine .cs z h ?_ ?_ <;> intro h
  ·refine .skip ?_
   have ⟨y4,hy4,h⟩:=bnd h
   refine .seq (CW.via (R':=fun x E' W'=>x = .normal ∧ SubL E' [(0,(sv v_0)),(1,.int .i64 a1),(5,.int .i64 y4),(6,.int .i64 s1.2)] ∧ Sep No w W' []) ?_ ?_)
   ·have h:=hy4
    refine .block (.g (.q z (.q z ?_)))
    have ⟨x1,hx1,h⟩:=bnd h
    refine .s (ixv (hS.keep q_0) hx1 T.u30 T.t4 z z z) z (.s (lde (RV.flat (hS.keep q_0) hx1 z) T.t4 z z z z z) z (.nil ?_))
    refine .cs z h ?_ ?_ <;> intro h
    ·refine .region (.q z (.q z (.q z (.nil ?_))))
     cases h
     exact ⟨z,sb z,hS.to [] z⟩
    refine .skip ?_
    cases h
    exact ⟨z,sb z,hS.to [] z⟩
   intro x E W hJ
   obtain ⟨rfl,hE,hS⟩:=hJ
   refine ⟨_,hE.sub,?_⟩
   refine .region (.q z (.q z (.q z (.nil ?_))))
   cases h
   exact ⟨z,sb z,hS.to [] z⟩
  refine .exit ?_
  cases h
  exact ⟨by simp,z,sb z,hS.to [] z⟩
 intro x E W hJ
 obtain ⟨rfl,hE,hS⟩:=hJ
 refine ⟨_,hE.sub,?_⟩
 obtain rfl:=Option.some.inj h
 exact .g (.q z (.qn z (.ret (fin_ret (vs:=[_]) () (rt z rn) z (hS.to [] z)))))
theorem fc5 {a0 : List Quad} {v_0 : Hd} {w : World} {r : (List Quad) × Bool} (h : f4f a0 = some r) (q_0 : RV w (Old No w) (sv v_0) 82 5 dQuad a0) : Calls Tryz.prog 107 #[(sv v_0)] w (Ret No w (fun s : Hd=>.tuple #[(sv s),.bool r.2]) (fun s=>[rowV (sv s) 82 5 dQuad r.1])):=by
 unfold f4f at h
 refine enter Tryz.func107 z z ?_
 have hS:=Sep.start w
 refine .g (.q z (.qn z (.g (.c (.liv [] dQuad T.u68 T.t82 hS z z z z ?_ z (fun _=>z) z z z z)))))
 intro v1 W hS
 refine .qn z (.seq (.g (.q z ?_)))
 have ⟨y1,hy1,h⟩:=bnd h
 refine .c (.call0 hS Tryz.func80 (f12 hy1 (hS.keep q_0)) z z ?_ z z z z)
 intro W hS
 refine .q z (.nil ?_)
 refine .cs z h ?_ ?_ <;> intro h
 ·cases h
  exact .g (.q z (.q z (.qn z (.ret (fin_ret (vs:=[_,_]) v1 (rt z (rt z rn)) z (hS.to [0] z))))))
 refine .skip (.g (.q z ?_))
 have ⟨y2,hy2,h⟩:=bnd h
 refine .c (.call1v hS Tryz.func139 (fcn hy2 (hS.keep q_0)) z z ?_ z z z z)
 intro v2 W hS
 refine .qn z (.seq (.g (.qn z (.block ?_))))
 have ⟨y3,hy3,h⟩:=bnd h
 refine .via (.iter (fun s1 E' W'=>SubL E' [(0,(sv v_0)),(4,(sv v1)),(5,(sv v2)),(6,.int .i64 s1.1)] ∧ Sep No w W' [rowV (sv v2) 4 1 D.bool s1.2,rowV (sv v1) 82 5 dQuad []]) (fun y4 x E' W'=>x = .exit 0 ∧ SubL E' [(0,(sv v_0)),(4,(sv v1)),(5,(sv v2))] ∧ Sep No w W' [rowV (sv v2) 4 1 D.bool y4,rowV (sv v1) 82 5 dQuad []]) hy3 ⟨sb z,hS.to [0,0] z⟩ ?_) ?_
 ·intro s1 y5 E W h hI
  obtain ⟨hE,hS⟩:=hI
  refine CW.sub hE ?_
  unfold f7i at h
  refine .seq (.g (.q z (.q z (.s (lenv (hS.keep q_0) T.u68 z z) z (.q z (.nil ?_))))))
  refine .cs z h ?_ ?_ <;> intro h
  ·refine .skip (.seq (.block (.region (.q z (.q z (.q z (.q z ?_)))))))
   have ⟨x1,hx1,h⟩:=bnd h
   refine .s (ixv hS.lendv hx1 T.u30 T.t4 z z z) z (.s (lde (RV.flat hS.lendv hx1 z) T.t4 z z z z z) z (.q z ?_))
   have ⟨b1,hb1,h⟩:=bnd h
   refine .chunk 8 36 (b1) hS ?_ ?_
   ·refine .both (x1) (fun hb=>?_) (fun hb=>?_)
    ·have hg1:=hb
     have h:=sel_t hb hb1
     refine .g hg1 (.q z (.g hg1 (.q z ?_) z)) z
     have ⟨x2,hx2,h⟩:=bnd h
     refine .g hg1 (.s (ixv (hS.keep q_0) hx2 T.u68 T.t82 z z z) z (.g hg1 (.s (lde (RV.flat (hS.keep q_0) hx2 z) T.t82 z z z z z) z (.g hg1 (.q z ?_) z)) z)) z
     have ⟨y6,hy6,h⟩:=bnd h
     refine .g hg1 (.c (.call0 hS Tryz.func140 (fel hy6) z z ?_ z z z z)) z
     intro W hS
     refine .g hg1 (.q z (.s (pkt hg1 z z z) z ?_)) z
     cases h
     exact .nil (ck 8 hS z z z z)
    refine .xx hb z (.xx hb z (.xx hb z (.xx hb z (.xx hb z (.xx hb z (.xx hb z ?_))))))
    cases sel_f hb hb1
    exact .s (pkf hb z z z) z (.nil (ck 8 hS z z z z))
   intro W hS
   have ⟨x3,hx3,h⟩:=bnd h
   refine .s (ixv hS.lendv hx3 T.u30 T.t4 z z z) z ?_
   have ⟨r1,hr1,h⟩:=bnd h
   refine .c (.sev hr1 hx3 hS T.t4 z z z z z z ?_ z z z z z z)
   intro W hS
   refine .nil (.region (.q z (.q z (.q z (.nil ?_)))))
   cases h
   exact ⟨z,sb z,hS.to [0,0] z⟩
  refine .exit ?_
  cases h
  exact ⟨by simp,z,sb z,hS.to [0,0] z⟩
 intro x E W hJ
 obtain ⟨rfl,hE,hS⟩:=hJ
 refine ⟨_,hE.sub,?_⟩
 refine .seq (.g (.qn z (.block ?_)))
 have ⟨y7,hy7,h⟩:=bnd h
 refine .via (.iter (fun s2 E' W'=>∃ (v5 : Hd),SubL E' [(0,(sv v_0)),(4,(sv v5)),(5,(sv v2)),(7,.int .i64 s2.2)] ∧ Sep No w W' [rowV (sv v2) 4 1 D.bool y3,rowV (sv v5) 82 5 dQuad s2.1]) (fun y8 x E' W'=>x = .exit 2 ∧ ∃ (v6 : Hd),SubL E' [(4,(sv v6))] ∧ Sep No w W' [rowV (sv v2) 4 1 D.bool y3,rowV (sv v6) 82 5 dQuad y8]) hy7 ⟨v1,sb z,hS.to [0,0] z⟩ ?_) ?_
 ·intro s2 y9 E W h hI
  obtain ⟨v4,hE,hS⟩:=hI
  refine CW.sub hE ?_
  unfold f7g at h
  refine .seq (.g (.q z (.q z (.s (lenv (hS.keep q_0) T.u68 z z) z (.q z (.nil ?_))))))
  refine .cs z h ?_ ?_ <;> intro h
  ·refine .skip ?_
   have ⟨y10,hy10,h⟩:=bnd h
   refine .seq (CW.via (R':=fun x E' W'=>x = .normal ∧ ∃ (v7 : Hd),SubL E' [(0,(sv v_0)),(4,(sv v7)),(5,(sv v2)),(7,.int .i64 s2.2)] ∧ Sep No w W' [rowV (sv v2) 4 1 D.bool y3,rowV (sv v7) 82 5 dQuad y10]) ?_ ?_)
   ·have h:=hy10
    refine .block (.g (.q z (.q z ?_)))
    have ⟨x4,hx4,h⟩:=bnd h
    refine .s (ixv (hS.keep q_0) hx4 T.u68 T.t82 z z z) z (.s (lde (RV.flat (hS.keep q_0) hx4 z) T.t82 z z z z z) z (.c (.alloc T.t82 hS ?_ z z z)))
    intro g1 W hS
    refine .c (.st T.t82 hS z z z ?_ z z z z z)
    intro W hS
    refine .nil (.seq (.g (.q z (.q z ?_))))
    have ⟨x5,hx5,h⟩:=bnd h
    refine .s (ixv hS.p1.lendv hx5 T.u30 T.t4 z z z) z (.s (lde (RV.flat hS.p1.lendv hx5 z) T.t4 z z z z z) z (.q z (.nil ?_)))
    refine .cs z h ?_ ?_ <;> intro h
    ·refine .exit ?_
     cases h
     exact ⟨z,v4,sb z,hS.to [1,1] z⟩
    refine .skip ?_
    have ⟨y11,hy11,h⟩:=bnd h
    refine .seq (CW.via (R':=fun x E' W'=>x = .normal ∧ SubL E' [(0,(sv v_0)),(4,(sv v4)),(5,(sv v2)),(7,.int .i64 s2.2),(8,.pointer (some ⟨g1,0,none⟩))] ∧ Sep No w W' [.box g1 82 [.int .i64 y11.Op,.int .i64 y11.Dst,.int .i64 y11.A,.int .i64 y11.B,.int .i64 y11.N],rowV (sv v2) 4 1 D.bool y3,rowV (sv v4) 82 5 dQuad s2.1]) ?_ ?_)
    ·have h:=hy11
     refine .g (.s (fa T.f82_0 z z z) z (.s (ld T.t3 hS z z z z z) z (.q z (.q z (.chunk 4 60 ((x4.Op == 4) || (x4.Op == 5)) hS ?_ ?_)))))
     ·refine .both (x4.Op == 4) (fun hb=>?_) (fun hb=>?_)
      ·exact .xx hb z (.xx hb z (.xx hb z (.s (pkt hb z z z) z (.nil (ck 4 hS z (or_t hb) z z)))))
      have hg2:=hb
      exact .g hg2 (.s (fa T.f82_0 z z z) z (.g hg2 (.s (ld T.t3 hS z z z z z) z (.g hg2 (.q z (.s (pkf hg2 z z z) z (.nil (ck 4 hS z (or_f hg2) z z)))) z)) z)) z
     intro W hS
     refine .nil ?_
     refine .cs z h ?_ ?_ <;> intro h
     ·refine .region (.q z (.s (fa T.f82_4 z z z) z (.s (ld T.t3 hS z z z z z) z ?_)))
      have ⟨y12,hy12,h⟩:=bnd h
      refine .c (.call0 hS Tryz.func141 (fdl hy12 hS.p1.lendv) z z ?_ z z z z)
      intro W hS
      refine .s (fa T.f82_4 z z z) z (.c (.st T.t3 hS z z z ?_ z z z z z))
      intro W hS
      refine .nil ?_
      cases h
      exact ⟨z,sb z,hS.to [0,0,0] z⟩
     refine .skip ?_
     obtain rfl:=Option.some.inj h
     exact ⟨z,sb z,hS.to [0,0,0] z⟩
    intro x E W hJ
    obtain ⟨rfl,hE,hS⟩:=hJ
    refine ⟨_,hE.sub,?_⟩
    refine .region (.q z (.s (ld T.t82 hS z z z z z) z (.c (.liv [y11] dQuad T.u68 T.t82 hS z z z z ?_ z (fun _=>z) z z z z))))
    intro v8 W hS
    have ⟨r2,hr2,h⟩:=bnd h
    have hT0:=hS.p3
    refine .c (.apprv hr2 hT0 hT0.p1.lendv (fun _=>z) T.u68 T.t82 z z z ?_ z z z z z)
    intro v9 W hS
    refine .q z (.nil ?_)
    obtain rfl:=Option.some.inj h
    exact ⟨z,v9,sb z,hS.to [3,0] z⟩
   intro x E W hJ
   obtain ⟨rfl,v10,hE,hS⟩:=hJ
   refine ⟨_,hE.sub,?_⟩
   refine .region (.q z (.q z (.q z (.nil ?_))))
   cases h
   exact ⟨z,v10,sb z,hS.to [0,0] z⟩
  refine .exit ?_
  cases h
  exact ⟨by simp,z,v4,sb z,hS.to [0,0] z⟩
 intro x E W hJ
 obtain ⟨rfl,v11,hE,hS⟩:=hJ
 refine ⟨_,hE.sub,?_⟩
 cases h
 exact .g (.q z (.q z (.qn z (.ret (fin_ret (vs:=[_,_]) v11 (rt z (rt z rn)) z (hS.to [1] z))))))
theorem fdz {a0 : List Quad} {v_0 : Hd} {w : World} {r : (List Quad)} (h : f7r a0 = some r) (q_0 : RV w (Old No w) (sv v_0) 82 5 dQuad a0) : Calls Tryz.prog 81 #[(sv v_0)] w (Ret No w (fun s : Hd=>(sv s)) (fun s=>[rowV (sv s) 82 5 dQuad r])):=by
 unfold f7r at h
 refine enter Tryz.func81 z z ?_
 have hS:=Sep.start w
 refine .g (.qn z (.g (.q z ?_)))
 have ⟨y1,hy1,h⟩:=bnd h
 refine .c (.call1v hS Tryz.func103 (fcw hy1 (hS.keep q_0)) z z ?_ z z z z)
 intro v1 W hS
 refine .q z (.q z (.q z (.q z (.qn z (.g (.q z ?_))))))
 have ⟨y2,hy2,h⟩:=bnd h
 refine .c (.call1v hS Tryz.func104 (fdi hy2 hS.lendv) z z ?_ z z z z)
 intro v2 W hS
 refine .q z (.q z (.q z (.q z (.qn z (.g (.q z ?_))))))
 have ⟨y3,hy3,h⟩:=bnd h
 refine .c (.call1v hS Tryz.func105 (fdv hy3 hS.lendv) z z ?_ z z z z)
 intro v3 W hS
 refine .q z (.q z (.q z (.q z (.qn z (.g (.q z ?_))))))
 have ⟨y4,hy4,h⟩:=bnd h
 refine .c (.call1v hS Tryz.func106 (fdm hy4 hS.lendv) z z ?_ z z z z)
 intro v4 W hS
 refine .q z (.q z (.q z (.q z (.qn z (.g (.q z ?_))))))
 have ⟨y5,hy5,h⟩:=bnd h
 refine .c (.call1v hS Tryz.func107 (fc5 hy5 hS.lendv) z z ?_ z z z z)
 intro v5 W hS
 cases h
 exact .q z (.q z (.q z (.q z (.qn z (.g (.q z (.qn z (.ret (fin_ret (vs:=[_]) v5 (rt z rn) z (hS.to [0] z))))))))))
theorem fbs {a0 : List Quad} {a1 : Int} {v_0 : Hd} {w : World} {r : (List Quad) × Bool} (h : f3r a0 a1 = some r) (q_0 : RV w (Old No w) (sv v_0) 82 5 dQuad a0) : Calls Tryz.prog 57 #[(sv v_0),.int .i64 a1] w (Ret No w (fun s : Hd=>.tuple #[(sv s),.bool r.2]) (fun s=>[rowV (sv s) 82 5 dQuad r.1])):=by
 unfold f3r at h
 refine enter Tryz.func57 z z ?_
 have hS:=Sep.start w
 refine .g (.q z (.qn z (.seq (.g (.q z ?_)))))
 have ⟨y1,hy1,h⟩:=bnd h
 refine .c (.call0 hS Tryz.func80 (f12 hy1 (hS.keep q_0)) z z ?_ z z z z)
 intro W hS
 refine .q z (.q z ?_)
 have ⟨b1,hb1,h⟩:=bnd h
 refine .chunk 4 15 (b1) hS ?_ ?_
 ·refine .both (!y1) (fun hb=>?_) (fun hb=>?_)
  ·refine .xx hb z (.xx hb z (.xx hb z ?_))
   cases sel_t hb hb1
   exact .s (pkt hb z z z) z (.nil (ck 4 hS z z z z))
  have hg1:=hb
  have h:=sel_f hb hb1
  refine .g hg1 (.q z ?_) z
  have ⟨y2,hy2,h⟩:=bnd h
  refine .g hg1 (.c (.call0 hS Tryz.func27 (f04 hy2) z z ?_ z z z z)) z
  intro W hS
  refine .g hg1 (.q z (.s (pkf hg1 z z z) z ?_)) z
  cases h
  exact .nil (ck 4 hS z z z z)
 intro W hS
 refine .nil ?_
 refine .cs z h ?_ ?_ <;> intro h
 ·refine .g (.c (.liv [] dQuad T.u68 T.t82 hS z z z z ?_ z (fun _=>z) z z z z))
  intro v1 W hS
  cases h
  exact .q z (.qn z (.ret (fin_ret (vs:=[_,_]) v1 (rt z (rt z rn)) z (hS.to [0] z))))
 refine .skip (.g (.c (.liv [] dQuad T.u68 T.t82 hS z z z z ?_ z (fun _=>z) z z z z)))
 intro v2 W hS
 refine .q z ?_
 have ⟨r1,hr1,h⟩:=bnd h
 refine .c (.apprv hr1 hS (hS.keep q_0) (fun _=>z) T.u68 T.t82 z z z ?_ z z z z z)
 intro v3 W hS
 refine .qn z (.seq (.g (.qn z (.block ?_))))
 have ⟨y3,hy3,h⟩:=bnd h
 refine .via (.iter (fun s1 E' W'=>∃ (v6 : Hd),SubL E' [(1,.int .i64 a1),(6,(sv v6)),(7,.int .i64 s1.2)] ∧ Sep No w W' [rowV (sv v6) 82 5 dQuad s1.1]) (fun y4 x E' W'=>x = .exit 0 ∧ ∃ (v7 : Hd),SubL E' [(6,(sv v7))] ∧ Sep No w W' [rowV (sv v7) 82 5 dQuad y4]) hy3 ⟨v3,sb z,hS.to [0] z⟩ ?_) ?_
 ·intro s1 y5 E W h hI
  obtain ⟨v5,hE,hS⟩:=hI
  refine CW.sub hE ?_
  unfold f6g at h
  refine .seq (.g (.q z (.q z (.q z (.nil ?_)))))
  refine .cs z h ?_ ?_ <;> intro h
  ·refine .skip (.seq (.block (.region (.q z ?_))))
   have ⟨y6,hy6,h⟩:=bnd h
   refine .c (.call1v hS Tryz.func81 (fdz hy6 hS.lendv) z z ?_ z z z z)
   intro v8 W hS
   refine .qn z (.region (.q z (.q z (.q z (.nil ?_)))))
   cases h
   exact ⟨z,v8,sb z,hS.to [0] z⟩
  refine .exit ?_
  cases h
  exact ⟨by simp,z,v5,sb z,hS.to [0] z⟩
 intro x E W hJ
 obtain ⟨rfl,v9,hE,hS⟩:=hJ
 refine ⟨_,hE.sub,?_⟩
 cases h
 exact .g (.q z (.q z (.qn z (.ret (fin_ret (vs:=[_,_]) v9 (rt z (rt z rn)) z (hS.to [0] z))))))
theorem fem {k : Nat} {a0 : L6Rd} {v_0_b : Hd} {g_0 : Nat} {S : Nat → Prop} {w : World} {r : (List Quad) × Int} (h : f84 k a0 = some r) (q_0_b : RV w (Old S w) (sv v_0_b) 5 1 (D.int .u8) a0.b) (hO : Owns w [.box g_0 54 [(sv v_0_b),.int .i64 a0.p]] S) (hlt : ∀ b,S b → b < w.heap.size) : Calls Tryz.prog 44 #[.pointer (some ⟨g_0,0,none⟩)] w (Ret S w (fun s : Hd=>(sv s)) (fun s=>[.box g_0 54 [(sv v_0_b),.int .i64 r.2],rowV (sv s) 82 5 dQuad r.1])):=by
 unfold f84 at h
 refine enter Tryz.func44 z z ?_
 have hS:=Sep.startM hO hlt
 refine .g (.qn z (.seq (.g (.q z ?_))))
 have ⟨y1,hy1,h⟩:=bnd h
 refine .c (.callS2 (L0:=[.box g_0 54 [(sv v_0_b),.int .i64 a0.p]]) hS Tryz.func19 (fun S h1 h2 h3=>(f00 hy1 (hS.keepS q_0_b h1) h2 (zz h1))) z z ?_ z z z z)
 rintro ⟨⟩ W hS
 refine .qn z (.cond z (fun hb=>?_) (fun hb=>?_))
 ·have h:=sel_t hb h
  refine .g (.q z ?_)
  have ⟨y2,hy2,h⟩:=bnd h
  refine .c (.callS2 (L0:=[.box g_0 54 [(sv v_0_b),.int .i64 y1.2]]) hS Tryz.func54 (fun S h1 h2 h3=>(fap hy2 (hS.keepS q_0_b h1) h2 (zz h1))) z z ?_ z z z z)
  rintro v1 W hS
  cases h
  exact .qn z (.ret (fin_ret (vs:=[_]) v1 (rt z rn) z (hS.to [0,0] z)))
 have h:=sel_f hb h
 refine .skip (.g (.q z ?_))
 have ⟨y3,hy3,h⟩:=bnd h
 refine .c (.callS2 (L0:=[.box g_0 54 [(sv v_0_b),.int .i64 y1.2]]) hS Tryz.func56 (fun S h1 h2 h3=>(fd8 hy3 (hS.keepS q_0_b h1) h2 (zz h1))) z z ?_ z z z z)
 rintro v2 W hS
 have ⟨y4,hy4,h⟩:=bnd h
 refine .c (.call1v hS Tryz.func55 (fc3 hy4 hS.p1.lendv) z z ?_ z z z z)
 intro v3 W hS
 refine .q z (.q z (.q z (.q z (.qn z (.seq (.g (.q z (.s (lenv hS.lendv T.u68 z z) z (.qn z (.cond z (fun hb=>?_) (fun hb=>?_)))))))))))
 ·have h:=sel_t hb h
  refine .g (.q z ?_)
  have ⟨y5,hy5,h⟩:=bnd h
  have hS:=hS.p1
  refine .c (.callS2 (L0:=[.box g_0 54 [(sv v_0_b),.int .i64 y3.2]]) hS Tryz.func54 (fun S h1 h2 h3=>(fap hy5 (hS.keepS q_0_b h1) h2 (zz h1))) z z ?_ z z z z)
  rintro v4 W hS
  cases h
  exact .qn z (.ret (fin_ret (vs:=[_]) v4 (rt z rn) z (hS.to [0,0] z)))
 have h:=sel_f hb h
 refine .skip (.g (.q z (.q z ?_)))
 have ⟨y6,hy6,h⟩:=bnd h
 have hS:=hS.p1
 refine .c (.callS2 (L0:=[.box g_0 54 [(sv v_0_b),.int .i64 y3.2]]) hS Tryz.func19 (fun S h1 h2 h3=>(f00 hy6 (hS.keepS q_0_b h1) h2 (zz h1))) z z ?_ z z z z)
 rintro ⟨⟩ W hS
 refine .q z ?_
 have ⟨y7,hy7,h⟩:=bnd h
 refine .c (.call1v hS Tryz.func57 (fbs hy7 hS.p1.lendv) z z ?_ z z z z)
 intro v5 W hS
 cases h
 exact .q z (.q z (.q z (.q z (.qn z (.g (.q z (.qn z (.ret (fin_ret (vs:=[_]) v5 (rt z rn) z (hS.to [1,0] z))))))))))
theorem fd9 {k : Nat} {a0 : L6Rd} {v_0_b : Hd} {g_0 : Nat} {S : Nat → Prop} {w : World} {r : (List (List Quad)) × Int} (h : f6l k a0 = some r) (q_0_b : RV w (Old S w) (sv v_0_b) 5 1 (D.int .u8) a0.b) (hO : Owns w [.box g_0 54 [(sv v_0_b),.int .i64 a0.p]] S) (hlt : ∀ b,S b → b < w.heap.size) : Calls Tryz.prog 31 #[.pointer (some ⟨g_0,0,none⟩)] w (Ret S w (fun s : Hd=>(sv s)) (fun s=>[.box g_0 54 [(sv v_0_b),.int .i64 r.2],rowV (sv s) 68 1 (fun (l : List Quad)=>D.row 82 5 (l.map dQuad)) r.1])):=by
 unfold f6l at h
 refine enter Tryz.func31 z z ?_
 have hS:=Sep.startM hO hlt
 refine .g (.qn z (.g (.c (.ligv (L1:=[]) [] (fun (l : List Quad)=>D.row 82 5 (l.map dQuad)) T.u64 T.t68 (hS.to [0] z) z z z (.nil) ?_ z (fun _=>z) z z z z z))))
 intro v1 W hS
 refine .qn z (.g (.q z ?_))
 have ⟨y1,hy1,h⟩:=bnd h
 have hS:=hS.p1
 refine .c (.callS2 (L0:=[.box g_0 54 [(sv v_0_b),.int .i64 a0.p]]) hS Tryz.func19 (fun S h1 h2 h3=>(f00 hy1 (hS.keepS q_0_b h1) h2 (zz h1))) z z ?_ z z z z)
 rintro ⟨⟩ W hS
 refine .q z (.qn z (.seq (.g (.qn z (.block ?_)))))
 have ⟨y2,hy2,h⟩:=bnd h
 refine .via (.iter (fun s1 E' W'=>∃ (v4 : Hd),SubL E' [(0,.pointer (some ⟨g_0,0,none⟩)),(3,(sv v4)),(4,.int .i64 (w64 (1 + y1.1))),(5,.int .i64 s1.2.1)] ∧ Sep S w W' [.box g_0 54 [(sv v_0_b),.int .i64 s1.2.2],rowV (sv v4) 68 1 (fun (l : List Quad)=>D.row 82 5 (l.map dQuad)) s1.1]) (fun y3 x E' W'=>x = .exit 0 ∧ ∃ (v5 : Hd),SubL E' [(3,(sv v5))] ∧ Sep S w W' [.box g_0 54 [(sv v_0_b),.int .i64 y3.2],rowV (sv v5) 68 1 (fun (l : List Quad)=>D.row 82 5 (l.map dQuad)) y3.1]) hy2 ⟨v1,sb z,hS.to [0,0] z⟩ ?_) ?_
 ·intro s1 y4 E W h hI
  obtain ⟨v3,hE,hS⟩:=hI
  refine CW.sub hE ?_
  unfold f9o at h
  refine .seq (.g (.q z (.q z (.qn z (.cond z (fun hb=>?_) (fun hb=>?_))))))
  ·have h:=sel_t hb h
   refine .skip (.seq (.block (.region (.q z (.q z ?_)))))
   have ⟨y5,hy5,h⟩:=bnd h
   refine .c (.callS2 (L0:=[.box g_0 54 [(sv v_0_b),.int .i64 s1.2.2]]) hS Tryz.func44 (fun S h1 h2 h3=>(fem hy5 (hS.keepS q_0_b h1) h2 (zz h1))) z z ?_ z z z z)
   rintro v6 W hS
   refine .c (.ligv (L1:=[rowV (sv v6) 82 5 dQuad y5.1]) [y5.1] (fun (l : List Quad)=>D.row 82 5 (l.map dQuad)) T.u64 T.t68 (hS.to [1,0,0] z) z z z (.row (.nil)) ?_ z (fun _=>z) z z z z z)
   intro v7 W hS
   have ⟨r1,hr1,h⟩:=bnd h
   refine .c (.appv hr1 (hS.to [2,0,0] z) T.u64 T.t68 z z z ?_ z z z z z)
   intro v8 W hS
   refine .qn z (.region (.q z (.q z (.q z (.nil ?_)))))
   cases h
   exact ⟨z,v8,sb z,hS.to [1,0] z⟩
  have h:=sel_f hb h
  refine .exit ?_
  cases h
  exact ⟨by simp,z,v3,sb z,hS.to [0,0] z⟩
 intro x E W hJ
 obtain ⟨rfl,v9,hE,hS⟩:=hJ
 refine ⟨_,hE.sub,?_⟩
 cases h
 exact .g (.q z (.qn z (.ret (fin_ret (vs:=[_]) v9 (rt z rn) z (hS.to [0,0] z)))))
theorem f31 {a0 : Int} {a1 : Int} {a2 : Int} {w : World} {r : Int} (h : f29 a0 a1 a2 = some r) : Calls Tryz.prog 58 #[.int .i64 a0,.int .i64 a1,.int .i64 a2] w (Ret No w (fun s : Unit=>.int .i64 r) (fun s=>[])):=by
 unfold f29 at h
 refine enter Tryz.func58 z z ?_
 have hS:=Sep.start w
 refine .g (.qn z (.seq (.g (.q z (.q z (.q z (.nil ?_)))))))
 refine .cs z h ?_ ?_ <;> intro h
 ·obtain rfl:=Option.some.inj h
  exact .g (.q z (.qn z (.ret (fin_ret (vs:=[_]) () (rt z rn) z (hS.to [] z)))))
 refine .skip (.g (.c (.liv [8,9,18,19,20,21,22,23] (D.int .i64) T.u25 T.t3 hS z z z z ?_ z (fun _=>z) z z z z)))
 intro v1 W hS
 refine .q z ?_
 have ⟨x1,hx1,h⟩:=bnd h
 obtain rfl:=Option.some.inj h
 exact .s (ixv hS.lendv hx1 T.u25 T.t3 z z z) z (.s (lde (RV.flat hS.lendv hx1 z) T.t3 z z z z z) z (.qn z (.ret (fin_ret (vs:=[_]) () (rt z rn) z (hS.to [] z)))))
theorem f6b {a0 : List Instr} {a1 : Int} {a2 : Int} {v_0 : Hd} {S : Nat → Prop} {w : World} {r : (List Instr)} (h : f2u a0 a1 a2 = some r) (hO : Owns w [rowV (sv v_0) 105 5 dInstr a0] S) (hlt : ∀ b,S b → b < w.heap.size) : Calls Tryz.prog 59 #[(sv v_0),.int .i64 a1,.int .i64 a2] w (Ret S w (fun s : Hd=>(sv s)) (fun s=>[rowV (sv s) 105 5 dInstr r])):=by
 unfold f2u at h
 refine enter Tryz.func59 z z ?_
 have hS:=Sep.startM hO hlt
 refine .g (.qn z (.seq (.g (.q z (.q z (.q z (.nil ?_)))))))
 refine .cs z h ?_ ?_ <;> intro h
 ·obtain rfl:=Option.some.inj h
  exact .g (.q z (.qn z (.ret (fin_ret (vs:=[_]) v_0 (rt z rn) z (hS.to [0] z)))))
 refine .skip (.g (.q z (.q z (.q z (.q z (.q z (.s (bs T.s105 z z) z (.c (.liv [(Instr.mk 16 0 2 7 (w64 (4 * (w64 (a1 - a2)))))] dInstr T.u66 T.t105 hS z z z z ?_ z (fun _=>z) z z z z)))))))))
 intro v1 W hS
 have ⟨r1,hr1,h⟩:=bnd h
 have hT0:=hS.p1
 refine .c (.apprv hr1 hT0 hT0.p1.lendv (fun _=>z) T.u66 T.t105 z z z ?_ z z z z z)
 intro v2 W hS
 obtain rfl:=Option.some.inj h
 exact .qn z (.ret (fin_ret (vs:=[_]) v2 (rt z rn) z (hS.to [0] z)))
theorem f2x {a0 : Int} {w : World} {r : Int} (h : f1g a0 = some r) : Calls Tryz.prog 73 #[.int .i64 a0] w (Ret No w (fun s : Unit=>.int .i64 r) (fun s=>[])):=by
 unfold f1g at h
 refine enter Tryz.func73 z z ?_
 have hS:=Sep.start w
 refine .g (.qn z (.seq (.g (.q z ?_))))
 have ⟨y1,hy1,h⟩:=bnd h
 refine .c (.call0 hS Tryz.func43 (f1u hy1) z z ?_ z z z z)
 intro W hS
 refine .q z (.nil ?_)
 refine .cs z h ?_ ?_ <;> intro h
 ·cases h
  exact .g (.qn z (.ret (fin_ret (vs:=[_]) () (rt z rn) z (hS.to [] z))))
 refine .skip (.seq (.g (.q z (.q z (.nil ?_)))))
 refine .cs z h ?_ ?_ <;> intro h
 ·cases h
  exact .g (.q z (.q z (.qn z (.ret (fin_ret (vs:=[_]) () (rt z rn) z (hS.to [] z))))))
 obtain rfl:=Option.some.inj h
 exact .skip (.g (.q z (.qn z (.ret (fin_ret (vs:=[_]) () (rt z rn) z (hS.to [] z))))))
theorem f3i {a0 : Int} {w : World} {r : Int} (h : f0z a0 = some r) : Calls Tryz.prog 108 #[.int .i64 a0] w (Ret No w (fun s : Unit=>.int .i64 r) (fun s=>[])):=by
 unfold f0z at h
 refine enter Tryz.func108 z z ?_
 have hS:=Sep.start w
 refine .g (.qn z (.g (.qn z (.seq (.g (.qn z (.block ?_)))))))
 have ⟨y1,hy1,h⟩:=bnd h
 refine .via (.iter (fun s1 E' W'=>SubL E' [(0,.int .i64 a0),(3,.int .i64 s1.1),(4,.int .i64 s1.2)] ∧ Sep No w W' []) (fun y2 x E' W'=>x = .exit 0 ∧ SubL E' [(3,.int .i64 y2)] ∧ Sep No w W' []) hy1 ⟨sb z,hS.to [] z⟩ ?_) ?_
 ·intro s1 y3 E W h hI
  obtain ⟨hE,hS⟩:=hI
  refine CW.sub hE ?_
  unfold f3m at h
  refine .seq (.g (.q z (.q z (.q z (.nil ?_)))))
  refine .cs z h ?_ ?_ <;> intro h
  ·refine .skip (.seq (.block (.region (.q z (.q z (.qn z (.region (.q z (.q z (.q z (.nil ?_)))))))))))
   cases h
   exact ⟨z,sb z,hS.to [] z⟩
  refine .exit ?_
  cases h
  exact ⟨by simp,z,sb z,hS.to [] z⟩
 intro x E W hJ
 obtain ⟨rfl,hE,hS⟩:=hJ
 refine ⟨_,hE.sub,?_⟩
 obtain rfl:=Option.some.inj h
 exact .g (.q z (.qn z (.ret (fin_ret (vs:=[_]) () (rt z rn) z (hS.to [] z)))))
theorem f39 {a0 : Int} {a1 : Int} {w : World} {r : Int} (h : f14 a0 a1 = some r) : Calls Tryz.prog 82 #[.int .i64 a0,.int .i64 a1] w (Ret No w (fun s : Unit=>.int .i64 r) (fun s=>[])):=by
 unfold f14 at h
 refine enter Tryz.func82 z z ?_
 have hS:=Sep.start w
 refine .g (.qn z (.seq (.g (.q z ?_))))
 have ⟨y1,hy1,h⟩:=bnd h
 refine .c (.call0 hS Tryz.func27 (f04 hy1) z z ?_ z z z z)
 intro W hS
 refine .q z (.q z ?_)
 have ⟨b1,hb1,h⟩:=bnd h
 refine .chunk 7 15 (b1) hS ?_ ?_
 ·refine .both (!y1) (fun hb=>?_) (fun hb=>?_)
  ·refine .xx hb z (.xx hb z (.xx hb z (.xx hb z (.xx hb z (.xx hb z ?_)))))
   cases sel_t hb hb1
   exact .s (pkt hb z z z) z (.nil (ck 7 hS z z z z))
  have hg1:=hb
  have h:=sel_f hb hb1
  refine .g hg1 (.q z (.g hg1 (.q z ?_) z)) z
  have ⟨y2,hy2,h⟩:=bnd h
  refine .g hg1 (.c (.call0 hS Tryz.func108 (f3i hy2) z z ?_ z z z z)) z
  intro W hS
  refine .g hg1 (.q z ?_) z
  have ⟨y3,hy3,h⟩:=bnd h
  refine .g hg1 (.c (.call0 hS Tryz.func27 (f04 hy3) z z ?_ z z z z)) z
  intro W hS
  refine .g hg1 (.q z (.s (pkf hg1 z z z) z ?_)) z
  cases h
  exact .nil (ck 7 hS z z z z)
 intro W hS
 refine .nil ?_
 refine .cs z h ?_ ?_ <;> intro h
 ·cases h
  exact .g (.qn z (.ret (fin_ret (vs:=[_]) () (rt z rn) z (hS.to [] z))))
 refine .skip (.seq (.g (.q z (.q z (.q z ?_)))))
 have ⟨y4,hy4,h⟩:=bnd h
 refine .c (.call0 hS Tryz.func108 (f3i hy4) z z ?_ z z z z)
 intro W hS
 refine .q z (.nil ?_)
 refine .cs z h ?_ ?_ <;> intro h
 ·refine .g (.q z (.q z ?_))
  have ⟨y5,hy5,h⟩:=bnd h
  refine .c (.call0 hS Tryz.func108 (f3i hy5) z z ?_ z z z z)
  intro W hS
  cases h
  exact .q z (.qn z (.ret (fin_ret (vs:=[_]) () (rt z rn) z (hS.to [] z))))
 obtain rfl:=Option.some.inj h
 exact .skip (.g (.q z (.qn z (.ret (fin_ret (vs:=[_]) () (rt z rn) z (hS.to [] z))))))
theorem f07 {a0 : Int} {a1 : Int} {a2 : Int} {w : World} {r : Int} (h : f08 a0 a1 a2 = some r) : Calls Tryz.prog 83 #[.int .i64 a0,.int .i64 a1,.int .i64 a2] w (Ret No w (fun s : Unit=>.int .i64 r) (fun s=>[])):=by
 unfold f08 at h
 refine enter Tryz.func83 z z ?_
 have hS:=Sep.start w
 refine .g (.qn z (.seq (.g (.q z ?_))))
 have ⟨y1,hy1,h⟩:=bnd h
 refine .c (.call0 hS Tryz.func27 (f04 hy1) z z ?_ z z z z)
 intro W hS
 refine .q z (.q z ?_)
 have ⟨b1,hb1,h⟩:=bnd h
 refine .chunk 4 14 (b1) hS ?_ ?_
 ·refine .both (!y1) (fun hb=>?_) (fun hb=>?_)
  ·refine .xx hb z (.xx hb z (.xx hb z ?_))
   cases sel_t hb hb1
   exact .s (pkt hb z z z) z (.nil (ck 4 hS z z z z))
  have hg1:=hb
  have h:=sel_f hb hb1
  refine .g hg1 (.q z ?_) z
  have ⟨y2,hy2,h⟩:=bnd h
  refine .g hg1 (.c (.call0 hS Tryz.func27 (f04 hy2) z z ?_ z z z z)) z
  intro W hS
  refine .g hg1 (.q z (.s (pkf hg1 z z z) z ?_)) z
  cases h
  exact .nil (ck 4 hS z z z z)
 intro W hS
 refine .q z ?_
 have ⟨b2,hb2,h⟩:=bnd h
 refine .chunk 6 21 (b2) hS ?_ ?_
 ·refine .both (b1) (fun hb=>?_) (fun hb=>?_)
  ·refine .xx hb z (.xx hb z (.xx hb z (.xx hb z (.xx hb z ?_))))
   cases sel_t hb hb2
   exact .s (pkt hb z z z) z (.nil (ck 6 hS z z z z))
  have hg2:=hb
  have h:=sel_f hb hb2
  refine .g hg2 (.q z (.g hg2 (.q z (.g hg2 (.q z ?_) z)) z)) z
  have ⟨y3,hy3,h⟩:=bnd h
  refine .g hg2 (.c (.call0 hS Tryz.func27 (f04 hy3) z z ?_ z z z z)) z
  intro W hS
  refine .g hg2 (.q z (.s (pkf hg2 z z z) z ?_)) z
  cases h
  exact .nil (ck 6 hS z z z z)
 intro W hS
 refine .nil ?_
 refine .cs z h ?_ ?_ <;> intro h
 ·cases h
  exact .g (.qn z (.ret (fin_ret (vs:=[_]) () (rt z rn) z (hS.to [] z))))
 refine .skip (.seq (.rk 8 hS [] T.mix ?_))
 intro W hS
 have hT:=hS.to [] z
 refine .tp 0 z z hT (by kernel_rfl) (.tp 1 z z hT (by kernel_rfl) (.tp 4 z z hT (by kernel_rfl) ?_))
 have ⟨y4,hy4,h⟩:=bnd h
 refine .by1 2 z (.call0 hS Tryz.func108 (f3i hy4) z z ?_ z z z z) (by kernel_rfl)
 intro W hS
 have hT:=hS.to [] z
 refine ⟨fun _=>hT,?_⟩
 have ⟨d1,hd1,h⟩:=bnd h
 refine .ts 3 z (fun W hT=>dq hd1 z z z) hT z (by kernel_rfl) ?_
 have ⟨y5,hy5,h⟩:=bnd h
 refine .by1 5 z (.call0 hS Tryz.func108 (f3i hy5) z z ?_ z z z z) (by kernel_rfl)
 intro W hS
 have hT:=hS.to [] z
 refine ⟨fun _=>hT,?_⟩
 have ⟨d2,hd2,h⟩:=bnd h
 obtain rfl:=Option.some.inj h
 exact .ts 6 z (fun W hT=>dr hd2 z z z) hT z (by kernel_rfl) (.tp 7 z z hT (by kernel_rfl) (.done (.ret (fin_ret (vs:=[_]) () (rt z rn) z (hS.to [] z))) (by kernel_rfl)))
theorem fcy {a0 : Int} {a1 : Int} {w : World} {r : (List Instr)} (h : f71 a0 a1 = some r) : Calls Tryz.prog 60 #[.int .i64 a0,.int .i64 a1] w (Ret No w (fun s : Hd=>(sv s)) (fun s=>[rowV (sv s) 105 5 dInstr r])):=by
 unfold f71 at h
 refine enter Tryz.func60 z z ?_
 have hS:=Sep.start w
 refine .g (.qn z (.seq (.g (.q z ?_))))
 have ⟨y1,hy1,h⟩:=bnd h
 refine .c (.call0 hS Tryz.func27 (f04 hy1) z z ?_ z z z z)
 intro W hS
 refine .nil ?_
 refine .cs z h ?_ ?_ <;> intro h
 ·refine .g (.q z (.q z (.s (bs T.s105 z z) z (.c (.liv [(Instr.mk 12 a0 0 0 a1)] dInstr T.u66 T.t105 hS z z z z ?_ z (fun _=>z) z z z z)))))
  intro v1 W hS
  cases h
  exact .qn z (.ret (fin_ret (vs:=[_]) v1 (rt z rn) z (hS.to [0] z)))
 refine .skip (.g (.q z ?_))
 have ⟨y2,hy2,h⟩:=bnd h
 refine .c (.call0 hS Tryz.func73 (f2x hy2) z z ?_ z z z z)
 intro W hS
 have ⟨y3,hy3,h⟩:=bnd h
 refine .c (.call0 hS Tryz.func83 (f07 hy3) z z ?_ z z z z)
 intro W hS
 have ⟨y4,hy4,h⟩:=bnd h
 refine .c (.call0 hS Tryz.func82 (f39 hy4) z z ?_ z z z z)
 intro W hS
 refine .qn z (.g (.q z (.q z (.q z ?_))))
 have ⟨y5,hy5,h⟩:=bnd h
 refine .c (.call0 hS Tryz.func69 (f10 hy5) z z ?_ z z z z)
 intro W hS
 have ⟨y6,hy6,h⟩:=bnd h
 refine .c (.call0 hS Tryz.func73 (f2x hy6) z z ?_ z z z z)
 intro W hS
 have ⟨y7,hy7,h⟩:=bnd h
 refine .c (.call0 hS Tryz.func83 (f07 hy7) z z ?_ z z z z)
 intro W hS
 refine .qn z (.g (.q z (.q z (.s (bs T.s105 z z) z (.c (.liv [(Instr.mk 19 a0 0 0 y7)] dInstr T.u66 T.t105 hS z z z z ?_ z (fun _=>z) z z z z))))))
 intro v2 W hS
 refine .qn z (.g (.q z (.q z (.q z (.q z (.s (bs T.s105 z z) z (.c (.liv [(Instr.mk 12 a0 a0 0 y4)] dInstr T.u66 T.t105 hS z z z z ?_ z (fun _=>z) z z z z))))))))
 intro v3 W hS
 have ⟨r1,hr1,h⟩:=bnd h
 have hT0:=hS.p1
 refine .c (.apprv hr1 hT0 hT0.p1.lendv (fun _=>z) T.u66 T.t105 z z z ?_ z z z z z)
 intro v4 W hS
 obtain rfl:=Option.some.inj h
 exact .qn z (.ret (fin_ret (vs:=[_]) v4 (rt z rn) z (hS.to [0] z)))
theorem f57 {a0 : Int} {a1 : Int} {a2 : Int} {w : World} {r : (List Instr)} (h : f2l a0 a1 a2 = some r) : Calls Tryz.prog 61 #[.int .i64 a0,.int .i64 a1,.int .i64 a2] w (Ret No w (fun s : Hd=>(sv s)) (fun s=>[rowV (sv s) 105 5 dInstr r])):=by
 unfold f2l at h
 refine enter Tryz.func61 z z ?_
 have hS:=Sep.start w
 refine .g (.qn z (.seq (.g (.q z (.q z (.q z (.nil ?_)))))))
 refine .cs z h ?_ ?_ <;> intro h
 ·refine .g (.c (.liv [] dInstr T.u66 T.t105 hS z z z z ?_ z (fun _=>z) z z z z))
  intro v1 W hS
  cases h
  exact .qn z (.ret (fin_ret (vs:=[_]) v1 (rt z rn) z (hS.to [0] z)))
 refine .skip (.g (.q z (.q z (.q z (.q z (.q z (.s (bs T.s105 z z) z (.c (.liv [(Instr.mk 14 a2 2 0 (w64 (4 * (w64 (a0 - a1)))))] dInstr T.u66 T.t105 hS z z z z ?_ z (fun _=>z) z z z z)))))))))
 intro v2 W hS
 cases h
 exact .qn z (.ret (fin_ret (vs:=[_]) v2 (rt z rn) z (hS.to [0] z)))
theorem f9v {a0 : Int} {a1 : Int} {w : World} {r : Instr} (h : f3d a0 a1 = some r) : Calls Tryz.prog 62 #[.int .i64 a0,.int .i64 a1] w (Ret No w (fun s : Unit=>.agg #[.int .i64 r.Op,.int .i64 r.Rd,.int .i64 r.Rs,.int .i64 r.Rt,.int .i64 r.Imm]) (fun s=>[])):=by
 unfold f3d at h
 refine enter Tryz.func62 z z ?_
 have hS:=Sep.start w
 refine .g (.c (.alloc T.t105 hS ?_ z z z))
 intro g1 W hS
 refine .nil (.g (.q z (.q z (.s (bs T.s105 z z) z (.c (.st T.t105 hS z z z ?_ z z z z z))))))
 intro W hS
 cases h
 exact .nil (.ret (fin_ret (vs:=[_]) () (rc hS T.t105 z rn z z) z (hS.to [] z)))
theorem ffe {a0 : Int} {w : World} {r : Int} (h : fa7 a0 = some r) : Calls Tryz.prog 84 #[.int .i64 a0] w (Ret No w (fun s : Unit=>.int .i64 r) (fun s=>[])):=by
 unfold fa7 at h
 refine enter Tryz.func84 z z ?_
 have hS:=Sep.start w
 refine .g (.qn z (.g (.c (.liv [7,8,6,8,11,9,10,1,2,3,4,5] (D.int .i64) T.u25 T.t3 hS z z z z ?_ z (fun _=>z) z z z z))))
 intro v1 W hS
 refine .qn z (.g (.q z (.q z (.q z ?_))))
 have ⟨x1,hx1,h⟩:=bnd h
 obtain rfl:=Option.some.inj h
 exact .s (ixv hS.lendv hx1 T.u25 T.t3 z z z) z (.s (lde (RV.flat hS.lendv hx1 z) T.t3 z z z z z) z (.qn z (.ret (fin_ret (vs:=[_]) () (rt z rn) z (hS.to [] z)))))
end Go.Proofs.YtcljimkjmklkmaaGreat.N
namespace Go.Proofs.YtcljimkjmklkmaaGreat.N
open Go.Proofs.YtcljimkjmklkmaaGreat.X
theorem few {a0 : Quad} {a1 : Int} {w : World} {r : (List Instr)} (h : fak a0 a1 = some r) : Calls Tryz.prog 63 #[.agg #[.int .i64 a0.Op,.int .i64 a0.Dst,.int .i64 a0.A,.int .i64 a0.B,.int .i64 a0.N],.int .i64 a1] w (Ret No w (fun s : Hd=>(sv s)) (fun s=>[rowV (sv s) 105 5 dInstr r])):=by
 unfold fak at h
 refine enter Tryz.func63 z z ?_
 have hS:=Sep.start w
 refine .g (.c (.box hS z z ?_ z z))
 intro g1 W hS
 refine .qn z (.seq (.rk 10 hS [0] T.mix ?_))
 intro W hS
 have hT:=hS.to [0] z
 refine .ts 0 z (fun W hT=>fa T.f82_2 z z z) hT z (by kernel_rfl) (.ts 1 z (fun W hT=>ld T.t3 hT z z z z z) hT z (by kernel_rfl) (.tp 2 z z hT (by kernel_rfl) (.ts 4 z (fun W hT=>fa T.f82_3 z z z) hT z (by kernel_rfl) (.ts 5 z (fun W hT=>ld T.t3 hT z z z z z) hT z (by kernel_rfl) (.tp 6 z z hT (by kernel_rfl) ?_)))))
 have ⟨y1,hy1,h⟩:=bnd h
 refine .by1 3 z (.call1v hS Tryz.func61 (f57 hy1) z z ?_ z z z z) (by kernel_rfl)
 intro v1 W hS
 have hT:=hS.to [1] z
 refine ⟨fun _=>hT,?_⟩
 have ⟨y2,hy2,h⟩:=bnd h
 refine .by1 7 z (.call1v hS Tryz.func61 (f57 hy2) z z ?_ z z z z) (by kernel_rfl)
 intro v2 W hS
 have hT:=hS.to [2] z
 refine ⟨fun _=>hT,?_⟩
 have ⟨r1,hr1,h⟩:=bnd h
 have hT0:=hS.p1
 refine .by1 8 z (.apprv hr1 hT0 hT0.p1.lendv (fun _=>z) T.u66 T.t105 z z z ?_ z z z z z) (by kernel_rfl)
 intro v3 W hS
 have hT:=hS.to [2] z
 refine ⟨fun _=>hT,.tp 9 z z hT (by kernel_rfl) (.done (.g (.s (fa T.f82_1 z z z) z (.s (ld T.t3 hS.p2 z z z z z) z (.q z ?_)))) (by kernel_rfl))⟩
 have ⟨y3,hy3,h⟩:=bnd h
 refine .c (.call0 hS Tryz.func58 (f31 hy3) z z ?_ z z z z)
 intro W hS
 refine .qn z (.seq (.rk 17 hS [1,1] T.mix ?_))
 intro W hS
 have hT:=hS.to [1,1] z
 refine .tp 0 z z hT (by kernel_rfl) (.ts 1 z (fun W hT=>fa T.f82_4 z z z) hT z (by kernel_rfl) (.ts 2 z (fun W hT=>ld T.t3 hT.p1 z z z z z) hT z (by kernel_rfl) (.tp 4 z z hT (by kernel_rfl) (.ts 5 z (fun W hT=>fa T.f82_2 z z z) hT z (by kernel_rfl) (.ts 6 z (fun W hT=>ld T.t3 hT.p1 z z z z z) hT z (by kernel_rfl) (.tp 7 z z hT (by kernel_rfl) (.ts 9 z (fun W hT=>fa T.f82_3 z z z) hT z (by kernel_rfl) (.ts 10 z (fun W hT=>ld T.t3 hT.p1 z z z z z) hT z (by kernel_rfl) (.tp 11 z z hT (by kernel_rfl) ?_)))))))))
 have ⟨y4,hy4,h⟩:=bnd h
 refine .by1 3 z (.call0 hS Tryz.func84 (ffe hy4) z z ?_ z z z z) (by kernel_rfl)
 intro W hS
 have hT:=hS.to [1,1] z
 refine ⟨fun _=>hT,?_⟩
 have ⟨y5,hy5,h⟩:=bnd h
 refine .by1 8 z (.call0 hS Tryz.func58 (f31 hy5) z z ?_ z z z z) (by kernel_rfl)
 intro W hS
 have hT:=hS.to [1,1] z
 refine ⟨fun _=>hT,?_⟩
 have ⟨y6,hy6,h⟩:=bnd h
 refine .by1 12 z (.call0 hS Tryz.func58 (f31 hy6) z z ?_ z z z z) (by kernel_rfl)
 intro W hS
 have hT:=hS.to [1,1] z
 refine ⟨fun _=>hT,.ts 13 z (fun W hT=>bs T.s105 z z) hT z (by kernel_rfl) (.by1 14 z (.liv [(Instr.mk y4 y3 y5 y6 0)] dInstr T.u66 T.t105 hS z z z z ?_ z (fun _=>z) z z z z) (by kernel_rfl))⟩
 intro v4 W hS
 have hT:=hS.to [2,2] z
 refine ⟨fun _=>hT,?_⟩
 have ⟨r2,hr2,h⟩:=bnd h
 have hT0:=hS.p1
 refine .by1 15 z (.apprv hr2 hT0 hT0.p1.lendv (fun _=>z) T.u66 T.t105 z z z ?_ z z z z z) (by kernel_rfl)
 intro v5 W hS
 have hT:=hS.to [2,2] z
 refine ⟨fun _=>hT,.tp 16 z z hT (by kernel_rfl) (.done ?_ (by kernel_rfl))⟩
 have ⟨y7,hy7,h⟩:=bnd h
 refine .seq (CW.via (R':=fun x E' W'=>x = .normal ∧ ∃ (v6 : Hd),SubL E' [(1,.int .i64 a1),(2,.pointer (some ⟨g1,0,none⟩)),(5,(sv v6))] ∧ Sep No w W' [rowV (sv v4) 105 5 dInstr [(Instr.mk y4 y3 y5 y6 0)],rowV (sv v2) 105 5 dInstr y2,.box g1 82 [.int .i64 a0.Op,.int .i64 a0.Dst,.int .i64 a0.A,.int .i64 a0.B,.int .i64 a0.N],rowV (sv v6) 105 5 dInstr y7]) ?_ ?_)
 ·have h:=hy7
  refine .g (.s (fa T.f82_4 z z z) z (.s (ld T.t3 hS.p3 z z z z z) z (.q z (.nil ?_))))
  refine .cs z h ?_ ?_ <;> intro h
  ·refine .region (.q z (.q z (.q z (.s (bs T.s105 z z) z (.c (.liv [(Instr.mk 13 y3 y3 0 1)] dInstr T.u66 T.t105 hS z z z z ?_ z (fun _=>z) z z z z))))))
   intro v7 W hS
   have ⟨r3,hr3,h⟩:=bnd h
   have hT0:=hS.p1
   refine .c (.apprv hr3 hT0 hT0.p1.lendv (fun _=>z) T.u66 T.t105 z z z ?_ z z z z z)
   intro v8 W hS
   refine .q z (.nil ?_)
   obtain rfl:=Option.some.inj h
   exact ⟨z,v8,sb z,hS.to [2,2,2,0] z⟩
  refine .skip ?_
  obtain rfl:=Option.some.inj h
  exact ⟨z,v5,sb z,hS.to [1,1,1,0] z⟩
 intro x E W hJ
 obtain ⟨rfl,v9,hE,hS⟩:=hJ
 refine ⟨_,hE.sub,?_⟩
 refine .g (.q z (.s (fa T.f82_1 z z z) z (.s (ld T.t3 hS.p2 z z z z z) z (.q z ?_))))
 have ⟨y8,hy8,h⟩:=bnd h
 have hS:=hS.p3
 refine .c (.callS2 (L0:=[rowV (sv v9) 105 5 dInstr y7]) hS Tryz.func59 (fun S h1 h2 h3=>(f6b hy8 h2 (zz h1))) z z ?_ z z z z)
 rintro v10 W hS
 obtain rfl:=Option.some.inj h
 exact .qn z (.ret (fin_ret (vs:=[_]) v10 (rt z rn) z (hS.to [0] z)))
theorem fet {a0 : Quad} {a1 : Int} {a2 : Int} {w : World} {r : (List Instr)} (h : fa0 a0 a1 a2 = some r) : Calls Tryz.prog 64 #[.agg #[.int .i64 a0.Op,.int .i64 a0.Dst,.int .i64 a0.A,.int .i64 a0.B,.int .i64 a0.N],.int .i64 a1,.int .i64 a2] w (Ret No w (fun s : Hd=>(sv s)) (fun s=>[rowV (sv s) 105 5 dInstr r])):=by
 unfold fa0 at h
 refine enter Tryz.func64 z z ?_
 have hS:=Sep.start w
 refine .g (.c (.box hS z z ?_ z z))
 intro g1 W hS
 refine .qn z (.seq (.rk 12 hS [0] T.mix ?_))
 intro W hS
 have hT:=hS.to [0] z
 refine .ts 0 z (fun W hT=>fa T.f82_2 z z z) hT z (by kernel_rfl) (.ts 1 z (fun W hT=>ld T.t3 hT z z z z z) hT z (by kernel_rfl) (.tp 2 z z hT (by kernel_rfl) (.ts 4 z (fun W hT=>fa T.f82_2 z z z) hT z (by kernel_rfl) (.ts 5 z (fun W hT=>ld T.t3 hT z z z z z) hT z (by kernel_rfl) (.tp 6 z z hT (by kernel_rfl) ?_)))))
 have ⟨y1,hy1,h⟩:=bnd h
 refine .by1 3 z (.call1v hS Tryz.func61 (f57 hy1) z z ?_ z z z z) (by kernel_rfl)
 intro v1 W hS
 have hT:=hS.to [1] z
 refine ⟨fun _=>hT,?_⟩
 have ⟨y2,hy2,h⟩:=bnd h
 refine .by1 7 z (.call0 hS Tryz.func58 (f31 hy2) z z ?_ z z z z) (by kernel_rfl)
 intro W hS
 have hT:=hS.to [1] z
 refine ⟨fun _=>hT,.ts 8 z (fun W hT=>bs T.s105 z z) hT z (by kernel_rfl) (.by1 9 z (.liv [(Instr.mk 18 0 y2 0 8)] dInstr T.u66 T.t105 hS z z z z ?_ z (fun _=>z) z z z z) (by kernel_rfl))⟩
 intro v2 W hS
 have hT:=hS.to [2] z
 refine ⟨fun _=>hT,?_⟩
 have ⟨r1,hr1,h⟩:=bnd h
 have hT0:=hS.p1
 refine .by1 10 z (.apprv hr1 hT0 hT0.p1.lendv (fun _=>z) T.u66 T.t105 z z z ?_ z z z z z) (by kernel_rfl)
 intro v3 W hS
 have hT:=hS.to [2] z
 refine ⟨fun _=>hT,.tp 11 z z hT (by kernel_rfl) (.done (.g (.q z (.q z (.q z (.s (lenv hS.lendv T.u66 z z) z (.q z (.q z (.s (bs T.s105 z z) z (.c (.liv [(Instr.mk 20 0 0 0 (w64 (a2 - (w64 (4 * (r1.length : Int))))))] dInstr T.u66 T.t105 hS z z z z ?_ z (fun _=>z) z z z z)))))))))) (by kernel_rfl))⟩
 intro v4 W hS
 have ⟨r2,hr2,h⟩:=bnd h
 have hT0:=hS.p1
 refine .c (.apprv hr2 hT0 hT0.p1.lendv (fun _=>z) T.u66 T.t105 z z z ?_ z z z z z)
 intro v5 W hS
 obtain rfl:=Option.some.inj h
 exact .qn z (.ret (fin_ret (vs:=[_]) v5 (rt z rn) z (hS.to [0] z)))
theorem f54 {a0 : List Instr} {a1 : Int} {v_0 : Hd} {S : Nat → Prop} {w : World} {r : (List Instr)} (h : f2n a0 a1 = some r) (hO : Owns w [rowV (sv v_0) 105 5 dInstr a0] S) (hlt : ∀ b,S b → b < w.heap.size) : Calls Tryz.prog 65 #[(sv v_0),.int .i64 a1] w (Ret S w (fun s : Hd=>(sv s)) (fun s=>[rowV (sv s) 105 5 dInstr r])):=by
 unfold f2n at h
 refine enter Tryz.func65 z z ?_
 have hS:=Sep.startM hO hlt
 refine .g (.qn z (.g (.q z (.q z (.s (bs T.s105 z z) z (.c (.liv [(Instr.mk 12 17 0 0 a1)] dInstr T.u66 T.t105 hS z z z z ?_ z (fun _=>z) z z z z)))))))
 intro v1 W hS
 have ⟨r1,hr1,h⟩:=bnd h
 have hT0:=hS.p1
 refine .c (.apprv hr1 hT0 hT0.p1.lendv (fun _=>z) T.u66 T.t105 z z z ?_ z z z z z)
 intro v2 W hS
 refine .qn z (.g (.q z (.s (bs T.s105 z z) z (.c (.liv [(Instr.mk 15 1 0 0 0)] dInstr T.u66 T.t105 hS z z z z ?_ z (fun _=>z) z z z z)))))
 intro v3 W hS
 have ⟨r2,hr2,h⟩:=bnd h
 have hT0:=hS.p1
 refine .c (.apprv hr2 hT0 hT0.p1.lendv (fun _=>z) T.u66 T.t105 z z z ?_ z z z z z)
 intro v4 W hS
 obtain rfl:=Option.some.inj h
 exact .qn z (.ret (fin_ret (vs:=[_]) v4 (rt z rn) z (hS.to [0] z)))
theorem fb7 {a0 : Int} {a1 : Int} {w : World} {r : (List Instr)} (h : f5y a0 a1 = some r) : Calls Tryz.prog 66 #[.int .i64 a0,.int .i64 a1] w (Ret No w (fun s : Hd=>(sv s)) (fun s=>[rowV (sv s) 105 5 dInstr r])):=by
 unfold f5y at h
 refine enter Tryz.func66 z z ?_
 have hS:=Sep.start w
 refine .g (.qn z (.g (.q z (.q z ?_))))
 have ⟨y1,hy1,h⟩:=bnd h
 refine .c (.call1v hS Tryz.func61 (f57 hy1) z z ?_ z z z z)
 intro v1 W hS
 refine .q z (.q z ?_)
 have ⟨y2,hy2,h⟩:=bnd h
 refine .c (.call0 hS Tryz.func58 (f31 hy2) z z ?_ z z z z)
 intro W hS
 have ⟨y3,hy3,h⟩:=bnd h
 refine .c (.call0 hS Tryz.func62 (f9v hy3) z z ?_ z z z z)
 intro W hS
 refine .c (.liv [y3] dInstr T.u66 T.t105 hS z z z z ?_ z (fun _=>z) z z z z)
 intro v2 W hS
 have ⟨r1,hr1,h⟩:=bnd h
 have hT0:=hS.p1
 refine .c (.apprv hr1 hT0 hT0.p1.lendv (fun _=>z) T.u66 T.t105 z z z ?_ z z z z z)
 intro v3 W hS
 obtain rfl:=Option.some.inj h
 exact .qn z (.ret (fin_ret (vs:=[_]) v3 (rt z rn) z (hS.to [0] z)))
theorem fbk {a0 : Int} {w : World} {r : Instr} (h : f7f a0 = some r) : Calls Tryz.prog 67 #[.int .i64 a0] w (Ret No w (fun s : Unit=>.agg #[.int .i64 r.Op,.int .i64 r.Rd,.int .i64 r.Rs,.int .i64 r.Rt,.int .i64 r.Imm]) (fun s=>[])):=by
 unfold f7f at h
 refine enter Tryz.func67 z z ?_
 have hS:=Sep.start w
 refine .g (.c (.alloc T.t105 hS ?_ z z z))
 intro g1 W hS
 refine .nil (.g (.q z (.s (bs T.s105 z z) z (.c (.st T.t105 hS z z z ?_ z z z z z)))))
 intro W hS
 cases h
 exact .nil (.ret (fin_ret (vs:=[_]) () (rc hS T.t105 z rn z z) z (hS.to [] z)))
theorem fba {a0 : Quad} {a1 : Int} {a2 : Int} {w : World} {r : (List Instr)} (h : f65 a0 a1 a2 = some r) : Calls Tryz.prog 46 #[.agg #[.int .i64 a0.Op,.int .i64 a0.Dst,.int .i64 a0.A,.int .i64 a0.B,.int .i64 a0.N],.int .i64 a1,.int .i64 a2] w (Ret No w (fun s : Hd=>(sv s)) (fun s=>[rowV (sv s) 105 5 dInstr r])):=by
 unfold f65 at h
 refine enter Tryz.func46 z z ?_
 have hS:=Sep.start w
 refine .g (.c (.box hS z z ?_ z z))
 intro g1 W hS
 refine .qn z (.g (.s (fa T.f82_1 z z z) z (.s (ld T.t3 hS z z z z z) z (.q z ?_))))
 have ⟨y1,hy1,h⟩:=bnd h
 refine .c (.call0 hS Tryz.func58 (f31 hy1) z z ?_ z z z z)
 intro W hS
 refine .qn z (.seq (.g (.s (fa T.f82_0 z z z) z (.s (ld T.t3 hS z z z z z) z (.nil (.block (.g (.q z (.qn z (.cond z (fun hb=>?_) (fun hb=>?_)))))))))))
 ·have h:=sel_t hb h
  refine .seq (.rk 9 hS [0] T.mix ?_)
  intro W hS
  have hT:=hS.to [0] z
  refine .tp 0 z z hT (by kernel_rfl) (.ts 1 z (fun W hT=>fa T.f82_4 z z z) hT z (by kernel_rfl) (.ts 2 z (fun W hT=>ld T.t3 hT z z z z z) hT z (by kernel_rfl) (.ts 4 z (fun W hT=>fa T.f82_1 z z z) hT z (by kernel_rfl) (.ts 5 z (fun W hT=>ld T.t3 hT z z z z z) hT z (by kernel_rfl) (.tp 6 z z hT (by kernel_rfl) ?_)))))
  have ⟨y2,hy2,h⟩:=bnd h
  refine .by1 3 z (.call1v hS Tryz.func60 (fcy hy2) z z ?_ z z z z) (by kernel_rfl)
  intro v1 W hS
  have hT:=hS.to [1] z
  refine ⟨fun _=>hT,?_⟩
  have ⟨y3,hy3,h⟩:=bnd h
  refine .by1 7 z (.callS2 (L0:=[rowV (sv v1) 105 5 dInstr y2]) hS Tryz.func59 (fun S h1 h2 h3=>(f6b hy3 h2 (zz h1))) z z ?_ z z z z) (by kernel_rfl)
  rintro v2 W hS
  have hT:=hS.to [1] z
  refine ⟨fun _=>hT,?_⟩
  obtain rfl:=Option.some.inj h
  exact .tp 8 z z hT (by kernel_rfl) (.done (.ret (fin_ret (vs:=[_]) v2 (rt z rn) z (hS.to [0] z))) (by kernel_rfl))
 have h:=sel_f hb h
 refine .g (.q z (.qn z (.cond z (fun hb=>?_) (fun hb=>?_))))
 ·have h:=sel_t hb h
  refine .seq (.rk 17 hS [0] T.mix ?_)
  intro W hS
  have hT:=hS.to [0] z
  refine .ts 0 z (fun W hT=>fa T.f82_2 z z z) hT z (by kernel_rfl) (.ts 1 z (fun W hT=>ld T.t3 hT z z z z z) hT z (by kernel_rfl) (.tp 2 z z hT (by kernel_rfl) (.tp 4 z z hT (by kernel_rfl) (.ts 5 z (fun W hT=>fa T.f82_2 z z z) hT z (by kernel_rfl) (.ts 6 z (fun W hT=>ld T.t3 hT z z z z z) hT z (by kernel_rfl) (.tp 7 z z hT (by kernel_rfl) (.ts 12 z (fun W hT=>fa T.f82_1 z z z) hT z (by kernel_rfl) (.ts 13 z (fun W hT=>ld T.t3 hT z z z z z) hT z (by kernel_rfl) (.tp 14 z z hT (by kernel_rfl) ?_)))))))))
  have ⟨y4,hy4,h⟩:=bnd h
  refine .by1 3 z (.call1v hS Tryz.func61 (f57 hy4) z z ?_ z z z z) (by kernel_rfl)
  intro v3 W hS
  have hT:=hS.to [1] z
  refine ⟨fun _=>hT,?_⟩
  have ⟨y5,hy5,h⟩:=bnd h
  refine .by1 8 z (.call0 hS Tryz.func58 (f31 hy5) z z ?_ z z z z) (by kernel_rfl)
  intro W hS
  have hT:=hS.to [1] z
  refine ⟨fun _=>hT,?_⟩
  have ⟨y6,hy6,h⟩:=bnd h
  refine .by1 9 z (.call0 hS Tryz.func62 (f9v hy6) z z ?_ z z z z) (by kernel_rfl)
  intro W hS
  have hT:=hS.to [1] z
  refine ⟨fun _=>hT,.by1 10 z (.liv [y6] dInstr T.u66 T.t105 hS z z z z ?_ z (fun _=>z) z z z z) (by kernel_rfl)⟩
  intro v4 W hS
  have hT:=hS.to [2] z
  refine ⟨fun _=>hT,?_⟩
  have ⟨r1,hr1,h⟩:=bnd h
  have hT0:=hS.p1
  refine .by1 11 z (.apprv hr1 hT0 hT0.p1.lendv (fun _=>z) T.u66 T.t105 z z z ?_ z z z z z) (by kernel_rfl)
  intro v5 W hS
  have hT:=hS.to [2] z
  refine ⟨fun _=>hT,?_⟩
  have ⟨y7,hy7,h⟩:=bnd h
  refine .by1 15 z (.callS2 (L0:=[rowV (sv v5) 105 5 dInstr r1]) hS Tryz.func59 (fun S h1 h2 h3=>(f6b hy7 h2 (zz h1))) z z ?_ z z z z) (by kernel_rfl)
  rintro v6 W hS
  have hT:=hS.to [2] z
  refine ⟨fun _=>hT,?_⟩
  obtain rfl:=Option.some.inj h
  exact .tp 16 z z hT (by kernel_rfl) (.done (.ret (fin_ret (vs:=[_]) v6 (rt z rn) z (hS.to [0] z))) (by kernel_rfl))
 have h:=sel_f hb h
 refine .g (.q z (.q z (.nil ?_)))
 refine .cs z h ?_ ?_ <;> intro h
 ·refine .g (.s (ld T.t82 hS z z z z z) z (.q z ?_))
  have ⟨y8,hy8,h⟩:=bnd h
  refine .c (.call1v hS Tryz.func63 (few hy8) z z ?_ z z z z)
  intro v7 W hS
  obtain rfl:=Option.some.inj h
  exact .qn z (.ret (fin_ret (vs:=[_]) v7 (rt z rn) z (hS.to [0] z)))
 refine .g (.q z (.q z (.nil ?_)))
 refine .cs z h ?_ ?_ <;> intro h
 ·refine .g (.q z (.s (bs T.s105 z z) z (.c (.liv [(Instr.mk 20 0 0 0 a2)] dInstr T.u66 T.t105 hS z z z z ?_ z (fun _=>z) z z z z))))
  intro v8 W hS
  cases h
  exact .qn z (.ret (fin_ret (vs:=[_]) v8 (rt z rn) z (hS.to [0] z)))
 refine .g (.q z (.q z (.nil ?_)))
 refine .cs z h ?_ ?_ <;> intro h
 ·refine .g (.s (ld T.t82 hS z z z z z) z (.q z (.q z ?_)))
  have ⟨y9,hy9,h⟩:=bnd h
  refine .c (.call1v hS Tryz.func64 (fet hy9) z z ?_ z z z z)
  intro v9 W hS
  obtain rfl:=Option.some.inj h
  exact .qn z (.ret (fin_ret (vs:=[_]) v9 (rt z rn) z (hS.to [0] z)))
 refine .g (.q z (.qn z (.cond z (fun hb=>?_) (fun hb=>?_))))
 ·have h:=sel_t hb h
  refine .seq (.rk 11 hS [0] T.mix ?_)
  intro W hS
  have hT:=hS.to [0] z
  refine .ts 0 z (fun W hT=>fa T.f82_2 z z z) hT z (by kernel_rfl) (.ts 1 z (fun W hT=>ld T.t3 hT z z z z z) hT z (by kernel_rfl) (.tp 2 z z hT (by kernel_rfl) (.ts 4 z (fun W hT=>fa T.f82_4 z z z) hT z (by kernel_rfl) (.ts 5 z (fun W hT=>ld T.t3 hT z z z z z) hT z (by kernel_rfl) ?_))))
  have ⟨y10,hy10,h⟩:=bnd h
  refine .by1 3 z (.call1v hS Tryz.func66 (fb7 hy10) z z ?_ z z z z) (by kernel_rfl)
  intro v10 W hS
  have hT:=hS.to [1] z
  refine ⟨fun _=>hT,?_⟩
  have ⟨y11,hy11,h⟩:=bnd h
  refine .by1 6 z (.call0 hS Tryz.func67 (fbk hy11) z z ?_ z z z z) (by kernel_rfl)
  intro W hS
  have hT:=hS.to [1] z
  refine ⟨fun _=>hT,.by1 7 z (.liv [y11] dInstr T.u66 T.t105 hS z z z z ?_ z (fun _=>z) z z z z) (by kernel_rfl)⟩
  intro v11 W hS
  have hT:=hS.to [2] z
  refine ⟨fun _=>hT,?_⟩
  have ⟨r2,hr2,h⟩:=bnd h
  have hT0:=hS.p1
  refine .by1 8 z (.apprv hr2 hT0 hT0.p1.lendv (fun _=>z) T.u66 T.t105 z z z ?_ z z z z z) (by kernel_rfl)
  intro v12 W hS
  have hT:=hS.to [2] z
  refine ⟨fun _=>hT,?_⟩
  have ⟨y12,hy12,h⟩:=bnd h
  refine .by1 9 z (.callS2 (L0:=[rowV (sv v12) 105 5 dInstr r2]) hS Tryz.func65 (fun S h1 h2 h3=>(f54 hy12 h2 (zz h1))) z z ?_ z z z z) (by kernel_rfl)
  rintro v13 W hS
  have hT:=hS.to [2] z
  refine ⟨fun _=>hT,?_⟩
  obtain rfl:=Option.some.inj h
  exact .tp 10 z z hT (by kernel_rfl) (.done (.ret (fin_ret (vs:=[_]) v13 (rt z rn) z (hS.to [0] z))) (by kernel_rfl))
 have h:=sel_f hb h
 refine .g (.q z (.qn z (.cond z (fun hb=>?_) (fun hb=>?_))))
 ·have h:=sel_t hb h
  refine .g (.s (fa T.f82_4 z z z) z (.s (ld T.t3 hS z z z z z) z ?_))
  have ⟨y13,hy13,h⟩:=bnd h
  refine .c (.call0 hS Tryz.func67 (fbk hy13) z z ?_ z z z z)
  intro W hS
  refine .c (.liv [y13] dInstr T.u66 T.t105 hS z z z z ?_ z (fun _=>z) z z z z)
  intro v14 W hS
  have ⟨y14,hy14,h⟩:=bnd h
  refine .c (.callS2 (L0:=[rowV (sv v14) 105 5 dInstr [y13]]) hS Tryz.func65 (fun S h1 h2 h3=>(f54 hy14 h2 (zz h1))) z z ?_ z z z z)
  rintro v15 W hS
  refine .qn z (.seq (.rk 10 hS [1] T.mix ?_))
  intro W hS
  have hT:=hS.to [1] z
  refine .tp 0 z z hT (by kernel_rfl) (.tp 1 z z hT (by kernel_rfl) (.ts 5 z (fun W hT=>fa T.f82_1 z z z) hT z (by kernel_rfl) (.ts 6 z (fun W hT=>ld T.t3 hT z z z z z) hT z (by kernel_rfl) (.tp 7 z z hT (by kernel_rfl) ?_))))
  have ⟨y15,hy15,h⟩:=bnd h
  refine .by1 2 z (.call0 hS Tryz.func62 (f9v hy15) z z ?_ z z z z) (by kernel_rfl)
  intro W hS
  have hT:=hS.to [1] z
  refine ⟨fun _=>hT,.by1 3 z (.liv [y15] dInstr T.u66 T.t105 hS z z z z ?_ z (fun _=>z) z z z z) (by kernel_rfl)⟩
  intro v16 W hS
  have hT:=hS.to [2] z
  refine ⟨fun _=>hT,?_⟩
  have ⟨r3,hr3,h⟩:=bnd h
  have hT0:=hS.p1
  refine .by1 4 z (.apprv hr3 hT0 hT0.p1.lendv (fun _=>z) T.u66 T.t105 z z z ?_ z z z z z) (by kernel_rfl)
  intro v17 W hS
  have hT:=hS.to [2] z
  refine ⟨fun _=>hT,?_⟩
  have ⟨y16,hy16,h⟩:=bnd h
  refine .by1 8 z (.callS2 (L0:=[rowV (sv v17) 105 5 dInstr r3]) hS Tryz.func59 (fun S h1 h2 h3=>(f6b hy16 h2 (zz h1))) z z ?_ z z z z) (by kernel_rfl)
  rintro v18 W hS
  have hT:=hS.to [2] z
  refine ⟨fun _=>hT,?_⟩
  obtain rfl:=Option.some.inj h
  exact .tp 9 z z hT (by kernel_rfl) (.done (.ret (fin_ret (vs:=[_]) v18 (rt z rn) z (hS.to [0] z))) (by kernel_rfl))
 have h:=sel_f hb h
 refine .g (.q z (.qn z (.cond z (fun hb=>?_) (fun hb=>?_))))
 ·have h:=sel_t hb h
  refine .g (.c (.liv [] dInstr T.u66 T.t105 hS z z z z ?_ z (fun _=>z) z z z z))
  intro v19 W hS
  have ⟨y17,hy17,h⟩:=bnd h
  refine .c (.callS2 (L0:=[rowV (sv v19) 105 5 dInstr []]) hS Tryz.func65 (fun S h1 h2 h3=>(f54 hy17 h2 (zz h1))) z z ?_ z z z z)
  rintro v20 W hS
  obtain rfl:=Option.some.inj h
  exact .qn z (.ret (fin_ret (vs:=[_]) v20 (rt z rn) z (hS.to [0] z)))
 have h:=sel_f hb h
 refine .g (.q z (.qn z (.cond z (fun hb=>?_) (fun hb=>?_))))
 ·have h:=sel_t hb h
  refine .g (.s (fa T.f82_2 z z z) z (.s (ld T.t3 hS z z z z z) z (.q z ?_)))
  have ⟨y18,hy18,h⟩:=bnd h
  refine .c (.call1v hS Tryz.func66 (fb7 hy18) z z ?_ z z z z)
  intro v21 W hS
  have ⟨y19,hy19,h⟩:=bnd h
  refine .c (.callS2 (L0:=[rowV (sv v21) 105 5 dInstr y18]) hS Tryz.func65 (fun S h1 h2 h3=>(f54 hy19 h2 (zz h1))) z z ?_ z z z z)
  rintro v22 W hS
  obtain rfl:=Option.some.inj h
  exact .qn z (.ret (fin_ret (vs:=[_]) v22 (rt z rn) z (hS.to [0] z)))
 have h:=sel_f hb h
 refine .skip (.g (.c (.liv [] dInstr T.u66 T.t105 hS z z z z ?_ z (fun _=>z) z z z z)))
 intro v23 W hS
 have ⟨y20,hy20,h⟩:=bnd h
 refine .c (.callS2 (L0:=[rowV (sv v23) 105 5 dInstr []]) hS Tryz.func65 (fun S h1 h2 h3=>(f54 hy20 h2 (zz h1))) z z ?_ z z z z)
 rintro v24 W hS
 obtain rfl:=Option.some.inj h
 exact .qn z (.ret (fin_ret (vs:=[_]) v24 (rt z rn) z (hS.to [0] z)))
theorem fck {a0 : List Quad} {a1 : Int} {v_0 : Hd} {w : World} {r : (List Int)} (h : f5o a0 a1 = some r) (q_0 : RV w (Old No w) (sv v_0) 82 5 dQuad a0) : Calls Tryz.prog 45 #[(sv v_0),.int .i64 a1] w (Ret No w (fun s : Hd=>(sv s)) (fun s=>[rowV (sv s) 3 1 (D.int .i64) r])):=by
 unfold f5o at h
 refine enter Tryz.func45 z z ?_
 have hS:=Sep.start w
 refine .g (.qn z (.g (.c (.liv [] (D.int .i64) T.u25 T.t3 hS z z z z ?_ z (fun _=>z) z z z z))))
 intro v1 W hS
 refine .qn z (.g (.qn z (.seq (.g (.qn z (.block ?_))))))
 have ⟨y1,hy1,h⟩:=bnd h
 refine .via (.iter (fun s1 E' W'=>∃ (v4 : Hd),SubL E' [(0,(sv v_0)),(1,.int .i64 a1),(5,(sv v4)),(6,.int .i64 s1.2.1),(7,.int .i64 s1.2.2)] ∧ Sep No w W' [rowV (sv v4) 3 1 (D.int .i64) s1.1]) (fun y2 x E' W'=>x = .exit 0 ∧ ∃ (v5 : Hd),SubL E' [(5,(sv v5))] ∧ Sep No w W' [rowV (sv v5) 3 1 (D.int .i64) y2]) hy1 ⟨v1,sb z,hS.to [0] z⟩ ?_) ?_
 ·intro s1 y3 E W h hI
  obtain ⟨v3,hE,hS⟩:=hI
  refine CW.sub hE ?_
  unfold f8r at h
  refine .seq (.g (.q z (.q z (.s (lenv (hS.keep q_0) T.u68 z z) z (.q z (.nil ?_))))))
  refine .cs z h ?_ ?_ <;> intro h
  ·refine .skip (.seq (.block (.g (.q z (.q z (.c (.liv [s1.2.1] (D.int .i64) T.u25 T.t3 hS z z z z ?_ z (fun _=>z) z z z z)))))))
   intro v6 W hS
   have ⟨r1,hr1,h⟩:=bnd h
   have hT0:=hS.p1
   refine .c (.apprv hr1 hT0 hT0.p1.lendv (fun _=>z) T.u25 T.t3 z z z ?_ z z z z z)
   intro v7 W hS
   refine .qn z (.region (.q z (.q z (.q z ?_))))
   have ⟨x1,hx1,h⟩:=bnd h
   refine .s (ixv (hS.keep q_0) hx1 T.u68 T.t82 z z z) z (.s (lde (RV.flat (hS.keep q_0) hx1 z) T.t82 z z z z z) z (.q z ?_))
   have ⟨y4,hy4,h⟩:=bnd h
   refine .c (.call1v hS Tryz.func46 (fba hy4) z z ?_ z z z z)
   intro v8 W hS
   refine .s (lenv hS.lendv T.u66 z z) z (.q z (.qn z (.region (.q z (.q z (.q z (.nil ?_)))))))
   cases h
   exact ⟨z,v7,sb z,hS.to [1] z⟩
  refine .exit ?_
  cases h
  exact ⟨by simp,z,v3,sb z,hS.to [0] z⟩
 intro x E W hJ
 obtain ⟨rfl,v9,hE,hS⟩:=hJ
 refine ⟨_,hE.sub,?_⟩
 obtain rfl:=Option.some.inj h
 exact .g (.q z (.qn z (.ret (fin_ret (vs:=[_]) v9 (rt z rn) z (hS.to [0] z)))))
theorem fef {a0 : List Quad} {a1 : Int} {v_0 : Hd} {w : World} {r : (List Instr)} (h : f8b a0 a1 = some r) (q_0 : RV w (Old No w) (sv v_0) 82 5 dQuad a0) : Calls Tryz.prog 32 #[(sv v_0),.int .i64 a1] w (Ret No w (fun s : Hd=>(sv s)) (fun s=>[rowV (sv s) 105 5 dInstr r])):=by
 unfold f8b at h
 refine enter Tryz.func32 z z ?_
 have hS:=Sep.start w
 refine .g (.qn z (.g (.q z (.q z ?_))))
 have ⟨y1,hy1,h⟩:=bnd h
 refine .c (.call1v hS Tryz.func45 (fck hy1 (hS.keep q_0)) z z ?_ z z z z)
 intro v1 W hS
 refine .qn z (.g (.c (.liv [] dInstr T.u66 T.t105 hS z z z z ?_ z (fun _=>z) z z z z)))
 intro v2 W hS
 refine .qn z (.seq (.g (.qn z (.block ?_))))
 have ⟨y2,hy2,h⟩:=bnd h
 refine .via (.iter (fun s1 E' W'=>∃ (v5 : Hd),SubL E' [(0,(sv v_0)),(1,.int .i64 a1),(5,(sv v1)),(6,(sv v5)),(7,.int .i64 s1.2)] ∧ Sep No w W' [rowV (sv v1) 3 1 (D.int .i64) y1,rowV (sv v5) 105 5 dInstr s1.1]) (fun y3 x E' W'=>x = .exit 0 ∧ ∃ (v6 : Hd),SubL E' [(6,(sv v6))] ∧ Sep No w W' [rowV (sv v1) 3 1 (D.int .i64) y1,rowV (sv v6) 105 5 dInstr y3]) hy2 ⟨v2,sb z,hS.to [1,0] z⟩ ?_) ?_
 ·intro s1 y4 E W h hI
  obtain ⟨v4,hE,hS⟩:=hI
  refine CW.sub hE ?_
  unfold faa at h
  refine .seq (.g (.q z (.q z (.s (lenv (hS.keep q_0) T.u68 z z) z (.q z (.nil ?_))))))
  refine .cs z h ?_ ?_ <;> intro h
  ·refine .skip (.seq (.block (.g (.q z (.nil ?_)))))
   have ⟨y5,hy5,h⟩:=bnd h
   refine .seq (CW.via (R':=fun x E' W'=>x = .normal ∧ SubL E' [(0,(sv v_0)),(1,.int .i64 a1),(5,(sv v1)),(6,(sv v4)),(7,.int .i64 s1.2),(8,.int .i64 y5)] ∧ Sep No w W' [rowV (sv v1) 3 1 (D.int .i64) y1,rowV (sv v4) 105 5 dInstr s1.1]) ?_ ?_)
   ·have h:=hy5
    refine .g (.q z (.q z ?_))
    have ⟨x1,hx1,h⟩:=bnd h
    refine .s (ixv (hS.keep q_0) hx1 T.u68 T.t82 z z z) z (.s (fe T.f82_0 z z z) z (.s (lde (RV.flat (hS.keep q_0) hx1 z) T.t3 z z z z z) z (.q z (.q z ?_))))
    have ⟨b1,hb1,h⟩:=bnd h
    refine .chunk 7 32 (b1) hS ?_ ?_
    ·refine .both (x1.Op == 4) (fun hb=>?_) (fun hb=>?_)
     ·refine .xx hb z (.xx hb z (.xx hb z (.xx hb z (.xx hb z (.xx hb z ?_)))))
      cases sel_t hb hb1
      exact .s (pkt hb z z z) z (.nil (ck 7 hS z z z z))
     have hg1:=hb
     have h:=sel_f hb hb1
     refine .g hg1 (.q z (.g hg1 (.q z ?_) z)) z
     have ⟨x2,hx2,h⟩:=bnd h
     refine .g hg1 (.s (ixv (hS.keep q_0) hx2 T.u68 T.t82 z z z) z (.g hg1 (.s (fe T.f82_0 z z z) z (.g hg1 (.s (lde (RV.flat (hS.keep q_0) hx2 z) T.t3 z z z z z) z (.g hg1 (.q z (.s (pkf hg1 z z z) z ?_)) z)) z)) z)) z
     cases h
     exact .nil (ck 7 hS z z z z)
    intro W hS
    refine .nil ?_
    refine .cs z h ?_ ?_ <;> intro h
    ·refine .rk 15 hS [0,0] T.mix ?_
     intro W hS
     have hT:=hS.to [0,0] z
     refine .tp 0 z z hT (by kernel_rfl) (.tp 1 z z hT (by kernel_rfl) (.tp 2 z z hT (by kernel_rfl) ?_))
     have ⟨x3,hx3,h⟩:=bnd h
     refine .ts 3 z (fun W hT=>ixv (hS.keep q_0) hx3 T.u68 T.t82 z z z) hT z (by kernel_rfl) (.ts 4 z (fun W hT=>fe T.f82_4 z z z) hT z (by kernel_rfl) (.ts 5 z (fun W hT=>lde (RV.flat (hT.keep q_0) hx3 z) T.t3 z z z z z) hT z (by kernel_rfl) ?_))
     have ⟨x4,hx4,h⟩:=bnd h
     refine .ts 6 z (fun W hT=>ixv hS.lendv hx4 T.u25 T.t3 z z z) hT z (by kernel_rfl) (.ts 7 z (fun W hT=>lde (RV.flat hT.lendv hx4 z) T.t3 z z z z z) hT z (by kernel_rfl) (.tp 8 z z hT (by kernel_rfl) (.tp 9 z z hT (by kernel_rfl) ?_)))
     have ⟨x5,hx5,h⟩:=bnd h
     refine .ts 10 z (fun W hT=>ixv hS.lendv hx5 T.u25 T.t3 z z z) hT z (by kernel_rfl) (.ts 11 z (fun W hT=>lde (RV.flat hT.lendv hx5 z) T.t3 z z z z z) hT z (by kernel_rfl) (.tp 12 z z hT (by kernel_rfl) (.tp 13 z z hT (by kernel_rfl) (.tp 14 z z hT (by kernel_rfl) (.done ?_ (by kernel_rfl))))))
     cases h
     exact ⟨z,sb z,hS.to [0,0] z⟩
    refine .skip ?_
    cases h
    exact ⟨z,sb z,hS.to [0,0] z⟩
   intro x E W hJ
   obtain ⟨rfl,hE,hS⟩:=hJ
   refine ⟨_,hE.sub,?_⟩
   refine .region (.q z (.q z (.q z ?_)))
   have ⟨x6,hx6,h⟩:=bnd h
   refine .s (ixv (hS.keep q_0) hx6 T.u68 T.t82 z z z) z (.s (lde (RV.flat (hS.keep q_0) hx6 z) T.t82 z z z z z) z (.q z (.q z ?_)))
   have ⟨y6,hy6,h⟩:=bnd h
   refine .c (.call1v hS Tryz.func46 (fba hy6) z z ?_ z z z z)
   intro v7 W hS
   have ⟨r1,hr1,h⟩:=bnd h
   have hT0:=hS.p2
   refine .c (.apprv hr1 hT0 hT0.p1.lendv (fun _=>z) T.u66 T.t105 z z z ?_ z z z z z)
   intro v8 W hS
   refine .qn z (.region (.q z (.q z (.q z (.nil ?_)))))
   cases h
   exact ⟨z,v8,sb z,hS.to [2,0] z⟩
  refine .exit ?_
  cases h
  exact ⟨by simp,z,v4,sb z,hS.to [0,0] z⟩
 intro x E W hJ
 obtain ⟨rfl,v9,hE,hS⟩:=hJ
 refine ⟨_,hE.sub,?_⟩
 obtain rfl:=Option.some.inj h
 exact .g (.q z (.qn z (.ret (fin_ret (vs:=[_]) v9 (rt z rn) z (hS.to [1] z)))))
theorem fda {k : Nat} {a0 : L6Rd} {v_0_b : Hd} {g_0 : Nat} {S : Nat → Prop} {w : World} {r : (List (List Instr)) × Int} (h : f6o k a0 = some r) (q_0_b : RV w (Old S w) (sv v_0_b) 5 1 (D.int .u8) a0.b) (hO : Owns w [.box g_0 54 [(sv v_0_b),.int .i64 a0.p]] S) (hlt : ∀ b,S b → b < w.heap.size) : Calls Tryz.prog 17 #[.pointer (some ⟨g_0,0,none⟩)] w (Ret S w (fun s : Hd=>(sv s)) (fun s=>[.box g_0 54 [(sv v_0_b),.int .i64 r.2],rowV (sv s) 66 1 (fun (l : List Instr)=>D.row 105 5 (l.map dInstr)) r.1])):=by
 unfold f6o at h
 refine enter Tryz.func17 z z ?_
 have hS:=Sep.startM hO hlt
 refine .g (.qn z (.g (.q z ?_)))
 have ⟨y1,hy1,h⟩:=bnd h
 refine .c (.callS2 (L0:=[.box g_0 54 [(sv v_0_b),.int .i64 a0.p]]) hS Tryz.func31 (fun S h1 h2 h3=>(fd9 hy1 (hS.keepS q_0_b h1) h2 (zz h1))) z z ?_ z z z z)
 rintro v1 W hS
 refine .qn z (.g (.q z ?_))
 have ⟨y2,hy2,h⟩:=bnd h
 refine .c (.callS2 (L0:=[.box g_0 54 [(sv v_0_b),.int .i64 y1.2]]) hS Tryz.func19 (fun S h1 h2 h3=>(f00 hy2 (hS.keepS q_0_b h1) h2 (zz h1))) z z ?_ z z z z)
 rintro ⟨⟩ W hS
 refine .q z (.qn z (.g (.c (.ligv (L1:=[]) [] (fun (l : List Instr)=>D.row 105 5 (l.map dInstr)) T.u47 T.t66 (hS.to [0,0] z) z z z (.nil) ?_ z (fun _=>z) z z z z z))))
 intro v2 W hS
 refine .qn z (.seq (.g (.qn z (.block ?_))))
 have ⟨y3,hy3,h⟩:=bnd h
 refine .via (.iter (fun s1 E' W'=>∃ (v5 : Hd),SubL E' [(3,(sv v1)),(4,.int .i64 (w64 (1 + y2.1))),(5,(sv v5)),(6,.int .i64 s1.2)] ∧ Sep S w W' [.box g_0 54 [(sv v_0_b),.int .i64 y2.2],rowV (sv v1) 68 1 (fun (l : List Quad)=>D.row 82 5 (l.map dQuad)) y1.1,rowV (sv v5) 66 1 (fun (l : List Instr)=>D.row 105 5 (l.map dInstr)) s1.1]) (fun y4 x E' W'=>x = .exit 0 ∧ ∃ (v6 : Hd),SubL E' [(5,(sv v6))] ∧ Sep S w W' [.box g_0 54 [(sv v_0_b),.int .i64 y2.2],rowV (sv v1) 68 1 (fun (l : List Quad)=>D.row 82 5 (l.map dQuad)) y1.1,rowV (sv v6) 66 1 (fun (l : List Instr)=>D.row 105 5 (l.map dInstr)) y4]) hy3 ⟨v2,sb z,hS.to [1,1,0] z⟩ ?_) ?_
 ·intro s1 y5 E W h hI
  obtain ⟨v4,hE,hS⟩:=hI
  refine CW.sub hE ?_
  unfold f9c at h
  refine .seq (.g (.q z (.q z (.s (lenv hS.p1.lendv T.u64 z z) z (.q z (.nil ?_))))))
  refine .cs z h ?_ ?_ <;> intro h
  ·refine .skip (.seq (.block (.region (.q z (.q z (.q z ?_))))))
   have ⟨x1,hx1,h⟩:=bnd h
   refine .s (ixv hS.p1.lendv hx1 T.u64 T.t68 z z z) z ?_
   obtain ⟨k1,hS⟩:=Sep.outv hS.p1 hx1
   obtain ⟨v7,k1,rfl,hS⟩:=hS.orowv
   obtain ⟨rfl,hS⟩:=hS.onil
   refine .s (lde (hS.p1.hcellsv) T.t68 z z z z z) z (.q z ?_)
   have ⟨y6,hy6,h⟩:=bnd h
   refine .c (.call1v hS Tryz.func32 (fef hy6 hS.lendv) z z ?_ z z z z)
   intro v8 W hS
   refine .c (.ligv (L1:=[rowV (sv v8) 105 5 dInstr y6]) [y6] (fun (l : List Instr)=>D.row 105 5 (l.map dInstr)) T.u47 T.t66 (hS.to [0,0,0,0,0] z) z z z (.row (.nil)) ?_ z (fun _=>z) z z z z z)
   intro v9 W hS
   have ⟨r1,hr1,h⟩:=bnd h
   refine .c (.appv hr1 (hS.to [4,0,0,0,0] z) T.u47 T.t66 z z z ?_ z z z z z)
   intro v10 W hS
   refine .qn z (.region (.q z (.q z (.q z (.nil ?_)))))
   have hS:=Sep.gat (ds:=[.row 82 5 (x1.map dQuad)]) (cs:=[(sv v7)]) (L1:=[rowV (sv v7) 82 5 dQuad x1]) (.row (.nil)) (hS.to [1,1,0,0] z)
   have hS : Sep _ _ _ [rowV (sv v1) 68 1 (fun (l : List Quad)=>D.row 82 5 (l.map dQuad)) y1.1,rowV (sv v10) 66 1 (fun (l : List Instr)=>D.row 105 5 (l.map dInstr)) r1,.box g_0 54 [(sv v_0_b),.int .i64 y2.2]]:=Sep.back0v hx1 hS
   cases h
   exact ⟨z,v10,sb z,hS.to [2,0,0] z⟩
  refine .exit ?_
  cases h
  exact ⟨by simp,z,v4,sb z,hS.to [0,0,0] z⟩
 intro x E W hJ
 obtain ⟨rfl,v11,hE,hS⟩:=hJ
 refine ⟨_,hE.sub,?_⟩
 cases h
 exact .g (.q z (.qn z (.ret (fin_ret (vs:=[_]) v11 (rt z rn) z (hS.to [0,1] z)))))
def fe8 (w : World) (r : Bool) : Env → World → Prop:=Fin Tryz.prog Tryz.f33 No w (fun s : Unit=>.bool r) (fun s=>[]) .ret
theorem fdj {a0 : List Int} {v_0 : Hd} {w : World} {r : Bool} (h : f3n a0 = some r) (q_0 : RV w (Old No w) (sv v_0) 3 1 (D.int .i64) a0) : Calls Tryz.prog 33 #[(sv v_0)] w (Ret No w (fun s : Unit=>.bool r) (fun s=>[])):=by
 unfold f3n at h
 refine enter Tryz.func33 z z ?_
 have hS:=Sep.start w
 refine .g (.qn z (.seq (.g (.qn z (.block ?_)))))
 have ⟨y1,hy1,h⟩:=bnd h
 refine .via (.iter (fun s1 E' W'=>SubL E' [(0,(sv v_0)),(3,.int .i64 s1)] ∧ Sep No w W' []) (fun y2 x E' W'=>(match y2 with | .inl o1=>x = .ret ∧ fe8 w o1 E' W' | .inr o2=>x = .exit 0 ∧ SubL E' [(0,(sv v_0))] ∧ Sep No w W' [])) hy1 ⟨sb rfl,hS.to [] rfl⟩ ?_) ?_
 ·intro s1 y3 E W h hI
  obtain ⟨hE,hS⟩:=hI
  refine CW.sub hE ?_
  unfold f1c at h
  refine .seq (.g (.q z (.q z (.s (lenv (hS.keep q_0) T.u25 z z) z (.q z (.nil ?_))))))
  refine .cs z h ?_ ?_ <;> intro h
  ·refine .skip (.seq (.block (.g (.q z (.q z ?_)))))
   have ⟨x1,hx1,h⟩:=bnd h
   refine .s (ixv (hS.keep q_0) hx1 T.u25 T.t3 z z z) z (.s (lde (RV.flat (hS.keep q_0) hx1 z) T.t3 z z z z z) z ?_)
   have ⟨y4,hy4,h⟩:=bnd h
   refine .c (.call0 hS Tryz.func27 (f04 hy4) z z ?_ z z z z)
   intro W hS
   refine .q z (.nil ?_)
   refine .cs z h ?_ ?_ <;> intro h
   ·refine .g (.qn z (.ret ?_))
    cases h
    exact ⟨by simp,z,fin_ret (vs:=[_]) () (rt z rn) z (hS.to [] z)⟩
   refine .skip (.region (.q z (.q z (.q z (.nil ?_)))))
   cases h
   exact ⟨z,sb z,hS.to [] z⟩
  refine .exit ?_
  cases h
  exact ⟨by simp,z,sb z,hS.to [] z⟩
 intro x E W hJ
 rcases y1 with o3 | o4
 ·obtain ⟨rfl,hF⟩:=hJ
  refine ⟨_,fun _ _ h=>h,?_⟩
  cases h
  exact hF
 obtain ⟨rfl,hE,hS⟩:=hJ
 refine ⟨_,hE.sub,?_⟩
 cases h
 exact .g (.q z (.s (lenv (hS.keep q_0) T.u25 z z) z (.q z (.qn z (.ret (fin_ret (vs:=[_]) () (rt z rn) z (hS.to [] z)))))))
theorem fdf {a0 : List Int} {v_0 : Hd} {w : World} {r : (List Box)} (h : f78 a0 = some r) (q_0 : RV w (Old No w) (sv v_0) 3 1 (D.int .i64) a0) : Calls Tryz.prog 34 #[(sv v_0)] w (Ret No w (fun s : Hd=>(sv s)) (fun s=>[rowV (sv s) 61 2 dBox r])):=by
 unfold f78 at h
 refine enter Tryz.func34 z z ?_
 have hS:=Sep.start w
 refine .g (.qn z (.g (.c (.ligv (L1:=[]) [] dBox T.u24 T.t61 (hS.to [] z) z z z (.nil) ?_ z (fun _=>z) z z z z z))))
 intro v1 W hS
 refine .qn z (.seq (.g (.qn z (.block ?_))))
 have ⟨y1,hy1,h⟩:=bnd h
 refine .via (.iter (fun s1 E' W'=>∃ (v4 : Hd),SubL E' [(0,(sv v_0)),(3,(sv v4)),(4,.int .i64 s1.2)] ∧ Sep No w W' [rowV (sv v4) 61 2 dBox s1.1]) (fun y2 x E' W'=>x = .exit 0 ∧ ∃ (v5 : Hd),SubL E' [(3,(sv v5))] ∧ Sep No w W' [rowV (sv v5) 61 2 dBox y2]) hy1 ⟨v1,sb z,hS.to [0] z⟩ ?_) ?_
 ·intro s1 y3 E W h hI
  obtain ⟨v3,hE,hS⟩:=hI
  refine CW.sub hE ?_
  unfold f6j at h
  refine .seq (.g (.q z (.q z (.s (lenv (hS.keep q_0) T.u25 z z) z (.q z (.nil ?_))))))
  refine .cs z h ?_ ?_ <;> intro h
  ·refine .skip (.seq (.block (.region (.q z (.q z (.q z ?_))))))
   have ⟨x1,hx1,h⟩:=bnd h
   refine .s (ixv (hS.keep q_0) hx1 T.u25 T.t3 z z z) z (.s (lde (RV.flat (hS.keep q_0) hx1 z) T.t3 z z z z z) z (.c (.liv [] (D.int .i64) T.u25 T.t3 hS z z z z ?_ z (fun _=>z) z z z z)))
   intro v6 W hS
   refine .s (bs T.s61 z z) z (.c (.ligv (L1:=[rowV (sv v6) 3 1 (D.int .i64) []]) [(Box.mk x1 [])] dBox T.u24 T.t61 (hS.to [0,0] z) z z z (.agg (.flat (c1:=[.int .i64 x1]) z (.row .nil))) ?_ z (fun _=>z) z z z z z))
   intro v7 W hS
   have ⟨r1,hr1,h⟩:=bnd h
   refine .c (.appv hr1 (hS.to [1,0] z) T.u24 T.t61 z z z ?_ z z z z z)
   intro v8 W hS
   refine .qn z (.region (.q z (.q z (.q z (.nil ?_)))))
   cases h
   exact ⟨z,v8,sb z,hS.to [0] z⟩
  refine .exit ?_
  cases h
  exact ⟨by simp,z,v3,sb z,hS.to [0] z⟩
 intro x E W hJ
 obtain ⟨rfl,v9,hE,hS⟩:=hJ
 refine ⟨_,hE.sub,?_⟩
 obtain rfl:=Option.some.inj h
 exact .g (.q z (.qn z (.ret (fin_ret (vs:=[_]) v9 (rt z rn) z (hS.to [0] z)))))
theorem f2k {a0 : Instr} {a1 : Int} {a2 : Int} {a3 : Int} {w : World} {r : Bool} (h : f1n a0 a1 a2 a3 = some r) : Calls Tryz.prog 109 #[.agg #[.int .i64 a0.Op,.int .i64 a0.Rd,.int .i64 a0.Rs,.int .i64 a0.Rt,.int .i64 a0.Imm],.int .i64 a1,.int .i64 a2,.int .i64 a3] w (Ret No w (fun s : Unit=>.bool r) (fun s=>[])):=by
 unfold f1n at h
 refine enter Tryz.func109 z z ?_
 have hS:=Sep.start w
 refine .g (.c (.box hS z z ?_ z z))
 intro g1 W hS
 refine .qn z (.g (.s (fa T.f105_1 z z z) z (.s (ld T.t3 hS z z z z z) z (.q z (.q z ?_)))))
 have ⟨y1,hy1,h⟩:=bnd h
 refine .c (.call0 hS Tryz.func27 (f04 hy1) z z ?_ z z z z)
 intro W hS
 refine .q z ?_
 have ⟨b1,hb1,h⟩:=bnd h
 refine .chunk 6 20 (b1) hS ?_ ?_
 ·refine .both (y1) (fun hb=>?_) (fun hb=>?_)
  ·have hg1:=hb
   have h:=sel_t hb hb1
   refine .g hg1 (.s (fa T.f105_2 z z z) z (.g hg1 (.s (ld T.t3 hS z z z z z) z (.g hg1 (.q z (.g hg1 (.q z ?_) z)) z)) z)) z
   have ⟨y2,hy2,h⟩:=bnd h
   refine .g hg1 (.c (.call0 hS Tryz.func27 (f04 hy2) z z ?_ z z z z)) z
   intro W hS
   refine .s (pkt hg1 z z z) z ?_
   cases h
   exact .nil (ck 6 hS z z z z)
  refine .xx hb z (.xx hb z (.xx hb z (.xx hb z (.xx hb z ?_))))
  cases sel_f hb hb1
  exact .s (pkf hb z z z) z (.nil (ck 6 hS z z z z))
 intro W hS
 refine .q z ?_
 have ⟨b2,hb2,h⟩:=bnd h
 refine .chunk 6 27 (b2) hS ?_ ?_
 ·refine .both (b1) (fun hb=>?_) (fun hb=>?_)
  ·have hg2:=hb
   have h:=sel_t hb hb2
   refine .g hg2 (.s (fa T.f105_3 z z z) z (.g hg2 (.s (ld T.t3 hS z z z z z) z (.g hg2 (.q z (.g hg2 (.q z ?_) z)) z)) z)) z
   have ⟨y3,hy3,h⟩:=bnd h
   refine .g hg2 (.c (.call0 hS Tryz.func27 (f04 hy3) z z ?_ z z z z)) z
   intro W hS
   refine .s (pkt hg2 z z z) z ?_
   cases h
   exact .nil (ck 6 hS z z z z)
  refine .xx hb z (.xx hb z (.xx hb z (.xx hb z (.xx hb z ?_))))
  cases sel_f hb hb2
  exact .s (pkf hb z z z) z (.nil (ck 6 hS z z z z))
 intro W hS
 obtain rfl:=Option.some.inj h
 exact .qn z (.ret (fin_ret (vs:=[_]) () (rt z rn) z (hS.to [] z)))
theorem fbb {a0 : Int} {a1 : Int} {a2 : Int} {w : World} {r : Bool} (h : f5l a0 a1 a2 = some r) : Calls Tryz.prog 110 #[.int .i64 a0,.int .i64 a1,.int .i64 a2] w (Ret No w (fun s : Unit=>.bool r) (fun s=>[])):=by
 unfold f5l at h
 refine enter Tryz.func110 z z ?_
 have hS:=Sep.start w
 refine .g (.qn z (.g (.q z (.q z (.q z ?_)))))
 have ⟨y1,hy1,h⟩:=bnd h
 refine .c (.call0 hS Tryz.func27 (f04 hy1) z z ?_ z z z z)
 intro W hS
 refine .q z (.chunk 4 15 (y1 && ((Int.tmod a0 2) == 0)) hS ?_ ?_)
 ·refine .both (y1) (fun hb=>?_) (fun hb=>?_)
  ·have hg1:=hb
   exact .g hg1 (.q z (.g hg1 (.q z (.g hg1 (.q z (.s (pkt hg1 z z z) z (.nil (ck 4 hS z (and_t hg1) z z)))) z)) z)) z
  exact .xx hb z (.xx hb z (.xx hb z (.s (pkf hb z z z) z (.nil (ck 4 hS z (and_f hb) z z)))))
 intro W hS
 cases h
 exact .qn z (.ret (fin_ret (vs:=[_]) () (rt z rn) z (hS.to [] z)))
theorem fc8 {a0 : Instr} {w : World} {r : Bool} (h : f2m a0 = some r) : Calls Tryz.prog 85 #[.agg #[.int .i64 a0.Op,.int .i64 a0.Rd,.int .i64 a0.Rs,.int .i64 a0.Rt,.int .i64 a0.Imm]] w (Ret No w (fun s : Unit=>.bool r) (fun s=>[])):=by
 unfold f2m at h
 refine enter Tryz.func85 z z ?_
 have hS:=Sep.start w
 refine .g (.c (.box hS z z ?_ z z))
 intro g1 W hS
 refine .qn z (.seq (.block (.g (.s (fa T.f105_0 z z z) z (.s (ld T.t3 hS z z z z z) z ?_)))))
 have ⟨y1,hy1,h⟩:=bnd h
 refine .c (.call0 hS Tryz.func27 (f04 hy1) z z ?_ z z z z)
 intro W hS
 refine .q z (.nil ?_)
 refine .cs z h ?_ ?_ <;> intro h
 ·refine .g (.s (ld T.t105 hS z z z z z) z ?_)
  have ⟨y2,hy2,h⟩:=bnd h
  refine .c (.call0 hS Tryz.func109 (f2k hy2) z z ?_ z z z z)
  intro W hS
  refine .q z (.chunk 4 13 (y2 && (a0.Imm == 0)) hS ?_ ?_)
  ·refine .both (y2) (fun hb=>?_) (fun hb=>?_)
   ·have hg1:=hb
    exact .g hg1 (.s (fa T.f105_4 z z z) z (.g hg1 (.s (ld T.t3 hS z z z z z) z (.g hg1 (.q z (.s (pkt hg1 z z z) z (.nil (ck 4 hS z (and_t hg1) z z)))) z)) z)) z
   exact .xx hb z (.xx hb z (.xx hb z (.s (pkf hb z z z) z (.nil (ck 4 hS z (and_f hb) z z)))))
  intro W hS
  cases h
  exact .qn z (.ret (fin_ret (vs:=[_]) () (rt z rn) z (hS.to [] z)))
 refine .g (.s (fa T.f105_0 z z z) z (.s (ld T.t3 hS z z z z z) z ?_))
 have ⟨y3,hy3,h⟩:=bnd h
 refine .c (.call0 hS Tryz.func27 (f04 hy3) z z ?_ z z z z)
 intro W hS
 refine .q z (.nil ?_)
 refine .cs z h ?_ ?_ <;> intro h
 ·refine .g (.s (ld T.t105 hS z z z z z) z ?_)
  have ⟨y4,hy4,h⟩:=bnd h
  refine .c (.call0 hS Tryz.func109 (f2k hy4) z z ?_ z z z z)
  intro W hS
  refine .q z ?_
  have ⟨b1,hb1,h⟩:=bnd h
  refine .chunk 4 24 (b1) hS ?_ ?_
  ·refine .both (y4) (fun hb=>?_) (fun hb=>?_)
   ·have hg2:=hb
    have h:=sel_t hb hb1
    refine .g hg2 (.s (fa T.f105_4 z z z) z (.g hg2 (.s (ld T.t3 hS z z z z z) z ?_) z)) z
    have ⟨y5,hy5,h⟩:=bnd h
    refine .g hg2 (.c (.call0 hS Tryz.func27 (f04 hy5) z z ?_ z z z z)) z
    intro W hS
    refine .s (pkt hg2 z z z) z ?_
    cases h
    exact .nil (ck 4 hS z z z z)
   refine .xx hb z (.xx hb z (.xx hb z ?_))
   cases sel_f hb hb1
   exact .s (pkf hb z z z) z (.nil (ck 4 hS z z z z))
  intro W hS
  obtain rfl:=Option.some.inj h
  exact .qn z (.ret (fin_ret (vs:=[_]) () (rt z rn) z (hS.to [] z)))
 refine .g (.s (fa T.f105_0 z z z) z (.s (ld T.t3 hS z z z z z) z (.q z (.q z (.nil ?_)))))
 refine .cs z h ?_ ?_ <;> intro h
 ·refine .g (.s (ld T.t105 hS z z z z z) z ?_)
  have ⟨y6,hy6,h⟩:=bnd h
  refine .c (.call0 hS Tryz.func109 (f2k hy6) z z ?_ z z z z)
  intro W hS
  refine .q z ?_
  have ⟨b2,hb2,h⟩:=bnd h
  refine .chunk 4 35 (b2) hS ?_ ?_
  ·refine .both (y6) (fun hb=>?_) (fun hb=>?_)
   ·have hg3:=hb
    have h:=sel_t hb hb2
    refine .g hg3 (.s (fa T.f105_4 z z z) z (.g hg3 (.s (ld T.t3 hS z z z z z) z ?_) z)) z
    have ⟨y7,hy7,h⟩:=bnd h
    refine .g hg3 (.c (.call0 hS Tryz.func27 (f04 hy7) z z ?_ z z z z)) z
    intro W hS
    refine .s (pkt hg3 z z z) z ?_
    cases h
    exact .nil (ck 4 hS z z z z)
   refine .xx hb z (.xx hb z (.xx hb z ?_))
   cases sel_f hb hb2
   exact .s (pkf hb z z z) z (.nil (ck 4 hS z z z z))
  intro W hS
  obtain rfl:=Option.some.inj h
  exact .qn z (.ret (fin_ret (vs:=[_]) () (rt z rn) z (hS.to [] z)))
 refine .g (.s (fa T.f105_0 z z z) z (.s (ld T.t3 hS z z z z z) z (.q z (.q z (.chunk 4 44 ((a0.Op == 17) || (a0.Op == 18)) hS ?_ ?_)))))
 ·refine .both (a0.Op == 17) (fun hb=>?_) (fun hb=>?_)
  ·exact .xx hb z (.xx hb z (.xx hb z (.s (pkt hb z z z) z (.nil (ck 4 hS z (or_t hb) z z)))))
  have hg4:=hb
  exact .g hg4 (.s (fa T.f105_0 z z z) z (.g hg4 (.s (ld T.t3 hS z z z z z) z (.g hg4 (.q z (.s (pkf hg4 z z z) z (.nil (ck 4 hS z (or_f hg4) z z)))) z)) z)) z
 intro W hS
 refine .q z (.nil ?_)
 refine .cs z h ?_ ?_ <;> intro h
 ·refine .g (.s (ld T.t105 hS z z z z z) z ?_)
  have ⟨y8,hy8,h⟩:=bnd h
  refine .c (.call0 hS Tryz.func109 (f2k hy8) z z ?_ z z z z)
  intro W hS
  refine .q z ?_
  have ⟨b3,hb3,h⟩:=bnd h
  refine .chunk 4 51 (b3) hS ?_ ?_
  ·refine .both (y8) (fun hb=>?_) (fun hb=>?_)
   ·have hg5:=hb
    have h:=sel_t hb hb3
    refine .g hg5 (.s (fa T.f105_4 z z z) z (.g hg5 (.s (ld T.t3 hS z z z z z) z ?_) z)) z
    have ⟨y9,hy9,h⟩:=bnd h
    refine .g hg5 (.c (.call0 hS Tryz.func110 (fbb hy9) z z ?_ z z z z)) z
    intro W hS
    refine .s (pkt hg5 z z z) z ?_
    cases h
    exact .nil (ck 4 hS z z z z)
   refine .xx hb z (.xx hb z (.xx hb z ?_))
   cases sel_f hb hb3
   exact .s (pkf hb z z z) z (.nil (ck 4 hS z z z z))
  intro W hS
  obtain rfl:=Option.some.inj h
  exact .qn z (.ret (fin_ret (vs:=[_]) () (rt z rn) z (hS.to [] z)))
 refine .g (.s (fa T.f105_0 z z z) z (.s (ld T.t3 hS z z z z z) z (.q z (.q z (.nil ?_)))))
 refine .cs z h ?_ ?_ <;> intro h
 ·refine .g (.s (ld T.t105 hS z z z z z) z ?_)
  have ⟨y10,hy10,h⟩:=bnd h
  refine .c (.call0 hS Tryz.func109 (f2k hy10) z z ?_ z z z z)
  intro W hS
  refine .q z ?_
  have ⟨b4,hb4,h⟩:=bnd h
  refine .chunk 4 62 (b4) hS ?_ ?_
  ·refine .both (y10) (fun hb=>?_) (fun hb=>?_)
   ·have hg6:=hb
    have h:=sel_t hb hb4
    refine .g hg6 (.s (fa T.f105_4 z z z) z (.g hg6 (.s (ld T.t3 hS z z z z z) z ?_) z)) z
    have ⟨y11,hy11,h⟩:=bnd h
    refine .g hg6 (.c (.call0 hS Tryz.func27 (f04 hy11) z z ?_ z z z z)) z
    intro W hS
    refine .s (pkt hg6 z z z) z ?_
    cases h
    exact .nil (ck 4 hS z z z z)
   refine .xx hb z (.xx hb z (.xx hb z ?_))
   cases sel_f hb hb4
   exact .s (pkf hb z z z) z (.nil (ck 4 hS z z z z))
  intro W hS
  obtain rfl:=Option.some.inj h
  exact .qn z (.ret (fin_ret (vs:=[_]) () (rt z rn) z (hS.to [] z)))
 refine .g (.s (fa T.f105_0 z z z) z (.s (ld T.t3 hS z z z z z) z (.q z (.q z (.nil ?_)))))
 refine .cs z h ?_ ?_ <;> intro h
 ·refine .g (.s (ld T.t105 hS z z z z z) z ?_)
  have ⟨y12,hy12,h⟩:=bnd h
  refine .c (.call0 hS Tryz.func109 (f2k hy12) z z ?_ z z z z)
  intro W hS
  refine .q z ?_
  have ⟨b5,hb5,h⟩:=bnd h
  refine .chunk 4 73 (b5) hS ?_ ?_
  ·refine .both (y12) (fun hb=>?_) (fun hb=>?_)
   ·have hg7:=hb
    have h:=sel_t hb hb5
    refine .g hg7 (.s (fa T.f105_4 z z z) z (.g hg7 (.s (ld T.t3 hS z z z z z) z ?_) z)) z
    have ⟨y13,hy13,h⟩:=bnd h
    refine .g hg7 (.c (.call0 hS Tryz.func110 (fbb hy13) z z ?_ z z z z)) z
    intro W hS
    refine .s (pkt hg7 z z z) z ?_
    cases h
    exact .nil (ck 4 hS z z z z)
   refine .xx hb z (.xx hb z (.xx hb z ?_))
   cases sel_f hb hb5
   exact .s (pkf hb z z z) z (.nil (ck 4 hS z z z z))
  intro W hS
  obtain rfl:=Option.some.inj h
  exact .qn z (.ret (fin_ret (vs:=[_]) () (rt z rn) z (hS.to [] z)))
 refine .skip (.g (.s (fa T.f105_0 z z z) z (.s (ld T.t3 hS z z z z z) z (.q z (.q z ?_)))))
 have ⟨b6,hb6,h⟩:=bnd h
 refine .chunk 3 80 (b6) hS ?_ ?_
 ·refine .both (a0.Op == 21) (fun hb=>?_) (fun hb=>?_)
  ·have hg8:=hb
   have h:=sel_t hb hb6
   refine .g hg8 (.s (ld T.t105 hS z z z z z) z ?_) z
   have ⟨y14,hy14,h⟩:=bnd h
   refine .g hg8 (.c (.call0 hS Tryz.func109 (f2k hy14) z z ?_ z z z z)) z
   intro W hS
   refine .s (pkt hg8 z z z) z ?_
   cases h
   exact .nil (ck 3 hS z z z z)
  refine .xx hb z (.xx hb z ?_)
  cases sel_f hb hb6
  exact .s (pkf hb z z z) z (.nil (ck 3 hS z z z z))
 intro W hS
 refine .q z (.chunk 4 85 (b6 && (a0.Imm == 0)) hS ?_ ?_)
 ·refine .both (b6) (fun hb=>?_) (fun hb=>?_)
  ·have hg9:=hb
   exact .g hg9 (.s (fa T.f105_4 z z z) z (.g hg9 (.s (ld T.t3 hS z z z z z) z (.g hg9 (.q z (.s (pkt hg9 z z z) z (.nil (ck 4 hS z (and_t hg9) z z)))) z)) z)) z
  exact .xx hb z (.xx hb z (.xx hb z (.s (pkf hb z z z) z (.nil (ck 4 hS z (and_f hb) z z)))))
 intro W hS
 cases h
 exact .qn z (.ret (fin_ret (vs:=[_]) () (rt z rn) z (hS.to [] z)))
theorem f8j {a0 : Int} {a1 : Int} {w : World} {r : Int} (h : f43 a0 a1 = some r) : Calls Tryz.prog 112 #[.int .i64 a0,.int .i64 a1] w (Ret No w (fun s : Unit=>.int .i64 r) (fun s=>[])):=by
 unfold f43 at h
 refine enter Tryz.func112 z z ?_
 have hS:=Sep.start w
 refine .g (.qn z (.seq (.g (.q z (.q z (.nil ?_))))))
 refine .cs z h ?_ ?_ <;> intro h
 ·cases h
  exact .g (.q z (.q z (.q z (.qn z (.ret (fin_ret (vs:=[_]) () (rt z rn) z (hS.to [] z)))))))
 obtain rfl:=Option.some.inj h
 exact .skip (.g (.q z (.qn z (.ret (fin_ret (vs:=[_]) () (rt z rn) z (hS.to [] z))))))
theorem f0e {a0 : Int} {a1 : Int} {w : World} {r : Int} (h : f0h a0 a1 = some r) : Calls Tryz.prog 113 #[.int .i64 a0,.int .i64 a1] w (Ret No w (fun s : Unit=>.int .i64 r) (fun s=>[])):=by
 unfold f0h at h
 refine enter Tryz.func113 z z ?_
 have hS:=Sep.start w
 refine .g (.qn z (.g (.q z (.q z ?_))))
 have ⟨y1,hy1,h⟩:=bnd h
 refine .c (.call0 hS Tryz.func108 (f3i hy1) z z ?_ z z z z)
 intro W hS
 cases h
 exact .q z (.qn z (.ret (fin_ret (vs:=[_]) () (rt z rn) z (hS.to [] z))))
theorem fb5 {a0 : Int} {w : World} {r : Int} (h : f4u a0 = some r) : Calls Tryz.prog 118 #[.int .i64 a0] w (Ret No w (fun s : Unit=>.int .i64 r) (fun s=>[])):=by
 unfold f4u at h
 refine enter Tryz.func118 z z ?_
 have hS:=Sep.start w
 refine .g (.qn z (.g (.c (.liv [0,0,0,4,6,7,6,4,1,5,2,0,3,2,0,2,0,1,0,0,0] (D.int .i64) T.u25 T.t3 hS z z z z ?_ z (fun _=>z) z z z z))))
 intro v1 W hS
 refine .q z (.q z ?_)
 have ⟨x1,hx1,h⟩:=bnd h
 obtain rfl:=Option.some.inj h
 exact .s (ixv hS.lendv hx1 T.u25 T.t3 z z z) z (.s (lde (RV.flat hS.lendv hx1 z) T.t3 z z z z z) z (.qn z (.ret (fin_ret (vs:=[_]) () (rt z rn) z (hS.to [] z)))))
theorem f8k {a0 : Instr} {a1 : Int} {w : World} {r : Int} (h : f41 a0 a1 = some r) : Calls Tryz.prog 114 #[.agg #[.int .i64 a0.Op,.int .i64 a0.Rd,.int .i64 a0.Rs,.int .i64 a0.Rt,.int .i64 a0.Imm],.int .i64 a1] w (Ret No w (fun s : Unit=>.int .i64 r) (fun s=>[])):=by
 unfold f41 at h
 refine enter Tryz.func114 z z ?_
 have hS:=Sep.start w
 refine .g (.c (.box hS z z ?_ z z))
 intro g1 W hS
 refine .qn z (.seq (.rk 11 hS [0] T.mix ?_))
 intro W hS
 have hT:=hS.to [0] z
 refine .ts 0 z (fun W hT=>fa T.f105_2 z z z) hT z (by kernel_rfl) (.ts 1 z (fun W hT=>ld T.t3 hT z z z z z) hT z (by kernel_rfl) (.ts 3 z (fun W hT=>fa T.f105_0 z z z) hT z (by kernel_rfl) (.ts 4 z (fun W hT=>ld T.t3 hT z z z z z) hT z (by kernel_rfl) (.tp 8 z z hT (by kernel_rfl) ?_))))
 have ⟨y1,hy1,h⟩:=bnd h
 refine .by1 2 z (.call0 hS Tryz.func113 (f0e hy1) z z ?_ z z z z) (by kernel_rfl)
 intro W hS
 have hT:=hS.to [0] z
 refine ⟨fun _=>hT,?_⟩
 have ⟨y2,hy2,h⟩:=bnd h
 refine .by1 5 z (.call0 hS Tryz.func118 (fb5 hy2) z z ?_ z z z z) (by kernel_rfl)
 intro W hS
 have hT:=hS.to [0] z
 refine ⟨fun _=>hT,?_⟩
 have ⟨y3,hy3,h⟩:=bnd h
 refine .by1 6 z (.call0 hS Tryz.func113 (f0e hy3) z z ?_ z z z z) (by kernel_rfl)
 intro W hS
 have hT:=hS.to [0] z
 refine ⟨fun _=>hT,?_⟩
 cases h
 exact .tp 7 z z hT (by kernel_rfl) (.tp 9 z z hT (by kernel_rfl) (.tp 10 z z hT (by kernel_rfl) (.done (.ret (fin_ret (vs:=[_]) () (rt z rn) z (hS.to [] z))) (by kernel_rfl))))
theorem faf {a0 : Instr} {a1 : Int} {w : World} {r : Int} (h : f5d a0 a1 = some r) : Calls Tryz.prog 111 #[.agg #[.int .i64 a0.Op,.int .i64 a0.Rd,.int .i64 a0.Rs,.int .i64 a0.Rt,.int .i64 a0.Imm],.int .i64 a1] w (Ret No w (fun s : Unit=>.int .i64 r) (fun s=>[])):=by
 unfold f5d at h
 refine enter Tryz.func111 z z ?_
 have hS:=Sep.start w
 refine .g (.c (.box hS z z ?_ z z))
 intro g1 W hS
 refine .qn z (.seq (.rk 13 hS [0] T.mix ?_))
 intro W hS
 have hT:=hS.to [0] z
 refine .ts 0 z (fun W hT=>fa T.f105_4 z z z) hT z (by kernel_rfl) (.ts 1 z (fun W hT=>ld T.t3 hT z z z z z) hT z (by kernel_rfl) (.ts 4 z (fun W hT=>ld T.t105 hT z z z z z) hT z (by kernel_rfl) (.tp 5 z z hT (by kernel_rfl) (.ts 8 z (fun W hT=>fa T.f105_1 z z z) hT z (by kernel_rfl) (.ts 9 z (fun W hT=>ld T.t3 hT z z z z z) hT z (by kernel_rfl) ?_)))))
 have ⟨y1,hy1,h⟩:=bnd h
 refine .by1 2 z (.call0 hS Tryz.func112 (f8j hy1) z z ?_ z z z z) (by kernel_rfl)
 intro W hS
 have hT:=hS.to [0] z
 refine ⟨fun _=>hT,?_⟩
 have ⟨y2,hy2,h⟩:=bnd h
 refine .by1 3 z (.call0 hS Tryz.func113 (f0e hy2) z z ?_ z z z z) (by kernel_rfl)
 intro W hS
 have hT:=hS.to [0] z
 refine ⟨fun _=>hT,?_⟩
 have ⟨y3,hy3,h⟩:=bnd h
 refine .by1 6 z (.call0 hS Tryz.func114 (f8k hy3) z z ?_ z z z z) (by kernel_rfl)
 intro W hS
 have hT:=hS.to [0] z
 refine ⟨fun _=>hT,.tp 7 z z hT (by kernel_rfl) ?_⟩
 have ⟨y4,hy4,h⟩:=bnd h
 refine .by1 10 z (.call0 hS Tryz.func113 (f0e hy4) z z ?_ z z z z) (by kernel_rfl)
 intro W hS
 have hT:=hS.to [0] z
 refine ⟨fun _=>hT,?_⟩
 cases h
 exact .tp 11 z z hT (by kernel_rfl) (.tp 12 z z hT (by kernel_rfl) (.done (.ret (fin_ret (vs:=[_]) () (rt z rn) z (hS.to [] z))) (by kernel_rfl)))
theorem fcu {a0 : Instr} {w : World} {r : Int} (h : f62 a0 = some r) : Calls Tryz.prog 115 #[.agg #[.int .i64 a0.Op,.int .i64 a0.Rd,.int .i64 a0.Rs,.int .i64 a0.Rt,.int .i64 a0.Imm]] w (Ret No w (fun s : Unit=>.int .i64 r) (fun s=>[])):=by
 unfold f62 at h
 refine enter Tryz.func115 z z ?_
 have hS:=Sep.start w
 refine .g (.c (.box hS z z ?_ z z))
 intro g1 W hS
 refine .qn z (.g (.s (fa T.f105_4 z z z) z (.s (ld T.t3 hS z z z z z) z ?_)))
 have ⟨y1,hy1,h⟩:=bnd h
 refine .c (.call0 hS Tryz.func112 (f8j hy1) z z ?_ z z z z)
 intro W hS
 refine .qn z (.seq (.rk 12 hS [0] T.mix ?_))
 intro W hS
 have hT:=hS.to [0] z
 refine .tp 0 z z hT (by kernel_rfl) (.tp 3 z z hT (by kernel_rfl) (.ts 7 z (fun W hT=>fa T.f105_3 z z z) hT z (by kernel_rfl) (.ts 8 z (fun W hT=>ld T.t3 hT z z z z z) hT z (by kernel_rfl) ?_)))
 have ⟨y2,hy2,h⟩:=bnd h
 refine .by1 1 z (.call0 hS Tryz.func83 (f07 hy2) z z ?_ z z z z) (by kernel_rfl)
 intro W hS
 have hT:=hS.to [0] z
 refine ⟨fun _=>hT,?_⟩
 have ⟨y3,hy3,h⟩:=bnd h
 refine .by1 2 z (.call0 hS Tryz.func113 (f0e hy3) z z ?_ z z z z) (by kernel_rfl)
 intro W hS
 have hT:=hS.to [0] z
 refine ⟨fun _=>hT,?_⟩
 have ⟨y4,hy4,h⟩:=bnd h
 refine .by1 4 z (.call0 hS Tryz.func83 (f07 hy4) z z ?_ z z z z) (by kernel_rfl)
 intro W hS
 have hT:=hS.to [0] z
 refine ⟨fun _=>hT,?_⟩
 have ⟨y5,hy5,h⟩:=bnd h
 refine .by1 5 z (.call0 hS Tryz.func113 (f0e hy5) z z ?_ z z z z) (by kernel_rfl)
 intro W hS
 have hT:=hS.to [0] z
 refine ⟨fun _=>hT,.tp 6 z z hT (by kernel_rfl) ?_⟩
 have ⟨y6,hy6,h⟩:=bnd h
 refine .by1 9 z (.call0 hS Tryz.func113 (f0e hy6) z z ?_ z z z z) (by kernel_rfl)
 intro W hS
 have hT:=hS.to [0] z
 refine ⟨fun _=>hT,.tp 10 z z hT (by kernel_rfl) (.tp 11 z z hT (by kernel_rfl) (.done (.g (.q z (.s (ld T.t105 hS z z z z z) z ?_))) (by kernel_rfl)))⟩
 have ⟨y7,hy7,h⟩:=bnd h
 refine .c (.call0 hS Tryz.func114 (f8k hy7) z z ?_ z z z z)
 intro W hS
 refine .q z (.q z ?_)
 have ⟨y8,hy8,h⟩:=bnd h
 refine .c (.call0 hS Tryz.func83 (f07 hy8) z z ?_ z z z z)
 intro W hS
 have ⟨y9,hy9,h⟩:=bnd h
 refine .c (.call0 hS Tryz.func113 (f0e hy9) z z ?_ z z z z)
 intro W hS
 refine .q z (.q z ?_)
 have ⟨y10,hy10,h⟩:=bnd h
 refine .c (.call0 hS Tryz.func83 (f07 hy10) z z ?_ z z z z)
 intro W hS
 have ⟨y11,hy11,h⟩:=bnd h
 refine .c (.call0 hS Tryz.func113 (f0e hy11) z z ?_ z z z z)
 intro W hS
 cases h
 exact .q z (.qn z (.ret (fin_ret (vs:=[_]) () (rt z rn) z (hS.to [] z))))
theorem fed {a0 : Instr} {w : World} {r : Int} (h : f8d a0 = some r) : Calls Tryz.prog 116 #[.agg #[.int .i64 a0.Op,.int .i64 a0.Rd,.int .i64 a0.Rs,.int .i64 a0.Rt,.int .i64 a0.Imm]] w (Ret No w (fun s : Unit=>.int .i64 r) (fun s=>[])):=by
 unfold f8d at h
 refine enter Tryz.func116 z z ?_
 have hS:=Sep.start w
 refine .g (.c (.box hS z z ?_ z z))
 intro g1 W hS
 refine .qn z (.g (.s (fa T.f105_4 z z z) z (.s (ld T.t3 hS z z z z z) z ?_)))
 have ⟨y1,hy1,h⟩:=bnd h
 refine .c (.call0 hS Tryz.func112 (f8j hy1) z z ?_ z z z z)
 intro W hS
 refine .qn z (.g (.q z ?_))
 have ⟨y2,hy2,h⟩:=bnd h
 refine .c (.call0 hS Tryz.func83 (f07 hy2) z z ?_ z z z z)
 intro W hS
 have ⟨y3,hy3,h⟩:=bnd h
 refine .c (.call0 hS Tryz.func113 (f0e hy3) z z ?_ z z z z)
 intro W hS
 refine .q z ?_
 have ⟨y4,hy4,h⟩:=bnd h
 refine .c (.call0 hS Tryz.func83 (f07 hy4) z z ?_ z z z z)
 intro W hS
 have ⟨y5,hy5,h⟩:=bnd h
 refine .c (.call0 hS Tryz.func113 (f0e hy5) z z ?_ z z z z)
 intro W hS
 refine .q z (.q z ?_)
 have ⟨y6,hy6,h⟩:=bnd h
 refine .c (.call0 hS Tryz.func83 (f07 hy6) z z ?_ z z z z)
 intro W hS
 have ⟨y7,hy7,h⟩:=bnd h
 refine .c (.call0 hS Tryz.func113 (f0e hy7) z z ?_ z z z z)
 intro W hS
 refine .q z (.qn z (.seq (.rk 11 hS [0] T.mix ?_)))
 intro W hS
 have hT:=hS.to [0] z
 refine .tp 0 z z hT (by kernel_rfl) (.tp 1 z z hT (by kernel_rfl) (.ts 5 z (fun W hT=>fa T.f105_1 z z z) hT z (by kernel_rfl) (.ts 6 z (fun W hT=>ld T.t3 hT z z z z z) hT z (by kernel_rfl) ?_)))
 have ⟨y8,hy8,h⟩:=bnd h
 refine .by1 2 z (.call0 hS Tryz.func83 (f07 hy8) z z ?_ z z z z) (by kernel_rfl)
 intro W hS
 have hT:=hS.to [0] z
 refine ⟨fun _=>hT,?_⟩
 have ⟨y9,hy9,h⟩:=bnd h
 refine .by1 3 z (.call0 hS Tryz.func113 (f0e hy9) z z ?_ z z z z) (by kernel_rfl)
 intro W hS
 have hT:=hS.to [0] z
 refine ⟨fun _=>hT,.tp 4 z z hT (by kernel_rfl) ?_⟩
 have ⟨y10,hy10,h⟩:=bnd h
 refine .by1 7 z (.call0 hS Tryz.func113 (f0e hy10) z z ?_ z z z z) (by kernel_rfl)
 intro W hS
 have hT:=hS.to [0] z
 refine ⟨fun _=>hT,?_⟩
 cases h
 exact .tp 8 z z hT (by kernel_rfl) (.tp 9 z z hT (by kernel_rfl) (.tp 10 z z hT (by kernel_rfl) (.done (.ret (fin_ret (vs:=[_]) () (rt z rn) z (hS.to [] z))) (by kernel_rfl))))
theorem fb1 {a0 : Int} {w : World} {r : Int} (h : f4s a0 = some r) : Calls Tryz.prog 117 #[.int .i64 a0] w (Ret No w (fun s : Unit=>.int .i64 r) (fun s=>[])):=by
 unfold f4s at h
 refine enter Tryz.func117 z z ?_
 have hS:=Sep.start w
 refine .g (.qn z (.g (.c (.liv [0,32,1,1,1,0,0,0,0,32,0] (D.int .i64) T.u25 T.t3 hS z z z z ?_ z (fun _=>z) z z z z))))
 intro v1 W hS
 refine .q z (.q z ?_)
 have ⟨x1,hx1,h⟩:=bnd h
 obtain rfl:=Option.some.inj h
 exact .s (ixv hS.lendv hx1 T.u25 T.t3 z z z) z (.s (lde (RV.flat hS.lendv hx1 z) T.t3 z z z z z) z (.qn z (.ret (fin_ret (vs:=[_]) () (rt z rn) z (hS.to [] z)))))
theorem fan {a0 : Instr} {w : World} {r : Int} (h : f0r a0 = some r) : Calls Tryz.prog 86 #[.agg #[.int .i64 a0.Op,.int .i64 a0.Rd,.int .i64 a0.Rs,.int .i64 a0.Rt,.int .i64 a0.Imm]] w (Ret No w (fun s : Unit=>.int .i64 r) (fun s=>[])):=by
 unfold f0r at h
 refine enter Tryz.func86 z z ?_
 have hS:=Sep.start w
 refine .g (.c (.box hS z z ?_ z z))
 intro g1 W hS
 refine .qn z (.seq (.g (.s (fa T.f105_0 z z z) z (.s (ld T.t3 hS z z z z z) z (.nil (.block ?_))))))
 have ⟨y1,hy1,h⟩:=bnd h
 refine .seq (CW.via (R':=fun x E' W'=>x = .normal ∧ SubL E' [(1,.pointer (some ⟨g1,0,none⟩)),(5,.int .i64 a0.Op),(6,.bool y1)] ∧ Sep No w W' [.box g1 105 [.int .i64 a0.Op,.int .i64 a0.Rd,.int .i64 a0.Rs,.int .i64 a0.Rt,.int .i64 a0.Imm]]) ?_ ?_)
 ·have h:=hy1
  refine .g (.q z (.q z (.nil ?_)))
  refine .cs z h ?_ ?_ <;> intro h
  ·refine .skip ?_
   cases h
   exact ⟨z,sb z,hS.to [0] z⟩
  refine .region (.q z (.q z (.nil ?_)))
  cases h
  exact ⟨z,sb z,hS.to [0] z⟩
 intro x E W hJ
 obtain ⟨rfl,hE,hS⟩:=hJ
 refine ⟨_,hE.sub,?_⟩
 refine .cs z h ?_ ?_ <;> intro h
 ·refine .g (.s (ld T.t105 hS z z z z z) z ?_)
  have ⟨y2,hy2,h⟩:=bnd h
  refine .c (.call0 hS Tryz.func111 (faf hy2) z z ?_ z z z z)
  intro W hS
  obtain rfl:=Option.some.inj h
  exact .qn z (.ret (fin_ret (vs:=[_]) () (rt z rn) z (hS.to [] z)))
 refine .g (.q z (.q z (.nil ?_)))
 refine .cs z h ?_ ?_ <;> intro h
 ·refine .g (.s (ld T.t105 hS z z z z z) z ?_)
  have ⟨y3,hy3,h⟩:=bnd h
  refine .c (.call0 hS Tryz.func111 (faf hy3) z z ?_ z z z z)
  intro W hS
  obtain rfl:=Option.some.inj h
  exact .qn z (.ret (fin_ret (vs:=[_]) () (rt z rn) z (hS.to [] z)))
 refine .g (.q z (.q z (.nil ?_)))
 refine .cs z h ?_ ?_ <;> intro h
 ·refine .g (.s (ld T.t105 hS z z z z z) z ?_)
  have ⟨y4,hy4,h⟩:=bnd h
  refine .c (.call0 hS Tryz.func111 (faf hy4) z z ?_ z z z z)
  intro W hS
  obtain rfl:=Option.some.inj h
  exact .qn z (.ret (fin_ret (vs:=[_]) () (rt z rn) z (hS.to [] z)))
 refine .g (.q z (.q z (.nil ?_)))
 refine .cs z h ?_ ?_ <;> intro h
 ·refine .g (.s (fa T.f105_4 z z z) z (.s (ld T.t3 hS z z z z z) z ?_))
  have ⟨y5,hy5,h⟩:=bnd h
  refine .c (.call0 hS Tryz.func112 (f8j hy5) z z ?_ z z z z)
  intro W hS
  refine .qn z (.seq (.rk 15 hS [0] T.mix ?_))
  intro W hS
  have hT:=hS.to [0] z
  refine .tp 0 z z hT (by kernel_rfl) (.ts 3 z (fun W hT=>fa T.f105_3 z z z) hT z (by kernel_rfl) (.ts 4 z (fun W hT=>ld T.t3 hT z z z z z) hT z (by kernel_rfl) (.ts 7 z (fun W hT=>ld T.t105 hT z z z z z) hT z (by kernel_rfl) (.tp 10 z z hT (by kernel_rfl) ?_))))
  have ⟨y6,hy6,h⟩:=bnd h
  refine .by1 1 z (.call0 hS Tryz.func83 (f07 hy6) z z ?_ z z z z) (by kernel_rfl)
  intro W hS
  have hT:=hS.to [0] z
  refine ⟨fun _=>hT,?_⟩
  have ⟨y7,hy7,h⟩:=bnd h
  refine .by1 2 z (.call0 hS Tryz.func113 (f0e hy7) z z ?_ z z z z) (by kernel_rfl)
  intro W hS
  have hT:=hS.to [0] z
  refine ⟨fun _=>hT,?_⟩
  have ⟨y8,hy8,h⟩:=bnd h
  refine .by1 5 z (.call0 hS Tryz.func113 (f0e hy8) z z ?_ z z z z) (by kernel_rfl)
  intro W hS
  have hT:=hS.to [0] z
  refine ⟨fun _=>hT,.tp 6 z z hT (by kernel_rfl) ?_⟩
  have ⟨y9,hy9,h⟩:=bnd h
  refine .by1 8 z (.call0 hS Tryz.func114 (f8k hy9) z z ?_ z z z z) (by kernel_rfl)
  intro W hS
  have hT:=hS.to [0] z
  refine ⟨fun _=>hT,.tp 9 z z hT (by kernel_rfl) ?_⟩
  have ⟨y10,hy10,h⟩:=bnd h
  refine .by1 11 z (.call0 hS Tryz.func83 (f07 hy10) z z ?_ z z z z) (by kernel_rfl)
  intro W hS
  have hT:=hS.to [0] z
  refine ⟨fun _=>hT,?_⟩
  have ⟨y11,hy11,h⟩:=bnd h
  refine .by1 12 z (.call0 hS Tryz.func113 (f0e hy11) z z ?_ z z z z) (by kernel_rfl)
  intro W hS
  have hT:=hS.to [0] z
  refine ⟨fun _=>hT,?_⟩
  cases h
  exact .tp 13 z z hT (by kernel_rfl) (.tp 14 z z hT (by kernel_rfl) (.done (.ret (fin_ret (vs:=[_]) () (rt z rn) z (hS.to [] z))) (by kernel_rfl)))
 have ⟨y12,hy12,h⟩:=bnd h
 refine .seq (CW.via (R':=fun x E' W'=>x = .normal ∧ SubL E' [(1,.pointer (some ⟨g1,0,none⟩)),(5,.int .i64 a0.Op),(38,.bool y12)] ∧ Sep No w W' [.box g1 105 [.int .i64 a0.Op,.int .i64 a0.Rd,.int .i64 a0.Rs,.int .i64 a0.Rt,.int .i64 a0.Imm]]) ?_ ?_)
 ·have h:=hy12
  refine .g (.q z (.q z (.nil ?_)))
  refine .cs z h ?_ ?_ <;> intro h
  ·refine .skip ?_
   cases h
   exact ⟨z,sb z,hS.to [0] z⟩
  refine .region (.q z (.q z (.nil ?_)))
  cases h
  exact ⟨z,sb z,hS.to [0] z⟩
 intro x E W hJ
 obtain ⟨rfl,hE,hS⟩:=hJ
 refine ⟨_,hE.sub,?_⟩
 refine .cs z h ?_ ?_ <;> intro h
 ·refine .g (.s (ld T.t105 hS z z z z z) z ?_)
  have ⟨y13,hy13,h⟩:=bnd h
  refine .c (.call0 hS Tryz.func115 (fcu hy13) z z ?_ z z z z)
  intro W hS
  obtain rfl:=Option.some.inj h
  exact .qn z (.ret (fin_ret (vs:=[_]) () (rt z rn) z (hS.to [] z)))
 refine .g (.q z (.q z (.nil ?_)))
 refine .cs z h ?_ ?_ <;> intro h
 ·refine .seq (.rk 9 hS [0] T.mix ?_)
  intro W hS
  have hT:=hS.to [0] z
  refine .ts 0 z (fun W hT=>fa T.f105_4 z z z) hT z (by kernel_rfl) (.ts 1 z (fun W hT=>ld T.t3 hT z z z z z) hT z (by kernel_rfl) (.ts 3 z (fun W hT=>fa T.f105_1 z z z) hT z (by kernel_rfl) (.ts 4 z (fun W hT=>ld T.t3 hT z z z z z) hT z (by kernel_rfl) ?_)))
  have ⟨y14,hy14,h⟩:=bnd h
  refine .by1 2 z (.call0 hS Tryz.func113 (f0e hy14) z z ?_ z z z z) (by kernel_rfl)
  intro W hS
  have hT:=hS.to [0] z
  refine ⟨fun _=>hT,?_⟩
  have ⟨y15,hy15,h⟩:=bnd h
  refine .by1 5 z (.call0 hS Tryz.func113 (f0e hy15) z z ?_ z z z z) (by kernel_rfl)
  intro W hS
  have hT:=hS.to [0] z
  refine ⟨fun _=>hT,?_⟩
  cases h
  exact .tp 6 z z hT (by kernel_rfl) (.tp 7 z z hT (by kernel_rfl) (.tp 8 z z hT (by kernel_rfl) (.done (.ret (fin_ret (vs:=[_]) () (rt z rn) z (hS.to [] z))) (by kernel_rfl))))
 refine .g (.q z (.q z (.nil ?_)))
 refine .cs z h ?_ ?_ <;> intro h
 ·refine .g (.s (ld T.t105 hS z z z z z) z ?_)
  have ⟨y16,hy16,h⟩:=bnd h
  refine .c (.call0 hS Tryz.func116 (fed hy16) z z ?_ z z z z)
  intro W hS
  obtain rfl:=Option.some.inj h
  exact .qn z (.ret (fin_ret (vs:=[_]) () (rt z rn) z (hS.to [] z)))
 refine .g (.q z (.q z (.nil ?_)))
 refine .cs z h ?_ ?_ <;> intro h
 ·cases h
  exact .g (.qn z (.ret (fin_ret (vs:=[_]) () (rt z rn) z (hS.to [] z))))
 refine .skip (.seq (.rk 16 hS [0] T.mix ?_))
 intro W hS
 have hT:=hS.to [0] z
 refine .ts 0 z (fun W hT=>fa T.f105_0 z z z) hT z (by kernel_rfl) (.ts 1 z (fun W hT=>ld T.t3 hT z z z z z) hT z (by kernel_rfl) (.ts 4 z (fun W hT=>fa T.f105_3 z z z) hT z (by kernel_rfl) (.ts 5 z (fun W hT=>ld T.t3 hT z z z z z) hT z (by kernel_rfl) (.ts 8 z (fun W hT=>ld T.t105 hT z z z z z) hT z (by kernel_rfl) (.ts 11 z (fun W hT=>fa T.f105_1 z z z) hT z (by kernel_rfl) (.ts 12 z (fun W hT=>ld T.t3 hT z z z z z) hT z (by kernel_rfl) ?_))))))
 have ⟨y17,hy17,h⟩:=bnd h
 refine .by1 2 z (.call0 hS Tryz.func117 (fb1 hy17) z z ?_ z z z z) (by kernel_rfl)
 intro W hS
 have hT:=hS.to [0] z
 refine ⟨fun _=>hT,?_⟩
 have ⟨y18,hy18,h⟩:=bnd h
 refine .by1 3 z (.call0 hS Tryz.func113 (f0e hy18) z z ?_ z z z z) (by kernel_rfl)
 intro W hS
 have hT:=hS.to [0] z
 refine ⟨fun _=>hT,?_⟩
 have ⟨y19,hy19,h⟩:=bnd h
 refine .by1 6 z (.call0 hS Tryz.func113 (f0e hy19) z z ?_ z z z z) (by kernel_rfl)
 intro W hS
 have hT:=hS.to [0] z
 refine ⟨fun _=>hT,.tp 7 z z hT (by kernel_rfl) ?_⟩
 have ⟨y20,hy20,h⟩:=bnd h
 refine .by1 9 z (.call0 hS Tryz.func114 (f8k hy20) z z ?_ z z z z) (by kernel_rfl)
 intro W hS
 have hT:=hS.to [0] z
 refine ⟨fun _=>hT,.tp 10 z z hT (by kernel_rfl) ?_⟩
 have ⟨y21,hy21,h⟩:=bnd h
 refine .by1 13 z (.call0 hS Tryz.func113 (f0e hy21) z z ?_ z z z z) (by kernel_rfl)
 intro W hS
 have hT:=hS.to [0] z
 refine ⟨fun _=>hT,?_⟩
 cases h
 exact .tp 14 z z hT (by kernel_rfl) (.tp 15 z z hT (by kernel_rfl) (.done (.ret (fin_ret (vs:=[_]) () (rt z rn) z (hS.to [] z))) (by kernel_rfl)))
theorem fc2 {a0 : Instr} {w : World} {r : Int × Bool} (h : f1q a0 = some r) : Calls Tryz.prog 68 #[.agg #[.int .i64 a0.Op,.int .i64 a0.Rd,.int .i64 a0.Rs,.int .i64 a0.Rt,.int .i64 a0.Imm]] w (Ret No w (fun s : Unit=>.tuple #[.int .i64 r.1,.bool r.2]) (fun s=>[])):=by
 unfold f1q at h
 refine enter Tryz.func68 z z ?_
 have hS:=Sep.start w
 refine .g (.c (.box hS z z ?_ z z))
 intro g1 W hS
 refine .q z (.qn z (.seq (.g (.s (ld T.t105 hS z z z z z) z ?_))))
 have ⟨y1,hy1,h⟩:=bnd h
 refine .c (.call0 hS Tryz.func85 (fc8 hy1) z z ?_ z z z z)
 intro W hS
 refine .q z (.nil ?_)
 refine .cs z h ?_ ?_ <;> intro h
 ·cases h
  exact .g (.q z (.qn z (.ret (fin_ret (vs:=[_,_]) () (rt z (rt z rn)) z (hS.to [] z)))))
 refine .skip (.g (.s (ld T.t105 hS z z z z z) z ?_))
 have ⟨y2,hy2,h⟩:=bnd h
 refine .c (.call0 hS Tryz.func86 (fan hy2) z z ?_ z z z z)
 intro W hS
 cases h
 exact .q z (.qn z (.ret (fin_ret (vs:=[_,_]) () (rt z (rt z rn)) z (hS.to [] z))))
def ff1 (w : World) (S : Nat → Prop) (v_0 : Hd) (v_1 : Hd) (a0 : List Int) (a1 : List Instr) (r : (List Int) × Bool) : Env → World → Prop:=Fin Tryz.prog Tryz.f47 S w (fun s : Hd=>.tuple #[(sv s),.bool r.2]) (fun s=>[rowV (sv s) 3 1 (D.int .i64) r.1]) .ret
theorem fen {a0 : List Int} {a1 : List Instr} {v_0 : Hd} {v_1 : Hd} {S : Nat → Prop} {w : World} {r : (List Int) × Bool} (h : f7y a0 a1 = some r) (q_1 : RV w (Old S w) (sv v_1) 105 5 dInstr a1) (hO : Owns w [rowV (sv v_0) 3 1 (D.int .i64) a0] S) (hlt : ∀ b,S b → b < w.heap.size) : Calls Tryz.prog 47 #[(sv v_0),(sv v_1)] w (Ret S w (fun s : Hd=>.tuple #[(sv s),.bool r.2]) (fun s=>[rowV (sv s) 3 1 (D.int .i64) r.1])):=by
 unfold f7y at h
 refine enter Tryz.func47 z z ?_
 have hS:=Sep.startM hO hlt
 refine .g (.q z (.qn z (.seq (.g (.qn z (.block ?_))))))
 have ⟨y1,hy1,h⟩:=bnd h
 refine .via (.iter (fun s1 E' W'=>∃ (v3 : Hd),SubL E' [(0,(sv v3)),(1,(sv v_1)),(6,.int .i64 s1.2)] ∧ Sep S w W' [rowV (sv v3) 3 1 (D.int .i64) s1.1]) (fun y2 x E' W'=>(match y2 with | .inl o1=>x = .ret ∧ ff1 w S v_0 v_1 a0 a1 o1 E' W' | .inr o2=>x = .exit 0 ∧ ∃ (v4 : Hd),SubL E' [(0,(sv v4))] ∧ Sep S w W' [rowV (sv v4) 3 1 (D.int .i64) o2])) hy1 ⟨v_0,sb rfl,hS.to [0] rfl⟩ ?_) ?_
 ·intro s1 y3 E W h hI
  obtain ⟨v2,hE,hS⟩:=hI
  refine CW.sub hE ?_
  unfold f3l at h
  refine .seq (.g (.q z (.q z (.s (lenv (hS.keep q_1) T.u66 z z) z (.q z (.nil ?_))))))
  refine .cs z h ?_ ?_ <;> intro h
  ·refine .skip (.seq (.block (.g (.q z (.q z ?_)))))
   have ⟨x1,hx1,h⟩:=bnd h
   refine .s (ixv (hS.keep q_1) hx1 T.u66 T.t105 z z z) z (.s (lde (RV.flat (hS.keep q_1) hx1 z) T.t105 z z z z z) z ?_)
   have ⟨y4,hy4,h⟩:=bnd h
   refine .c (.call0 hS Tryz.func68 (fc2 hy4) z z ?_ z z z z)
   intro W hS
   refine .q z (.q z (.q z (.q z (.qn z (.seq (.g (.q z (.q z (.nil ?_)))))))))
   refine .cs z h ?_ ?_ <;> intro h
   ·refine .g (.q z (.q z (.qn z (.ret ?_))))
    cases h
    exact ⟨by simp,z,fin_ret (vs:=[_,_]) v2 (rt z (rt z rn)) z (hS.to [0] z)⟩
   refine .skip (.region (.q z (.q z ?_)))
   have ⟨y5,hy5,h⟩:=bnd h
   refine .c (.call0 hS Tryz.func69 (f10 hy5) z z ?_ z z z z)
   intro W hS
   refine .c (.liv [y5] (D.int .i64) T.u25 T.t3 hS z z z z ?_ z (fun _=>z) z z z z)
   intro v5 W hS
   have ⟨r1,hr1,h⟩:=bnd h
   have hT0:=hS.p1
   refine .c (.apprv hr1 hT0 hT0.p1.lendv (fun _=>z) T.u25 T.t3 z z z ?_ z z z z z)
   intro v6 W hS
   refine .qn z (.region (.q z (.q z (.q z (.nil ?_)))))
   cases h
   exact ⟨z,v6,sb z,hS.to [0] z⟩
  refine .exit ?_
  cases h
  exact ⟨by simp,z,v2,sb z,hS.to [0] z⟩
 intro x E W hJ
 rcases y1 with o3 | o4
 ·obtain ⟨rfl,hF⟩:=hJ
  refine ⟨_,fun _ _ h=>h,?_⟩
  cases h
  exact hF
 obtain ⟨rfl,v7,hE,hS⟩:=hJ
 refine ⟨_,hE.sub,?_⟩
 cases h
 exact .g (.q z (.q z (.qn z (.ret (fin_ret (vs:=[_,_]) v7 (rt z (rt z rn)) z (hS.to [0] z))))))
theorem fea {a0 : List Instr} {v_0 : Hd} {w : World} {r : Machine × Bool} (h : f2t a0 = some r) (q_0 : RV w (Old No w) (sv v_0) 105 5 dInstr a0) : Calls Tryz.prog 35 #[(sv v_0)] w (Ret No w (fun s : Hd × Hd=>.tuple #[.agg #[(sv s.1),.int .i64 r.1.Pc,(sv s.2)],.bool r.2]) (fun s=>[rowV (sv s.1) 3 1 (D.int .i64) r.1.Regs,rowV (sv s.2) 3 1 (D.int .i64) r.1.Mem])):=by
 unfold f2t at h
 refine enter Tryz.func35 z z ?_
 have hS:=Sep.start w
 refine .g (.c (.alloc T.t36 hS ?_ z z z))
 intro g1 W hS
 refine .qn z (.seq (.g (.q z (.s (lenv (hS.keep q_0) T.u66 z z) z (.qn z (.cond z (fun hb=>?_) (fun hb=>?_)))))))
 ·have h:=sel_t hb h
  refine .g (.s (bs T.s36 z z) z (.c (.st T.t36 hS z z z ?_ z z z z z)))
  intro W hS
  refine .qn z (.ret ?_)
  have hS:=hS.nilv 3 1 (D.int .i64)
  have hS:=hS.nilv 3 1 (D.int .i64)
  cases h
  exact fin_ret (vs:=[_,_]) (nilH,nilH) (rc hS.p2 T.t36 z (rt z rn) z z) z (hS.to [1,0] z)
 have h:=sel_f hb h
 refine .skip (.g (.c (.liv [0] (D.int .i64) T.u25 T.t3 hS z z z z ?_ z (fun _=>z) z z z z)))
 intro v1 W hS
 refine .q z ?_
 have ⟨y1,hy1,h⟩:=bnd h
 refine .c (.callS2 (L0:=[rowV (sv v1) 3 1 (D.int .i64) [0]]) hS Tryz.func47 (fun S h1 h2 h3=>(fen hy1 (hS.keepS q_0 h1) h2 (zz h1))) z z ?_ z z z z)
 rintro v2 W hS
 refine .q z (.q z (.q z (.q z (.qn z (.seq (.g (.q z (.q z (.nil ?_)))))))))
 refine .cs z h ?_ ?_ <;> intro h
 ·refine .g (.s (bs T.s36 z z) z (.c (.st T.t36 hS.p1 z z z ?_ z z z z z)))
  intro W hS
  refine .qn z (.ret ?_)
  have hS:=hS.nilv 3 1 (D.int .i64)
  have hS:=hS.nilv 3 1 (D.int .i64)
  cases h
  exact fin_ret (vs:=[_,_]) (nilH,nilH) (rc hS.p2 T.t36 z (rt z rn) z z) z (hS.to [1,0] z)
 refine .skip (.seq (.region ?_))
 have ⟨r1,hr1,h⟩:=bnd h
 refine .c (.mkv 0 (D.int .i64) hr1 T.u25 T.t3 hS z z z z z (fun _=>z) ?_ z z z)
 intro v3 W hS
 refine .s (bs T.s36 z z) z (.c (.alloc T.t36 hS ?_ z z z))
 intro g2 W hS
 refine .c (.st T.t36 hS z z z ?_ z z z z z)
 intro W hS
 refine .nil (.g (.s (fa T.f36_0 z z z) z (.s (ld T.t25 hS z z z z z) z (.q z (.s (lenv hS.p2.lendv T.u25 z z) z (.q z ?_))))))
 have ⟨x1,hx1,h⟩:=bnd h
 refine .s (ixv hS.p1.lendv hx1 T.u25 T.t3 z z z) z ?_
 have ⟨r2,hr2,h⟩:=bnd h
 refine .c (.sev hr2 hx1 hS.p1 T.t3 z z z z z z ?_ z z z z z z)
 intro W hS
 refine .nil (.g (.q z ?_))
 have ⟨r3,hr3,h⟩:=bnd h
 refine .c (.appz 0 hr3 hS.p2 T.u25 T.u3 T.t3 z z z z ?_ (fun _=>z) z z z z z z)
 intro v4 W hS
 refine .s (fa T.f36_2 z z z) z (.c (.st T.t25 hS.p2 z z z ?_ z z z z z))
 intro W hS
 refine .nil (.g (.s (ld T.t36 hS z z z z z) z (.c (.st T.t36 hS.p3 z z z ?_ z z z z z))))
 intro W hS
 cases h
 exact .qn z (.ret (fin_ret (vs:=[_,_]) (v3,v4) (rc hS T.t36 z (rt z rn) z z) z (hS.to [3,2] z)))
def fec (w : World) (r : Squad × Bool) : Env → World → Prop:=Fin Tryz.prog Tryz.f18 No w (fun s : Hd × Hd × Hd=>.tuple #[.agg #[(sv s.1),(sv s.2.1),.int .i64 r.1.Turn,.int .i64 r.1.Idle,(sv s.2.2)],.bool r.2]) (fun s=>[rowV (sv s.1) 36 3 dMachine r.1.Harts,rowV (sv s.2.1) 61 2 dBox r.1.Boxes,rowV (sv s.2.2) 3 1 (D.int .i64) r.1.Out]) .ret
theorem fdb {a0 : List Int} {a1 : List (List Instr)} {v_0 : Hd} {v_1 : Hd} {w : World} {r : Squad × Bool} (h : f6m a0 a1 = some r) (q_0 : RV w (Old No w) (sv v_0) 3 1 (D.int .i64) a0) (q_1 : RV w (Old No w) (sv v_1) 66 1 (fun (l : List Instr)=>D.row 105 5 (l.map dInstr)) a1) : Calls Tryz.prog 18 #[(sv v_0),(sv v_1)] w (Ret No w (fun s : Hd × Hd × Hd=>.tuple #[.agg #[(sv s.1),(sv s.2.1),.int .i64 r.1.Turn,.int .i64 r.1.Idle,(sv s.2.2)],.bool r.2]) (fun s=>[rowV (sv s.1) 36 3 dMachine r.1.Harts,rowV (sv s.2.1) 61 2 dBox r.1.Boxes,rowV (sv s.2.2) 3 1 (D.int .i64) r.1.Out])):=by
 unfold f6m at h
 refine enter Tryz.func18 z z ?_
 have hS:=Sep.start w
 refine .g (.c (.alloc T.t27 hS ?_ z z z))
 intro g1 W hS
 refine .qn z (.seq (.g (.q z ?_)))
 have ⟨y1,hy1,h⟩:=bnd h
 refine .c (.call0 hS Tryz.func33 (fdj hy1 (hS.keep q_0)) z z ?_ z z z z)
 intro W hS
 refine .q z (.q z ?_)
 have ⟨b1,hb1,h⟩:=bnd h
 refine .chunk 5 18 (b1) hS ?_ ?_
 ·refine .both (!y1) (fun hb=>?_) (fun hb=>?_)
  ·refine .xx hb z (.xx hb z (.xx hb z (.xx hb z ?_)))
   cases sel_t hb hb1
   exact .s (pkt hb z z z) z (.nil (ck 5 hS z z z z))
  have hg1:=hb
  have h:=sel_f hb hb1
  refine .g hg1 (.q z (.g hg1 (.s (lenv (hS.keep q_1) T.u47 z z) z ?_) z)) z
  have ⟨y2,hy2,h⟩:=bnd h
  refine .g hg1 (.c (.call0 hS Tryz.func27 (f04 hy2) z z ?_ z z z z)) z
  intro W hS
  refine .g hg1 (.q z (.s (pkf hg1 z z z) z ?_)) z
  cases h
  exact .nil (ck 5 hS z z z z)
 intro W hS
 refine .nil ?_
 refine .cs z h ?_ ?_ <;> intro h
 ·refine .g (.s (bs T.s27 z z) z (.c (.st T.t27 hS z z z ?_ z z z z z)))
  intro W hS
  refine .qn z (.ret ?_)
  have hS:=hS.nilv 36 3 dMachine
  have hS:=hS.nilv 61 2 dBox
  have hS:=hS.nilv 3 1 (D.int .i64)
  cases h
  exact fin_ret (vs:=[_,_]) (nilH,nilH,nilH) (rc hS.p3 T.t27 z (rt z rn) z z) z (hS.to [2,1,0] z)
 refine .skip (.g (.c (.ligv (L1:=[]) [] dMachine T.u23 T.t36 (hS.to [0] z) z z z (.nil) ?_ z (fun _=>z) z z z z z)))
 intro v1 W hS
 refine .q z ?_
 have ⟨y3,hy3,h⟩:=bnd h
 refine .c (.call1v hS Tryz.func34 (fdf hy3 (hS.keep q_0)) z z ?_ z z z z)
 intro v2 W hS
 refine .c (.liv [] (D.int .i64) T.u25 T.t3 hS z z z z ?_ z (fun _=>z) z z z z)
 intro v3 W hS
 refine .s (bs T.s27 z z) z (.c (.alloc T.t27 hS ?_ z z z))
 intro g2 W hS
 refine .c (.st T.t27 hS z z z ?_ z z z z z)
 intro W hS
 refine .nil (.seq (.g (.qn z (.block ?_))))
 have ⟨y4,hy4,h⟩:=bnd h
 refine .via (.iter (fun s1 E' W'=>∃ (v6 : Hd),SubL E' [(1,(sv v_1)),(4,.pointer (some ⟨g1,0,none⟩)),(6,.pointer (some ⟨g2,0,none⟩)),(7,.int .i64 s1.1)] ∧ Sep No w W' [.box g2 27 [(sv v6),(sv v2),.int .i64 0,.int .i64 0,(sv v3)],rowV (sv v3) 3 1 (D.int .i64) [],rowV (sv v2) 61 2 dBox y3,.box g1 27 [(sv nilH),(sv nilH),.int .i64 0,.int .i64 0,(sv nilH)],rowV (sv v6) 36 3 dMachine s1.2]) (fun y5 x E' W'=>(match y5 with | .inl o1=>x = .ret ∧ fec w o1 E' W' | .inr o2=>x = .exit 0 ∧ ∃ (v7 : Hd),SubL E' [(4,.pointer (some ⟨g1,0,none⟩)),(6,.pointer (some ⟨g2,0,none⟩))] ∧ Sep No w W' [.box g2 27 [(sv v7),(sv v2),.int .i64 0,.int .i64 0,(sv v3)],rowV (sv v3) 3 1 (D.int .i64) [],rowV (sv v2) 61 2 dBox y3,.box g1 27 [(sv nilH),(sv nilH),.int .i64 0,.int .i64 0,(sv nilH)],rowV (sv v7) 36 3 dMachine o2])) hy4 ⟨v1,sb rfl,hS.to [0,0,0,1,0] rfl⟩ ?_) ?_
 ·intro s1 y6 E W h hI
  obtain ⟨v5,hE,hS⟩:=hI
  refine CW.sub hE ?_
  unfold f4p at h
  refine .seq (.g (.q z (.q z (.s (lenv (hS.keep q_1) T.u47 z z) z (.q z (.nil ?_))))))
  refine .cs z h ?_ ?_ <;> intro h
  ·refine .skip (.seq (.block (.g (.q z (.q z ?_)))))
   have ⟨x1,hx1,h⟩:=bnd h
   obtain ⟨k1,hd,hck1⟩:=RV.el2 q_1 hx1
   obtain ⟨v8,k1,rfl,q5,hd1⟩:=rrowv q_1 hd
   obtain rfl:=rnil q_1 hd1
   refine .s (ixv (hS.keep q_1) hx1 T.u47 T.t66 z z z) z (.s (lde (hck1 _ hS.agree) T.t66 z z z z z) z ?_)
   have ⟨y7,hy7,h⟩:=bnd h
   refine .c (.call hS Tryz.func35 (fea hy7 (hS.keep (q5 _ q_1))) z z ?_ z z z z)
   rintro ⟨v9,v10⟩ W hS
   refine .q z (.q z (.q z (.c (.alloc T.t36 hS ?_ z z z))))
   intro g3 W hS
   refine .c (.st T.t36 hS z z z ?_ z z z z z)
   intro W hS
   refine .qn z (.seq (.g (.q z (.q z (.nil ?_)))))
   refine .cs z h ?_ ?_ <;> intro h
   ·refine .g (.s (bs T.s27 z z) z (.c (.st T.t27 hS.p6 z z z ?_ z z z z z)))
    intro W hS
    refine .qn z (.ret ?_)
    have hS:=hS.nilv 36 3 dMachine
    have hS:=hS.nilv 61 2 dBox
    have hS:=hS.nilv 3 1 (D.int .i64)
    cases h
    exact ⟨by simp,z,fin_ret (vs:=[_,_]) (nilH,nilH,nilH) (rc hS.p3 T.t27 z (rt z rn) z z) z (hS.to [2,1,0] z)⟩
   refine .skip (.region (.s (fa T.f27_0 z z z) z (.s (ld T.t23 hS.p3 z z z z z) z (.s (ld T.t36 hS z z z z z) z (.c (.ligv (L1:=[rowV (sv v9) 3 1 (D.int .i64) y7.1.Regs,rowV (sv v10) 3 1 (D.int .i64) y7.1.Mem]) [(Machine.mk y7.1.Regs y7.1.Pc y7.1.Mem)] dMachine T.u23 T.t36 (hS.to [1,1,0,0,0,0,0,0] z) z z z (.agg (.row (.flat (c1:=[.int .i64 y7.1.Pc]) z (.row .nil)))) ?_ z (fun _=>z) z z z z z))))))
   intro v11 W hS
   have ⟨r1,hr1,h⟩:=bnd h
   refine .c (.appv hr1 (hS.to [6,0,0,0,0,0,0] z) T.u23 T.t36 z z z ?_ z z z z z)
   intro v12 W hS
   refine .s (fa T.f27_0 z z z) z (.c (.st T.t23 hS.p2 z z z ?_ z z z z z))
   intro W hS
   refine .nil (.region (.q z (.q z (.q z (.nil ?_)))))
   cases h
   exact ⟨z,v12,sb z,hS.to [0,2,2,2,0] z⟩
  refine .exit ?_
  cases h
  exact ⟨by simp,z,v5,sb z,hS.to [0,0,0,0,0] z⟩
 intro x E W hJ
 rcases y4 with o3 | o4
 ·obtain ⟨rfl,hF⟩:=hJ
  refine ⟨_,fun _ _ h=>h,?_⟩
  cases h
  exact hF
 obtain ⟨rfl,v13,hE,hS⟩:=hJ
 refine ⟨_,hE.sub,?_⟩
 refine .g (.s (ld T.t27 hS z z z z z) z (.c (.st T.t27 hS.p3 z z z ?_ z z z z z)))
 intro W hS
 cases h
 exact .qn z (.ret (fin_ret (vs:=[_,_]) (v13,v2,v3) (rc hS T.t27 z (rt z rn) z z) z (hS.to [4,3,2] z)))
def ffc (w : World) (r : Bool) : Env → World → Prop:=Fin Tryz.prog Tryz.f30 No w (fun s : Unit=>.bool r) (fun s=>[]) .ret
theorem f7k {a0 : List Int} {a1 : Int} {v_0 : Hd} {w : World} {r : Bool} (h : f1p a0 a1 = some r) (q_0 : RV w (Old No w) (sv v_0) 3 1 (D.int .i64) a0) : Calls Tryz.prog 30 #[(sv v_0),.int .i64 a1] w (Ret No w (fun s : Unit=>.bool r) (fun s=>[])):=by
 unfold f1p at h
 refine enter Tryz.func30 z z ?_
 have hS:=Sep.start w
 refine .g (.qn z (.seq (.g (.q z (.s (lenv (hS.keep q_0) T.u25 z z) z (.q z (.q z (.nil ?_))))))))
 refine .cs z h ?_ ?_ <;> intro h
 ·obtain rfl:=Option.some.inj h
  exact .g (.qn z (.ret (fin_ret (vs:=[_]) () (rt z rn) z (hS.to [] z))))
 refine .skip (.seq (.g (.qn z (.block ?_))))
 have ⟨y1,hy1,h⟩:=bnd h
 refine .via (.iter (fun s1 E' W'=>SubL E' [(0,(sv v_0)),(5,.int .i64 s1)] ∧ Sep No w W' []) (fun y2 x E' W'=>(match y2 with | .inl o1=>x = .ret ∧ ffc w o1 E' W' | .inr o2=>x = .exit 0 ∧ SubL E' [] ∧ Sep No w W' [])) hy1 ⟨sb rfl,hS.to [] rfl⟩ ?_) ?_
 ·intro s1 y3 E W h hI
  obtain ⟨hE,hS⟩:=hI
  refine CW.sub hE ?_
  unfold f59 at h
  refine .seq (.g (.q z (.q z (.s (lenv (hS.keep q_0) T.u25 z z) z (.q z (.nil ?_))))))
  refine .cs z h ?_ ?_ <;> intro h
  ·refine .skip (.seq (.block (.g (.q z (.q z ?_)))))
   have ⟨x1,hx1,h⟩:=bnd h
   refine .s (ixv (hS.keep q_0) hx1 T.u25 T.t3 z z z) z (.s (lde (RV.flat (hS.keep q_0) hx1 z) T.t3 z z z z z) z ?_)
   have ⟨y4,hy4,h⟩:=bnd h
   refine .c (.call0 hS Tryz.func43 (f1u hy4) z z ?_ z z z z)
   intro W hS
   refine .q z (.nil ?_)
   refine .cs z h ?_ ?_ <;> intro h
   ·refine .g (.qn z (.ret ?_))
    cases h
    exact ⟨by simp,z,fin_ret (vs:=[_]) () (rt z rn) z (hS.to [] z)⟩
   refine .skip (.region (.q z (.q z (.q z (.nil ?_)))))
   cases h
   exact ⟨z,sb z,hS.to [] z⟩
  refine .exit ?_
  cases h
  exact ⟨by simp,z,sb z,hS.to [] z⟩
 intro x E W hJ
 rcases y1 with o3 | o4
 ·obtain ⟨rfl,hF⟩:=hJ
  refine ⟨_,fun _ _ h=>h,?_⟩
  cases h
  exact hF
 obtain ⟨rfl,hE,hS⟩:=hJ
 refine ⟨_,hE.sub,?_⟩
 obtain rfl:=Option.some.inj h
 exact .g (.qn z (.ret (fin_ret (vs:=[_]) () (rt z rn) z (hS.to [] z))))
theorem f9t {a0 : Box} {v_0_Items : Hd} {w : World} {r : Bool} (h : f3q a0 = some r) (q_0_Items : RV w (Old No w) (sv v_0_Items) 3 1 (D.int .i64) a0.Items) : Calls Tryz.prog 42 #[.agg #[.int .i64 a0.Room,(sv v_0_Items)]] w (Ret No w (fun s : Unit=>.bool r) (fun s=>[])):=by
 unfold f3q at h
 refine enter Tryz.func42 z z ?_
 have hS:=Sep.start w
 refine .g (.c (.box hS z z ?_ z z))
 intro g1 W hS
 refine .qn z (.g (.s (fa T.f61_0 z z z) z (.s (ld T.t3 hS z z z z z) z ?_)))
 have ⟨y1,hy1,h⟩:=bnd h
 refine .c (.call0 hS Tryz.func27 (f04 hy1) z z ?_ z z z z)
 intro W hS
 refine .q z (.chunk 7 13 (y1 && (decide ((a0.Items.length : Int) ≤ a0.Room))) hS ?_ ?_)
 ·refine .both (y1) (fun hb=>?_) (fun hb=>?_)
  ·have hg1:=hb
   exact .g hg1 (.s (fa T.f61_1 z z z) z (.g hg1 (.s (ld T.t25 hS z z z z z) z (.g hg1 (.s (lenv (hS.keep q_0_Items) T.u25 z z) z (.g hg1 (.s (fa T.f61_0 z z z) z (.g hg1 (.s (ld T.t3 hS z z z z z) z (.g hg1 (.q z (.s (pkt hg1 z z z) z (.nil (ck 7 hS z (and_t hg1) z z)))) z)) z)) z)) z)) z)) z
  exact .xx hb z (.xx hb z (.xx hb z (.xx hb z (.xx hb z (.xx hb z (.s (pkf hb z z z) z (.nil (ck 7 hS z (and_f hb) z z))))))))
 intro W hS
 refine .q z ?_
 have ⟨b1,hb1,h⟩:=bnd h
 refine .chunk 7 21 (b1) hS ?_ ?_
 ·refine .both (y1 && (decide ((a0.Items.length : Int) ≤ a0.Room))) (fun hb=>?_) (fun hb=>?_)
  ·have hg2:=hb
   have h:=sel_t hb hb1
   refine .g hg2 (.s (fa T.f61_1 z z z) z (.g hg2 (.s (ld T.t25 hS z z z z z) z (.g hg2 (.s (fa T.f61_1 z z z) z (.g hg2 (.s (ld T.t25 hS z z z z z) z (.g hg2 (.s (lenv (hS.keep q_0_Items) T.u25 z z) z ?_) z)) z)) z)) z)) z
   have ⟨y2,hy2,h⟩:=bnd h
   refine .g hg2 (.c (.call0 hS Tryz.func30 (f7k hy2 (hS.keep q_0_Items)) z z ?_ z z z z)) z
   intro W hS
   refine .s (pkt hg2 z z z) z ?_
   cases h
   exact .nil (ck 7 hS z z z z)
  refine .xx hb z (.xx hb z (.xx hb z (.xx hb z (.xx hb z (.xx hb z ?_)))))
  cases sel_f hb hb1
  exact .s (pkf hb z z z) z (.nil (ck 7 hS z z z z))
 intro W hS
 obtain rfl:=Option.some.inj h
 exact .qn z (.ret (fin_ret (vs:=[_]) () (rt z rn) z (hS.to [] z)))
def fdy (w : World) (r : Bool) : Env → World → Prop:=Fin Tryz.prog Tryz.f28 No w (fun s : Unit=>.bool r) (fun s=>[]) .ret
theorem fdh {a0 : List Box} {v_0 : Hd} {w : World} {r : Bool} (h : f6v a0 = some r) (q_0 : RV w (Old No w) (sv v_0) 61 2 dBox a0) : Calls Tryz.prog 28 #[(sv v_0)] w (Ret No w (fun s : Unit=>.bool r) (fun s=>[])):=by
 unfold f6v at h
 refine enter Tryz.func28 z z ?_
 have hS:=Sep.start w
 refine .g (.qn z (.seq (.g (.qn z (.block ?_)))))
 have ⟨y1,hy1,h⟩:=bnd h
 refine .via (.iter (fun s1 E' W'=>SubL E' [(0,(sv v_0)),(3,.int .i64 s1)] ∧ Sep No w W' []) (fun y2 x E' W'=>(match y2 with | .inl o1=>x = .ret ∧ fdy w o1 E' W' | .inr o2=>x = .exit 0 ∧ SubL E' [(0,(sv v_0))] ∧ Sep No w W' [])) hy1 ⟨sb rfl,hS.to [] rfl⟩ ?_) ?_
 ·intro s1 y3 E W h hI
  obtain ⟨hE,hS⟩:=hI
  refine CW.sub hE ?_
  unfold f4k at h
  refine .seq (.g (.q z (.q z (.s (lenv (hS.keep q_0) T.u24 z z) z (.q z (.nil ?_))))))
  refine .cs z h ?_ ?_ <;> intro h
  ·refine .skip (.seq (.block (.g (.q z (.q z ?_)))))
   have ⟨x1,hx1,h⟩:=bnd h
   obtain ⟨k1,hd,hck1⟩:=RV.el2 q_0 hx1
   have hd1:=ragg hd
   obtain ⟨k1,rfl,hd2⟩:=rflat q_0 z hd1
   obtain ⟨v1,k1,rfl,q1,hd3⟩:=rrowv q_0 hd2
   obtain rfl:=rnil q_0 hd3
   refine .s (ixv (hS.keep q_0) hx1 T.u24 T.t61 z z z) z (.s (lde (hck1 _ hS.agree) T.t61 z z z z z) z ?_)
   have ⟨y4,hy4,h⟩:=bnd h
   refine .c (.call0 hS Tryz.func42 (f9t hy4 (hS.keep (q1 _ q_0))) z z ?_ z z z z)
   intro W hS
   refine .q z (.nil ?_)
   refine .cs z h ?_ ?_ <;> intro h
   ·refine .g (.qn z (.ret ?_))
    cases h
    exact ⟨by simp,z,fin_ret (vs:=[_]) () (rt z rn) z (hS.to [] z)⟩
   refine .skip (.region (.q z (.q z (.q z (.nil ?_)))))
   cases h
   exact ⟨z,sb z,hS.to [] z⟩
  refine .exit ?_
  cases h
  exact ⟨by simp,z,sb z,hS.to [] z⟩
 intro x E W hJ
 rcases y1 with o3 | o4
 ·obtain ⟨rfl,hF⟩:=hJ
  refine ⟨_,fun _ _ h=>h,?_⟩
  cases h
  exact hF
 obtain ⟨rfl,hE,hS⟩:=hJ
 refine ⟨_,hE.sub,?_⟩
 cases h
 exact .g (.q z (.s (lenv (hS.keep q_0) T.u24 z z) z (.q z (.qn z (.ret (fin_ret (vs:=[_]) () (rt z rn) z (hS.to [] z)))))))
theorem fbt {a0 : Machine} {v_0_Regs : Hd} {v_0_Mem : Hd} {w : World} {r : Bool} (h : f3v a0 = some r) (q_0_Regs : RV w (Old No w) (sv v_0_Regs) 3 1 (D.int .i64) a0.Regs) (q_0_Mem : RV w (Old No w) (sv v_0_Mem) 3 1 (D.int .i64) a0.Mem) : Calls Tryz.prog 29 #[.agg #[(sv v_0_Regs),.int .i64 a0.Pc,(sv v_0_Mem)]] w (Ret No w (fun s : Unit=>.bool r) (fun s=>[])):=by
 unfold f3v at h
 refine enter Tryz.func29 z z ?_
 have hS:=Sep.start w
 refine .g (.c (.box hS z z ?_ z z))
 intro g1 W hS
 refine .qn z (.g (.s (fa T.f36_0 z z z) z (.s (ld T.t25 hS z z z z z) z ?_)))
 have ⟨y1,hy1,h⟩:=bnd h
 refine .c (.call0 hS Tryz.func30 (f7k hy1 (hS.keep q_0_Regs)) z z ?_ z z z z)
 intro W hS
 refine .q z ?_
 have ⟨b1,hb1,h⟩:=bnd h
 refine .chunk 6 12 (b1) hS ?_ ?_
 ·refine .both (y1) (fun hb=>?_) (fun hb=>?_)
  ·have hg1:=hb
   have h:=sel_t hb hb1
   refine .g hg1 (.s (fa T.f36_0 z z z) z (.g hg1 (.s (ld T.t25 hS z z z z z) z ?_) z)) z
   have ⟨x1,hx1,h⟩:=bnd h
   refine .g hg1 (.s (ixv (hS.keep q_0_Regs) hx1 T.u25 T.t3 z z z) z (.g hg1 (.s (lde (RV.flat (hS.keep q_0_Regs) hx1 z) T.t3 z z z z z) z (.g hg1 (.q z (.s (pkt hg1 z z z) z ?_)) z)) z)) z
   cases h
   exact .nil (ck 6 hS z z z z)
  refine .xx hb z (.xx hb z (.xx hb z (.xx hb z (.xx hb z ?_))))
  cases sel_f hb hb1
  exact .s (pkf hb z z z) z (.nil (ck 6 hS z z z z))
 intro W hS
 refine .q z ?_
 have ⟨b2,hb2,h⟩:=bnd h
 refine .chunk 4 17 (b2) hS ?_ ?_
 ·refine .both (b1) (fun hb=>?_) (fun hb=>?_)
  ·have hg2:=hb
   have h:=sel_t hb hb2
   refine .g hg2 (.s (fa T.f36_1 z z z) z (.g hg2 (.s (ld T.t3 hS z z z z z) z ?_) z)) z
   have ⟨y2,hy2,h⟩:=bnd h
   refine .g hg2 (.c (.call0 hS Tryz.func43 (f1u hy2) z z ?_ z z z z)) z
   intro W hS
   refine .s (pkt hg2 z z z) z ?_
   cases h
   exact .nil (ck 4 hS z z z z)
  refine .xx hb z (.xx hb z (.xx hb z ?_))
  cases sel_f hb hb2
  exact .s (pkf hb z z z) z (.nil (ck 4 hS z z z z))
 intro W hS
 refine .q z (.chunk 5 23 (b2 && (decide ((a0.Mem.length : Int) ≤ 10000))) hS ?_ ?_)
 ·refine .both (b2) (fun hb=>?_) (fun hb=>?_)
  ·have hg3:=hb
   exact .g hg3 (.s (fa T.f36_2 z z z) z (.g hg3 (.s (ld T.t25 hS z z z z z) z (.g hg3 (.s (lenv (hS.keep q_0_Mem) T.u25 z z) z (.g hg3 (.q z (.s (pkt hg3 z z z) z (.nil (ck 5 hS z (and_t hg3) z z)))) z)) z)) z)) z
  exact .xx hb z (.xx hb z (.xx hb z (.xx hb z (.s (pkf hb z z z) z (.nil (ck 5 hS z (and_f hb) z z))))))
 intro W hS
 refine .q z ?_
 have ⟨b3,hb3,h⟩:=bnd h
 refine .chunk 7 31 (b3) hS ?_ ?_
 ·refine .both (b2 && (decide ((a0.Mem.length : Int) ≤ 10000))) (fun hb=>?_) (fun hb=>?_)
  ·have hg4:=hb
   have h:=sel_t hb hb3
   refine .g hg4 (.s (fa T.f36_2 z z z) z (.g hg4 (.s (ld T.t25 hS z z z z z) z (.g hg4 (.s (fa T.f36_2 z z z) z (.g hg4 (.s (ld T.t25 hS z z z z z) z (.g hg4 (.s (lenv (hS.keep q_0_Mem) T.u25 z z) z ?_) z)) z)) z)) z)) z
   have ⟨y3,hy3,h⟩:=bnd h
   refine .g hg4 (.c (.call0 hS Tryz.func30 (f7k hy3 (hS.keep q_0_Mem)) z z ?_ z z z z)) z
   intro W hS
   refine .s (pkt hg4 z z z) z ?_
   cases h
   exact .nil (ck 7 hS z z z z)
  refine .xx hb z (.xx hb z (.xx hb z (.xx hb z (.xx hb z (.xx hb z ?_)))))
  cases sel_f hb hb3
  exact .s (pkf hb z z z) z (.nil (ck 7 hS z z z z))
 intro W hS
 obtain rfl:=Option.some.inj h
 exact .qn z (.ret (fin_ret (vs:=[_]) () (rt z rn) z (hS.to [] z)))
def fe2 (w : World) (r : Bool) : Env → World → Prop:=Fin Tryz.prog Tryz.f13 No w (fun s : Unit=>.bool r) (fun s=>[]) .ret
end Go.Proofs.YtcljimkjmklkmaaGreat.N
