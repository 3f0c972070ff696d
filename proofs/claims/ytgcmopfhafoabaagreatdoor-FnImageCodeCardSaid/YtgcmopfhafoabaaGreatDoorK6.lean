/- Printed by a program of mine: that the program's functions compute it. -/
import Derived.Test.YtgcmopfhafoabaaGreatDoorK5
set_option linter.unusedVariables false
set_option linter.unusedSimpArgs false
set_option maxRecDepth 100000
set_option maxHeartbeats 4000000
namespace Go.Proofs.YtgcmopfhafoabaaGreatDoor.N
open Go.Proofs.YtgcmopfhafoabaaGreatDoor.X
noncomputable section
theorem ug {a0 : Int} {a1 : Int} {a2 : Int} {w : World} {r : Int × Bool} (h : gm a0 a1 a2 = some r) : Cl 260 #[vi a0,vi a1,vi a2] w (RU w (.tuple #[vi r.1,.bool r.2])):=by
 unfold gm at h
 refine ar Tryz.func260 z z ?_
 have hS:=Sep.start w
 refine .g (.q z (.qn z (.seq (.g (.q z ?_)))))
 have ⟨y1,hy1,h⟩:=bnd h
 refine .c (.cO hS Tryz.func208 (lj hy1) z z ?_)
 intro W hS
 refine .q z (.q z ?_)
 have ⟨b1,hb1,h⟩:=bnd h
 refine .cu 4 15 (b1) hS ?_ ?_
 ·refine .both (!y1) (fun hb=>?_) (fun hb=>?_)
  ·refine .xx hb z (.xx hb z (.xx hb z ?_))
   cases aF hb hb1
   exact .s (pkt hb z z z) z (.nil (ck 4 hS))
  have hg1:=hb
  have h:=aG hb hb1
  refine .g hg1 (.q z ?_)
  have ⟨y2,hy2,h⟩:=bnd h
  refine .g hg1 (.c (.cO hS Tryz.func140 (f8 hy2) z z ?_))
  intro W hS
  refine .g hg1 (.q z (.s (pkf hg1 z z z) z ?_))
  cases h
  exact .nil (ck 4 hS)
 intro W hS
 refine .q z ?_
 have ⟨b2,hb2,h⟩:=bnd h
 refine .cu 4 20 (b2) hS ?_ ?_
 ·refine .both (b1) (fun hb=>?_) (fun hb=>?_)
  ·refine .xx hb z (.xx hb z (.xx hb z ?_))
   cases aF hb hb2
   exact .s (pkt hb z z z) z (.nil (ck 4 hS))
  have hg2:=hb
  have h:=aG hb hb2
  refine .g hg2 (.q z ?_)
  have ⟨y3,hy3,h⟩:=bnd h
  refine .g hg2 (.c (.cO hS Tryz.func140 (f8 hy3) z z ?_))
  intro W hS
  refine .g hg2 (.q z (.s (pkf hg2 z z z) z ?_))
  cases h
  exact .nil (ck 4 hS)
 intro W hS
 refine .nil ?_
 refine .cs z h ?_ ?_ <;> intro h
 ·cases h
  exact .g (.q z (.qn z (.ret (ab (vs:=[_,_]) () (rt z (rt z rn)) z (hS.to [])))))
 refine .skip (.seq (.g (.qn z (.block (.g (.q z (.q z (.nil ?_))))))))
 refine .cs z h ?_ ?_ <;> intro h
 ·cases h
  exact .g (.q z (.q z (.q z (.q z (.qn z (.ret (ab (vs:=[_,_]) () (rt z (rt z rn)) z (hS.to []))))))))
 refine .g (.q z (.q z (.nil ?_)))
 refine .cs z h ?_ ?_ <;> intro h
 ·cases h
  exact .g (.q z (.q z (.q z (.q z (.qn z (.ret (ab (vs:=[_,_]) () (rt z (rt z rn)) z (hS.to []))))))))
 refine .g (.q z (.q z (.nil ?_)))
 refine .cs z h ?_ ?_ <;> intro h
 ·cases h
  exact .g (.q z (.q z (.q z (.q z (.qn z (.ret (ab (vs:=[_,_]) () (rt z (rt z rn)) z (hS.to []))))))))
 refine .g (.q z (.q z (.nil ?_)))
 refine .cs z h ?_ ?_ <;> intro h
 ·refine .g (.q z (.q z (.q z ?_)))
  have ⟨y4,hy4,h⟩:=bnd h
  refine .c (.cO hS Tryz.func264 (oo hy4) z z ?_)
  intro W hS
  cases h
  exact .q z (.qn z (.ret (ab (vs:=[_,_]) () (rt z (rt z rn)) z (hS.to []))))
 refine .g (.q z (.q z (.nil ?_)))
 refine .cs z h ?_ ?_ <;> intro h
 ·refine .g (.q z (.q z (.q z ?_)))
  have ⟨y5,hy5,h⟩:=bnd h
  refine .c (.cO hS Tryz.func264 (oo hy5) z z ?_)
  intro W hS
  cases h
  exact .q z (.qn z (.ret (ab (vs:=[_,_]) () (rt z (rt z rn)) z (hS.to []))))
 refine .g (.q z (.q z (.nil ?_)))
 refine .cs z h ?_ ?_ <;> intro h
 ·refine .g (.q z (.q z ?_))
  have ⟨y6,hy6,h⟩:=bnd h
  refine .c (.cO hS Tryz.func265 (nC hy6) z z ?_)
  intro W hS
  cases h
  exact .q z (.qn z (.ret (ab (vs:=[_,_]) () (rt z (rt z rn)) z (hS.to []))))
 refine .g (.q z (.q z (.nil ?_)))
 refine .cs z h ?_ ?_ <;> intro h
 ·refine .g (.q z (.q z ?_))
  have ⟨y7,hy7,h⟩:=bnd h
  refine .c (.cO hS Tryz.func265 (nC hy7) z z ?_)
  intro W hS
  cases h
  exact .q z (.qn z (.ret (ab (vs:=[_,_]) () (rt z (rt z rn)) z (hS.to []))))
 refine .g (.q z (.q z (.nil ?_)))
 refine .cs z h ?_ ?_ <;> intro h
 ·refine .g (.q z (.q z (.q z ?_)))
  have ⟨y8,hy8,h⟩:=bnd h
  refine .c (.cO hS Tryz.func72 (eI hy8) z z ?_)
  intro W hS
  cases h
  exact .q z (.qn z (.ret (ab (vs:=[_,_]) () (rt z (rt z rn)) z (hS.to []))))
 refine .g (.q z (.q z (.nil ?_)))
 refine .cs z h ?_ ?_ <;> intro h
 ·refine .g (.q z (.q z (.q z ?_)))
  have ⟨y9,hy9,h⟩:=bnd h
  refine .c (.cO hS Tryz.func72 (eI hy9) z z ?_)
  intro W hS
  cases h
  exact .q z (.qn z (.ret (ab (vs:=[_,_]) () (rt z (rt z rn)) z (hS.to []))))
 refine .g (.q z (.q z (.nil ?_)))
 refine .cs z h ?_ ?_ <;> intro h
 ·refine .g (.q z (.q z (.q z ?_)))
  have ⟨y10,hy10,h⟩:=bnd h
  refine .c (.cO hS Tryz.func72 (eI hy10) z z ?_)
  intro W hS
  cases h
  exact .q z (.qn z (.ret (ab (vs:=[_,_]) () (rt z (rt z rn)) z (hS.to []))))
 refine .g (.q z (.q z (.nil ?_)))
 refine .cs z h ?_ ?_ <;> intro h
 ·refine .g (.q z (.q z ?_))
  have ⟨y11,hy11,h⟩:=bnd h
  refine .c (.cO hS Tryz.func266 (qP hy11) z z ?_)
  intro W hS
  cases h
  exact .q z (.qn z (.ret (ab (vs:=[_,_]) () (rt z (rt z rn)) z (hS.to []))))
 refine .skip (.g (.q z (.q z ?_)))
 have ⟨y12,hy12,h⟩:=bnd h
 refine .c (.cO hS Tryz.func267 (qQ hy12) z z ?_)
 intro W hS
 cases h
 exact .q z (.qn z (.ret (ab (vs:=[_,_]) () (rt z (rt z rn)) z (hS.to []))))
theorem mv {a0 : ah} {a1 : aY} {a2 : aY} {w : World} {r : aY} (h : eZ a0 a1 a2 = some r) : Cl 253 #[.agg #[vi a0.Op,vi a0.Dst,vi a0.A,vi a0.B,vi a0.N],.agg #[vi a1.Kind,vi a1.N],.agg #[vi a2.Kind,vi a2.N]] w (RU w (.agg #[vi r.Kind,vi r.N])):=by
 unfold eZ at h
 refine ar Tryz.func253 z z ?_
 have hS:=Sep.start w
 refine .g (.c (.box hS z z ?_))
 intro g1 W hS
 refine .c (.box hS z z ?_)
 intro g2 W hS
 refine .c (.box hS z z ?_)
 intro g3 W hS
 refine .c (.alloc T.t238 hS ?_)
 intro g4 W hS
 refine .nil (.seq (.g (.s (fa T.f238_0 z z z) z (.s (ld T.t3 hS.p2 z z z z z) z (.q z (.q z (.cu 4 16 ((a1.Kind != 1) || (a2.Kind != 1)) hS ?_ ?_)))))))
 ·refine .both (a1.Kind != 1) (fun hb=>?_) (fun hb=>?_)
  ·exact .xx hb z (.xx hb z (.xx hb z (.s (pkt hb z z z) z (.nil (ck 4 hS z (kL hb))))))
  have hg1:=hb
  exact .g hg1 (.s (fa T.f238_0 z z z) z (.g hg1 (.s (ld T.t3 hS.p1 z z z z z) z (.g hg1 (.q z (.s (pkf hg1 z z z) z (.nil (ck 4 hS z (kM hg1)))))))))
 intro W hS
 refine .nil ?_
 refine .cs z h ?_ ?_ <;> intro h
 ·refine .g (.s (bs T.s238 z z) z (.c (.st T.t238 hS z z z ?_)))
  intro W hS
  cases h
  exact .nil (.ret (ab (vs:=[_]) () (rc hS T.t238 z rn z z) z (hS.to [])))
 refine .skip (.g (.s (fa T.f102_4 z z z) z (.s (ld T.t3 hS.p3 z z z z z) z (.s (fa T.f238_1 z z z) z (.s (ld T.t3 hS.p2 z z z z z) z (.s (fa T.f238_1 z z z) z (.s (ld T.t3 hS.p1 z z z z z) z ?_)))))))
 have ⟨y1,hy1,h⟩:=bnd h
 refine .c (.cO hS Tryz.func260 (ug hy1) z z ?_)
 intro W hS
 refine .q z (.q z (.q z (.q z (.qn z (.g (.q z (.s (bs T.s238 z z) z (.c (.st T.t238 hS z z z ?_)))))))))
 intro W hS
 cases h
 exact .nil (.ret (ab (vs:=[_]) () (rc hS T.t238 z rn z z) z (hS.to [])))
theorem qR {a0 : ah} {a1 : List aY} {v_1 : Hd} {w : World} {r : (List aY)} (h : iq a0 a1 = some r) (q_1 : RO w v_1 238 2 bK a1) : Cl 251 #[.agg #[vi a0.Op,vi a0.Dst,vi a0.A,vi a0.B,vi a0.N],(sv v_1)] w (Ret No w (fun s : Hd=>(sv s)) (fun s=>[ae (sv s) 238 2 bK r])):=by
 unfold iq at h
 refine ar Tryz.func251 z z ?_
 have hS:=Sep.start w
 refine .g (.c (.box hS z z ?_))
 intro g1 W hS
 refine .qn z (.g (.c (.liv [] bK T.u220 T.t238 hS z z z z ?_ z (fun _=>z))))
 intro v1 W hS
 refine .q z ?_
 have ⟨r1,hr1,h⟩:=bnd h
 refine .c (.av hr1 hS (hS.keep q_1) (fun _=>z) T.u220 T.t238 z z z ?_)
 intro v2 W hS
 refine .qn z (.seq (.g (.s (fa T.f102_0 z z z) z (.s (ld T.t3 hS.p1 z z z z z) z (.nil (.block (.g (.q z (.q z (.nil ?_))))))))))
 refine .cs z h ?_ ?_ <;> intro h
 ·refine .region (.q z (.s (fa T.f102_1 z z z) z (.s (ld T.t3 hS.p1 z z z z z) z (.s (fa T.f102_4 z z z) z (.s (ld T.t3 hS.p1 z z z z z) z (.s (bs T.s238 z z) z ?_))))))
  have ⟨x1,hx1,h⟩:=bnd h
  refine .s (ixv hS.lv hx1 T.u220 T.t238 z z z) z ?_
  have ⟨r2,hr2,h⟩:=bnd h
  refine .c (.sev hr2 hx1 hS T.t238 z z z z z z ?_)
  intro W hS
  obtain rfl:=o9 h
  exact .nil (.g (.q z (.qn z (.ret (ab (vs:=[_]) v2 (rt z rn) z (hS.to [0]))))))
 refine .g (.q z (.q z (.nil ?_)))
 refine .cs z h ?_ ?_ <;> intro h
 ·refine .rk 9 hS [0,0] T.mix ?_
  intro W hS
  have hT:=hS.to [0,0]
  refine .tp' 0 z z hT (.ts' 1 z (fun W hT=>fa T.f102_1 z z z) hT z (.ts' 2 z (fun W hT=>ld T.t3 hT.p1 z z z z z) hT z (.tp' 3 z z hT (.ts' 4 z (fun W hT=>fa T.f102_2 z z z) hT z (.ts' 5 z (fun W hT=>ld T.t3 hT.p1 z z z z z) hT z ?_)))))
  have ⟨x2,hx2,h⟩:=bnd h
  refine .ts' 6 z (fun W hT=>ixv (hS.keep q_1) hx2 T.u220 T.t238 z z z) hT z (.ts' 7 z (fun W hT=>lde (RV.flat (hT.keep q_1) hx2 z) T.t238 z z z z z) hT z ?_)
  have ⟨x3,hx3,h⟩:=bnd h
  refine .ts' 8 z (fun W hT=>ixv hS.lv hx3 T.u220 T.t238 z z z) hT z ?_
  have ⟨r3,hr3,h⟩:=bnd h
  refine .by1 9 z (.sev hr3 hx3 hS T.t238 z z z z z z ?_)
  intro W hS
  refine ⟨fun h=>absurd z h,?_⟩
  obtain rfl:=o9 h
  exact .done (.g (.q z (.qn z (.ret (ab (vs:=[_]) v2 (rt z rn) z (hS.to [0]))))))
 refine .g (.q z (.q z (.nil ?_)))
 refine .cs z h ?_ ?_ <;> intro h
 ·refine .region (.q z (.s (fa T.f102_1 z z z) z (.s (ld T.t3 hS.p1 z z z z z) z (.s (bs T.s238 z z) z ?_))))
  have ⟨x4,hx4,h⟩:=bnd h
  refine .s (ixv hS.lv hx4 T.u220 T.t238 z z z) z ?_
  have ⟨r4,hr4,h⟩:=bnd h
  refine .c (.sev hr4 hx4 hS T.t238 z z z z z z ?_)
  intro W hS
  obtain rfl:=o9 h
  exact .nil (.g (.q z (.qn z (.ret (ab (vs:=[_]) v2 (rt z rn) z (hS.to [0]))))))
 refine .g (.q z (.q z (.nil ?_)))
 refine .cs z h ?_ ?_ <;> intro h
 ·refine .rk 16 hS [0,0] T.mix ?_
  intro W hS
  have hT:=hS.to [0,0]
  refine .tp' 0 z z hT (.ts' 1 z (fun W hT=>fa T.f102_1 z z z) hT z (.ts' 2 z (fun W hT=>ld T.t3 hT.p1 z z z z z) hT z (.ts' 3 z (fun W hT=>ld T.t102 hT.p1 z z z z z) hT z (.tp' 4 z z hT (.ts' 5 z (fun W hT=>fa T.f102_2 z z z) hT z (.ts' 6 z (fun W hT=>ld T.t3 hT.p1 z z z z z) hT z ?_))))))
  have ⟨x5,hx5,h⟩:=bnd h
  refine .ts' 7 z (fun W hT=>ixv (hS.keep q_1) hx5 T.u220 T.t238 z z z) hT z (.ts' 8 z (fun W hT=>lde (RV.flat (hT.keep q_1) hx5 z) T.t238 z z z z z) hT z (.tp' 9 z z hT (.ts' 10 z (fun W hT=>fa T.f102_3 z z z) hT z (.ts' 11 z (fun W hT=>ld T.t3 hT.p1 z z z z z) hT z ?_))))
  have ⟨x6,hx6,h⟩:=bnd h
  refine .ts' 12 z (fun W hT=>ixv (hS.keep q_1) hx6 T.u220 T.t238 z z z) hT z (.ts' 13 z (fun W hT=>lde (RV.flat (hT.keep q_1) hx6 z) T.t238 z z z z z) hT z ?_)
  have ⟨y1,hy1,h⟩:=bnd h
  refine .by1 14 z (.cO hS Tryz.func253 (mv hy1) z z ?_)
  intro W hS
  have hT:=hS.to [0,0]
  refine ⟨fun _=>hT,?_⟩
  have ⟨x7,hx7,h⟩:=bnd h
  refine .ts' 15 z (fun W hT=>ixv hS.lv hx7 T.u220 T.t238 z z z) hT z ?_
  have ⟨r5,hr5,h⟩:=bnd h
  refine .by1 16 z (.sev hr5 hx7 hS T.t238 z z z z z z ?_)
  intro W hS
  refine ⟨fun h=>absurd z h,?_⟩
  obtain rfl:=o9 h
  exact .done (.g (.q z (.qn z (.ret (ab (vs:=[_]) v2 (rt z rn) z (hS.to [0]))))))
 obtain rfl:=o9 h
 exact .skip (.g (.q z (.qn z (.ret (ab (vs:=[_]) v2 (rt z rn) z (hS.to [0]))))))
theorem nD {a0 : aY} {a1 : aY} {w : World} {r : aY} (h : jt a0 a1 = some r) : Cl 259 #[.agg #[vi a0.Kind,vi a0.N],.agg #[vi a1.Kind,vi a1.N]] w (RU w (.agg #[vi r.Kind,vi r.N])):=by
 unfold jt at h
 refine ar Tryz.func259 z z ?_
 have hS:=Sep.start w
 refine .g (.c (.box hS z z ?_))
 intro g1 W hS
 refine .c (.box hS z z ?_)
 intro g2 W hS
 refine .c (.alloc T.t238 hS ?_)
 intro g3 W hS
 refine .nil (.seq (.g (.s (fa T.f238_0 z z z) z (.s (ld T.t3 hS.p2 z z z z z) z (.q z (.nil ?_))))))
 refine .cs z h ?_ ?_ <;> intro h
 ·refine .g (.s (ld T.t238 hS.p1 z z z z z) z (.c (.st T.t238 hS z z z ?_)))
  intro W hS
  obtain rfl:=o9 h
  exact .nil (.ret (ab (vs:=[_]) () (rc hS T.t238 z rn z z) z (hS.to [])))
 refine .skip (.seq (.g (.s (fa T.f238_0 z z z) z (.s (ld T.t3 hS.p1 z z z z z) z (.q z (.q z (.cu 4 16 ((a1.Kind == 0) || ((a0.Kind == a1.Kind) && ((a0.N == a1.N) && true))) hS ?_ ?_)))))))
 ·refine .both (a1.Kind == 0) (fun hb=>?_) (fun hb=>?_)
  ·exact .xx hb z (.xx hb z (.xx hb z (.s (pkt hb z z z) z (.nil (ck 4 hS z (kL hb))))))
  have hg1:=hb
  exact .g hg1 (.s (ld T.t238 hS.p2 z z z z z) z (.g hg1 (.s (ld T.t238 hS.p1 z z z z z) z (.g hg1 (.s (eqs T.e238 z z z z) z (.s (pkf hg1 z z z) z (.nil (ck 4 hS z (kM hg1)))))))))
 intro W hS
 refine .nil ?_
 refine .cs z h ?_ ?_ <;> intro h
 ·refine .g (.s (ld T.t238 hS.p2 z z z z z) z (.c (.st T.t238 hS z z z ?_)))
  intro W hS
  obtain rfl:=o9 h
  exact .nil (.ret (ab (vs:=[_]) () (rc hS T.t238 z rn z z) z (hS.to [])))
 refine .skip (.g (.s (bs T.s238 z z) z (.c (.st T.t238 hS z z z ?_))))
 intro W hS
 cases h
 exact .nil (.ret (ab (vs:=[_]) () (rc hS T.t238 z rn z z) z (hS.to [])))
theorem qS {a0 : List (List aY)} {a1 : Int} {a2 : List aY} {v_0 : Hd} {v_2 : Hd} {S : Nat → Prop} {w : World} {r : Bool × (List (List aY))} (h : ir a0 a1 a2 = some r) (q_2 : RV w (Old S w) (sv v_2) 238 2 bK a2) (hO : bO w [ae (sv v_0) 220 1 (fun (l : List aY)=>D.row 238 2 (l.map bK)) a0] S) (hlt : ∀ b,S b → b < w.heap.size) : Cl 252 #[(sv v_0),vi a1,(sv v_2)] w (Ret S w (fun s : Unit=>.bool r.1) (fun s=>[ae (sv v_0) 220 1 (fun (l : List aY)=>D.row 238 2 (l.map bK)) r.2])):=by
 unfold ir at h
 refine ar Tryz.func252 z z ?_
 have hS:=Sep.sm hO hlt
 refine .g (.qn z (.g (.qn z (.seq (.g (.qn z (.block ?_)))))))
 have ⟨y1,hy1,h⟩:=bnd h
 refine .via (.iter (fun s1 E' W'=>aD E' [(0,(sv v_0)),(1,vi a1),(2,(sv v_2)),(7,.bool s1.1),(8,vi s1.2.1)] ∧ Sep S w W' [ae (sv v_0) 220 1 (fun (l : List aY)=>D.row 238 2 (l.map bK)) s1.2.2]) (fun y2 x E' W'=>x = .exit 0 ∧ aD E' [(7,.bool y2.1)] ∧ Sep S w W' [ae (sv v_0) 220 1 (fun (l : List aY)=>D.row 238 2 (l.map bK)) y2.2]) hy1 ⟨sb z,hS.to [0]⟩ ?_) ?_
 ·intro s1 y3 E W h hI
  obtain ⟨hE,hS⟩:=hI
  refine CW.sub hE ?_
  unfold j9 at h
  refine .seq (.g (.q z (.q z (.nil ?_))))
  refine .cs z h ?_ ?_ <;> intro h
  ·refine .skip ?_
   have ⟨y4,hy4,h⟩:=bnd h
   refine .seq (CW.via (R':=fun x E' W'=>x = .normal ∧ aD E' [(0,(sv v_0)),(1,vi a1),(2,(sv v_2)),(7,.bool y4.1),(8,vi s1.2.1)] ∧ Sep S w W' [ae (sv v_0) 220 1 (fun (l : List aY)=>D.row 238 2 (l.map bK)) y4.2]) ?_ ?_)
   ·have h:=hy4
    refine .block (.seq ?_)
    have ⟨x1,hx1,h⟩:=bnd h
    obtain ⟨k1,hS⟩:=Sep.ov hS hx1
    obtain ⟨v1,k1,rfl,hS⟩:=hS.ow
    obtain ⟨rfl,hS⟩:=hS.oN
    have ⟨x4,hx4,h⟩:=bnd h
    have ⟨x5,hx5,h⟩:=bnd h
    have ⟨y6,hy6,h⟩:=bnd h
    refine .via (R':=fun x E' W'=>x = .normal ∧ ∃ (g2 : Nat),aD E' [(0,(sv v_0)),(1,vi a1),(2,(sv v_2)),(7,.bool s1.1),(8,vi s1.2.1),(9,pt g2)] ∧ Sep S w W' [ae (sv v_0) 220 1 (fun (l : List aY)=>D.row 238 2 (l.map bK)) s1.2.2,.box g2 238 [vi y6.Kind,vi y6.N]]) ?_ ?_
    ·refine .rk 13 hS [0,0] T.mix ?_
     intro W hS
     have hT:=hS.to [0,0]
     refine .tp' 0 z z hT (.tp' 1 z z hT (.ts' 2 z (fun W hT=>ixh hT.p1 hx1 T.u217 T.t220 z z z) hT z (.ts' 3 z (fun W hT=>lde (hT.p1.hcellsv) T.t220 z z z z z) hT z (.tp' 4 z z hT (.ts' 5 z (fun W hT=>ixv hS.lv hx4 T.u220 T.t238 z z z) hT z (.ts' 6 z (fun W hT=>lde (RV.flat hT.lv hx4 z) T.t238 z z z z z) hT z (.tp' 7 z z hT (.tp' 8 z z hT (.ts' 9 z (fun W hT=>ixv (hS.keep q_2) hx5 T.u220 T.t238 z z z) hT z (.ts' 10 z (fun W hT=>lde (RV.flat (hT.keep q_2) hx5 z) T.t238 z z z z z) hT z (.by [11,12] ⟨⟨_,z,?_⟩,⟨_,z,?_⟩,trivial⟩)))))))))))
     ·refine (.cO hS Tryz.func259 (nD hy6) z z ?_)
      intro W hS
      have hT:=hS.to [0,0]
      refine ⟨fun _=>hT,.by1 12 z (.alloc T.t238 hS ?_)⟩
      intro g3 W hS
      have hT:=hS.to [1,1]
      refine ⟨fun _=>hT,.by1 13 z (.st T.t238 hS z z z ?_)⟩
      intro W hS
      refine ⟨fun h=>absurd z h,?_⟩
      refine .done ?_
      have hS:=Sep.gat (ds:=[.row 238 2 (x1.map bK)]) (cs:=[(sv v1)]) (L1:=[ae (sv v1) 238 2 bK x1]) (.row (.nil)) (hS.to [1,1,0])
      have hS : Sep _ _ _ [ae (sv v_0) 220 1 (fun (l : List aY)=>D.row 238 2 (l.map bK)) s1.2.2,.box g3 238 [vi y6.Kind,vi y6.N]]:=Sep.back0v hx1 hS
      exact ⟨z,g3,sb z,hS.to [0,0]⟩
     refine (.alloc T.t238 hS ?_)
     intro g4 W hS
     have hT:=hS.to [1,1]
     refine ⟨fun _=>hT,.by1 11 z (.cO hS Tryz.func259 (nD hy6) z z ?_)⟩
     intro W hS
     have hT:=hS.to [1,1]
     refine ⟨fun _=>hT,.by1 13 z (.st T.t238 hS z z z ?_)⟩
     intro W hS
     refine ⟨fun h=>absurd z h,?_⟩
     refine .done ?_
     have hS:=Sep.gat (ds:=[.row 238 2 (x1.map bK)]) (cs:=[(sv v1)]) (L1:=[ae (sv v1) 238 2 bK x1]) (.row (.nil)) (hS.to [1,1,0])
     have hS : Sep _ _ _ [ae (sv v_0) 220 1 (fun (l : List aY)=>D.row 238 2 (l.map bK)) s1.2.2,.box g4 238 [vi y6.Kind,vi y6.N]]:=Sep.back0v hx1 hS
     exact ⟨z,g4,sb z,hS.to [0,0]⟩
    intro x E W hJ
    obtain ⟨rfl,g5,hE,hS⟩:=hJ
    refine ⟨_,hE.sub,?_⟩
    refine .seq ?_
    have ⟨x6,hx6,h⟩:=bnd h
    obtain ⟨k2,hS⟩:=Sep.ov hS hx6
    obtain ⟨v2,k2,rfl,hS⟩:=hS.ow
    obtain ⟨rfl,hS⟩:=hS.oN
    refine .rk 9 hS [0,0,0] T.mix ?_
    intro W hS
    have hT:=hS.to [0,0,0]
    refine .ts' 0 z (fun W hT=>ld T.t238 hT.p2 z z z z z) hT z (.tp' 1 z z hT (.tp' 2 z z hT (.ts' 3 z (fun W hT=>ixh hT.p1 hx6 T.u217 T.t220 z z z) hT z (.ts' 4 z (fun W hT=>lde (hT.p1.hcellsv) T.t220 z z z z z) hT z (.tp' 5 z z hT ?_)))))
    have ⟨x8,hx8,h⟩:=bnd h
    refine .ts' 6 z (fun W hT=>ixv hS.lv hx8 T.u220 T.t238 z z z) hT z (.ts' 7 z (fun W hT=>lde (RV.flat hT.lv hx8 z) T.t238 z z z z z) hT z (.ts' 8 z (fun W hT=>nes T.e238 z z z z) hT z (.done ?_)))
    refine .cs z h ?_ ?_ <;> intro h
    ·refine .seq (.rk 7 hS [0,0,0] T.mix ?_)
     intro W hS
     have hT:=hS.to [0,0,0]
     refine .tp' 0 z z hT (.tp' 1 z z hT (.ts' 2 z (fun W hT=>ixh hT.p1 hx6 T.u217 T.t220 z z z) hT z (.ts' 3 z (fun W hT=>lde (hT.p1.hcellsv) T.t220 z z z z z) hT z (.tp' 4 z z hT (.ts' 5 z (fun W hT=>ld T.t238 hT.p2 z z z z z) hT z ?_)))))
     have ⟨x9,hx9,h⟩:=bnd h
     refine .ts' 6 z (fun W hT=>ixv hS.lv hx9 T.u220 T.t238 z z z) hT z ?_
     have ⟨r1,hr1,h⟩:=bnd h
     refine .by1 7 z (.sev hr1 hx9 hS T.t238 z z z z z z ?_)
     intro W hS
     refine ⟨fun h=>absurd z h,?_⟩
     refine .done (.region (.q z (.nil ?_)))
     have hS:=Sep.gat (ds:=[.row 238 2 (r1.map bK)]) (cs:=[(sv v2)]) (L1:=[ae (sv v2) 238 2 bK r1]) (.row (.nil)) (hS.to [0,0,0])
     have hS : Sep _ _ _ [ae (sv v_0) 220 1 (fun (l : List aY)=>D.row 238 2 (l.map bK)) (s1.2.2.set (Int.toNat a1) r1),.box g5 238 [vi y6.Kind,vi y6.N]]:=hS.bv
     cases h
     exact ⟨z,sb z,hS.to [0]⟩
    refine .skip ?_
    have hS:=Sep.gat (ds:=[.row 238 2 (x6.map bK)]) (cs:=[(sv v2)]) (L1:=[ae (sv v2) 238 2 bK x6]) (.row (.nil)) (hS.to [0,0,0])
    have hS : Sep _ _ _ [ae (sv v_0) 220 1 (fun (l : List aY)=>D.row 238 2 (l.map bK)) s1.2.2,.box g5 238 [vi y6.Kind,vi y6.N]]:=Sep.back0v hx6 hS
    cases h
    exact ⟨z,sb z,hS.to [0]⟩
   intro x E W hJ
   obtain ⟨rfl,hE,hS⟩:=hJ
   refine ⟨_,hE.sub,?_⟩
   refine .region (.q z (.q z (.q z (.nil ?_))))
   cases h
   exact ⟨z,sb z,hS.to [0]⟩
  refine .exit ?_
  cases h
  exact ⟨by simp,z,sb z,hS.to [0]⟩
 intro x E W hJ
 obtain ⟨rfl,hE,hS⟩:=hJ
 refine ⟨_,hE.sub,?_⟩
 cases h
 exact .g (.q z (.qn z (.ret (ab (vs:=[_]) () (rt z rn) z (hS.to [0])))))
theorem qT {a0 : List ah} {a1 : List (List aY)} {v_0 : Hd} {v_1 : Hd} {S : Nat → Prop} {w : World} {r : Bool × (List (List aY))} (h : iu a0 a1 = some r) (q_0 : RV w (Old S w) (sv v_0) 102 5 aK a0) (hO : bO w [ae (sv v_1) 220 1 (fun (l : List aY)=>D.row 238 2 (l.map bK)) a1] S) (hlt : ∀ b,S b → b < w.heap.size) : Cl 240 #[(sv v_0),(sv v_1)] w (Ret S w (fun s : Unit=>.bool r.1) (fun s=>[ae (sv v_1) 220 1 (fun (l : List aY)=>D.row 238 2 (l.map bK)) r.2])):=by
 unfold iu at h
 refine ar Tryz.func240 z z ?_
 have hS:=Sep.sm hO hlt
 refine .g (.qn z (.g (.qn z (.seq (.g (.qn z (.block ?_)))))))
 have ⟨y1,hy1,h⟩:=bnd h
 refine .via (.iter (fun s1 E' W'=>aD E' [(0,(sv v_0)),(1,(sv v_1)),(5,.bool s1.1),(6,vi s1.2.1)] ∧ Sep S w W' [ae (sv v_1) 220 1 (fun (l : List aY)=>D.row 238 2 (l.map bK)) s1.2.2]) (fun y2 x E' W'=>x = .exit 0 ∧ aD E' [(5,.bool y2.1)] ∧ Sep S w W' [ae (sv v_1) 220 1 (fun (l : List aY)=>D.row 238 2 (l.map bK)) y2.2]) hy1 ⟨sb z,hS.to [0]⟩ ?_) ?_
 ·intro s1 y3 E W h hI
  obtain ⟨hE,hS⟩:=hI
  refine CW.sub hE ?_
  unfold kc at h
  refine .seq (.g (.q z (.q z (.s (bF (hS.keep q_0) T.u78 z z) z (.q z (.nil ?_))))))
  refine .cs z h ?_ ?_ <;> intro h
  ·refine .skip ?_
   have ⟨y4,hy4,h⟩:=bnd h
   refine .seq (CW.via (R':=fun x E' W'=>x = .normal ∧ aD E' [(0,(sv v_0)),(1,(sv v_1)),(5,.bool y4.1),(6,vi s1.2.1)] ∧ Sep S w W' [ae (sv v_1) 220 1 (fun (l : List aY)=>D.row 238 2 (l.map bK)) y4.2]) ?_ ?_)
   ·have h:=hy4
    refine .block (.seq (.g (.q z (.q z ?_))))
    have ⟨x1,hx1,h⟩:=bnd h
    refine .s (ixv hS.lv hx1 T.u217 T.t220 z z z) z ?_
    obtain ⟨k1,hS⟩:=Sep.ov hS hx1
    obtain ⟨v1,k1,rfl,hS⟩:=hS.ow
    obtain ⟨rfl,hS⟩:=hS.oN
    refine .s (lde (hS.p1.hcellsv) T.t220 z z z z z) z ?_
    have ⟨x2,hx2,h⟩:=bnd h
    refine .s (ixv hS.lv hx2 T.u220 T.t238 z z z) z (.s (fe T.f238_0 z z z) z (.s (lde (RV.flat hS.lv hx2 z) T.t3 z z z z z) z (.q z (.nil ?_))))
    refine .cs z h ?_ ?_ <;> intro h
    ·refine .exit ?_
     have hS:=Sep.gat (ds:=[.row 238 2 (x1.map bK)]) (cs:=[(sv v1)]) (L1:=[ae (sv v1) 238 2 bK x1]) (.row (.nil)) (hS.to [0,0])
     have hS : Sep _ _ _ [ae (sv v_1) 220 1 (fun (l : List aY)=>D.row 238 2 (l.map bK)) s1.2.2]:=Sep.back0v hx1 hS
     cases h
     exact ⟨z,sb z,hS.to [0]⟩
    refine .skip (.g (.q z (.q z (.q z (.s (ixh hS.p1 hx1 T.u217 T.t220 z z z) z (.s (lde (hS.p1.hcellsv) T.t220 z z z z z) z (.q z ?_)))))))
    have ⟨y5,hy5,h⟩:=bnd h
    refine .c (.cV hS Tryz.func250 (qO hy5 (hS.keep q_0) hS.lv) z z ?_)
    intro v2 W hS
    refine .qn z (.seq (.rk 10 hS [0,0,0] T.mix ?_))
    intro W hS
    have hT:=hS.to [0,0,0]
    refine .tp' 0 z z hT (.tp' 1 z z hT ?_)
    have ⟨x3,hx3,h⟩:=bnd h
    refine .ts' 2 z (fun W hT=>ixv (hS.keep q_0) hx3 T.u78 T.t102 z z z) hT z (.ts' 3 z (fun W hT=>lde (RV.flat (hT.keep q_0) hx3 z) T.t102 z z z z z) hT z (.tp' 4 z z hT (.tp' 5 z z hT (.ts' 6 z (fun W hT=>ixh hT.p2 hx1 T.u217 T.t220 z z z) hT z (.ts' 7 z (fun W hT=>lde (hT.p2.hcellsv) T.t220 z z z z z) hT z ?_)))))
    have ⟨y6,hy6,h⟩:=bnd h
    refine .by1 8 z (.cV hS Tryz.func251 (qR hy6 hS.p1.lv) z z ?_)
    intro v3 W hS
    have hT:=hS.to [1,1,1]
    refine ⟨fun _=>hT,.tp' 9 z z hT (.done (.g (.qn z (.block ?_))))⟩
    have hS:=Sep.gat (ds:=[.row 238 2 (x1.map bK)]) (cs:=[(sv v1)]) (L1:=[ae (sv v1) 238 2 bK x1]) (.row (.nil)) (hS.to [2,2,0,0])
    have hS : Sep _ _ _ [ae (sv v_1) 220 1 (fun (l : List aY)=>D.row 238 2 (l.map bK)) s1.2.2,ae (sv v3) 238 2 bK y6,ae (sv v2) 3 1 (D.int .i64) y5]:=Sep.back0v hx1 hS
    have ⟨y7,hy7,h⟩:=bnd h
    refine .via (.iter (fun s2 E' W'=>aD E' [(0,(sv v_0)),(1,(sv v_1)),(5,.bool s2.1),(6,vi s1.2.1),(7,(sv v2)),(8,(sv v3)),(9,vi s2.2.1)] ∧ Sep S w W' [ae (sv v_1) 220 1 (fun (l : List aY)=>D.row 238 2 (l.map bK)) s2.2.2,ae (sv v3) 238 2 bK y6,ae (sv v2) 3 1 (D.int .i64) y5]) (fun y8 x E' W'=>x = .exit 2 ∧ aD E' [(0,(sv v_0)),(1,(sv v_1)),(5,.bool y8.1),(6,vi s1.2.1)] ∧ Sep S w W' [ae (sv v_1) 220 1 (fun (l : List aY)=>D.row 238 2 (l.map bK)) y8.2,ae (sv v3) 238 2 bK y6,ae (sv v2) 3 1 (D.int .i64) y5]) hy7 ⟨sb z,hS.to [0,0,0]⟩ ?_) ?_
    ·intro s2 y9 E W h hI
     obtain ⟨hE,hS⟩:=hI
     refine CW.sub hE ?_
     unfold ka at h
     refine .seq (.g (.q z (.q z (.s (bF hS.p2.lv T.u23 z z) z (.qn z (.cond z (fun hb=>?_) (fun hb=>?_)))))))
     ·have h:=aF hb h
      refine .skip ?_
      have ⟨y10,hy10,h⟩:=bnd h
      refine .seq (CW.via (R':=fun x E' W'=>x = .normal ∧ aD E' [(0,(sv v_0)),(1,(sv v_1)),(5,.bool y10.1),(6,vi s1.2.1),(7,(sv v2)),(8,(sv v3)),(9,vi s2.2.1)] ∧ Sep S w W' [ae (sv v_1) 220 1 (fun (l : List aY)=>D.row 238 2 (l.map bK)) y10.2,ae (sv v3) 238 2 bK y6,ae (sv v2) 3 1 (D.int .i64) y5]) ?_ ?_)
      ·have h:=hy10
       refine .block (.g (.q z (.q z (.q z ?_))))
       have ⟨x4,hx4,h⟩:=bnd h
       refine .s (ixv hS.p2.lv hx4 T.u23 T.t3 z z z) z (.s (lde (RV.flat hS.p2.lv hx4 z) T.t3 z z z z z) z (.q z ?_))
       have ⟨y11,hy11,h⟩:=bnd h
       refine .c (.cS (L0:=[ae (sv v_1) 220 1 (fun (l : List aY)=>D.row 238 2 (l.map bK)) s2.2.2]) hS Tryz.func252 (fun S h1 h2 h3=>(qS hy11 (h3.rdv (k:=0) z) h2 (zz h1))) z z ?_)
       rintro ⟨⟩ W hS
       refine .nil ?_
       refine .cs z h ?_ ?_ <;> intro h
       ·refine .region (.q z (.nil ?_))
        cases h
        exact ⟨z,sb z,hS.to [0,0,0]⟩
       refine .skip ?_
       cases h
       exact ⟨z,sb z,hS.to [0,0,0]⟩
      intro x E W hJ
      obtain ⟨rfl,hE,hS⟩:=hJ
      refine ⟨_,hE.sub,?_⟩
      refine .region (.q z (.q z (.q z (.nil ?_))))
      cases h
      exact ⟨z,sb z,hS.to [0,0,0]⟩
     have h:=aG hb h
     refine .exit ?_
     cases h
     exact ⟨by simp,z,sb z,hS.to [0,0,0]⟩
    intro x E W hJ
    obtain ⟨rfl,hE,hS⟩:=hJ
    refine ⟨_,hE.sub,?_⟩
    cases h
    exact ⟨z,sb z,hS.to [0]⟩
   intro x E W hJ
   obtain ⟨rfl,hE,hS⟩:=hJ
   refine ⟨_,hE.sub,?_⟩
   refine .region (.q z (.q z (.q z (.nil ?_))))
   cases h
   exact ⟨z,sb z,hS.to [0]⟩
  refine .exit ?_
  cases h
  exact ⟨by simp,z,sb z,hS.to [0]⟩
 intro x E W hJ
 obtain ⟨rfl,hE,hS⟩:=hJ
 refine ⟨_,hE.sub,?_⟩
 cases h
 exact .g (.q z (.qn z (.ret (ab (vs:=[_]) () (rt z rn) z (hS.to [0])))))
theorem rY {a0 : List ah} {v_0 : Hd} {w : World} {r : (List (List aY))} (h : ju a0 = some r) (q_0 : RO w v_0 102 5 aK a0) : Cl 221 #[(sv v_0)] w (Ret No w (fun s : Hd=>(sv s)) (fun s=>[ae (sv s) 220 1 (fun (l : List aY)=>D.row 238 2 (l.map bK)) r])):=by
 unfold ju at h
 refine ar Tryz.func221 z z ?_
 have hS:=Sep.start w
 refine .g (.qn z (.g (.c (.lg (L1:=[]) [] (fun (l : List aY)=>D.row 238 2 (l.map bK)) T.u217 T.t220 (hS.to []) z z z (.nil) ?_ z (fun _=>z)))))
 intro v1 W hS
 refine .qn z (.seq (.g (.q z ?_)))
 have ⟨y1,hy1,h⟩:=bnd h
 refine .c (.cO hS Tryz.func137 (bZ hy1 (hS.keep q_0)) z z ?_)
 intro W hS
 refine .qn z (.cond z (fun hb=>?_) (fun hb=>?_))
 ·have h:=aF hb h
  cases h
  exact .g (.q z (.qn z (.ret (ab (vs:=[_]) v1 (rt z rn) z (hS.to [0])))))
 have h:=aG hb h
 refine .skip (.seq (.g (.qn z (.block ?_))))
 have ⟨y2,hy2,h⟩:=bnd h
 refine .via (.iter (fun s1 E' W'=>∃ (v4 : Hd),aD E' [(0,(sv v_0)),(3,(sv v4)),(4,vi s1.2)] ∧ Sep No w W' [ae (sv v4) 220 1 (fun (l : List aY)=>D.row 238 2 (l.map bK)) s1.1]) (fun y3 x E' W'=>x = .exit 0 ∧ ∃ (v5 : Hd),aD E' [(0,(sv v_0)),(3,(sv v5))] ∧ Sep No w W' [ae (sv v5) 220 1 (fun (l : List aY)=>D.row 238 2 (l.map bK)) y3]) hy2 ⟨v1,sb z,hS.to [0]⟩ ?_) ?_
 ·intro s1 y4 E W h hI
  obtain ⟨v3,hE,hS⟩:=hI
  refine CW.sub hE ?_
  unfold kZ at h
  refine .seq (.g (.q z (.q z (.s (bF (hS.keep q_0) T.u78 z z) z (.q z (.nil ?_))))))
  refine .cs z h ?_ ?_ <;> intro h
  ·refine .skip (.seq (.block (.region (.q z ?_))))
   have ⟨r1,hr1,h⟩:=bnd h
   refine .c (.mkv (aY.mk 0 0) bK hr1 T.u220 T.t238 hS z z z z z (fun _=>z) ?_)
   intro v6 W hS
   refine .c (.lg (L1:=[ae (sv v6) 238 2 bK r1]) [r1] (fun (l : List aY)=>D.row 238 2 (l.map bK)) T.u217 T.t220 (hS.to [0,0]) z z z (.row (.nil)) ?_ z (fun _=>z))
   intro v7 W hS
   have ⟨r2,hr2,h⟩:=bnd h
   refine .c (.appv hr2 (hS.to [1,0]) T.u217 T.t220 z z z ?_)
   intro v8 W hS
   refine .qn z (.region (.q z (.q z (.q z (.nil ?_)))))
   cases h
   exact ⟨z,v8,sb z,hS.to [0]⟩
  refine .exit ?_
  cases h
  exact ⟨by simp,z,v3,sb z,hS.to [0]⟩
 intro x E W hJ
 obtain ⟨rfl,v9,hE,hS⟩:=hJ
 refine ⟨_,hE.sub,?_⟩
 refine .seq (.g (.qn z (.block ?_)))
 have ⟨y5,hy5,h⟩:=bnd h
 refine .via (.iter (fun s2 E' W'=>aD E' [(0,(sv v_0)),(3,(sv v9)),(5,vi s2.1)] ∧ Sep No w W' [ae (sv v9) 220 1 (fun (l : List aY)=>D.row 238 2 (l.map bK)) s2.2]) (fun y6 x E' W'=>x = .exit 2 ∧ aD E' [(0,(sv v_0)),(3,(sv v9))] ∧ Sep No w W' [ae (sv v9) 220 1 (fun (l : List aY)=>D.row 238 2 (l.map bK)) y6]) hy5 ⟨sb z,hS.to [0]⟩ ?_) ?_
 ·intro s2 y7 E W h hI
  obtain ⟨hE,hS⟩:=hI
  refine CW.sub hE ?_
  unfold k8 at h
  refine .seq (.g (.q z (.q z (.nil ?_))))
  refine .cs z h ?_ ?_ <;> intro h
  ·refine .skip (.seq (.block (.region (.q z ?_))))
   have ⟨x1,hx1,h⟩:=bnd h
   refine .s (ixv hS.lv hx1 T.u217 T.t220 z z z) z ?_
   obtain ⟨k1,hS⟩:=Sep.ov hS hx1
   obtain ⟨v10,k1,rfl,hS⟩:=hS.ow
   obtain ⟨rfl,hS⟩:=hS.oN
   refine .s (lde (hS.p1.hcellsv) T.t220 z z z z z) z (.q z (.s (bs T.s238 z z) z ?_))
   have ⟨x2,hx2,h⟩:=bnd h
   refine .s (ixv hS.lv hx2 T.u220 T.t238 z z z) z ?_
   have ⟨r3,hr3,h⟩:=bnd h
   refine .c (.sev hr3 hx2 hS T.t238 z z z z z z ?_)
   intro W hS
   refine .nil (.region (.q z (.q z (.q z (.nil ?_)))))
   have hS:=Sep.gat (ds:=[.row 238 2 (r3.map bK)]) (cs:=[(sv v10)]) (L1:=[ae (sv v10) 238 2 bK r3]) (.row (.nil)) (hS.to [0,0])
   have hS : Sep _ _ _ [ae (sv v9) 220 1 (fun (l : List aY)=>D.row 238 2 (l.map bK)) (s2.2.set (Int.toNat 0) r3)]:=hS.bv
   cases h
   exact ⟨z,sb z,hS.to [0]⟩
  refine .exit ?_
  cases h
  exact ⟨by simp,z,sb z,hS.to [0]⟩
 intro x E W hJ
 obtain ⟨rfl,hE,hS⟩:=hJ
 refine ⟨_,hE.sub,?_⟩
 refine .seq (.block ?_)
 have ⟨y8,hy8,h⟩:=bnd h
 refine .via (.iter (fun s3 E' W'=>aD E' [(0,(sv v_0)),(3,(sv v9))] ∧ Sep No w W' [ae (sv v9) 220 1 (fun (l : List aY)=>D.row 238 2 (l.map bK)) s3]) (fun y9 x E' W'=>x = .exit 4 ∧ aD E' [(3,(sv v9))] ∧ Sep No w W' [ae (sv v9) 220 1 (fun (l : List aY)=>D.row 238 2 (l.map bK)) y9]) hy8 ⟨sb z,hS.to [0]⟩ ?_) ?_
 ·intro s3 y10 E W h hI
  obtain ⟨hE,hS⟩:=hI
  refine CW.sub hE ?_
  unfold k9 at h
  refine .seq (.g (.q z (.q z ?_)))
  have ⟨y11,hy11,h⟩:=bnd h
  refine .c (.cS (L0:=[ae (sv v9) 220 1 (fun (l : List aY)=>D.row 238 2 (l.map bK)) s3]) hS Tryz.func240 (fun S h1 h2 h3=>(qT hy11 (hS.ks q_0 h1) h2 (zz h1))) z z ?_)
  rintro ⟨⟩ W hS
  refine .nil ?_
  refine .cs z h ?_ ?_ <;> intro h
  ·refine .skip (.block (.skip ?_))
   cases h
   exact ⟨z,sb z,hS.to [0]⟩
  refine .exit ?_
  cases h
  exact ⟨by simp,z,sb z,hS.to [0]⟩
 intro x E W hJ
 obtain ⟨rfl,hE,hS⟩:=hJ
 refine ⟨_,hE.sub,?_⟩
 obtain rfl:=o9 h
 exact .g (.q z (.qn z (.ret (ab (vs:=[_]) v9 (rt z rn) z (hS.to [0])))))
theorem eN {a0 : aY} {a1 : Int} {w : World} {r : Bool} (h : eK a0 a1 = some r) : Cl 242 #[.agg #[vi a0.Kind,vi a0.N],vi a1] w (RU w (.bool r)):=by
 unfold eK at h
 refine ar Tryz.func242 z z ?_
 have hS:=Sep.start w
 refine .g (.c (.box hS z z ?_))
 intro g1 W hS
 refine .qn z (.g (.s (fa T.f238_0 z z z) z (.s (ld T.t3 hS z z z z z) z (.q z (.q z (.cu 5 13 ((a0.Kind == 1) && (a0.N == a1)) hS ?_ ?_))))))
 ·refine .both (a0.Kind == 1) (fun hb=>?_) (fun hb=>?_)
  ·have hg1:=hb
   exact .g hg1 (.s (fa T.f238_1 z z z) z (.g hg1 (.s (ld T.t3 hS z z z z z) z (.g hg1 (.q z (.g hg1 (.q z (.s (pkt hg1 z z z) z (.nil (ck 5 hS z (bR hg1)))))))))))
  exact .xx hb z (.xx hb z (.xx hb z (.xx hb z (.s (pkf hb z z z) z (.nil (ck 5 hS z (bS hb)))))))
 intro W hS
 cases h
 exact .qn z (.ret (ab (vs:=[_]) () (rt z rn) z (hS.to [])))
def uh (w : World) (r : Bool) : Env → World → Prop:=Fin Tryz.prog Tryz.f261 No w (fun s : Unit=>.bool r) (fun s=>[]) .ret
theorem tX {a0 : List Int} {a1 : Int} {v_0 : Hd} {w : World} {r : Bool} (h : kS a0 a1 = some r) (q_0 : RO w v_0 3 1 (D.int .i64) a0) : Cl 261 #[(sv v_0),vi a1] w (RU w (.bool r)):=by
 unfold kS at h
 refine ar Tryz.func261 z z ?_
 have hS:=Sep.start w
 refine .g (.qn z (.seq (.g (.qn z (.block ?_)))))
 have ⟨y1,hy1,h⟩:=bnd h
 refine .via (.iter (fun s1 E' W'=>aD E' [(0,(sv v_0)),(1,vi a1),(5,vi s1)] ∧ Sep No w W' []) (fun y2 x E' W'=>(match y2 with | .inl o1=>x = .ret ∧ uh w o1 E' W' | .inr o2=>x = .exit 0 ∧ aD E' [] ∧ Sep No w W' [])) hy1 ⟨sb rfl,hS.to [] rfl⟩ ?_) ?_
 ·intro s1 y3 E W h hI
  obtain ⟨hE,hS⟩:=hI
  refine CW.sub hE ?_
  unfold lN at h
  refine .seq (.g (.q z (.q z (.s (bF (hS.keep q_0) T.u23 z z) z (.q z (.nil ?_))))))
  refine .cs z h ?_ ?_ <;> intro h
  ·refine .skip (.seq (.block (.g (.q z (.q z ?_)))))
   have ⟨x1,hx1,h⟩:=bnd h
   refine .s (ixv (hS.keep q_0) hx1 T.u23 T.t3 z z z) z (.s (lde (RV.flat (hS.keep q_0) hx1 z) T.t3 z z z z z) z (.q z (.q z (.nil ?_))))
   refine .cs z h ?_ ?_ <;> intro h
   ·refine .g (.qn z (.ret ?_))
    cases h
    exact ⟨by simp,z,ab (vs:=[_]) () (rt z rn) z (hS.to [])⟩
   refine .skip (.region (.q z (.q z (.q z (.nil ?_)))))
   cases h
   exact ⟨z,sb z,hS.to []⟩
  refine .exit ?_
  cases h
  exact ⟨by simp,z,sb z,hS.to []⟩
 intro x E W hJ
 rcases y1 with o3 | o4
 ·obtain ⟨rfl,hF⟩:=hJ
  refine ⟨_,fun _ _ h=>h,?_⟩
  cases h
  exact hF
 obtain ⟨rfl,hE,hS⟩:=hJ
 refine ⟨_,hE.sub,?_⟩
 obtain rfl:=o9 h
 exact .g (.qn z (.ret (ab (vs:=[_]) () (rt z rn) z (hS.to []))))
theorem jV {a0 : Int} {a1 : List Int} {v_1 : Hd} {w : World} {r : Bool} (h : fy a0 a1 = some r) (q_1 : RO w v_1 3 1 (D.int .i64) a1) : Cl 254 #[vi a0,(sv v_1)] w (RU w (.bool r)):=by
 unfold fy at h
 refine ar Tryz.func254 z z ?_
 have hS:=Sep.start w
 refine .g (.qn z (.g (.q z (.q z ?_))))
 have ⟨y1,hy1,h⟩:=bnd h
 refine .c (.cO hS Tryz.func261 (tX hy1 (hS.keep q_1)) z z ?_)
 intro W hS
 obtain rfl:=o9 h
 exact .qn z (.ret (ab (vs:=[_]) () (rt z rn) z (hS.to [])))
theorem tY {a0 : ah} {a1 : aY} {a2 : aY} {w : World} {r : ah} (h : kT a0 a1 a2 = some r) : Cl 241 #[.agg #[vi a0.Op,vi a0.Dst,vi a0.A,vi a0.B,vi a0.N],.agg #[vi a1.Kind,vi a1.N],.agg #[vi a2.Kind,vi a2.N]] w (RU w (.agg #[vi r.Op,vi r.Dst,vi r.A,vi r.B,vi r.N])):=by
 unfold kT at h
 refine ar Tryz.func241 z z ?_
 have hS:=Sep.start w
 refine .g (.c (.box hS z z ?_))
 intro g1 W hS
 refine .c (.box hS z z ?_)
 intro g2 W hS
 refine .c (.box hS z z ?_)
 intro g3 W hS
 refine .c (.alloc T.t102 hS ?_)
 intro g4 W hS
 refine .nil (.g (.s (ld T.t102 hS.p3 z z z z z) z (.s (ld T.t238 hS.p2 z z z z z) z (.s (ld T.t238 hS.p1 z z z z z) z ?_))))
 have ⟨y1,hy1,h⟩:=bnd h
 refine .c (.cO hS Tryz.func253 (mv hy1) z z ?_)
 intro W hS
 refine .c (.alloc T.t238 hS ?_)
 intro g5 W hS
 refine .c (.st T.t238 hS z z z ?_)
 intro W hS
 refine .nil (.seq (.block (.g (.s (fa T.f238_0 z z z) z (.s (ld T.t3 hS z z z z z) z (.q z (.q z (.nil ?_))))))))
 refine .cs z h ?_ ?_ <;> intro h
 ·refine .g (.s (fa T.f102_1 z z z) z (.s (ld T.t3 hS.p4 z z z z z) z (.s (fa T.f238_1 z z z) z (.s (ld T.t3 hS z z z z z) z (.s (bs T.s102 z z) z (.c (.st T.t102 hS.p1 z z z ?_)))))))
  intro W hS
  cases h
  exact .nil (.ret (ab (vs:=[_]) () (rc hS T.t102 z rn z z) z (hS.to [])))
 refine .g (.s (ld T.t238 hS.p2 z z z z z) z ?_)
 have ⟨y2,hy2,h⟩:=bnd h
 refine .c (.cO hS Tryz.func242 (eN hy2) z z ?_)
 intro W hS
 refine .q z ?_
 have ⟨b1,hb1,h⟩:=bnd h
 refine .cu 5 29 (b1) hS ?_ ?_
 ·refine .both (y2) (fun hb=>?_) (fun hb=>?_)
  ·have hg1:=hb
   have h:=aF hb hb1
   refine .g hg1 (.s (fa T.f102_4 z z z) z (.g hg1 (.s (ld T.t3 hS.p4 z z z z z) z (.g hg1 (.c (.liv [1,2,6,7,8,9] (D.int .i64) T.u23 T.t3 hS z z z z ?_ z (fun _=>z)))))))
   intro v1 W hS
   have ⟨y3,hy3,h⟩:=bnd h
   refine .g hg1 (.c (.cO hS Tryz.func254 (jV hy3 hS.lv) z z ?_))
   intro W hS
   refine .s (pkt hg1 z z z) z ?_
   cases h
   exact .nil (ck 5 (hS.to [1,1,1,1,1]))
  refine .xx hb z (.xx hb z (.xx hb z (.xx hb z ?_)))
  cases aG hb hb1
  exact .s (pkf hb z z z) z (.nil (ck 5 hS))
 intro W hS
 refine .q z (.nil ?_)
 refine .cs z h ?_ ?_ <;> intro h
 ·refine .g (.s (fa T.f102_1 z z z) z (.s (ld T.t3 hS.p4 z z z z z) z (.s (fa T.f102_2 z z z) z (.s (ld T.t3 hS.p4 z z z z z) z (.s (bs T.s102 z z) z (.c (.st T.t102 hS.p1 z z z ?_)))))))
  intro W hS
  cases h
  exact .nil (.ret (ab (vs:=[_]) () (rc hS T.t102 z rn z z) z (hS.to [])))
 refine .g (.s (ld T.t238 hS.p2 z z z z z) z ?_)
 have ⟨y4,hy4,h⟩:=bnd h
 refine .c (.cO hS Tryz.func242 (eN hy4) z z ?_)
 intro W hS
 refine .q z ?_
 have ⟨b2,hb2,h⟩:=bnd h
 refine .cu 5 43 (b2) hS ?_ ?_
 ·refine .both (y4) (fun hb=>?_) (fun hb=>?_)
  ·have hg2:=hb
   have h:=aF hb hb2
   refine .g hg2 (.s (fa T.f102_4 z z z) z (.g hg2 (.s (ld T.t3 hS.p4 z z z z z) z (.g hg2 (.c (.liv [10,11] (D.int .i64) T.u23 T.t3 hS z z z z ?_ z (fun _=>z)))))))
   intro v2 W hS
   have ⟨y5,hy5,h⟩:=bnd h
   refine .g hg2 (.c (.cO hS Tryz.func254 (jV hy5 hS.lv) z z ?_))
   intro W hS
   refine .s (pkt hg2 z z z) z ?_
   cases h
   exact .nil (ck 5 (hS.to [1,1,1,1,1]))
  refine .xx hb z (.xx hb z (.xx hb z (.xx hb z ?_)))
  cases aG hb hb2
  exact .s (pkf hb z z z) z (.nil (ck 5 hS))
 intro W hS
 refine .q z (.nil ?_)
 refine .cs z h ?_ ?_ <;> intro h
 ·refine .g (.s (fa T.f102_1 z z z) z (.s (ld T.t3 hS.p4 z z z z z) z (.s (fa T.f102_2 z z z) z (.s (ld T.t3 hS.p4 z z z z z) z (.s (bs T.s102 z z) z (.c (.st T.t102 hS.p1 z z z ?_)))))))
  intro W hS
  cases h
  exact .nil (.ret (ab (vs:=[_]) () (rc hS T.t102 z rn z z) z (hS.to [])))
 refine .g (.s (ld T.t238 hS.p3 z z z z z) z ?_)
 have ⟨y6,hy6,h⟩:=bnd h
 refine .c (.cO hS Tryz.func242 (eN hy6) z z ?_)
 intro W hS
 refine .q z ?_
 have ⟨b3,hb3,h⟩:=bnd h
 refine .cu 5 57 (b3) hS ?_ ?_
 ·refine .both (y6) (fun hb=>?_) (fun hb=>?_)
  ·have hg3:=hb
   have h:=aF hb hb3
   refine .g hg3 (.s (fa T.f102_4 z z z) z (.g hg3 (.s (ld T.t3 hS.p4 z z z z z) z (.g hg3 (.c (.liv [1,2,8] (D.int .i64) T.u23 T.t3 hS z z z z ?_ z (fun _=>z)))))))
   intro v3 W hS
   have ⟨y7,hy7,h⟩:=bnd h
   refine .g hg3 (.c (.cO hS Tryz.func254 (jV hy7 hS.lv) z z ?_))
   intro W hS
   refine .s (pkt hg3 z z z) z ?_
   cases h
   exact .nil (ck 5 (hS.to [1,1,1,1,1]))
  refine .xx hb z (.xx hb z (.xx hb z (.xx hb z ?_)))
  cases aG hb hb3
  exact .s (pkf hb z z z) z (.nil (ck 5 hS))
 intro W hS
 refine .q z (.nil ?_)
 refine .cs z h ?_ ?_ <;> intro h
 ·refine .g (.s (fa T.f102_1 z z z) z (.s (ld T.t3 hS.p4 z z z z z) z (.s (fa T.f102_3 z z z) z (.s (ld T.t3 hS.p4 z z z z z) z (.s (bs T.s102 z z) z (.c (.st T.t102 hS.p1 z z z ?_)))))))
  intro W hS
  cases h
  exact .nil (.ret (ab (vs:=[_]) () (rc hS T.t102 z rn z z) z (hS.to [])))
 refine .g (.s (ld T.t238 hS.p3 z z z z z) z ?_)
 have ⟨y8,hy8,h⟩:=bnd h
 refine .c (.cO hS Tryz.func242 (eN hy8) z z ?_)
 intro W hS
 refine .q z (.cu 4 70 (y8 && (a0.N == 10)) hS ?_ ?_)
 ·refine .both (y8) (fun hb=>?_) (fun hb=>?_)
  ·have hg4:=hb
   exact .g hg4 (.s (fa T.f102_4 z z z) z (.g hg4 (.s (ld T.t3 hS.p4 z z z z z) z (.g hg4 (.q z (.s (pkt hg4 z z z) z (.nil (ck 4 hS z (bR hg4)))))))))
  exact .xx hb z (.xx hb z (.xx hb z (.s (pkf hb z z z) z (.nil (ck 4 hS z (bS hb))))))
 intro W hS
 refine .q z (.nil ?_)
 refine .cs z h ?_ ?_ <;> intro h
 ·refine .g (.s (fa T.f102_1 z z z) z (.s (ld T.t3 hS.p4 z z z z z) z (.s (fa T.f102_3 z z z) z (.s (ld T.t3 hS.p4 z z z z z) z (.s (bs T.s102 z z) z (.c (.st T.t102 hS.p1 z z z ?_)))))))
  intro W hS
  cases h
  exact .nil (.ret (ab (vs:=[_]) () (rc hS T.t102 z rn z z) z (hS.to [])))
 refine .g (.s (ld T.t238 hS.p3 z z z z z) z ?_)
 have ⟨y9,hy9,h⟩:=bnd h
 refine .c (.cO hS Tryz.func242 (eN hy9) z z ?_)
 intro W hS
 refine .q z ?_
 have ⟨b4,hb4,h⟩:=bnd h
 refine .cu 3 82 (b4) hS ?_ ?_
 ·refine .both (y9) (fun hb=>?_) (fun hb=>?_)
  ·refine .xx hb z (.xx hb z ?_)
   cases aF hb hb4
   exact .s (pkt hb z z z) z (.nil (ck 3 hS))
  have hg5:=hb
  have h:=aG hb hb4
  refine .g hg5 (.s (ld T.t238 hS.p2 z z z z z) z ?_)
  have ⟨y10,hy10,h⟩:=bnd h
  refine .g hg5 (.c (.cO hS Tryz.func242 (eN hy10) z z ?_))
  intro W hS
  refine .s (pkf hg5 z z z) z ?_
  cases h
  exact .nil (ck 3 hS)
 intro W hS
 refine .q z ?_
 have ⟨b5,hb5,h⟩:=bnd h
 refine .cu 5 88 (b5) hS ?_ ?_
 ·refine .both (b4) (fun hb=>?_) (fun hb=>?_)
  ·have hg6:=hb
   have h:=aF hb hb5
   refine .g hg6 (.s (fa T.f102_4 z z z) z (.g hg6 (.s (ld T.t3 hS.p4 z z z z z) z (.g hg6 (.c (.liv [3,10] (D.int .i64) T.u23 T.t3 hS z z z z ?_ z (fun _=>z)))))))
   intro v4 W hS
   have ⟨y11,hy11,h⟩:=bnd h
   refine .g hg6 (.c (.cO hS Tryz.func254 (jV hy11 hS.lv) z z ?_))
   intro W hS
   refine .s (pkt hg6 z z z) z ?_
   cases h
   exact .nil (ck 5 (hS.to [1,1,1,1,1]))
  refine .xx hb z (.xx hb z (.xx hb z (.xx hb z ?_)))
  cases aG hb hb5
  exact .s (pkf hb z z z) z (.nil (ck 5 hS))
 intro W hS
 refine .q z (.nil ?_)
 refine .cs z h ?_ ?_ <;> intro h
 ·refine .g (.s (fa T.f102_1 z z z) z (.s (ld T.t3 hS.p4 z z z z z) z (.s (bs T.s102 z z) z (.c (.st T.t102 hS.p1 z z z ?_)))))
  intro W hS
  cases h
  exact .nil (.ret (ab (vs:=[_]) () (rc hS T.t102 z rn z z) z (hS.to [])))
 refine .skip (.g (.s (ld T.t102 hS.p4 z z z z z) z (.c (.st T.t102 hS.p1 z z z ?_))))
 intro W hS
 obtain rfl:=o9 h
 exact .nil (.ret (ab (vs:=[_]) () (rc hS T.t102 z rn z z) z (hS.to [])))
theorem rZ {a0 : ah} {a1 : List aY} {a2 : Int} {v_1 : Hd} {w : World} {r : ah} (h : jv a0 a1 a2 = some r) (q_1 : RO w v_1 238 2 bK a1) : Cl 222 #[.agg #[vi a0.Op,vi a0.Dst,vi a0.A,vi a0.B,vi a0.N],(sv v_1),vi a2] w (RU w (.agg #[vi r.Op,vi r.Dst,vi r.A,vi r.B,vi r.N])):=by
 unfold jv at h
 refine ar Tryz.func222 z z ?_
 have hS:=Sep.start w
 refine .g (.c (.box hS z z ?_))
 intro g1 W hS
 refine .c (.alloc T.t102 hS ?_)
 intro g2 W hS
 refine .nil (.seq (.g (.q z ?_)))
 have ⟨x1,hx1,h⟩:=bnd h
 refine .s (ixv (hS.keep q_1) hx1 T.u220 T.t238 z z z) z (.s (fe T.f238_0 z z z) z (.s (lde (RV.flat (hS.keep q_1) hx1 z) T.t3 z z z z z) z (.q z (.nil ?_))))
 refine .cs z h ?_ ?_ <;> intro h
 ·refine .g (.s (ld T.t102 hS.p1 z z z z z) z (.c (.st T.t102 hS z z z ?_)))
  intro W hS
  obtain rfl:=o9 h
  exact .nil (.ret (ab (vs:=[_]) () (rc hS T.t102 z rn z z) z (hS.to [])))
 refine .skip (.seq (.g (.s (fa T.f102_0 z z z) z (.s (ld T.t3 hS.p1 z z z z z) z (.nil (.block (.g (.q z (.q z (.nil ?_))))))))))
 refine .cs z h ?_ ?_ <;> intro h
 ·refine .g (.q z (.s (fa T.f102_2 z z z) z (.s (ld T.t3 hS.p1 z z z z z) z ?_)))
  have ⟨x2,hx2,h⟩:=bnd h
  refine .s (ixv (hS.keep q_1) hx2 T.u220 T.t238 z z z) z (.s (fe T.f238_0 z z z) z (.s (lde (RV.flat (hS.keep q_1) hx2 z) T.t3 z z z z z) z (.q z (.nil ?_))))
  refine .cs z h ?_ ?_ <;> intro h
  ·refine .seq (.rk 9 hS [0,0] T.mix ?_)
   intro W hS
   have hT:=hS.to [0,0]
   refine .ts' 0 z (fun W hT=>fa T.f102_1 z z z) hT z (.ts' 1 z (fun W hT=>ld T.t3 hT.p1 z z z z z) hT z (.tp' 2 z z hT (.ts' 3 z (fun W hT=>fa T.f102_2 z z z) hT z (.ts' 4 z (fun W hT=>ld T.t3 hT.p1 z z z z z) hT z ?_))))
   have ⟨x3,hx3,h⟩:=bnd h
   refine .ts' 5 z (fun W hT=>ixv (hS.keep q_1) hx3 T.u220 T.t238 z z z) hT z (.ts' 6 z (fun W hT=>fe T.f238_1 z z z) hT z (.ts' 7 z (fun W hT=>lde (RV.flat (hT.keep q_1) hx3 z) T.t3 z z z z z) hT z (.ts' 8 z (fun W hT=>bs T.s102 z z) hT z (.by1 9 z (.st T.t102 hS z z z ?_)))))
   intro W hS
   refine ⟨fun h=>absurd z h,?_⟩
   cases h
   exact .done (.ret (ab (vs:=[_]) () (rc hS T.t102 z rn z z) z (hS.to [])))
  refine .skip (.g (.s (ld T.t102 hS.p1 z z z z z) z (.c (.st T.t102 hS z z z ?_))))
  intro W hS
  obtain rfl:=o9 h
  exact .nil (.ret (ab (vs:=[_]) () (rc hS T.t102 z rn z z) z (hS.to [])))
 refine .g (.q z (.q z (.nil ?_)))
 refine .cs z h ?_ ?_ <;> intro h
 ·refine .seq (.rk 12 hS [0,0] T.mix ?_)
  intro W hS
  have hT:=hS.to [0,0]
  refine .ts' 0 z (fun W hT=>ld T.t102 hT.p1 z z z z z) hT z (.tp' 1 z z hT (.ts' 2 z (fun W hT=>fa T.f102_2 z z z) hT z (.ts' 3 z (fun W hT=>ld T.t3 hT.p1 z z z z z) hT z ?_)))
  have ⟨x4,hx4,h⟩:=bnd h
  refine .ts' 4 z (fun W hT=>ixv (hS.keep q_1) hx4 T.u220 T.t238 z z z) hT z (.ts' 5 z (fun W hT=>lde (RV.flat (hT.keep q_1) hx4 z) T.t238 z z z z z) hT z (.tp' 6 z z hT (.ts' 7 z (fun W hT=>fa T.f102_3 z z z) hT z (.ts' 8 z (fun W hT=>ld T.t3 hT.p1 z z z z z) hT z ?_))))
  have ⟨x5,hx5,h⟩:=bnd h
  refine .ts' 9 z (fun W hT=>ixv (hS.keep q_1) hx5 T.u220 T.t238 z z z) hT z (.ts' 10 z (fun W hT=>lde (RV.flat (hT.keep q_1) hx5 z) T.t238 z z z z z) hT z ?_)
  have ⟨y1,hy1,h⟩:=bnd h
  refine .by1 11 z (.cO hS Tryz.func241 (tY hy1) z z ?_)
  intro W hS
  have hT:=hS.to [0,0]
  refine ⟨fun _=>hT,.by1 12 z (.st T.t102 hS z z z ?_)⟩
  intro W hS
  refine ⟨fun h=>absurd z h,?_⟩
  obtain rfl:=o9 h
  exact .done (.ret (ab (vs:=[_]) () (rc hS T.t102 z rn z z) z (hS.to [])))
 refine .g (.q z (.q z (.nil ?_)))
 refine .cs z h ?_ ?_ <;> intro h
 ·refine .seq (.g (.q z (.s (fa T.f102_2 z z z) z (.s (ld T.t3 hS.p1 z z z z z) z ?_))))
  have ⟨x6,hx6,h⟩:=bnd h
  refine .s (ixv (hS.keep q_1) hx6 T.u220 T.t238 z z z) z (.s (lde (RV.flat (hS.keep q_1) hx6 z) T.t238 z z z z z) z ?_)
  have ⟨y2,hy2,h⟩:=bnd h
  refine .c (.cO hS Tryz.func242 (eN hy2) z z ?_)
  intro W hS
  refine .nil ?_
  refine .cs z h ?_ ?_ <;> intro h
  ·refine .g (.s (fa T.f102_4 z z z) z (.s (ld T.t3 hS.p1 z z z z z) z (.s (bs T.s102 z z) z (.c (.st T.t102 hS z z z ?_)))))
   intro W hS
   cases h
   exact .nil (.ret (ab (vs:=[_]) () (rc hS T.t102 z rn z z) z (hS.to [])))
  refine .skip (.g (.q z (.s (fa T.f102_2 z z z) z (.s (ld T.t3 hS.p1 z z z z z) z ?_))))
  have ⟨x7,hx7,h⟩:=bnd h
  refine .s (ixv (hS.keep q_1) hx7 T.u220 T.t238 z z z) z (.s (fe T.f238_0 z z z) z (.s (lde (RV.flat (hS.keep q_1) hx7 z) T.t3 z z z z z) z (.q z (.nil ?_))))
  refine .cs z h ?_ ?_ <;> intro h
  ·refine .g (.q z (.q z (.s (bs T.s102 z z) z (.c (.st T.t102 hS z z z ?_)))))
   intro W hS
   cases h
   exact .nil (.ret (ab (vs:=[_]) () (rc hS T.t102 z rn z z) z (hS.to [])))
  refine .skip (.g (.s (ld T.t102 hS.p1 z z z z z) z (.c (.st T.t102 hS z z z ?_))))
  intro W hS
  obtain rfl:=o9 h
  exact .nil (.ret (ab (vs:=[_]) () (rc hS T.t102 z rn z z) z (hS.to [])))
 refine .skip (.g (.s (ld T.t102 hS.p1 z z z z z) z (.c (.st T.t102 hS z z z ?_))))
 intro W hS
 obtain rfl:=o9 h
 exact .nil (.ret (ab (vs:=[_]) () (rc hS T.t102 z rn z z) z (hS.to [])))
theorem qU {a0 : List ah} {v_0 : Hd} {w : World} {r : (List ah) × Bool} (h : iw a0 = some r) (q_0 : RO w v_0 102 5 aK a0) : Cl 200 #[(sv v_0)] w (Ret No w (fun s : Hd=>.tuple #[(sv s),.bool r.2]) (fun s=>[ae (sv s) 102 5 aK r.1])):=by
 unfold iw at h
 refine ar Tryz.func200 z z ?_
 have hS:=Sep.start w
 refine .g (.q z (.qn z (.g (.c (.liv [] aK T.u78 T.t102 hS z z z z ?_ z (fun _=>z))))))
 intro v1 W hS
 refine .qn z (.seq (.g (.q z ?_)))
 have ⟨y1,hy1,h⟩:=bnd h
 refine .c (.cO hS Tryz.func137 (bZ hy1 (hS.keep q_0)) z z ?_)
 intro W hS
 refine .q z (.nil ?_)
 refine .cs z h ?_ ?_ <;> intro h
 ·cases h
  exact .g (.q z (.q z (.qn z (.ret (ab (vs:=[_,_]) v1 (rt z (rt z rn)) z (hS.to [0]))))))
 refine .skip (.g (.q z ?_))
 have ⟨y2,hy2,h⟩:=bnd h
 refine .c (.cV hS Tryz.func221 (rY hy2 (hS.keep q_0)) z z ?_)
 intro v2 W hS
 refine .qn z (.seq (.g (.qn z (.block ?_))))
 have ⟨y3,hy3,h⟩:=bnd h
 refine .via (.iter (fun s1 E' W'=>∃ (v5 : Hd),aD E' [(0,(sv v_0)),(4,(sv v5)),(5,(sv v2)),(6,vi s1.2)] ∧ Sep No w W' [ae (sv v2) 220 1 (fun (l : List aY)=>D.row 238 2 (l.map bK)) y2,ae (sv v5) 102 5 aK s1.1]) (fun y4 x E' W'=>x = .exit 0 ∧ ∃ (v6 : Hd),aD E' [(4,(sv v6))] ∧ Sep No w W' [ae (sv v2) 220 1 (fun (l : List aY)=>D.row 238 2 (l.map bK)) y2,ae (sv v6) 102 5 aK y4]) hy3 ⟨v1,sb z,hS.to [0,0]⟩ ?_) ?_
 ·intro s1 y5 E W h hI
  obtain ⟨v4,hE,hS⟩:=hI
  refine CW.sub hE ?_
  unfold gJ at h
  refine .seq (.g (.q z (.q z (.s (bF (hS.keep q_0) T.u78 z z) z (.q z (.nil ?_))))))
  refine .cs z h ?_ ?_ <;> intro h
  ·refine .skip (.seq (.block ?_))
   have ⟨x1,hx1,h⟩:=bnd h
   obtain ⟨k1,hS⟩:=Sep.ov hS hx1
   obtain ⟨v7,k1,rfl,hS⟩:=hS.ow
   obtain ⟨rfl,hS⟩:=hS.oN
   refine .rk 14 hS [0,0] T.mix ?_
   intro W hS
   have hT:=hS.to [0,0]
   refine .tp' 0 z z hT (.tp' 1 z z hT (.tp' 2 z z hT ?_))
   have ⟨x3,hx3,h⟩:=bnd h
   refine .ts' 3 z (fun W hT=>ixv (hS.keep q_0) hx3 T.u78 T.t102 z z z) hT z (.ts' 4 z (fun W hT=>lde (RV.flat (hT.keep q_0) hx3 z) T.t102 z z z z z) hT z (.tp' 5 z z hT (.tp' 6 z z hT (.ts' 7 z (fun W hT=>ixh hT.p1 hx1 T.u217 T.t220 z z z) hT z (.ts' 8 z (fun W hT=>lde (hT.p1.hcellsv) T.t220 z z z z z) hT z (.tp' 9 z z hT ?_))))))
   have ⟨y7,hy7,h⟩:=bnd h
   refine .by1 10 z (.cO hS Tryz.func222 (rZ hy7 hS.lv) z z ?_)
   intro W hS
   have hT:=hS.to [0,0]
   refine ⟨fun _=>hT,.by1 11 z (.liv [y7] aK T.u78 T.t102 hS z z z z ?_ z (fun _=>z))⟩
   intro v10 W hS
   have hT:=hS.to [1,1]
   refine ⟨fun _=>hT,?_⟩
   have ⟨r2,hr2,h⟩:=bnd h
   have hT0:=hS.p3
   refine .by1 12 z (.av hr2 hT0 hT0.p1.lv (fun _=>z) T.u78 T.t102 z z z ?_)
   intro v11 W hS
   have hT:=hS.to [2,2]
   refine ⟨fun _=>hT,.tp' 13 z z hT (.done (.region (.q z (.q z (.q z (.nil ?_))))))⟩
   have hS:=Sep.gat (ds:=[.row 238 2 (x1.map bK)]) (cs:=[(sv v7)]) (L1:=[ae (sv v7) 238 2 bK x1]) (.row (.nil)) (hS.to [2,2,0,0])
   have hS : Sep _ _ _ [ae (sv v2) 220 1 (fun (l : List aY)=>D.row 238 2 (l.map bK)) y2,ae (sv v11) 102 5 aK r2,ae (sv v10) 102 5 aK [y7]]:=Sep.back0v hx1 hS
   cases h
   exact ⟨z,v11,sb z,hS.to [0,0]⟩
  refine .exit ?_
  cases h
  exact ⟨by simp,z,v4,sb z,hS.to [0,0]⟩
 intro x E W hJ
 obtain ⟨rfl,v12,hE,hS⟩:=hJ
 refine ⟨_,hE.sub,?_⟩
 cases h
 exact .g (.q z (.q z (.qn z (.ret (ab (vs:=[_,_]) v12 (rt z (rt z rn)) z (hS.to [1]))))))
theorem nF {w : World} {r : (List Int)} (h : gK = some r) : Cl 243 #[] w (Ret No w (fun s : Hd=>(sv s)) (fun s=>[ae (sv s) 3 1 (D.int .i64) r])):=by
 unfold gK at h
 refine ar Tryz.func243 z z ?_
 have hS:=Sep.start w
 refine .g (.qn z (.g (.c (.liv [] (D.int .i64) T.u23 T.t3 hS z z z z ?_ z (fun _=>z)))))
 intro v1 W hS
 refine .qn z (.seq (.g (.qn z (.block ?_))))
 have ⟨y1,hy1,h⟩:=bnd h
 refine .via (.iter (fun s1 E' W'=>∃ (v4 : Hd),aD E' [(1,(sv v4)),(2,vi s1.2)] ∧ Sep No w W' [ae (sv v4) 3 1 (D.int .i64) s1.1]) (fun y2 x E' W'=>x = .exit 0 ∧ ∃ (v5 : Hd),aD E' [(1,(sv v5))] ∧ Sep No w W' [ae (sv v5) 3 1 (D.int .i64) y2]) hy1 ⟨v1,sb z,hS.to [0]⟩ ?_) ?_
 ·intro s1 y3 E W h hI
  obtain ⟨v3,hE,hS⟩:=hI
  refine CW.sub hE ?_
  unfold lc at h
  refine .seq (.g (.q z (.q z (.nil ?_))))
  refine .cs z h ?_ ?_ <;> intro h
  ·refine .skip (.seq (.block (.region (.q z (.q z (.c (.liv [s1.2] (D.int .i64) T.u23 T.t3 hS z z z z ?_ z (fun _=>z))))))))
   intro v6 W hS
   have ⟨r1,hr1,h⟩:=bnd h
   have hT0:=hS.p1
   refine .c (.av hr1 hT0 hT0.p1.lv (fun _=>z) T.u23 T.t3 z z z ?_)
   intro v7 W hS
   refine .qn z (.region (.q z (.q z (.q z (.nil ?_)))))
   cases h
   exact ⟨z,v7,sb z,hS.to [0]⟩
  refine .exit ?_
  cases h
  exact ⟨by simp,z,v3,sb z,hS.to [0]⟩
 intro x E W hJ
 obtain ⟨rfl,v8,hE,hS⟩:=hJ
 refine ⟨_,hE.sub,?_⟩
 obtain rfl:=o9 h
 exact .g (.q z (.qn z (.ret (ab (vs:=[_]) v8 (rt z rn) z (hS.to [0])))))
theorem kz {a0 : ah} {w : World} {r : Int} (h : dz a0 = some r) : Cl 262 #[.agg #[vi a0.Op,vi a0.Dst,vi a0.A,vi a0.B,vi a0.N]] w (RU w (.int .i64 r)):=by
 unfold dz at h
 refine ar Tryz.func262 z z ?_
 have hS:=Sep.start w
 refine .g (.c (.box hS z z ?_))
 intro g1 W hS
 refine .qn z (.seq (.g (.s (ld T.t102 hS z z z z z) z ?_)))
 have ⟨y1,hy1,h⟩:=bnd h
 refine .c (.cO hS Tryz.func179 (jU hy1) z z ?_)
 intro W hS
 refine .q z (.nil ?_)
 refine .cs z h ?_ ?_ <;> intro h
 ·cases h
  exact .g (.qn z (.ret (ab (vs:=[_]) () (rt z rn) z (hS.to []))))
 refine .skip (.seq (.g (.s (fa T.f102_0 z z z) z (.s (ld T.t3 hS z z z z z) z (.nil (.block ?_))))))
 have ⟨y2,hy2,h⟩:=bnd h
 refine .seq (CW.via (R':=fun x E' W'=>x = .normal ∧ aD E' [(1,pt g1),(8,.bool y2)] ∧ Sep No w W' [.box g1 102 [vi a0.Op,vi a0.Dst,vi a0.A,vi a0.B,vi a0.N]]) ?_ ?_)
 ·have h:=hy2
  refine .g (.q z (.q z (.nil ?_)))
  refine .cs z h ?_ ?_ <;> intro h
  ·refine .skip ?_
   cases h
   exact ⟨z,sb z,hS.to [0]⟩
  refine .g (.q z (.q z (.nil ?_)))
  refine .cs z h ?_ ?_ <;> intro h
  ·refine .skip ?_
   cases h
   exact ⟨z,sb z,hS.to [0]⟩
  refine .g (.q z (.q z (.nil ?_)))
  refine .cs z h ?_ ?_ <;> intro h
  ·refine .skip ?_
   cases h
   exact ⟨z,sb z,hS.to [0]⟩
  refine .region (.q z (.q z (.nil ?_)))
  cases h
  exact ⟨z,sb z,hS.to [0]⟩
 intro x E W hJ
 obtain ⟨rfl,hE,hS⟩:=hJ
 refine ⟨_,hE.sub,?_⟩
 refine .cs z h ?_ ?_ <;> intro h
 ·cases h
  exact .g (.s (fa T.f102_1 z z z) z (.s (ld T.t3 hS z z z z z) z (.qn z (.ret (ab (vs:=[_]) () (rt z rn) z (hS.to []))))))
 cases h
 exact .skip (.g (.qn z (.ret (ab (vs:=[_]) () (rt z rn) z (hS.to [])))))
theorem qV {a0 : ah} {a1 : List Int} {v_1 : Hd} {w : World} {r : (List Int)} (h : iy a0 a1 = some r) (q_1 : RO w v_1 3 1 (D.int .i64) a1) : Cl 255 #[.agg #[vi a0.Op,vi a0.Dst,vi a0.A,vi a0.B,vi a0.N],(sv v_1)] w (Ret No w (fun s : Hd=>(sv s)) (fun s=>[ae (sv s) 3 1 (D.int .i64) r])):=by
 unfold iy at h
 refine ar Tryz.func255 z z ?_
 have hS:=Sep.start w
 refine .g (.c (.box hS z z ?_))
 intro g1 W hS
 refine .qn z (.g (.c (.liv [] (D.int .i64) T.u23 T.t3 hS z z z z ?_ z (fun _=>z))))
 intro v1 W hS
 refine .q z ?_
 have ⟨r1,hr1,h⟩:=bnd h
 refine .c (.av hr1 hS (hS.keep q_1) (fun _=>z) T.u23 T.t3 z z z ?_)
 intro v2 W hS
 refine .qn z (.g (.s (ld T.t102 hS.p1 z z z z z) z ?_))
 have ⟨y1,hy1,h⟩:=bnd h
 refine .c (.cO hS Tryz.func262 (kz hy1) z z ?_)
 intro W hS
 refine .qn z (.seq (.g (.q z (.q z (.nil ?_)))))
 refine .cs z h ?_ ?_ <;> intro h
 ·obtain rfl:=o9 h
  exact .g (.q z (.qn z (.ret (ab (vs:=[_]) v2 (rt z rn) z (hS.to [0])))))
 refine .skip (.seq (.g (.qn z (.block ?_))))
 have ⟨y2,hy2,h⟩:=bnd h
 refine .via (.iter (fun s1 E' W'=>aD E' [(2,pt g1),(5,(sv v2)),(6,vi y1),(7,vi s1.1)] ∧ Sep No w W' [ae (sv v2) 3 1 (D.int .i64) s1.2,.box g1 102 [vi a0.Op,vi a0.Dst,vi a0.A,vi a0.B,vi a0.N]]) (fun y3 x E' W'=>x = .exit 0 ∧ aD E' [(2,pt g1),(5,(sv v2)),(6,vi y1)] ∧ Sep No w W' [ae (sv v2) 3 1 (D.int .i64) y3,.box g1 102 [vi a0.Op,vi a0.Dst,vi a0.A,vi a0.B,vi a0.N]]) hy2 ⟨sb z,hS.to [0,0]⟩ ?_) ?_
 ·intro s1 y4 E W h hI
  obtain ⟨hE,hS⟩:=hI
  refine CW.sub hE ?_
  unfold kd at h
  refine .seq (.g (.q z (.q z (.nil ?_))))
  refine .cs z h ?_ ?_ <;> intro h
  ·refine .skip ?_
   have ⟨y5,hy5,h⟩:=bnd h
   refine .seq (CW.via (R':=fun x E' W'=>x = .normal ∧ aD E' [(2,pt g1),(5,(sv v2)),(6,vi y1),(7,vi s1.1)] ∧ Sep No w W' [ae (sv v2) 3 1 (D.int .i64) y5,.box g1 102 [vi a0.Op,vi a0.Dst,vi a0.A,vi a0.B,vi a0.N]]) ?_ ?_)
   ·have h:=hy5
    refine .block (.g (.q z (.q z ?_)))
    have ⟨x1,hx1,h⟩:=bnd h
    refine .s (ixv hS.lv hx1 T.u23 T.t3 z z z) z (.s (lde (RV.flat hS.lv hx1 z) T.t3 z z z z z) z (.q z (.q z (.nil ?_))))
    refine .cs z h ?_ ?_ <;> intro h
    ·refine .region (.q z (.q z (.q z ?_)))
     have ⟨x2,hx2,h⟩:=bnd h
     refine .s (ixv hS.lv hx2 T.u23 T.t3 z z z) z ?_
     have ⟨r2,hr2,h⟩:=bnd h
     refine .c (.sev hr2 hx2 hS T.t3 z z z z z z ?_)
     intro W hS
     refine .nil ?_
     obtain rfl:=o9 h
     exact ⟨z,sb z,hS.to [0,0]⟩
    refine .skip ?_
    cases h
    exact ⟨z,sb z,hS.to [0,0]⟩
   intro x E W hJ
   obtain ⟨rfl,hE,hS⟩:=hJ
   refine ⟨_,hE.sub,?_⟩
   refine .region (.q z (.q z (.q z (.nil ?_))))
   cases h
   exact ⟨z,sb z,hS.to [0,0]⟩
  refine .exit ?_
  cases h
  exact ⟨by simp,z,sb z,hS.to [0,0]⟩
 intro x E W hJ
 obtain ⟨rfl,hE,hS⟩:=hJ
 refine ⟨_,hE.sub,?_⟩
 refine .g (.q z (.q z (.q z ?_)))
 have ⟨x3,hx3,h⟩:=bnd h
 refine .s (ixv hS.lv hx3 T.u23 T.t3 z z z) z ?_
 have ⟨r3,hr3,h⟩:=bnd h
 refine .c (.sev hr3 hx3 hS T.t3 z z z z z z ?_)
 intro W hS
 refine .nil (.seq (.g (.s (fa T.f102_0 z z z) z (.s (ld T.t3 hS.p1 z z z z z) z (.q z (.nil ?_))))))
 refine .cs z h ?_ ?_ <;> intro h
 ·refine .region (.q z (.q z (.s (fa T.f102_2 z z z) z (.s (ld T.t3 hS.p1 z z z z z) z ?_))))
  have ⟨x4,hx4,h⟩:=bnd h
  refine .s (ixv hS.lv hx4 T.u23 T.t3 z z z) z ?_
  have ⟨r4,hr4,h⟩:=bnd h
  refine .c (.sev hr4 hx4 hS T.t3 z z z z z z ?_)
  intro W hS
  obtain rfl:=o9 h
  exact .nil (.g (.q z (.qn z (.ret (ab (vs:=[_]) v2 (rt z rn) z (hS.to [0]))))))
 obtain rfl:=o9 h
 exact .skip (.g (.q z (.qn z (.ret (ab (vs:=[_]) v2 (rt z rn) z (hS.to [0]))))))
theorem qW {a0 : List (List Int)} {a1 : Int} {a2 : List Int} {v_0 : Hd} {v_2 : Hd} {S : Nat → Prop} {w : World} {r : Bool × (List (List Int))} (h : iz a0 a1 a2 = some r) (q_2 : RV w (Old S w) (sv v_2) 3 1 (D.int .i64) a2) (hO : bO w [ae (sv v_0) 23 1 (fun (l : List Int)=>D.row 3 1 (l.map (D.int .i64))) a0] S) (hlt : ∀ b,S b → b < w.heap.size) : Cl 256 #[(sv v_0),vi a1,(sv v_2)] w (Ret S w (fun s : Unit=>.bool r.1) (fun s=>[ae (sv v_0) 23 1 (fun (l : List Int)=>D.row 3 1 (l.map (D.int .i64))) r.2])):=by
 unfold iz at h
 refine ar Tryz.func256 z z ?_
 have hS:=Sep.sm hO hlt
 refine .g (.qn z (.seq (.g (.q z (.q z ?_)))))
 have ⟨x1,hx1,h⟩:=bnd h
 refine .s (ixv hS.lv hx1 T.u47 T.t23 z z z) z ?_
 obtain ⟨k1,hS⟩:=Sep.ov hS hx1
 obtain ⟨v1,k1,rfl,hS⟩:=hS.ow
 obtain ⟨rfl,hS⟩:=hS.oN
 refine .s (lde (hS.p1.hcellsv) T.t23 z z z z z) z (.s (bF hS.lv T.u23 z z) z (.q z (.nil ?_)))
 refine .cs z h ?_ ?_ <;> intro h
 ·refine .g (.q z (.q z (.c (.liv [] (D.int .i64) T.u23 T.t3 hS z z z z ?_ z (fun _=>z)))))
  intro v2 W hS
  refine .q z ?_
  have ⟨r1,hr1,h⟩:=bnd h
  refine .c (.av hr1 hS (hS.keep q_2) (fun _=>z) T.u23 T.t3 z z z ?_)
  intro v3 W hS
  refine .s (ixh hS.p2 hx1 T.u47 T.t23 z z z) z (.c (.sthv hS.p2 T.t23 z z z ?_))
  intro W hS
  refine .nil (.g (.qn z (.ret ?_)))
  have hS:=Sep.gat (ds:=[.row 3 1 (r1.map (D.int .i64))]) (cs:=[(sv v3)]) (L1:=[ae (sv v3) 3 1 (D.int .i64) r1]) (.row (.nil)) (hS.to [1,0,0])
  have hS : Sep _ _ _ [ae (sv v_0) 23 1 (fun (l : List Int)=>D.row 3 1 (l.map (D.int .i64))) (a0.set (Int.toNat a1) r1),ae (sv v1) 3 1 (D.int .i64) x1]:=hS.bv
  cases h
  exact ab (vs:=[_]) () (rt z rn) z (hS.to [0])
 refine .skip (.g (.qn z (.seq (.g (.qn z (.block ?_))))))
 have hS:=Sep.gat (ds:=[.row 3 1 (x1.map (D.int .i64))]) (cs:=[(sv v1)]) (L1:=[ae (sv v1) 3 1 (D.int .i64) x1]) (.row (.nil)) (hS.to [0,0])
 have hS : Sep _ _ _ [ae (sv v_0) 23 1 (fun (l : List Int)=>D.row 3 1 (l.map (D.int .i64))) a0]:=Sep.back0v hx1 hS
 have ⟨y1,hy1,h⟩:=bnd h
 refine .via (.iter (fun s1 E' W'=>aD E' [(0,(sv v_0)),(1,vi a1),(2,(sv v_2)),(7,.bool s1.1),(8,vi s1.2.1)] ∧ Sep S w W' [ae (sv v_0) 23 1 (fun (l : List Int)=>D.row 3 1 (l.map (D.int .i64))) s1.2.2]) (fun y2 x E' W'=>x = .exit 0 ∧ aD E' [(7,.bool y2.1)] ∧ Sep S w W' [ae (sv v_0) 23 1 (fun (l : List Int)=>D.row 3 1 (l.map (D.int .i64))) y2.2]) hy1 ⟨sb z,hS.to [0]⟩ ?_) ?_
 ·intro s1 y3 E W h hI
  obtain ⟨hE,hS⟩:=hI
  refine CW.sub hE ?_
  unfold ke at h
  refine .seq (.g (.q z (.q z (.nil ?_))))
  refine .cs z h ?_ ?_ <;> intro h
  ·refine .skip ?_
   have ⟨y4,hy4,h⟩:=bnd h
   refine .seq (CW.via (R':=fun x E' W'=>x = .normal ∧ aD E' [(0,(sv v_0)),(1,vi a1),(2,(sv v_2)),(7,.bool y4.1),(8,vi s1.2.1)] ∧ Sep S w W' [ae (sv v_0) 23 1 (fun (l : List Int)=>D.row 3 1 (l.map (D.int .i64))) y4.2]) ?_ ?_)
   ·have h:=hy4
    refine .block (.seq ?_)
    have ⟨x2,hx2,h⟩:=bnd h
    obtain ⟨k2,hS⟩:=Sep.ov hS hx2
    obtain ⟨v4,k2,rfl,hS⟩:=hS.ow
    obtain ⟨rfl,hS⟩:=hS.oN
    have ⟨x6,hx6,h⟩:=bnd h
    have ⟨b2,hb2,h⟩:=bnd h
    refine .via (R':=fun x E' W'=>x = .normal ∧ aD E' [(0,(sv v_0)),(1,vi a1),(2,(sv v_2)),(7,.bool s1.1),(8,vi s1.2.1),(47,.bool b2)] ∧ Sep S w W' [ae (sv v_0) 23 1 (fun (l : List Int)=>D.row 3 1 (l.map (D.int .i64))) s1.2.2]) ?_ ?_
    ·refine .rk 23 hS [0,0] T.mix ?_
     intro W hS
     have hT:=hS.to [0,0]
     refine .tp' 0 z z hT (.tp' 1 z z hT (.ts' 2 z (fun W hT=>ixh hT.p1 hx2 T.u47 T.t23 z z z) hT z (.ts' 3 z (fun W hT=>lde (hT.p1.hcellsv) T.t23 z z z z z) hT z (.tp' 4 z z hT (.ts' 5 z (fun W hT=>ixv hS.lv hx6 T.u23 T.t3 z z z) hT z (.ts' 6 z (fun W hT=>lde (RV.flat hT.lv hx6 z) T.t3 z z z z z) hT z (.tp' 7 z z hT (.tp' 8 z z hT (.tp' 9 z z hT (.both (x6 != s1.2.1) (fun hb=>?_) (fun hb=>?_)))))))))))
     ·have hg2:=hb
      have h_b2:=aF hb hb2
      refine .t1g 10 z hg2 (fun W hT=>pr z) hT (.t1g 11 z hg2 (fun W hT=>pr z) hT (.t1g 12 z hg2 (fun W hT=>ixh hT.p1 hx2 T.u47 T.t23 z z z) hT (.t1g 13 z hg2 (fun W hT=>lde (hT.p1.hcellsv) T.t23 z z z z z) hT (.t1g 14 z hg2 (fun W hT=>pr z) hT ?_ (by kernel_rfl) z z) (by kernel_rfl) z z) (by kernel_rfl) z z) (by kernel_rfl) z z) (by kernel_rfl) z z
      have ⟨x7,hx7,h_b2⟩:=bnd h_b2
      refine .t1g 15 z hg2 (fun W hT=>ixv hS.lv hx7 T.u23 T.t3 z z z) hT (.t1g 16 z hg2 (fun W hT=>lde (RV.flat hT.lv hx7 z) T.t3 z z z z z) hT (.t1g 17 z hg2 (fun W hT=>pr z) hT (.t1g 18 z hg2 (fun W hT=>pr z) hT ?_ (by kernel_rfl) z z) (by kernel_rfl) z z) (by kernel_rfl) z z) (by kernel_rfl) z z
      have ⟨x8,hx8,h_b2⟩:=bnd h_b2
      refine .t1g 19 z hg2 (fun W hT=>ixv (hS.keep q_2) hx8 T.u23 T.t3 z z z) hT (.t1g 20 z hg2 (fun W hT=>lde (RV.flat (hT.keep q_2) hx8 z) T.t3 z z z z z) hT (.t1g 21 z hg2 (fun W hT=>pr z) hT (.ts' 22 z (fun W hT=>pkt hg2 z z z) hT z (.eqv 47 z (dg h_b2) (.done ?_))) (by kernel_rfl) z z) (by kernel_rfl) z z) (by kernel_rfl) z z
      have hS:=Sep.gat (ds:=[.row 3 1 (x2.map (D.int .i64))]) (cs:=[(sv v4)]) (L1:=[ae (sv v4) 3 1 (D.int .i64) x2]) (.row (.nil)) (hS.to [0,0])
      have hS : Sep _ _ _ [ae (sv v_0) 23 1 (fun (l : List Int)=>D.row 3 1 (l.map (D.int .i64))) s1.2.2]:=Sep.back0v hx2 hS
      exact ⟨z,sb z,hS.to [0]⟩
     refine .off 10 z hb hT (.off 11 z hb hT (.off 12 z hb hT (.off 13 z hb hT (.off 14 z hb hT (.off 15 z hb hT (.off 16 z hb hT (.off 17 z hb hT (.off 18 z hb hT (.off 19 z hb hT (.off 20 z hb hT (.off 21 z hb hT (.ts' 22 z (fun W hT=>pkf hb z z z) hT z (.eqv 47 z (dg (aG hb hb2)) (.done ?_))) (by kernel_rfl) z z) (by kernel_rfl) z z) (by kernel_rfl) z z) (by kernel_rfl) z z) (by kernel_rfl) z z) (by kernel_rfl) z z) (by kernel_rfl) z z) (by kernel_rfl) z z) (by kernel_rfl) z z) (by kernel_rfl) z z) (by kernel_rfl) z z) (by kernel_rfl) z z
     have hS:=Sep.gat (ds:=[.row 3 1 (x2.map (D.int .i64))]) (cs:=[(sv v4)]) (L1:=[ae (sv v4) 3 1 (D.int .i64) x2]) (.row (.nil)) (hS.to [0,0])
     have hS : Sep _ _ _ [ae (sv v_0) 23 1 (fun (l : List Int)=>D.row 3 1 (l.map (D.int .i64))) s1.2.2]:=Sep.back0v hx2 hS
     exact ⟨z,sb z,hS.to [0]⟩
    intro x E W hJ
    obtain ⟨rfl,hE,hS⟩:=hJ
    refine ⟨_,hE.sub,?_⟩
    refine .cs z h ?_ ?_ <;> intro h
    ·refine .g (.q z (.q z ?_))
     have ⟨x9,hx9,h⟩:=bnd h
     refine .s (ixv hS.lv hx9 T.u47 T.t23 z z z) z ?_
     obtain ⟨k3,hS⟩:=Sep.ov hS hx9
     obtain ⟨v5,k3,rfl,hS⟩:=hS.ow
     obtain ⟨rfl,hS⟩:=hS.oN
     refine .s (lde (hS.p1.hcellsv) T.t23 z z z z z) z (.q z (.q z ?_))
     have ⟨x10,hx10,h⟩:=bnd h
     refine .s (ixv hS.lv hx10 T.u23 T.t3 z z z) z ?_
     have ⟨r2,hr2,h⟩:=bnd h
     refine .c (.sev hr2 hx10 hS T.t3 z z z z z z ?_)
     intro W hS
     refine .nil (.region (.q z (.nil ?_)))
     have hS:=Sep.gat (ds:=[.row 3 1 (r2.map (D.int .i64))]) (cs:=[(sv v5)]) (L1:=[ae (sv v5) 3 1 (D.int .i64) r2]) (.row (.nil)) (hS.to [0,0])
     have hS : Sep _ _ _ [ae (sv v_0) 23 1 (fun (l : List Int)=>D.row 3 1 (l.map (D.int .i64))) (s1.2.2.set (Int.toNat a1) r2)]:=hS.bv
     cases h
     exact ⟨z,sb z,hS.to [0]⟩
    refine .skip ?_
    cases h
    exact ⟨z,sb z,hS.to [0]⟩
   intro x E W hJ
   obtain ⟨rfl,hE,hS⟩:=hJ
   refine ⟨_,hE.sub,?_⟩
   refine .region (.q z (.q z (.q z (.nil ?_))))
   cases h
   exact ⟨z,sb z,hS.to [0]⟩
  refine .exit ?_
  cases h
  exact ⟨by simp,z,sb z,hS.to [0]⟩
 intro x E W hJ
 obtain ⟨rfl,hE,hS⟩:=hJ
 refine ⟨_,hE.sub,?_⟩
 cases h
 exact .g (.q z (.qn z (.ret (ab (vs:=[_]) () (rt z rn) z (hS.to [0])))))
theorem qX {a0 : List ah} {a1 : List (List Int)} {v_0 : Hd} {v_1 : Hd} {S : Nat → Prop} {w : World} {r : Bool × (List (List Int))} (h : iA a0 a1 = some r) (q_0 : RV w (Old S w) (sv v_0) 102 5 aK a0) (hO : bO w [ae (sv v_1) 23 1 (fun (l : List Int)=>D.row 3 1 (l.map (D.int .i64))) a1] S) (hlt : ∀ b,S b → b < w.heap.size) : Cl 244 #[(sv v_0),(sv v_1)] w (Ret S w (fun s : Unit=>.bool r.1) (fun s=>[ae (sv v_1) 23 1 (fun (l : List Int)=>D.row 3 1 (l.map (D.int .i64))) r.2])):=by
 unfold iA at h
 refine ar Tryz.func244 z z ?_
 have hS:=Sep.sm hO hlt
 refine .g (.qn z (.g (.qn z (.seq (.g (.qn z (.block ?_)))))))
 have ⟨y1,hy1,h⟩:=bnd h
 refine .via (.iter (fun s1 E' W'=>aD E' [(0,(sv v_0)),(1,(sv v_1)),(5,.bool s1.1),(6,vi s1.2.1)] ∧ Sep S w W' [ae (sv v_1) 23 1 (fun (l : List Int)=>D.row 3 1 (l.map (D.int .i64))) s1.2.2]) (fun y2 x E' W'=>x = .exit 0 ∧ aD E' [(5,.bool y2.1)] ∧ Sep S w W' [ae (sv v_1) 23 1 (fun (l : List Int)=>D.row 3 1 (l.map (D.int .i64))) y2.2]) hy1 ⟨sb z,hS.to [0]⟩ ?_) ?_
 ·intro s1 y3 E W h hI
  obtain ⟨hE,hS⟩:=hI
  refine CW.sub hE ?_
  unfold kg at h
  refine .seq (.g (.q z (.q z (.s (bF (hS.keep q_0) T.u78 z z) z (.q z (.nil ?_))))))
  refine .cs z h ?_ ?_ <;> intro h
  ·refine .skip ?_
   have ⟨y4,hy4,h⟩:=bnd h
   refine .seq (CW.via (R':=fun x E' W'=>x = .normal ∧ aD E' [(0,(sv v_0)),(1,(sv v_1)),(5,.bool y4.1),(6,vi s1.2.1)] ∧ Sep S w W' [ae (sv v_1) 23 1 (fun (l : List Int)=>D.row 3 1 (l.map (D.int .i64))) y4.2]) ?_ ?_)
   ·have h:=hy4
    refine .block (.seq (.g (.q z (.q z ?_))))
    have ⟨x1,hx1,h⟩:=bnd h
    refine .s (ixv hS.lv hx1 T.u47 T.t23 z z z) z ?_
    obtain ⟨k1,hS⟩:=Sep.ov hS hx1
    obtain ⟨v1,k1,rfl,hS⟩:=hS.ow
    obtain ⟨rfl,hS⟩:=hS.oN
    refine .s (lde (hS.p1.hcellsv) T.t23 z z z z z) z (.s (bF hS.lv T.u23 z z) z (.q z (.nil ?_)))
    refine .cs z h ?_ ?_ <;> intro h
    ·refine .exit ?_
     have hS:=Sep.gat (ds:=[.row 3 1 (x1.map (D.int .i64))]) (cs:=[(sv v1)]) (L1:=[ae (sv v1) 3 1 (D.int .i64) x1]) (.row (.nil)) (hS.to [0,0])
     have hS : Sep _ _ _ [ae (sv v_1) 23 1 (fun (l : List Int)=>D.row 3 1 (l.map (D.int .i64))) s1.2.2]:=Sep.back0v hx1 hS
     cases h
     exact ⟨z,sb z,hS.to [0]⟩
    refine .skip (.g (.q z (.q z ?_)))
    have ⟨y5,hy5,h⟩:=bnd h
    refine .c (.cV hS Tryz.func246 (i4 hy5 (hS.keep q_0)) z z ?_)
    intro v2 W hS
    refine .qn z (.seq (.rk 10 hS [0,0,0] T.mix ?_))
    intro W hS
    have hT:=hS.to [0,0,0]
    refine .tp' 0 z z hT (.tp' 1 z z hT ?_)
    have ⟨x2,hx2,h⟩:=bnd h
    refine .ts' 2 z (fun W hT=>ixv (hS.keep q_0) hx2 T.u78 T.t102 z z z) hT z (.ts' 3 z (fun W hT=>lde (RV.flat (hT.keep q_0) hx2 z) T.t102 z z z z z) hT z (.tp' 4 z z hT (.tp' 5 z z hT (.ts' 6 z (fun W hT=>ixh hT.p2 hx1 T.u47 T.t23 z z z) hT z (.ts' 7 z (fun W hT=>lde (hT.p2.hcellsv) T.t23 z z z z z) hT z ?_)))))
    have ⟨y6,hy6,h⟩:=bnd h
    refine .by1 8 z (.cV hS Tryz.func255 (qV hy6 hS.p1.lv) z z ?_)
    intro v3 W hS
    have hT:=hS.to [1,1,1]
    refine ⟨fun _=>hT,.tp' 9 z z hT (.done (.g (.qn z (.block ?_))))⟩
    have hS:=Sep.gat (ds:=[.row 3 1 (x1.map (D.int .i64))]) (cs:=[(sv v1)]) (L1:=[ae (sv v1) 3 1 (D.int .i64) x1]) (.row (.nil)) (hS.to [2,2,0,0])
    have hS : Sep _ _ _ [ae (sv v_1) 23 1 (fun (l : List Int)=>D.row 3 1 (l.map (D.int .i64))) s1.2.2,ae (sv v3) 3 1 (D.int .i64) y6,ae (sv v2) 3 1 (D.int .i64) y5]:=Sep.back0v hx1 hS
    have ⟨y7,hy7,h⟩:=bnd h
    refine .via (.iter (fun s2 E' W'=>aD E' [(0,(sv v_0)),(1,(sv v_1)),(5,.bool s2.1),(6,vi s1.2.1),(7,(sv v2)),(8,(sv v3)),(9,vi s2.2.1)] ∧ Sep S w W' [ae (sv v_1) 23 1 (fun (l : List Int)=>D.row 3 1 (l.map (D.int .i64))) s2.2.2,ae (sv v3) 3 1 (D.int .i64) y6,ae (sv v2) 3 1 (D.int .i64) y5]) (fun y8 x E' W'=>x = .exit 2 ∧ aD E' [(0,(sv v_0)),(1,(sv v_1)),(5,.bool y8.1),(6,vi s1.2.1)] ∧ Sep S w W' [ae (sv v_1) 23 1 (fun (l : List Int)=>D.row 3 1 (l.map (D.int .i64))) y8.2,ae (sv v3) 3 1 (D.int .i64) y6,ae (sv v2) 3 1 (D.int .i64) y5]) hy7 ⟨sb z,hS.to [0,0,0]⟩ ?_) ?_
    ·intro s2 y9 E W h hI
     obtain ⟨hE,hS⟩:=hI
     refine CW.sub hE ?_
     unfold kf at h
     refine .seq (.g (.q z (.q z (.s (bF hS.p2.lv T.u23 z z) z (.qn z (.cond z (fun hb=>?_) (fun hb=>?_)))))))
     ·have h:=aF hb h
      refine .skip ?_
      have ⟨y10,hy10,h⟩:=bnd h
      refine .seq (CW.via (R':=fun x E' W'=>x = .normal ∧ aD E' [(0,(sv v_0)),(1,(sv v_1)),(5,.bool y10.1),(6,vi s1.2.1),(7,(sv v2)),(8,(sv v3)),(9,vi s2.2.1)] ∧ Sep S w W' [ae (sv v_1) 23 1 (fun (l : List Int)=>D.row 3 1 (l.map (D.int .i64))) y10.2,ae (sv v3) 3 1 (D.int .i64) y6,ae (sv v2) 3 1 (D.int .i64) y5]) ?_ ?_)
      ·have h:=hy10
       refine .block (.g (.q z (.q z (.q z ?_))))
       have ⟨x3,hx3,h⟩:=bnd h
       refine .s (ixv hS.p2.lv hx3 T.u23 T.t3 z z z) z (.s (lde (RV.flat hS.p2.lv hx3 z) T.t3 z z z z z) z (.q z ?_))
       have ⟨y11,hy11,h⟩:=bnd h
       refine .c (.cS (L0:=[ae (sv v_1) 23 1 (fun (l : List Int)=>D.row 3 1 (l.map (D.int .i64))) s2.2.2]) hS Tryz.func256 (fun S h1 h2 h3=>(qW hy11 (h3.rdv (k:=0) z) h2 (zz h1))) z z ?_)
       rintro ⟨⟩ W hS
       refine .nil ?_
       refine .cs z h ?_ ?_ <;> intro h
       ·refine .region (.q z (.nil ?_))
        cases h
        exact ⟨z,sb z,hS.to [0,0,0]⟩
       refine .skip ?_
       cases h
       exact ⟨z,sb z,hS.to [0,0,0]⟩
      intro x E W hJ
      obtain ⟨rfl,hE,hS⟩:=hJ
      refine ⟨_,hE.sub,?_⟩
      refine .region (.q z (.q z (.q z (.nil ?_))))
      cases h
      exact ⟨z,sb z,hS.to [0,0,0]⟩
     have h:=aG hb h
     refine .exit ?_
     cases h
     exact ⟨by simp,z,sb z,hS.to [0,0,0]⟩
    intro x E W hJ
    obtain ⟨rfl,hE,hS⟩:=hJ
    refine ⟨_,hE.sub,?_⟩
    cases h
    exact ⟨z,sb z,hS.to [0]⟩
   intro x E W hJ
   obtain ⟨rfl,hE,hS⟩:=hJ
   refine ⟨_,hE.sub,?_⟩
   refine .region (.q z (.q z (.q z (.nil ?_))))
   cases h
   exact ⟨z,sb z,hS.to [0]⟩
  refine .exit ?_
  cases h
  exact ⟨by simp,z,sb z,hS.to [0]⟩
 intro x E W hJ
 obtain ⟨rfl,hE,hS⟩:=hJ
 refine ⟨_,hE.sub,?_⟩
 cases h
 exact .g (.q z (.qn z (.ret (ab (vs:=[_]) () (rt z rn) z (hS.to [0])))))
theorem qY {a0 : List ah} {v_0 : Hd} {w : World} {r : (List (List Int))} (h : iB a0 = some r) (q_0 : RO w v_0 102 5 aK a0) : Cl 223 #[(sv v_0)] w (Ret No w (fun s : Hd=>(sv s)) (fun s=>[ae (sv s) 23 1 (fun (l : List Int)=>D.row 3 1 (l.map (D.int .i64))) r])):=by
 unfold iB at h
 refine ar Tryz.func223 z z ?_
 have hS:=Sep.start w
 refine .g (.qn z (.g (.c (.lg (L1:=[]) [] (fun (l : List Int)=>D.row 3 1 (l.map (D.int .i64))) T.u47 T.t23 (hS.to []) z z z (.nil) ?_ z (fun _=>z)))))
 intro v1 W hS
 refine .qn z (.seq (.g (.q z ?_)))
 have ⟨y1,hy1,h⟩:=bnd h
 refine .c (.cO hS Tryz.func137 (bZ hy1 (hS.keep q_0)) z z ?_)
 intro W hS
 refine .qn z (.cond z (fun hb=>?_) (fun hb=>?_))
 ·have h:=aF hb h
  cases h
  exact .g (.q z (.qn z (.ret (ab (vs:=[_]) v1 (rt z rn) z (hS.to [0])))))
 have h:=aG hb h
 refine .skip (.seq (.g (.qn z (.block ?_))))
 have ⟨y2,hy2,h⟩:=bnd h
 refine .via (.iter (fun s1 E' W'=>∃ (v4 : Hd),aD E' [(0,(sv v_0)),(3,(sv v4)),(4,vi s1.2)] ∧ Sep No w W' [ae (sv v4) 23 1 (fun (l : List Int)=>D.row 3 1 (l.map (D.int .i64))) s1.1]) (fun y3 x E' W'=>x = .exit 0 ∧ ∃ (v5 : Hd),aD E' [(0,(sv v_0)),(3,(sv v5))] ∧ Sep No w W' [ae (sv v5) 23 1 (fun (l : List Int)=>D.row 3 1 (l.map (D.int .i64))) y3]) hy2 ⟨v1,sb z,hS.to [0]⟩ ?_) ?_
 ·intro s1 y4 E W h hI
  obtain ⟨v3,hE,hS⟩:=hI
  refine CW.sub hE ?_
  unfold kh at h
  refine .seq (.g (.q z (.q z (.s (bF (hS.keep q_0) T.u78 z z) z (.q z (.nil ?_))))))
  refine .cs z h ?_ ?_ <;> intro h
  ·refine .skip (.seq (.block (.region (.q z (.c (.liv [] (D.int .i64) T.u23 T.t3 hS z z z z ?_ z (fun _=>z)))))))
   intro v6 W hS
   refine .c (.lg (L1:=[ae (sv v6) 3 1 (D.int .i64) []]) [[]] (fun (l : List Int)=>D.row 3 1 (l.map (D.int .i64))) T.u47 T.t23 (hS.to [0,0]) z z z (.row (.nil)) ?_ z (fun _=>z))
   intro v7 W hS
   have ⟨r1,hr1,h⟩:=bnd h
   refine .c (.appv hr1 (hS.to [1,0]) T.u47 T.t23 z z z ?_)
   intro v8 W hS
   refine .qn z (.region (.q z (.q z (.q z (.nil ?_)))))
   cases h
   exact ⟨z,v8,sb z,hS.to [0]⟩
  refine .exit ?_
  cases h
  exact ⟨by simp,z,v3,sb z,hS.to [0]⟩
 intro x E W hJ
 obtain ⟨rfl,v9,hE,hS⟩:=hJ
 refine ⟨_,hE.sub,?_⟩
 refine .g (.q z ?_)
 have ⟨y5,hy5,h⟩:=bnd h
 refine .c (.cV hS Tryz.func243 (nF hy5) z z ?_)
 intro v10 W hS
 have ⟨x1,hx1,h⟩:=bnd h
 refine .s (ixv hS.p1.lv hx1 T.u47 T.t23 z z z) z ?_
 obtain ⟨k1,hS⟩:=Sep.ov hS.p1 hx1
 obtain ⟨v11,k1,rfl,hS⟩:=hS.ow
 obtain ⟨rfl,hS⟩:=hS.oN
 refine .c (.sthv hS.p1 T.t23 z z z ?_)
 intro W hS
 refine .nil (.seq (.block ?_))
 have hS:=Sep.gat (ds:=[.row 3 1 (y5.map (D.int .i64))]) (cs:=[(sv v10)]) (L1:=[ae (sv v10) 3 1 (D.int .i64) y5]) (.row (.nil)) (hS.to [2,0,0])
 have hS : Sep _ _ _ [ae (sv v9) 23 1 (fun (l : List Int)=>D.row 3 1 (l.map (D.int .i64))) (y2.set (Int.toNat 0) y5),ae (sv v11) 3 1 (D.int .i64) x1]:=hS.bv
 have ⟨y6,hy6,h⟩:=bnd h
 refine .via (.iter (fun s2 E' W'=>aD E' [(0,(sv v_0)),(3,(sv v9))] ∧ Sep No w W' [ae (sv v9) 23 1 (fun (l : List Int)=>D.row 3 1 (l.map (D.int .i64))) s2,ae (sv v11) 3 1 (D.int .i64) x1]) (fun y7 x E' W'=>x = .exit 2 ∧ aD E' [(0,(sv v_0)),(3,(sv v9))] ∧ Sep No w W' [ae (sv v9) 23 1 (fun (l : List Int)=>D.row 3 1 (l.map (D.int .i64))) y7,ae (sv v11) 3 1 (D.int .i64) x1]) hy6 ⟨sb z,hS.to [0,0]⟩ ?_) ?_
 ·intro s2 y8 E W h hI
  obtain ⟨hE,hS⟩:=hI
  refine CW.sub hE ?_
  unfold ki at h
  refine .seq (.g (.q z (.q z ?_)))
  have ⟨y9,hy9,h⟩:=bnd h
  refine .c (.cS (L0:=[ae (sv v9) 23 1 (fun (l : List Int)=>D.row 3 1 (l.map (D.int .i64))) s2]) hS Tryz.func244 (fun S h1 h2 h3=>(qX hy9 (hS.ks q_0 h1) h2 (zz h1))) z z ?_)
  rintro ⟨⟩ W hS
  refine .nil ?_
  refine .cs z h ?_ ?_ <;> intro h
  ·refine .skip (.block (.skip ?_))
   cases h
   exact ⟨z,sb z,hS.to [0,0]⟩
  refine .exit ?_
  cases h
  exact ⟨by simp,z,sb z,hS.to [0,0]⟩
 intro x E W hJ
 obtain ⟨rfl,hE,hS⟩:=hJ
 refine ⟨_,hE.sub,?_⟩
 refine .seq (.g (.qn z (.block ?_)))
 have ⟨y10,hy10,h⟩:=bnd h
 refine .via (.iter (fun s3 E' W'=>aD E' [(0,(sv v_0)),(3,(sv v9)),(5,vi s3.1)] ∧ Sep No w W' [ae (sv v9) 23 1 (fun (l : List Int)=>D.row 3 1 (l.map (D.int .i64))) s3.2,ae (sv v11) 3 1 (D.int .i64) x1]) (fun y11 x E' W'=>x = .exit 4 ∧ aD E' [(3,(sv v9))] ∧ Sep No w W' [ae (sv v9) 23 1 (fun (l : List Int)=>D.row 3 1 (l.map (D.int .i64))) y11,ae (sv v11) 3 1 (D.int .i64) x1]) hy10 ⟨sb z,hS.to [0,0]⟩ ?_) ?_
 ·intro s3 y12 E W h hI
  obtain ⟨hE,hS⟩:=hI
  refine CW.sub hE ?_
  unfold kj at h
  refine .seq (.g (.q z (.q z (.s (bF (hS.keep q_0) T.u78 z z) z (.q z (.nil ?_))))))
  refine .cs z h ?_ ?_ <;> intro h
  ·refine .skip ?_
   have ⟨y13,hy13,h⟩:=bnd h
   refine .seq (CW.via (R':=fun x E' W'=>x = .normal ∧ aD E' [(0,(sv v_0)),(3,(sv v9)),(5,vi s3.1)] ∧ Sep No w W' [ae (sv v9) 23 1 (fun (l : List Int)=>D.row 3 1 (l.map (D.int .i64))) y13,ae (sv v11) 3 1 (D.int .i64) x1]) ?_ ?_)
   ·have h:=hy13
    refine .block (.g (.q z (.q z ?_)))
    have ⟨x2,hx2,h⟩:=bnd h
    refine .s (ixv hS.lv hx2 T.u47 T.t23 z z z) z ?_
    obtain ⟨k2,hS⟩:=Sep.ov hS hx2
    obtain ⟨v12,k2,rfl,hS⟩:=hS.ow
    obtain ⟨rfl,hS⟩:=hS.oN
    refine .s (lde (hS.p1.hcellsv) T.t23 z z z z z) z (.s (bF hS.lv T.u23 z z) z (.q z (.nil ?_)))
    refine .cs z h ?_ ?_ <;> intro h
    ·refine .region (.q z (.q z ?_))
     have ⟨y14,hy14,h⟩:=bnd h
     refine .c (.cV hS Tryz.func243 (nF hy14) z z ?_)
     intro v13 W hS
     refine .s (ixh hS.p2 hx2 T.u47 T.t23 z z z) z (.c (.sthv hS.p2 T.t23 z z z ?_))
     intro W hS
     refine .nil ?_
     have hS:=Sep.gat (ds:=[.row 3 1 (y14.map (D.int .i64))]) (cs:=[(sv v13)]) (L1:=[ae (sv v13) 3 1 (D.int .i64) y14]) (.row (.nil)) (hS.to [1,0,0,0])
     have hS : Sep _ _ _ [ae (sv v9) 23 1 (fun (l : List Int)=>D.row 3 1 (l.map (D.int .i64))) (s3.2.set (Int.toNat s3.1) y14),ae (sv v12) 3 1 (D.int .i64) x2,ae (sv v11) 3 1 (D.int .i64) x1]:=hS.bv
     cases h
     exact ⟨z,sb z,hS.to [0,1]⟩
    refine .skip ?_
    have hS:=Sep.gat (ds:=[.row 3 1 (x2.map (D.int .i64))]) (cs:=[(sv v12)]) (L1:=[ae (sv v12) 3 1 (D.int .i64) x2]) (.row (.nil)) (hS.to [0,0,0])
    have hS : Sep _ _ _ [ae (sv v9) 23 1 (fun (l : List Int)=>D.row 3 1 (l.map (D.int .i64))) s3.2,ae (sv v11) 3 1 (D.int .i64) x1]:=Sep.back0v hx2 hS
    cases h
    exact ⟨z,sb z,hS.to [0,0]⟩
   intro x E W hJ
   obtain ⟨rfl,hE,hS⟩:=hJ
   refine ⟨_,hE.sub,?_⟩
   refine .region (.q z (.q z (.q z (.nil ?_))))
   cases h
   exact ⟨z,sb z,hS.to [0,0]⟩
  refine .exit ?_
  cases h
  exact ⟨by simp,z,sb z,hS.to [0,0]⟩
 intro x E W hJ
 obtain ⟨rfl,hE,hS⟩:=hJ
 refine ⟨_,hE.sub,?_⟩
 obtain rfl:=o9 h
 exact .g (.q z (.qn z (.ret (ab (vs:=[_]) v9 (rt z rn) z (hS.to [0])))))
theorem sa {a0 : ah} {a1 : List Int} {v_1 : Hd} {w : World} {r : ah} (h : jw a0 a1 = some r) (q_1 : RO w v_1 3 1 (D.int .i64) a1) : Cl 224 #[.agg #[vi a0.Op,vi a0.Dst,vi a0.A,vi a0.B,vi a0.N],(sv v_1)] w (RU w (.agg #[vi r.Op,vi r.Dst,vi r.A,vi r.B,vi r.N])):=by
 unfold jw at h
 refine ar Tryz.func224 z z ?_
 have hS:=Sep.start w
 refine .g (.c (.box hS z z ?_))
 intro g1 W hS
 refine .c (.alloc T.t102 hS ?_)
 intro g2 W hS
 refine .nil (.seq (.g (.s (fa T.f102_0 z z z) z (.s (ld T.t3 hS.p1 z z z z z) z (.nil (.block ?_))))))
 have ⟨y1,hy1,h⟩:=bnd h
 refine .seq (CW.via (R':=fun x E' W'=>x = .normal ∧ aD E' [(1,(sv v_1)),(2,pt g1),(4,pt g2),(6,vi a0.Op),(7,.bool y1)] ∧ Sep No w W' [.box g2 102 [vi 0,vi 0,vi 0,vi 0,vi 0],.box g1 102 [vi a0.Op,vi a0.Dst,vi a0.A,vi a0.B,vi a0.N]]) ?_ ?_)
 ·have h:=hy1
  refine .g (.q z (.q z (.nil ?_)))
  refine .cs z h ?_ ?_ <;> intro h
  ·refine .skip ?_
   cases h
   exact ⟨z,sb z,hS.to [0,0]⟩
  refine .g (.q z (.q z (.nil ?_)))
  refine .cs z h ?_ ?_ <;> intro h
  ·refine .skip ?_
   cases h
   exact ⟨z,sb z,hS.to [0,0]⟩
  refine .g (.q z (.q z (.nil ?_)))
  refine .cs z h ?_ ?_ <;> intro h
  ·refine .skip ?_
   cases h
   exact ⟨z,sb z,hS.to [0,0]⟩
  refine .region (.q z (.q z (.nil ?_)))
  cases h
  exact ⟨z,sb z,hS.to [0,0]⟩
 intro x E W hJ
 obtain ⟨rfl,hE,hS⟩:=hJ
 refine ⟨_,hE.sub,?_⟩
 refine .cs z h ?_ ?_ <;> intro h
 ·refine .region (.q z (.s (fa T.f102_2 z z z) z (.s (ld T.t3 hS.p1 z z z z z) z ?_)))
  have ⟨x1,hx1,h⟩:=bnd h
  refine .s (ixv (hS.keep q_1) hx1 T.u23 T.t3 z z z) z (.s (lde (RV.flat (hS.keep q_1) hx1 z) T.t3 z z z z z) z (.s (fa T.f102_2 z z z) z (.c (.st T.t3 hS.p1 z z z ?_))))
  intro W hS
  refine .nil (.g (.s (ld T.t102 hS z z z z z) z (.c (.st T.t102 hS.p1 z z z ?_))))
  intro W hS
  cases h
  exact .nil (.ret (ab (vs:=[_]) () (rc hS T.t102 z rn z z) z (hS.to [])))
 refine .g (.q z (.q z (.nil ?_)))
 refine .cs z h ?_ ?_ <;> intro h
 ·refine .g (.q z (.s (fa T.f102_2 z z z) z (.s (ld T.t3 hS.p1 z z z z z) z ?_)))
  have ⟨x2,hx2,h⟩:=bnd h
  refine .s (ixv (hS.keep q_1) hx2 T.u23 T.t3 z z z) z (.s (lde (RV.flat (hS.keep q_1) hx2 z) T.t3 z z z z z) z (.s (fa T.f102_2 z z z) z (.c (.st T.t3 hS.p1 z z z ?_))))
  intro W hS
  refine .nil (.region (.q z (.s (fa T.f102_3 z z z) z (.s (ld T.t3 hS z z z z z) z ?_))))
  have ⟨x3,hx3,h⟩:=bnd h
  refine .s (ixv (hS.keep q_1) hx3 T.u23 T.t3 z z z) z (.s (lde (RV.flat (hS.keep q_1) hx3 z) T.t3 z z z z z) z (.s (fa T.f102_3 z z z) z (.c (.st T.t3 hS z z z ?_))))
  intro W hS
  refine .nil (.g (.s (ld T.t102 hS z z z z z) z (.c (.st T.t102 hS.p1 z z z ?_))))
  intro W hS
  cases h
  exact .nil (.ret (ab (vs:=[_]) () (rc hS T.t102 z rn z z) z (hS.to [])))
 refine .skip (.g (.s (ld T.t102 hS.p1 z z z z z) z (.c (.st T.t102 hS z z z ?_))))
 intro W hS
 obtain rfl:=o9 h
 exact .nil (.ret (ab (vs:=[_]) () (rc hS T.t102 z rn z z) z (hS.to [])))
end
noncomputable section
theorem qZ {a0 : List ah} {v_0 : Hd} {w : World} {r : (List ah) × Bool} (h : iC a0 = some r) (q_0 : RO w v_0 102 5 aK a0) : Cl 201 #[(sv v_0)] w (Ret No w (fun s : Hd=>.tuple #[(sv s),.bool r.2]) (fun s=>[ae (sv s) 102 5 aK r.1])):=by
 unfold iC at h
 refine ar Tryz.func201 z z ?_
 have hS:=Sep.start w
 refine .g (.q z (.qn z (.g (.c (.liv [] aK T.u78 T.t102 hS z z z z ?_ z (fun _=>z))))))
 intro v1 W hS
 refine .qn z (.seq (.g (.q z ?_)))
 have ⟨y1,hy1,h⟩:=bnd h
 refine .c (.cO hS Tryz.func137 (bZ hy1 (hS.keep q_0)) z z ?_)
 intro W hS
 refine .q z (.nil ?_)
 refine .cs z h ?_ ?_ <;> intro h
 ·cases h
  exact .g (.q z (.q z (.qn z (.ret (ab (vs:=[_,_]) v1 (rt z (rt z rn)) z (hS.to [0]))))))
 refine .skip (.g (.q z ?_))
 have ⟨y2,hy2,h⟩:=bnd h
 refine .c (.cV hS Tryz.func223 (qY hy2 (hS.keep q_0)) z z ?_)
 intro v2 W hS
 refine .qn z (.seq (.g (.qn z (.block ?_))))
 have ⟨y3,hy3,h⟩:=bnd h
 refine .via (.iter (fun s1 E' W'=>∃ (v5 : Hd),aD E' [(0,(sv v_0)),(4,(sv v5)),(5,(sv v2)),(6,vi s1.2)] ∧ Sep No w W' [ae (sv v2) 23 1 (fun (l : List Int)=>D.row 3 1 (l.map (D.int .i64))) y2,ae (sv v5) 102 5 aK s1.1]) (fun y4 x E' W'=>x = .exit 0 ∧ ∃ (v6 : Hd),aD E' [(4,(sv v6))] ∧ Sep No w W' [ae (sv v2) 23 1 (fun (l : List Int)=>D.row 3 1 (l.map (D.int .i64))) y2,ae (sv v6) 102 5 aK y4]) hy3 ⟨v1,sb z,hS.to [0,0]⟩ ?_) ?_
 ·intro s1 y5 E W h hI
  obtain ⟨v4,hE,hS⟩:=hI
  refine CW.sub hE ?_
  unfold gL at h
  refine .seq (.g (.q z (.q z (.s (bF (hS.keep q_0) T.u78 z z) z (.q z (.nil ?_))))))
  refine .cs z h ?_ ?_ <;> intro h
  ·refine .skip (.seq (.block ?_))
   have ⟨x1,hx1,h⟩:=bnd h
   obtain ⟨k1,hS⟩:=Sep.ov hS hx1
   obtain ⟨v7,k1,rfl,hS⟩:=hS.ow
   obtain ⟨rfl,hS⟩:=hS.oN
   refine .rk 13 hS [0,0] T.mix ?_
   intro W hS
   have hT:=hS.to [0,0]
   refine .tp' 0 z z hT (.tp' 1 z z hT (.tp' 2 z z hT ?_))
   have ⟨x3,hx3,h⟩:=bnd h
   refine .ts' 3 z (fun W hT=>ixv (hS.keep q_0) hx3 T.u78 T.t102 z z z) hT z (.ts' 4 z (fun W hT=>lde (RV.flat (hT.keep q_0) hx3 z) T.t102 z z z z z) hT z (.tp' 5 z z hT (.tp' 6 z z hT (.ts' 7 z (fun W hT=>ixh hT.p1 hx1 T.u47 T.t23 z z z) hT z (.ts' 8 z (fun W hT=>lde (hT.p1.hcellsv) T.t23 z z z z z) hT z ?_)))))
   have ⟨y7,hy7,h⟩:=bnd h
   refine .by1 9 z (.cO hS Tryz.func224 (sa hy7 hS.lv) z z ?_)
   intro W hS
   have hT:=hS.to [0,0]
   refine ⟨fun _=>hT,.by1 10 z (.liv [y7] aK T.u78 T.t102 hS z z z z ?_ z (fun _=>z))⟩
   intro v10 W hS
   have hT:=hS.to [1,1]
   refine ⟨fun _=>hT,?_⟩
   have ⟨r2,hr2,h⟩:=bnd h
   have hT0:=hS.p3
   refine .by1 11 z (.av hr2 hT0 hT0.p1.lv (fun _=>z) T.u78 T.t102 z z z ?_)
   intro v11 W hS
   have hT:=hS.to [2,2]
   refine ⟨fun _=>hT,.tp' 12 z z hT (.done (.region (.q z (.q z (.q z (.nil ?_))))))⟩
   have hS:=Sep.gat (ds:=[.row 3 1 (x1.map (D.int .i64))]) (cs:=[(sv v7)]) (L1:=[ae (sv v7) 3 1 (D.int .i64) x1]) (.row (.nil)) (hS.to [2,2,0,0])
   have hS : Sep _ _ _ [ae (sv v2) 23 1 (fun (l : List Int)=>D.row 3 1 (l.map (D.int .i64))) y2,ae (sv v11) 102 5 aK r2,ae (sv v10) 102 5 aK [y7]]:=Sep.back0v hx1 hS
   cases h
   exact ⟨z,v11,sb z,hS.to [0,0]⟩
  refine .exit ?_
  cases h
  exact ⟨by simp,z,v4,sb z,hS.to [0,0]⟩
 intro x E W hJ
 obtain ⟨rfl,v12,hE,hS⟩:=hJ
 refine ⟨_,hE.sub,?_⟩
 cases h
 exact .g (.q z (.q z (.qn z (.ret (ab (vs:=[_,_]) v12 (rt z (rt z rn)) z (hS.to [1]))))))
def q8 (w : World) (r : Int) : Env → World → Prop:=Fin Tryz.prog Tryz.f225 No w (fun s : Unit=>.int .i64 r) (fun s=>[]) .ret
theorem qg {a0 : List ah} {a1 : Int} {v_0 : Hd} {w : World} {r : Int} (h : gn a0 a1 = some r) (q_0 : RO w v_0 102 5 aK a0) : Cl 225 #[(sv v_0),vi a1] w (RU w (.int .i64 r)):=by
 unfold gn at h
 refine ar Tryz.func225 z z ?_
 have hS:=Sep.start w
 refine .g (.qn z (.g (.q z (.qn z (.seq (.g (.qn z (.block ?_))))))))
 have ⟨y1,hy1,h⟩:=bnd h
 refine .via (.iter (fun s1 E' W'=>aD E' [(0,(sv v_0)),(1,vi a1),(5,vi s1.1),(6,vi s1.2)] ∧ Sep No w W' []) (fun y2 x E' W'=>(match y2 with | .inl o1=>x = .ret ∧ q8 w o1 E' W' | .inr o2=>x = .exit 0 ∧ aD E' [(1,vi a1)] ∧ Sep No w W' [])) hy1 ⟨sb rfl,hS.to [] rfl⟩ ?_) ?_
 ·intro s1 y3 E W h hI
  obtain ⟨hE,hS⟩:=hI
  refine CW.sub hE ?_
  unfold jx at h
  refine .seq (.g (.q z (.q z (.s (bF (hS.keep q_0) T.u78 z z) z (.q z (.nil ?_))))))
  refine .cs z h ?_ ?_ <;> intro h
  ·refine .skip (.seq (.block (.seq (.g (.q z (.q z ?_))))))
   have ⟨x1,hx1,h⟩:=bnd h
   refine .s (ixv (hS.keep q_0) hx1 T.u78 T.t102 z z z) z (.s (fe T.f102_0 z z z) z (.s (lde (RV.flat (hS.keep q_0) hx1 z) T.t3 z z z z z) z (.q z (.nil ?_))))
   refine .cs z h ?_ ?_ <;> intro h
   ·refine .g (.q z (.qn z (.ret ?_)))
    cases h
    exact ⟨by simp,z,ab (vs:=[_]) () (rt z rn) z (hS.to [])⟩
   refine .skip (.region (.q z (.q z ?_)))
   have ⟨x2,hx2,h⟩:=bnd h
   refine .s (ixv (hS.keep q_0) hx2 T.u78 T.t102 z z z) z (.s (fe T.f102_4 z z z) z (.s (lde (RV.flat (hS.keep q_0) hx2 z) T.t3 z z z z z) z (.qn z (.region (.q z (.q z (.q z (.nil ?_))))))))
   cases h
   exact ⟨z,sb z,hS.to []⟩
  refine .exit ?_
  cases h
  exact ⟨by simp,z,sb z,hS.to []⟩
 intro x E W hJ
 rcases y1 with o3 | o4
 ·obtain ⟨rfl,hF⟩:=hJ
  refine ⟨_,fun _ _ h=>h,?_⟩
  cases h
  exact hF
 obtain ⟨rfl,hE,hS⟩:=hJ
 refine ⟨_,hE.sub,?_⟩
 obtain rfl:=o9 h
 exact .g (.q z (.qn z (.ret (ab (vs:=[_]) () (rt z rn) z (hS.to [])))))
theorem rh {a0 : List ah} {v_0 : Hd} {w : World} {r : (List ah) × Bool} (h : iE a0 = some r) (q_0 : RO w v_0 102 5 aK a0) : Cl 202 #[(sv v_0)] w (Ret No w (fun s : Hd=>.tuple #[(sv s),.bool r.2]) (fun s=>[ae (sv s) 102 5 aK r.1])):=by
 unfold iE at h
 refine ar Tryz.func202 z z ?_
 have hS:=Sep.start w
 refine .g (.q z (.qn z (.g (.c (.liv [] aK T.u78 T.t102 hS z z z z ?_ z (fun _=>z))))))
 intro v1 W hS
 refine .qn z (.seq (.g (.q z ?_)))
 have ⟨y1,hy1,h⟩:=bnd h
 refine .c (.cO hS Tryz.func137 (bZ hy1 (hS.keep q_0)) z z ?_)
 intro W hS
 refine .q z (.nil ?_)
 refine .cs z h ?_ ?_ <;> intro h
 ·cases h
  exact .g (.q z (.q z (.qn z (.ret (ab (vs:=[_,_]) v1 (rt z (rt z rn)) z (hS.to [0]))))))
 refine .skip (.seq (.g (.qn z (.block ?_))))
 have ⟨y2,hy2,h⟩:=bnd h
 refine .via (.iter (fun s1 E' W'=>∃ (v4 : Hd),aD E' [(0,(sv v_0)),(4,(sv v4)),(5,vi s1.2)] ∧ Sep No w W' [ae (sv v4) 102 5 aK s1.1]) (fun y3 x E' W'=>x = .exit 0 ∧ ∃ (v5 : Hd),aD E' [(4,(sv v5))] ∧ Sep No w W' [ae (sv v5) 102 5 aK y3]) hy2 ⟨v1,sb z,hS.to [0]⟩ ?_) ?_
 ·intro s1 y4 E W h hI
  obtain ⟨v3,hE,hS⟩:=hI
  refine CW.sub hE ?_
  unfold gM at h
  refine .seq (.g (.q z (.q z (.s (bF (hS.keep q_0) T.u78 z z) z (.q z (.nil ?_))))))
  refine .cs z h ?_ ?_ <;> intro h
  ·refine .skip (.seq (.block (.g (.q z (.q z ?_)))))
   have ⟨x1,hx1,h⟩:=bnd h
   refine .s (ixv (hS.keep q_0) hx1 T.u78 T.t102 z z z) z (.s (lde (RV.flat (hS.keep q_0) hx1 z) T.t102 z z z z z) z (.c (.alloc T.t102 hS ?_)))
   intro g1 W hS
   refine .c (.st T.t102 hS z z z ?_)
   intro W hS
   refine .nil ?_
   have ⟨y5,hy5,h⟩:=bnd h
   refine .seq (CW.via (R':=fun x E' W'=>x = .normal ∧ aD E' [(0,(sv v_0)),(4,(sv v3)),(5,vi s1.2),(6,pt g1)] ∧ Sep No w W' [.box g1 102 [vi y5.Op,vi y5.Dst,vi y5.A,vi y5.B,vi y5.N],ae (sv v3) 102 5 aK s1.1]) ?_ ?_)
   ·have h:=hy5
    refine .g (.s (fa T.f102_0 z z z) z (.s (ld T.t3 hS z z z z z) z (.q z (.q z (.cu 4 29 ((x1.Op == 4) || (x1.Op == 5)) hS ?_ ?_)))))
    ·refine .both (x1.Op == 4) (fun hb=>?_) (fun hb=>?_)
     ·exact .xx hb z (.xx hb z (.xx hb z (.s (pkt hb z z z) z (.nil (ck 4 hS z (kL hb))))))
     have hg1:=hb
     exact .g hg1 (.s (fa T.f102_0 z z z) z (.g hg1 (.s (ld T.t3 hS z z z z z) z (.g hg1 (.q z (.s (pkf hg1 z z z) z (.nil (ck 4 hS z (kM hg1)))))))))
    intro W hS
    refine .nil ?_
    refine .cs z h ?_ ?_ <;> intro h
    ·refine .region (.q z (.s (fa T.f102_4 z z z) z (.s (ld T.t3 hS z z z z z) z ?_)))
     have ⟨y6,hy6,h⟩:=bnd h
     refine .c (.cO hS Tryz.func225 (qg hy6 (hS.keep q_0)) z z ?_)
     intro W hS
     refine .s (fa T.f102_4 z z z) z (.c (.st T.t3 hS z z z ?_))
     intro W hS
     refine .nil ?_
     cases h
     exact ⟨z,sb z,hS.to [0,0]⟩
    refine .skip ?_
    obtain rfl:=o9 h
    exact ⟨z,sb z,hS.to [0,0]⟩
   intro x E W hJ
   obtain ⟨rfl,hE,hS⟩:=hJ
   refine ⟨_,hE.sub,?_⟩
   refine .region (.q z (.s (ld T.t102 hS z z z z z) z (.c (.liv [y5] aK T.u78 T.t102 hS z z z z ?_ z (fun _=>z)))))
   intro v6 W hS
   have ⟨r1,hr1,h⟩:=bnd h
   have hT0:=hS.p2
   refine .c (.av hr1 hT0 hT0.p1.lv (fun _=>z) T.u78 T.t102 z z z ?_)
   intro v7 W hS
   refine .qn z (.region (.q z (.q z (.q z (.nil ?_)))))
   cases h
   exact ⟨z,v7,sb z,hS.to [0]⟩
  refine .exit ?_
  cases h
  exact ⟨by simp,z,v3,sb z,hS.to [0]⟩
 intro x E W hJ
 obtain ⟨rfl,v8,hE,hS⟩:=hJ
 refine ⟨_,hE.sub,?_⟩
 cases h
 exact .g (.q z (.q z (.qn z (.ret (ab (vs:=[_,_]) v8 (rt z (rt z rn)) z (hS.to [0]))))))
theorem mU {a0 : List ah} {a1 : List (List Bool)} {a2 : Int} {v_0 : Hd} {v_1 : Hd} {w : World} {r : (List Bool)} (h : fT a0 a1 a2 = some r) (q_0 : RO w v_0 102 5 aK a0) (q_1 : RO w v_1 48 1 (fun (l : List Bool)=>D.row 4 1 (l.map D.bool)) a1) : Cl 228 #[(sv v_0),(sv v_1),vi a2] w (Ret No w (fun s : Hd=>(sv s)) (fun s=>[ae (sv s) 4 1 D.bool r])):=by
 unfold fT at h
 refine ar Tryz.func228 z z ?_
 have hS:=Sep.start w
 refine .g (.qn z (.seq (.region ?_)))
 have ⟨r1,hr1,h⟩:=bnd h
 refine .c (.mkv false D.bool hr1 T.u48 T.t4 hS z z z z z (fun _=>z) ?_)
 intro v1 W hS
 refine .qn z (.g (.q z (.q z ?_)))
 have ⟨y1,hy1,h⟩:=bnd h
 refine .c (.cV hS Tryz.func246 (i4 hy1 (hS.keep q_0)) z z ?_)
 intro v2 W hS
 refine .qn z (.seq (.g (.qn z (.block ?_))))
 have ⟨y2,hy2,h⟩:=bnd h
 refine .via (.iter (fun s1 E' W'=>aD E' [(1,(sv v_1)),(7,(sv v1)),(8,(sv v2)),(9,vi s1.1)] ∧ Sep No w W' [ae (sv v2) 3 1 (D.int .i64) y1,ae (sv v1) 4 1 D.bool s1.2]) (fun y3 x E' W'=>x = .exit 0 ∧ aD E' [(7,(sv v1))] ∧ Sep No w W' [ae (sv v2) 3 1 (D.int .i64) y1,ae (sv v1) 4 1 D.bool y3]) hy2 ⟨sb z,hS.to [0,0]⟩ ?_) ?_
 ·intro s1 y4 E W h hI
  obtain ⟨hE,hS⟩:=hI
  refine CW.sub hE ?_
  unfold km at h
  refine .seq (.g (.q z (.q z (.s (bF hS.lv T.u23 z z) z (.q z (.nil ?_))))))
  refine .cs z h ?_ ?_ <;> intro h
  ·refine .skip (.seq (.block (.g (.qn z (.block ?_)))))
   have ⟨y5,hy5,h⟩:=bnd h
   refine .via (.iter (fun s2 E' W'=>aD E' [(1,(sv v_1)),(7,(sv v1)),(8,(sv v2)),(9,vi s1.1),(10,vi s2.1)] ∧ Sep No w W' [ae (sv v2) 3 1 (D.int .i64) y1,ae (sv v1) 4 1 D.bool s2.2]) (fun y6 x E' W'=>x = .exit 2 ∧ aD E' [(1,(sv v_1)),(7,(sv v1)),(8,(sv v2)),(9,vi s1.1)] ∧ Sep No w W' [ae (sv v2) 3 1 (D.int .i64) y1,ae (sv v1) 4 1 D.bool y6]) hy5 ⟨sb z,hS.to [0,0]⟩ ?_) ?_
   ·intro s2 y7 E W h hI
    obtain ⟨hE,hS⟩:=hI
    refine CW.sub hE ?_
    unfold kl at h
    refine .seq (.g (.q z (.q z (.nil ?_))))
    refine .cs z h ?_ ?_ <;> intro h
    ·refine .skip (.seq (.block (.region (.q z (.q z (.q z (.q z ?_)))))))
     have ⟨x1,hx1,h⟩:=bnd h
     refine .s (ixv hS.p1.lv hx1 T.u48 T.t4 z z z) z (.s (lde (RV.flat hS.p1.lv hx1 z) T.t4 z z z z z) z (.q z ?_))
     have ⟨b1,hb1,h⟩:=bnd h
     refine .cu 11 42 (b1) hS ?_ ?_
     ·refine .both (x1) (fun hb=>?_) (fun hb=>?_)
      ·refine .xx hb z (.xx hb z (.xx hb z (.xx hb z (.xx hb z (.xx hb z (.xx hb z (.xx hb z (.xx hb z (.xx hb z ?_)))))))))
       cases aF hb hb1
       exact .s (pkt hb z z z) z (.nil (ck 11 hS))
      have hg1:=hb
      have h:=aG hb hb1
      refine .g hg1 (.q z (.g hg1 (.q z (.g hg1 (.q z ?_)))))
      have ⟨x2,hx2,h⟩:=bnd h
      refine .g hg1 (.s (ixv hS.lv hx2 T.u23 T.t3 z z z) z (.g hg1 (.s (lde (RV.flat hS.lv hx2 z) T.t3 z z z z z) z ?_)))
      have ⟨x3,hx3,h⟩:=bnd h
      obtain ⟨k1,hd,hck1⟩:=RV.el2 q_1 hx3
      obtain ⟨v3,k1,rfl,q1,hd1⟩:=jc q_1 hd
      obtain rfl:=rO q_1 hd1
      refine .g hg1 (.s (ixv (hS.keep q_1) hx3 T.u224 T.t48 z z z) z (.g hg1 (.s (lde (hck1 _ hS.agree) T.t48 z z z z z) z (.g hg1 (.q z ?_)))))
      have ⟨x4,hx4,h⟩:=bnd h
      refine .g hg1 (.s (ixv (hS.keep (q1 _ q_1)) hx4 T.u48 T.t4 z z z) z (.g hg1 (.s (lde (RV.flat (hS.keep (q1 _ q_1)) hx4 z) T.t4 z z z z z) z (.s (pkf hg1 z z z) z ?_))))
      cases h
      exact .nil (ck 11 hS)
     intro W hS
     have ⟨x5,hx5,h⟩:=bnd h
     refine .s (ixv hS.p1.lv hx5 T.u48 T.t4 z z z) z ?_
     have ⟨r2,hr2,h⟩:=bnd h
     refine .c (.sev hr2 hx5 hS.p1 T.t4 z z z z z z ?_)
     intro W hS
     refine .nil (.region (.q z (.q z (.q z (.nil ?_)))))
     cases h
     exact ⟨z,sb z,hS.to [1,0]⟩
    refine .exit ?_
    cases h
    exact ⟨by simp,z,sb z,hS.to [0,0]⟩
   intro x E W hJ
   obtain ⟨rfl,hE,hS⟩:=hJ
   refine ⟨_,hE.sub,?_⟩
   refine .region (.q z (.q z (.q z (.nil ?_))))
   cases h
   exact ⟨z,sb z,hS.to [0,0]⟩
  refine .exit ?_
  cases h
  exact ⟨by simp,z,sb z,hS.to [0,0]⟩
 intro x E W hJ
 obtain ⟨rfl,hE,hS⟩:=hJ
 refine ⟨_,hE.sub,?_⟩
 obtain rfl:=o9 h
 exact .g (.q z (.qn z (.ret (ab (vs:=[_]) v1 (rt z rn) z (hS.to [1])))))
theorem ri {a0 : ah} {w : World} {r : (List Int)} (h : iG a0 = some r) : Cl 263 #[.agg #[vi a0.Op,vi a0.Dst,vi a0.A,vi a0.B,vi a0.N]] w (Ret No w (fun s : Hd=>(sv s)) (fun s=>[ae (sv s) 3 1 (D.int .i64) r])):=by
 unfold iG at h
 refine ar Tryz.func263 z z ?_
 have hS:=Sep.start w
 refine .g (.c (.box hS z z ?_))
 intro g1 W hS
 refine .qn z (.seq (.g (.s (ld T.t102 hS z z z z z) z ?_)))
 have ⟨y1,hy1,h⟩:=bnd h
 refine .c (.cO hS Tryz.func179 (jU hy1) z z ?_)
 intro W hS
 refine .q z (.nil ?_)
 refine .cs z h ?_ ?_ <;> intro h
 ·refine .g (.c (.liv [] (D.int .i64) T.u23 T.t3 hS z z z z ?_ z (fun _=>z)))
  intro v1 W hS
  cases h
  exact .qn z (.ret (ab (vs:=[_]) v1 (rt z rn) z (hS.to [0])))
 refine .skip (.seq (.g (.s (fa T.f102_0 z z z) z (.s (ld T.t3 hS z z z z z) z (.nil (.block ?_))))))
 have ⟨y2,hy2,h⟩:=bnd h
 refine .seq (CW.via (R':=fun x E' W'=>x = .normal ∧ aD E' [(1,pt g1),(8,vi a0.Op),(9,.bool y2)] ∧ Sep No w W' [.box g1 102 [vi a0.Op,vi a0.Dst,vi a0.A,vi a0.B,vi a0.N]]) ?_ ?_)
 ·have h:=hy2
  refine .g (.q z (.q z (.nil ?_)))
  refine .cs z h ?_ ?_ <;> intro h
  ·refine .skip ?_
   cases h
   exact ⟨z,sb z,hS.to [0]⟩
  refine .g (.q z (.q z (.nil ?_)))
  refine .cs z h ?_ ?_ <;> intro h
  ·refine .skip ?_
   cases h
   exact ⟨z,sb z,hS.to [0]⟩
  refine .g (.q z (.q z (.nil ?_)))
  refine .cs z h ?_ ?_ <;> intro h
  ·refine .skip ?_
   cases h
   exact ⟨z,sb z,hS.to [0]⟩
  refine .region (.q z (.q z (.nil ?_)))
  cases h
  exact ⟨z,sb z,hS.to [0]⟩
 intro x E W hJ
 obtain ⟨rfl,hE,hS⟩:=hJ
 refine ⟨_,hE.sub,?_⟩
 refine .cs z h ?_ ?_ <;> intro h
 ·refine .g (.s (fa T.f102_2 z z z) z (.s (ld T.t3 hS z z z z z) z (.c (.liv [a0.A] (D.int .i64) T.u23 T.t3 hS z z z z ?_ z (fun _=>z)))))
  intro v2 W hS
  cases h
  exact .qn z (.ret (ab (vs:=[_]) v2 (rt z rn) z (hS.to [0])))
 refine .g (.q z (.q z (.nil ?_)))
 refine .cs z h ?_ ?_ <;> intro h
 ·refine .seq (.g (.s (fa T.f102_2 z z z) z (.s (ld T.t3 hS z z z z z) z (.s (fa T.f102_3 z z z) z (.s (ld T.t3 hS z z z z z) z (.q z (.nil ?_)))))))
  refine .cs z h ?_ ?_ <;> intro h
  ·refine .g (.s (fa T.f102_2 z z z) z (.s (ld T.t3 hS z z z z z) z (.c (.liv [a0.A] (D.int .i64) T.u23 T.t3 hS z z z z ?_ z (fun _=>z)))))
   intro v3 W hS
   cases h
   exact .qn z (.ret (ab (vs:=[_]) v3 (rt z rn) z (hS.to [0])))
  refine .skip (.g (.s (fa T.f102_2 z z z) z (.s (ld T.t3 hS z z z z z) z (.s (fa T.f102_3 z z z) z (.s (ld T.t3 hS z z z z z) z (.s (mnv z z z) z (.s (fa T.f102_2 z z z) z (.s (ld T.t3 hS z z z z z) z (.s (fa T.f102_3 z z z) z (.s (ld T.t3 hS z z z z z) z (.s (mxv z z z) z (.c (.liv [min a0.A a0.B,max a0.A a0.B] (D.int .i64) T.u23 T.t3 hS z z z z ?_ z (fun _=>z))))))))))))))
  intro v4 W hS
  cases h
  exact .qn z (.ret (ab (vs:=[_]) v4 (rt z rn) z (hS.to [0])))
 refine .skip (.g (.c (.liv [] (D.int .i64) T.u23 T.t3 hS z z z z ?_ z (fun _=>z))))
 intro v5 W hS
 cases h
 exact .qn z (.ret (ab (vs:=[_]) v5 (rt z rn) z (hS.to [0])))
theorem qh {a0 : ah} {a1 : List Bool} {v_1 : Hd} {w : World} {r : (List Bool)} (h : gp a0 a1 = some r) (q_1 : RO w v_1 4 1 D.bool a1) : Cl 257 #[.agg #[vi a0.Op,vi a0.Dst,vi a0.A,vi a0.B,vi a0.N],(sv v_1)] w (Ret No w (fun s : Hd=>(sv s)) (fun s=>[ae (sv s) 4 1 D.bool r])):=by
 unfold gp at h
 refine ar Tryz.func257 z z ?_
 have hS:=Sep.start w
 refine .g (.c (.box hS z z ?_))
 intro g1 W hS
 refine .qn z (.g (.c (.liv [] D.bool T.u48 T.t4 hS z z z z ?_ z (fun _=>z))))
 intro v1 W hS
 refine .q z ?_
 have ⟨r1,hr1,h⟩:=bnd h
 refine .c (.av hr1 hS (hS.keep q_1) (fun _=>z) T.u48 T.t4 z z z ?_)
 intro v2 W hS
 refine .q z (.nil ?_)
 have ⟨y1,hy1,h⟩:=bnd h
 refine .seq (CW.via (R':=fun x E' W'=>x = .normal ∧ aD E' [(2,pt g1),(5,(sv v2))] ∧ Sep No w W' [ae (sv v2) 4 1 D.bool y1,.box g1 102 [vi a0.Op,vi a0.Dst,vi a0.A,vi a0.B,vi a0.N]]) ?_ ?_)
 ·have h:=hy1
  refine .g (.s (ld T.t102 hS.p1 z z z z z) z ?_)
  have ⟨y2,hy2,h⟩:=bnd h
  refine .c (.cO hS Tryz.func262 (kz hy2) z z ?_)
  intro W hS
  refine .q z (.nil ?_)
  refine .cs z h ?_ ?_ <;> intro h
  ·refine .region (.q z (.s (ld T.t102 hS.p1 z z z z z) z ?_))
   have ⟨y3,hy3,h⟩:=bnd h
   refine .c (.cO hS Tryz.func262 (kz hy3) z z ?_)
   intro W hS
   have ⟨x1,hx1,h⟩:=bnd h
   refine .s (ixv hS.lv hx1 T.u48 T.t4 z z z) z ?_
   have ⟨r2,hr2,h⟩:=bnd h
   refine .c (.sev hr2 hx1 hS T.t4 z z z z z z ?_)
   intro W hS
   refine .nil ?_
   obtain rfl:=o9 h
   exact ⟨z,sb z,hS.to [0,0]⟩
  refine .skip ?_
  obtain rfl:=o9 h
  exact ⟨z,sb z,hS.to [0,0]⟩
 intro x E W hJ
 obtain ⟨rfl,hE,hS⟩:=hJ
 refine ⟨_,hE.sub,?_⟩
 refine .g (.s (ld T.t102 hS.p1 z z z z z) z ?_)
 have ⟨y4,hy4,h⟩:=bnd h
 refine .c (.cV hS Tryz.func263 (ri hy4) z z ?_)
 intro v3 W hS
 refine .qn z (.seq (.g (.qn z (.block ?_))))
 have ⟨y5,hy5,h⟩:=bnd h
 refine .via (.iter (fun s1 E' W'=>aD E' [(5,(sv v2)),(6,(sv v3)),(7,vi s1.1)] ∧ Sep No w W' [ae (sv v3) 3 1 (D.int .i64) y4,ae (sv v2) 4 1 D.bool s1.2,.box g1 102 [vi a0.Op,vi a0.Dst,vi a0.A,vi a0.B,vi a0.N]]) (fun y6 x E' W'=>x = .exit 0 ∧ aD E' [(5,(sv v2))] ∧ Sep No w W' [ae (sv v3) 3 1 (D.int .i64) y4,ae (sv v2) 4 1 D.bool y6,.box g1 102 [vi a0.Op,vi a0.Dst,vi a0.A,vi a0.B,vi a0.N]]) hy5 ⟨sb z,hS.to [0,0,0]⟩ ?_) ?_
 ·intro s1 y7 E W h hI
  obtain ⟨hE,hS⟩:=hI
  refine CW.sub hE ?_
  unfold jy at h
  refine .seq (.g (.q z (.q z (.s (bF hS.lv T.u23 z z) z (.q z (.nil ?_))))))
  refine .cs z h ?_ ?_ <;> intro h
  ·refine .skip (.seq (.block (.region (.q z (.q z (.q z ?_))))))
   have ⟨x2,hx2,h⟩:=bnd h
   refine .s (ixv hS.lv hx2 T.u23 T.t3 z z z) z (.s (lde (RV.flat hS.lv hx2 z) T.t3 z z z z z) z ?_)
   have ⟨x3,hx3,h⟩:=bnd h
   refine .s (ixv hS.p1.lv hx3 T.u48 T.t4 z z z) z ?_
   have ⟨r3,hr3,h⟩:=bnd h
   refine .c (.sev hr3 hx3 hS.p1 T.t4 z z z z z z ?_)
   intro W hS
   refine .nil (.region (.q z (.q z (.q z (.nil ?_)))))
   cases h
   exact ⟨z,sb z,hS.to [1,0,0]⟩
  refine .exit ?_
  cases h
  exact ⟨by simp,z,sb z,hS.to [0,0,0]⟩
 intro x E W hJ
 obtain ⟨rfl,hE,hS⟩:=hJ
 refine ⟨_,hE.sub,?_⟩
 obtain rfl:=o9 h
 exact .g (.q z (.qn z (.ret (ab (vs:=[_]) v2 (rt z rn) z (hS.to [1])))))
def tZ (w : World) (r : Bool) : Env → World → Prop:=Fin Tryz.prog Tryz.f258 No w (fun s : Unit=>.bool r) (fun s=>[]) .ret
theorem sd {a0 : List Bool} {a1 : List Bool} {v_0 : Hd} {v_1 : Hd} {w : World} {r : Bool} (h : jz a0 a1 = some r) (q_0 : RO w v_0 4 1 D.bool a0) (q_1 : RO w v_1 4 1 D.bool a1) : Cl 258 #[(sv v_0),(sv v_1)] w (RU w (.bool r)):=by
 unfold jz at h
 refine ar Tryz.func258 z z ?_
 have hS:=Sep.start w
 refine .g (.qn z (.seq (.g (.qn z (.block ?_)))))
 have ⟨y1,hy1,h⟩:=bnd h
 refine .via (.iter (fun s1 E' W'=>aD E' [(0,(sv v_0)),(1,(sv v_1)),(5,vi s1)] ∧ Sep No w W' []) (fun y2 x E' W'=>(match y2 with | .inl o1=>x = .ret ∧ tZ w o1 E' W' | .inr o2=>x = .exit 0 ∧ aD E' [(0,(sv v_0)),(1,(sv v_1))] ∧ Sep No w W' [])) hy1 ⟨sb rfl,hS.to [] rfl⟩ ?_) ?_
 ·intro s1 y3 E W h hI
  obtain ⟨hE,hS⟩:=hI
  refine CW.sub hE ?_
  unfold lf at h
  refine .seq (.g (.q z (.q z (.s (bF (hS.keep q_0) T.u48 z z) z (.q z (.nil ?_))))))
  refine .cs z h ?_ ?_ <;> intro h
  ·refine .skip (.seq (.block (.seq (.rk 9 hS [] T.mix ?_))))
   intro W hS
   have hT:=hS.to []
   refine .tp' 0 z z hT (.tp' 1 z z hT ?_)
   have ⟨x1,hx1,h⟩:=bnd h
   refine .ts' 2 z (fun W hT=>ixv (hS.keep q_0) hx1 T.u48 T.t4 z z z) hT z (.ts' 3 z (fun W hT=>lde (RV.flat (hT.keep q_0) hx1 z) T.t4 z z z z z) hT z (.tp' 4 z z hT (.tp' 5 z z hT ?_)))
   have ⟨x2,hx2,h⟩:=bnd h
   refine .ts' 6 z (fun W hT=>ixv (hS.keep q_1) hx2 T.u48 T.t4 z z z) hT z (.ts' 7 z (fun W hT=>lde (RV.flat (hT.keep q_1) hx2 z) T.t4 z z z z z) hT z (.ts' 8 z (fun W hT=>neb T.u4 z z z) hT z (.done ?_)))
   refine .cs z h ?_ ?_ <;> intro h
   ·refine .g (.qn z (.ret ?_))
    cases h
    exact ⟨by simp,z,ab (vs:=[_]) () (rt z rn) z (hS.to [])⟩
   refine .skip (.region (.q z (.q z (.q z (.nil ?_)))))
   cases h
   exact ⟨z,sb z,hS.to []⟩
  refine .exit ?_
  cases h
  exact ⟨by simp,z,sb z,hS.to []⟩
 intro x E W hJ
 rcases y1 with o3 | o4
 ·obtain ⟨rfl,hF⟩:=hJ
  refine ⟨_,fun _ _ h=>h,?_⟩
  cases h
  exact hF
 obtain ⟨rfl,hE,hS⟩:=hJ
 refine ⟨_,hE.sub,?_⟩
 cases h
 exact .g (.q z (.s (bF (hS.keep q_0) T.u48 z z) z (.q z (.s (bF (hS.keep q_1) T.u48 z z) z (.q z (.qn z (.ret (ab (vs:=[_]) () (rt z rn) z (hS.to [])))))))))
theorem rj {a0 : List ah} {a1 : List (List Bool)} {v_0 : Hd} {v_1 : Hd} {S : Nat → Prop} {w : World} {r : Bool × (List (List Bool))} (h : iH a0 a1 = some r) (q_0 : RV w (Old S w) (sv v_0) 102 5 aK a0) (hO : bO w [ae (sv v_1) 48 1 (fun (l : List Bool)=>D.row 4 1 (l.map D.bool)) a1] S) (hlt : ∀ b,S b → b < w.heap.size) : Cl 245 #[(sv v_0),(sv v_1)] w (Ret S w (fun s : Unit=>.bool r.1) (fun s=>[ae (sv v_1) 48 1 (fun (l : List Bool)=>D.row 4 1 (l.map D.bool)) r.2])):=by
 unfold iH at h
 refine ar Tryz.func245 z z ?_
 have hS:=Sep.sm hO hlt
 refine .g (.qn z (.g (.qn z (.seq (.g (.q z (.s (bF (hS.keep q_0) T.u78 z z) z (.q z (.qn z (.block ?_))))))))))
 have ⟨y1,hy1,h⟩:=bnd h
 refine .via (.iter (fun s1 E' W'=>aD E' [(0,(sv v_0)),(1,(sv v_1)),(5,.bool s1.1),(6,vi s1.2.1)] ∧ Sep S w W' [ae (sv v_1) 48 1 (fun (l : List Bool)=>D.row 4 1 (l.map D.bool)) s1.2.2]) (fun y2 x E' W'=>x = .exit 0 ∧ aD E' [(5,.bool y2.1)] ∧ Sep S w W' [ae (sv v_1) 48 1 (fun (l : List Bool)=>D.row 4 1 (l.map D.bool)) y2.2]) hy1 ⟨sb z,hS.to [0]⟩ ?_) ?_
 ·intro s1 y3 E W h hI
  obtain ⟨hE,hS⟩:=hI
  refine CW.sub hE ?_
  unfold ko at h
  refine .seq (.g (.q z (.q z (.nil ?_))))
  refine .cs z h ?_ ?_ <;> intro h
  ·refine .skip ?_
   have ⟨y4,hy4,h⟩:=bnd h
   refine .seq (CW.via (R':=fun x E' W'=>x = .normal ∧ aD E' [(0,(sv v_0)),(1,(sv v_1)),(5,.bool y4.1),(6,vi s1.2.1)] ∧ Sep S w W' [ae (sv v_1) 48 1 (fun (l : List Bool)=>D.row 4 1 (l.map D.bool)) y4.2]) ?_ ?_)
   ·have h:=hy4
    refine .block (.seq (.rk 10 hS [0] T.mix ?_))
    intro W hS
    have hT:=hS.to [0]
    refine .tp' 0 z z hT (.tp' 1 z z hT ?_)
    have ⟨x1,hx1,h⟩:=bnd h
    refine .ts' 2 z (fun W hT=>ixv (hS.keep q_0) hx1 T.u78 T.t102 z z z) hT z (.ts' 3 z (fun W hT=>lde (RV.flat (hT.keep q_0) hx1 z) T.t102 z z z z z) hT z (.tp' 4 z z hT (.tp' 5 z z hT (.tp' 6 z z hT ?_))))
    have ⟨y5,hy5,h⟩:=bnd h
    refine .by1 7 z (.cV hS Tryz.func228 (mU hy5 (hS.keep q_0) hS.lv) z z ?_)
    intro v1 W hS
    have hT:=hS.to [1]
    refine ⟨fun _=>hT,?_⟩
    have ⟨y6,hy6,h⟩:=bnd h
    refine .by1 8 z (.cV hS Tryz.func257 (qh hy6 hS.lv) z z ?_)
    intro v2 W hS
    have hT:=hS.to [2]
    refine ⟨fun _=>hT,.tp' 9 z z hT (.done (.g (.q z (.q z (.q z ?_)))))⟩
    have ⟨x2,hx2,h⟩:=bnd h
    refine .s (ixv hS.p2.lv hx2 T.u224 T.t48 z z z) z ?_
    obtain ⟨k1,hS⟩:=Sep.ov hS.p2 hx2
    obtain ⟨v3,k1,rfl,hS⟩:=hS.ow
    obtain ⟨rfl,hS⟩:=hS.oN
    refine .s (lde (hS.p1.hcellsv) T.t48 z z z z z) z ?_
    have ⟨y7,hy7,h⟩:=bnd h
    refine .c (.cO hS Tryz.func258 (sd hy7 hS.p2.lv hS.lv) z z ?_)
    intro W hS
    refine .q z (.nil ?_)
    refine .cs z h ?_ ?_ <;> intro h
    ·refine .g (.q z (.q z (.q z (.s (ixh hS.p1 hx2 T.u224 T.t48 z z z) z (.c (.sthv hS.p1 T.t48 z z z ?_))))))
     intro W hS
     refine .nil (.region (.q z (.nil ?_)))
     have hS:=Sep.gat (ds:=[.row 4 1 (y6.map D.bool)]) (cs:=[(sv v2)]) (L1:=[ae (sv v2) 4 1 D.bool y6]) (.row (.nil)) (hS.to [2,0,0,0])
     have hS : Sep _ _ _ [ae (sv v_1) 48 1 (fun (l : List Bool)=>D.row 4 1 (l.map D.bool)) (s1.2.2.set (Int.toNat s1.2.1) y6),ae (sv v3) 4 1 D.bool x2,ae (sv v1) 4 1 D.bool y5]:=hS.bv
     cases h
     exact ⟨z,sb z,hS.to [0]⟩
    refine .skip ?_
    have hS:=Sep.gat (ds:=[.row 4 1 (x2.map D.bool)]) (cs:=[(sv v3)]) (L1:=[ae (sv v3) 4 1 D.bool x2]) (.row (.nil)) (hS.to [0,0,0,0])
    have hS : Sep _ _ _ [ae (sv v_1) 48 1 (fun (l : List Bool)=>D.row 4 1 (l.map D.bool)) s1.2.2,ae (sv v2) 4 1 D.bool y6,ae (sv v1) 4 1 D.bool y5]:=Sep.back0v hx2 hS
    cases h
    exact ⟨z,sb z,hS.to [0]⟩
   intro x E W hJ
   obtain ⟨rfl,hE,hS⟩:=hJ
   refine ⟨_,hE.sub,?_⟩
   refine .region (.q z (.q z (.q z (.nil ?_))))
   cases h
   exact ⟨z,sb z,hS.to [0]⟩
  refine .exit ?_
  cases h
  exact ⟨by simp,z,sb z,hS.to [0]⟩
 intro x E W hJ
 obtain ⟨rfl,hE,hS⟩:=hJ
 refine ⟨_,hE.sub,?_⟩
 cases h
 exact .g (.q z (.qn z (.ret (ab (vs:=[_]) () (rt z rn) z (hS.to [0])))))
theorem t0 {a0 : List ah} {v_0 : Hd} {w : World} {r : (List (List Bool))} (h : kU a0 = some r) (q_0 : RO w v_0 102 5 aK a0) : Cl 226 #[(sv v_0)] w (Ret No w (fun s : Hd=>(sv s)) (fun s=>[ae (sv s) 48 1 (fun (l : List Bool)=>D.row 4 1 (l.map D.bool)) r])):=by
 unfold kU at h
 refine ar Tryz.func226 z z ?_
 have hS:=Sep.start w
 refine .g (.qn z (.g (.c (.lg (L1:=[]) [] (fun (l : List Bool)=>D.row 4 1 (l.map D.bool)) T.u224 T.t48 (hS.to []) z z z (.nil) ?_ z (fun _=>z)))))
 intro v1 W hS
 refine .qn z (.seq (.g (.q z ?_)))
 have ⟨y1,hy1,h⟩:=bnd h
 refine .c (.cO hS Tryz.func137 (bZ hy1 (hS.keep q_0)) z z ?_)
 intro W hS
 refine .qn z (.cond z (fun hb=>?_) (fun hb=>?_))
 ·have h:=aF hb h
  cases h
  exact .g (.q z (.qn z (.ret (ab (vs:=[_]) v1 (rt z rn) z (hS.to [0])))))
 have h:=aG hb h
 refine .skip (.seq (.g (.qn z (.block ?_))))
 have ⟨y2,hy2,h⟩:=bnd h
 refine .via (.iter (fun s1 E' W'=>∃ (v4 : Hd),aD E' [(0,(sv v_0)),(3,(sv v4)),(4,vi s1.2)] ∧ Sep No w W' [ae (sv v4) 48 1 (fun (l : List Bool)=>D.row 4 1 (l.map D.bool)) s1.1]) (fun y3 x E' W'=>x = .exit 0 ∧ ∃ (v5 : Hd),aD E' [(0,(sv v_0)),(3,(sv v5))] ∧ Sep No w W' [ae (sv v5) 48 1 (fun (l : List Bool)=>D.row 4 1 (l.map D.bool)) y3]) hy2 ⟨v1,sb z,hS.to [0]⟩ ?_) ?_
 ·intro s1 y4 E W h hI
  obtain ⟨v3,hE,hS⟩:=hI
  refine CW.sub hE ?_
  unfold lO at h
  refine .seq (.g (.q z (.q z (.s (bF (hS.keep q_0) T.u78 z z) z (.q z (.nil ?_))))))
  refine .cs z h ?_ ?_ <;> intro h
  ·refine .skip (.seq (.block (.region (.q z ?_))))
   have ⟨r1,hr1,h⟩:=bnd h
   refine .c (.mkv false D.bool hr1 T.u48 T.t4 hS z z z z z (fun _=>z) ?_)
   intro v6 W hS
   refine .c (.lg (L1:=[ae (sv v6) 4 1 D.bool r1]) [r1] (fun (l : List Bool)=>D.row 4 1 (l.map D.bool)) T.u224 T.t48 (hS.to [0,0]) z z z (.row (.nil)) ?_ z (fun _=>z))
   intro v7 W hS
   have ⟨r2,hr2,h⟩:=bnd h
   refine .c (.appv hr2 (hS.to [1,0]) T.u224 T.t48 z z z ?_)
   intro v8 W hS
   refine .qn z (.region (.q z (.q z (.q z (.nil ?_)))))
   cases h
   exact ⟨z,v8,sb z,hS.to [0]⟩
  refine .exit ?_
  cases h
  exact ⟨by simp,z,v3,sb z,hS.to [0]⟩
 intro x E W hJ
 obtain ⟨rfl,v9,hE,hS⟩:=hJ
 refine ⟨_,hE.sub,?_⟩
 refine .seq (.block ?_)
 have ⟨y5,hy5,h⟩:=bnd h
 refine .via (.iter (fun s2 E' W'=>aD E' [(0,(sv v_0)),(3,(sv v9))] ∧ Sep No w W' [ae (sv v9) 48 1 (fun (l : List Bool)=>D.row 4 1 (l.map D.bool)) s2]) (fun y6 x E' W'=>x = .exit 2 ∧ aD E' [(3,(sv v9))] ∧ Sep No w W' [ae (sv v9) 48 1 (fun (l : List Bool)=>D.row 4 1 (l.map D.bool)) y6]) hy5 ⟨sb z,hS.to [0]⟩ ?_) ?_
 ·intro s2 y7 E W h hI
  obtain ⟨hE,hS⟩:=hI
  refine CW.sub hE ?_
  unfold lP at h
  refine .seq (.g (.q z (.q z ?_)))
  have ⟨y8,hy8,h⟩:=bnd h
  refine .c (.cS (L0:=[ae (sv v9) 48 1 (fun (l : List Bool)=>D.row 4 1 (l.map D.bool)) s2]) hS Tryz.func245 (fun S h1 h2 h3=>(rj hy8 (hS.ks q_0 h1) h2 (zz h1))) z z ?_)
  rintro ⟨⟩ W hS
  refine .nil ?_
  refine .cs z h ?_ ?_ <;> intro h
  ·refine .skip (.block (.skip ?_))
   cases h
   exact ⟨z,sb z,hS.to [0]⟩
  refine .exit ?_
  cases h
  exact ⟨by simp,z,sb z,hS.to [0]⟩
 intro x E W hJ
 obtain ⟨rfl,hE,hS⟩:=hJ
 refine ⟨_,hE.sub,?_⟩
 obtain rfl:=o9 h
 exact .g (.q z (.qn z (.ret (ab (vs:=[_]) v9 (rt z rn) z (hS.to [0])))))
theorem sg {a0 : ah} {a1 : List Bool} {v_1 : Hd} {w : World} {r : Bool} (h : jA a0 a1 = some r) (q_1 : RO w v_1 4 1 D.bool a1) : Cl 227 #[.agg #[vi a0.Op,vi a0.Dst,vi a0.A,vi a0.B,vi a0.N],(sv v_1)] w (RU w (.bool r)):=by
 unfold jA at h
 refine ar Tryz.func227 z z ?_
 have hS:=Sep.start w
 refine .g (.c (.box hS z z ?_))
 intro g1 W hS
 refine .qn z (.seq (.g (.s (fa T.f102_0 z z z) z (.s (ld T.t3 hS z z z z z) z (.nil (.block ?_))))))
 have ⟨y1,hy1,h⟩:=bnd h
 refine .seq (CW.via (R':=fun x E' W'=>x = .normal ∧ aD E' [(1,(sv v_1)),(2,pt g1),(7,.bool y1)] ∧ Sep No w W' [.box g1 102 [vi a0.Op,vi a0.Dst,vi a0.A,vi a0.B,vi a0.N]]) ?_ ?_)
 ·have h:=hy1
  refine .g (.q z (.q z (.nil ?_)))
  refine .cs z h ?_ ?_ <;> intro h
  ·refine .skip ?_
   cases h
   exact ⟨z,sb z,hS.to [0]⟩
  refine .g (.q z (.q z (.nil ?_)))
  refine .cs z h ?_ ?_ <;> intro h
  ·refine .skip ?_
   cases h
   exact ⟨z,sb z,hS.to [0]⟩
  refine .region (.q z (.q z (.nil ?_)))
  cases h
  exact ⟨z,sb z,hS.to [0]⟩
 intro x E W hJ
 obtain ⟨rfl,hE,hS⟩:=hJ
 refine ⟨_,hE.sub,?_⟩
 refine .cs z h ?_ ?_ <;> intro h
 ·refine .g (.q z (.s (fa T.f102_1 z z z) z (.s (ld T.t3 hS z z z z z) z ?_)))
  have ⟨x1,hx1,h⟩:=bnd h
  cases h
  exact .s (ixv (hS.keep q_1) hx1 T.u48 T.t4 z z z) z (.s (lde (RV.flat (hS.keep q_1) hx1 z) T.t4 z z z z z) z (.q z (.qn z (.ret (ab (vs:=[_]) () (rt z rn) z (hS.to []))))))
 obtain rfl:=o9 h
 exact .skip (.g (.qn z (.ret (ab (vs:=[_]) () (rt z rn) z (hS.to [])))))
theorem rl {a0 : List ah} {v_0 : Hd} {w : World} {r : (List ah) × Bool} (h : iI a0 = some r) (q_0 : RO w v_0 102 5 aK a0) : Cl 203 #[(sv v_0)] w (Ret No w (fun s : Hd=>.tuple #[(sv s),.bool r.2]) (fun s=>[ae (sv s) 102 5 aK r.1])):=by
 unfold iI at h
 refine ar Tryz.func203 z z ?_
 have hS:=Sep.start w
 refine .g (.q z (.qn z (.g (.c (.liv [] aK T.u78 T.t102 hS z z z z ?_ z (fun _=>z))))))
 intro v1 W hS
 refine .qn z (.seq (.g (.q z ?_)))
 have ⟨y1,hy1,h⟩:=bnd h
 refine .c (.cO hS Tryz.func137 (bZ hy1 (hS.keep q_0)) z z ?_)
 intro W hS
 refine .q z (.nil ?_)
 refine .cs z h ?_ ?_ <;> intro h
 ·cases h
  exact .g (.q z (.q z (.qn z (.ret (ab (vs:=[_,_]) v1 (rt z (rt z rn)) z (hS.to [0]))))))
 refine .skip (.g (.q z ?_))
 have ⟨y2,hy2,h⟩:=bnd h
 refine .c (.cV hS Tryz.func226 (t0 hy2 (hS.keep q_0)) z z ?_)
 intro v2 W hS
 refine .qn z (.seq (.g (.qn z (.block ?_))))
 have ⟨y3,hy3,h⟩:=bnd h
 refine .via (.iter (fun s1 E' W'=>∃ (v5 : Hd),aD E' [(0,(sv v_0)),(4,(sv v5)),(5,(sv v2)),(6,vi s1.2)] ∧ Sep No w W' [ae (sv v2) 48 1 (fun (l : List Bool)=>D.row 4 1 (l.map D.bool)) y2,ae (sv v5) 102 5 aK s1.1]) (fun y4 x E' W'=>x = .exit 0 ∧ ∃ (v6 : Hd),aD E' [(4,(sv v6))] ∧ Sep No w W' [ae (sv v2) 48 1 (fun (l : List Bool)=>D.row 4 1 (l.map D.bool)) y2,ae (sv v6) 102 5 aK y4]) hy3 ⟨v1,sb z,hS.to [0,0]⟩ ?_) ?_
 ·intro s1 y5 E W h hI
  obtain ⟨v4,hE,hS⟩:=hI
  refine CW.sub hE ?_
  unfold gN at h
  refine .seq (.g (.q z (.q z (.s (bF (hS.keep q_0) T.u78 z z) z (.q z (.nil ?_))))))
  refine .cs z h ?_ ?_ <;> intro h
  ·refine .skip (.seq (.block (.g (.q z (.q z ?_)))))
   have ⟨x1,hx1,h⟩:=bnd h
   refine .s (ixv (hS.keep q_0) hx1 T.u78 T.t102 z z z) z (.s (lde (RV.flat (hS.keep q_0) hx1 z) T.t102 z z z z z) z (.c (.alloc T.t102 hS ?_)))
   intro g1 W hS
   refine .c (.st T.t102 hS z z z ?_)
   intro W hS
   refine .nil ?_
   have ⟨y6,hy6,h⟩:=bnd h
   refine .seq (CW.via (R':=fun x E' W'=>x = .normal ∧ aD E' [(0,(sv v_0)),(4,(sv v4)),(5,(sv v2)),(6,vi s1.2),(7,pt g1)] ∧ Sep No w W' [.box g1 102 [vi y6.Op,vi y6.Dst,vi y6.A,vi y6.B,vi y6.N],ae (sv v2) 48 1 (fun (l : List Bool)=>D.row 4 1 (l.map D.bool)) y2,ae (sv v4) 102 5 aK s1.1]) ?_ ?_)
   ·have h:=hy6
    refine .seq (.rk 6 hS [0,0,0] T.mix ?_)
    intro W hS
    have hT:=hS.to [0,0,0]
    refine .ts' 0 z (fun W hT=>ld T.t102 hT z z z z z) hT z (.tp' 1 z z hT (.tp' 2 z z hT (.tp' 3 z z hT ?_)))
    have ⟨y7,hy7,h⟩:=bnd h
    refine .by1 4 z (.cV hS Tryz.func228 (mU hy7 (hS.keep q_0) hS.p1.lv) z z ?_)
    intro v7 W hS
    have hT:=hS.to [1,1,1]
    refine ⟨fun _=>hT,?_⟩
    have ⟨y8,hy8,h⟩:=bnd h
    refine .by1 5 z (.cO hS Tryz.func227 (sg hy8 hS.lv) z z ?_)
    intro W hS
    have hT:=hS.to [1,1,1]
    refine ⟨fun _=>hT,.done ?_⟩
    refine .cs z h ?_ ?_ <;> intro h
    ·refine .region (.q z (.q z (.s (bs T.s102 z z) z (.c (.st T.t102 hS.p1 z z z ?_)))))
     intro W hS
     refine .nil ?_
     cases h
     exact ⟨z,sb z,hS.to [0,1,1]⟩
    refine .skip ?_
    obtain rfl:=o9 h
    exact ⟨z,sb z,hS.to [1,1,1]⟩
   intro x E W hJ
   obtain ⟨rfl,hE,hS⟩:=hJ
   refine ⟨_,hE.sub,?_⟩
   refine .region (.q z (.s (ld T.t102 hS z z z z z) z (.c (.liv [y6] aK T.u78 T.t102 hS z z z z ?_ z (fun _=>z)))))
   intro v8 W hS
   have ⟨r1,hr1,h⟩:=bnd h
   have hT0:=hS.p3
   refine .c (.av hr1 hT0 hT0.p1.lv (fun _=>z) T.u78 T.t102 z z z ?_)
   intro v9 W hS
   refine .qn z (.region (.q z (.q z (.q z (.nil ?_)))))
   cases h
   exact ⟨z,v9,sb z,hS.to [3,0]⟩
  refine .exit ?_
  cases h
  exact ⟨by simp,z,v4,sb z,hS.to [0,0]⟩
 intro x E W hJ
 obtain ⟨rfl,v10,hE,hS⟩:=hJ
 refine ⟨_,hE.sub,?_⟩
 cases h
 exact .g (.q z (.q z (.qn z (.ret (ab (vs:=[_,_]) v10 (rt z (rt z rn)) z (hS.to [1]))))))
theorem qi {a0 : List ah} {a1 : List Bool} {v_0 : Hd} {v_1 : Hd} {S : Nat → Prop} {w : World} {r : Bool × (List Bool)} (h : gq a0 a1 = some r) (q_0 : RV w (Old S w) (sv v_0) 102 5 aK a0) (hO : bO w [ae (sv v_1) 4 1 D.bool a1] S) (hlt : ∀ b,S b → b < w.heap.size) : Cl 247 #[(sv v_0),(sv v_1)] w (Ret S w (fun s : Unit=>.bool r.1) (fun s=>[ae (sv v_1) 4 1 D.bool r.2])):=by
 unfold gq at h
 refine ar Tryz.func247 z z ?_
 have hS:=Sep.sm hO hlt
 refine .g (.qn z (.g (.qn z (.seq (.g (.qn z (.block ?_)))))))
 have ⟨y1,hy1,h⟩:=bnd h
 refine .via (.iter (fun s1 E' W'=>aD E' [(0,(sv v_0)),(1,(sv v_1)),(5,.bool s1.1),(6,vi s1.2.1)] ∧ Sep S w W' [ae (sv v_1) 4 1 D.bool s1.2.2]) (fun y2 x E' W'=>x = .exit 0 ∧ aD E' [(5,.bool y2.1)] ∧ Sep S w W' [ae (sv v_1) 4 1 D.bool y2.2]) hy1 ⟨sb z,hS.to [0]⟩ ?_) ?_
 ·intro s1 y3 E W h hI
  obtain ⟨hE,hS⟩:=hI
  refine CW.sub hE ?_
  unfold jC at h
  refine .seq (.g (.q z (.q z (.s (bF (hS.keep q_0) T.u78 z z) z (.q z (.nil ?_))))))
  refine .cs z h ?_ ?_ <;> intro h
  ·refine .skip ?_
   have ⟨y4,hy4,h⟩:=bnd h
   refine .seq (CW.via (R':=fun x E' W'=>x = .normal ∧ aD E' [(0,(sv v_0)),(1,(sv v_1)),(5,.bool y4.1),(6,vi s1.2.1)] ∧ Sep S w W' [ae (sv v_1) 4 1 D.bool y4.2]) ?_ ?_)
   ·have h:=hy4
    refine .block (.seq (.g (.q z (.q z ?_))))
    have ⟨x1,hx1,h⟩:=bnd h
    refine .s (ixv hS.lv hx1 T.u48 T.t4 z z z) z (.s (lde (RV.flat hS.lv hx1 z) T.t4 z z z z z) z (.q z (.nil ?_)))
    refine .cs z h ?_ ?_ <;> intro h
    ·refine .exit ?_
     cases h
     exact ⟨z,sb z,hS.to [0]⟩
    refine .skip (.g (.q z (.q z ?_)))
    have ⟨y5,hy5,h⟩:=bnd h
    refine .c (.cV hS Tryz.func246 (i4 hy5 (hS.keep q_0)) z z ?_)
    intro v1 W hS
    refine .qn z (.g (.qn z (.block ?_)))
    have ⟨y6,hy6,h⟩:=bnd h
    refine .via (.iter (fun s2 E' W'=>aD E' [(0,(sv v_0)),(1,(sv v_1)),(5,.bool s2.1),(6,vi s1.2.1),(7,(sv v1)),(8,vi s2.2.1)] ∧ Sep S w W' [ae (sv v1) 3 1 (D.int .i64) y5,ae (sv v_1) 4 1 D.bool s2.2.2]) (fun y7 x E' W'=>x = .exit 2 ∧ aD E' [(0,(sv v_0)),(1,(sv v_1)),(5,.bool y7.1),(6,vi s1.2.1)] ∧ Sep S w W' [ae (sv v1) 3 1 (D.int .i64) y5,ae (sv v_1) 4 1 D.bool y7.2]) hy6 ⟨sb z,hS.to [0,0]⟩ ?_) ?_
    ·intro s2 y8 E W h hI
     obtain ⟨hE,hS⟩:=hI
     refine CW.sub hE ?_
     unfold jB at h
     refine .seq (.g (.q z (.q z (.s (bF hS.lv T.u23 z z) z (.q z (.nil ?_))))))
     refine .cs z h ?_ ?_ <;> intro h
     ·refine .skip ?_
      have ⟨y9,hy9,h⟩:=bnd h
      refine .seq (CW.via (R':=fun x E' W'=>x = .normal ∧ aD E' [(0,(sv v_0)),(1,(sv v_1)),(5,.bool y9.1),(6,vi s1.2.1),(7,(sv v1)),(8,vi s2.2.1)] ∧ Sep S w W' [ae (sv v1) 3 1 (D.int .i64) y5,ae (sv v_1) 4 1 D.bool y9.2]) ?_ ?_)
      ·have h:=hy9
       refine .block (.g (.q z (.q z (.q z ?_))))
       have ⟨x2,hx2,h⟩:=bnd h
       refine .s (ixv hS.lv hx2 T.u23 T.t3 z z z) z (.s (lde (RV.flat hS.lv hx2 z) T.t3 z z z z z) z ?_)
       have ⟨x3,hx3,h⟩:=bnd h
       refine .s (ixv hS.p1.lv hx3 T.u48 T.t4 z z z) z (.s (lde (RV.flat hS.p1.lv hx3 z) T.t4 z z z z z) z (.q z (.nil ?_)))
       refine .cs z h ?_ ?_ <;> intro h
       ·refine .g (.q z (.q z (.q z ?_)))
        have ⟨x4,hx4,h⟩:=bnd h
        refine .s (ixv hS.lv hx4 T.u23 T.t3 z z z) z (.s (lde (RV.flat hS.lv hx4 z) T.t3 z z z z z) z ?_)
        have ⟨x5,hx5,h⟩:=bnd h
        refine .s (ixv hS.p1.lv hx5 T.u48 T.t4 z z z) z ?_
        have ⟨r1,hr1,h⟩:=bnd h
        refine .c (.sev hr1 hx5 hS.p1 T.t4 z z z z z z ?_)
        intro W hS
        refine .nil (.region (.q z (.nil ?_)))
        cases h
        exact ⟨z,sb z,hS.to [1,0]⟩
       refine .skip ?_
       cases h
       exact ⟨z,sb z,hS.to [0,0]⟩
      intro x E W hJ
      obtain ⟨rfl,hE,hS⟩:=hJ
      refine ⟨_,hE.sub,?_⟩
      refine .region (.q z (.q z (.q z (.nil ?_))))
      cases h
      exact ⟨z,sb z,hS.to [0,0]⟩
     refine .exit ?_
     cases h
     exact ⟨by simp,z,sb z,hS.to [0,0]⟩
    intro x E W hJ
    obtain ⟨rfl,hE,hS⟩:=hJ
    refine ⟨_,hE.sub,?_⟩
    cases h
    exact ⟨z,sb z,hS.to [1]⟩
   intro x E W hJ
   obtain ⟨rfl,hE,hS⟩:=hJ
   refine ⟨_,hE.sub,?_⟩
   refine .region (.q z (.q z (.q z (.nil ?_))))
   cases h
   exact ⟨z,sb z,hS.to [0]⟩
  refine .exit ?_
  cases h
  exact ⟨by simp,z,sb z,hS.to [0]⟩
 intro x E W hJ
 obtain ⟨rfl,hE,hS⟩:=hJ
 refine ⟨_,hE.sub,?_⟩
 cases h
 exact .g (.q z (.qn z (.ret (ab (vs:=[_]) () (rt z rn) z (hS.to [0])))))
theorem qj {a0 : List ah} {v_0 : Hd} {w : World} {r : (List Bool)} (h : gr a0 = some r) (q_0 : RO w v_0 102 5 aK a0) : Cl 229 #[(sv v_0)] w (Ret No w (fun s : Hd=>(sv s)) (fun s=>[ae (sv s) 4 1 D.bool r])):=by
 unfold gr at h
 refine ar Tryz.func229 z z ?_
 have hS:=Sep.start w
 refine .g (.qn z (.seq (.g (.q z ?_))))
 have ⟨y1,hy1,h⟩:=bnd h
 refine .c (.cO hS Tryz.func137 (bZ hy1 (hS.keep q_0)) z z ?_)
 intro W hS
 refine .qn z (.cond z (fun hb=>?_) (fun hb=>?_))
 ·have h:=aF hb h
  refine .g (.c (.liv [] D.bool T.u48 T.t4 hS z z z z ?_ z (fun _=>z)))
  intro v1 W hS
  cases h
  exact .qn z (.ret (ab (vs:=[_]) v1 (rt z rn) z (hS.to [0])))
 have h:=aG hb h
 refine .skip (.g (.q z (.s (bF (hS.keep q_0) T.u78 z z) z ?_)))
 have ⟨r1,hr1,h⟩:=bnd h
 refine .c (.mkv false D.bool hr1 T.u48 T.t4 hS z z z z z (fun _=>z) ?_)
 intro v2 W hS
 refine .qn z (.g (.q z ?_))
 have ⟨x1,hx1,h⟩:=bnd h
 refine .s (ixv hS.lv hx1 T.u48 T.t4 z z z) z ?_
 have ⟨r2,hr2,h⟩:=bnd h
 refine .c (.sev hr2 hx1 hS T.t4 z z z z z z ?_)
 intro W hS
 refine .nil (.seq (.block ?_))
 have ⟨y2,hy2,h⟩:=bnd h
 refine .via (.iter (fun s1 E' W'=>aD E' [(0,(sv v_0)),(3,(sv v2))] ∧ Sep No w W' [ae (sv v2) 4 1 D.bool s1]) (fun y3 x E' W'=>x = .exit 0 ∧ aD E' [(3,(sv v2))] ∧ Sep No w W' [ae (sv v2) 4 1 D.bool y3]) hy2 ⟨sb z,hS.to [0]⟩ ?_) ?_
 ·intro s1 y4 E W h hI
  obtain ⟨hE,hS⟩:=hI
  refine CW.sub hE ?_
  unfold jD at h
  refine .seq (.g (.q z (.q z ?_)))
  have ⟨y5,hy5,h⟩:=bnd h
  refine .c (.cS (L0:=[ae (sv v2) 4 1 D.bool s1]) hS Tryz.func247 (fun S h1 h2 h3=>(qi hy5 (hS.ks q_0 h1) h2 (zz h1))) z z ?_)
  rintro ⟨⟩ W hS
  refine .nil ?_
  refine .cs z h ?_ ?_ <;> intro h
  ·refine .skip (.block (.skip ?_))
   cases h
   exact ⟨z,sb z,hS.to [0]⟩
  refine .exit ?_
  cases h
  exact ⟨by simp,z,sb z,hS.to [0]⟩
 intro x E W hJ
 obtain ⟨rfl,hE,hS⟩:=hJ
 refine ⟨_,hE.sub,?_⟩
 obtain rfl:=o9 h
 exact .g (.q z (.qn z (.ret (ab (vs:=[_]) v2 (rt z rn) z (hS.to [0])))))
theorem sh {a0 : ah} {a1 : Int} {w : World} {r : Bool} (h : jE a0 a1 = some r) : Cl 230 #[.agg #[vi a0.Op,vi a0.Dst,vi a0.A,vi a0.B,vi a0.N],vi a1] w (RU w (.bool r)):=by
 unfold jE at h
 refine ar Tryz.func230 z z ?_
 have hS:=Sep.start w
 refine .g (.c (.box hS z z ?_))
 intro g1 W hS
 refine .qn z (.seq (.g (.s (fa T.f102_0 z z z) z (.s (ld T.t3 hS z z z z z) z (.nil (.block ?_))))))
 have ⟨y1,hy1,h⟩:=bnd h
 refine .seq (CW.via (R':=fun x E' W'=>x = .normal ∧ aD E' [(1,vi a1),(2,pt g1),(6,vi a0.Op),(7,.bool y1)] ∧ Sep No w W' [.box g1 102 [vi a0.Op,vi a0.Dst,vi a0.A,vi a0.B,vi a0.N]]) ?_ ?_)
 ·have h:=hy1
  refine .g (.q z (.q z (.nil ?_)))
  refine .cs z h ?_ ?_ <;> intro h
  ·refine .skip ?_
   cases h
   exact ⟨z,sb z,hS.to [0]⟩
  refine .region (.q z (.q z (.nil ?_)))
  cases h
  exact ⟨z,sb z,hS.to [0]⟩
 intro x E W hJ
 obtain ⟨rfl,hE,hS⟩:=hJ
 refine ⟨_,hE.sub,?_⟩
 refine .cs z h ?_ ?_ <;> intro h
 ·cases h
  exact .g (.s (fa T.f102_4 z z z) z (.s (ld T.t3 hS z z z z z) z (.q z (.q z (.q z (.qn z (.ret (ab (vs:=[_]) () (rt z rn) z (hS.to [])))))))))
 refine .g (.q z (.q z (.nil ?_)))
 refine .cs z h ?_ ?_ <;> intro h
 ·cases h
  exact .g (.s (fa T.f102_1 z z z) z (.s (ld T.t3 hS z z z z z) z (.s (fa T.f102_2 z z z) z (.s (ld T.t3 hS z z z z z) z (.q z (.qn z (.ret (ab (vs:=[_]) () (rt z rn) z (hS.to [])))))))))
 obtain rfl:=o9 h
 exact .skip (.g (.qn z (.ret (ab (vs:=[_]) () (rt z rn) z (hS.to [])))))
theorem ro {a0 : List Bool} {a1 : Int} {v_0 : Hd} {w : World} {r : Int} (h : iJ a0 a1 = some r) (q_0 : RO w v_0 4 1 D.bool a0) : Cl 231 #[(sv v_0),vi a1] w (RU w (.int .i64 r)):=by
 unfold iJ at h
 refine ar Tryz.func231 z z ?_
 have hS:=Sep.start w
 refine .g (.qn z (.g (.qn z (.seq (.g (.qn z (.block ?_)))))))
 have ⟨y1,hy1,h⟩:=bnd h
 refine .via (.iter (fun s1 E' W'=>aD E' [(0,(sv v_0)),(1,vi a1),(5,vi s1.1),(6,vi s1.2)] ∧ Sep No w W' []) (fun y2 x E' W'=>x = .exit 0 ∧ aD E' [(5,vi y2)] ∧ Sep No w W' []) hy1 ⟨sb z,hS.to []⟩ ?_) ?_
 ·intro s1 y3 E W h hI
  obtain ⟨hE,hS⟩:=hI
  refine CW.sub hE ?_
  unfold kr at h
  refine .seq (.g (.q z (.q z (.q z (.nil ?_)))))
  refine .cs z h ?_ ?_ <;> intro h
  ·refine .skip ?_
   have ⟨y4,hy4,h⟩:=bnd h
   refine .seq (CW.via (R':=fun x E' W'=>x = .normal ∧ aD E' [(0,(sv v_0)),(1,vi a1),(5,vi y4),(6,vi s1.2)] ∧ Sep No w W' []) ?_ ?_)
   ·have h:=hy4
    refine .block (.g (.q z (.q z ?_)))
    have ⟨x1,hx1,h⟩:=bnd h
    refine .s (ixv (hS.keep q_0) hx1 T.u48 T.t4 z z z) z (.s (lde (RV.flat (hS.keep q_0) hx1 z) T.t4 z z z z z) z (.nil ?_))
    refine .cs z h ?_ ?_ <;> intro h
    ·refine .region (.q z (.q z (.q z (.nil ?_))))
     cases h
     exact ⟨z,sb z,hS.to []⟩
    refine .skip ?_
    cases h
    exact ⟨z,sb z,hS.to []⟩
   intro x E W hJ
   obtain ⟨rfl,hE,hS⟩:=hJ
   refine ⟨_,hE.sub,?_⟩
   refine .region (.q z (.q z (.q z (.nil ?_))))
   cases h
   exact ⟨z,sb z,hS.to []⟩
  refine .exit ?_
  cases h
  exact ⟨by simp,z,sb z,hS.to []⟩
 intro x E W hJ
 obtain ⟨rfl,hE,hS⟩:=hJ
 refine ⟨_,hE.sub,?_⟩
 obtain rfl:=o9 h
 exact .g (.q z (.qn z (.ret (ab (vs:=[_]) () (rt z rn) z (hS.to [])))))
theorem oU {a0 : List ah} {v_0 : Hd} {w : World} {r : (List ah) × Bool} (h : fb a0 = some r) (q_0 : RO w v_0 102 5 aK a0) : Cl 204 #[(sv v_0)] w (Ret No w (fun s : Hd=>.tuple #[(sv s),.bool r.2]) (fun s=>[ae (sv s) 102 5 aK r.1])):=by
 unfold fb at h
 refine ar Tryz.func204 z z ?_
 have hS:=Sep.start w
 refine .g (.q z (.qn z (.g (.c (.liv [] aK T.u78 T.t102 hS z z z z ?_ z (fun _=>z))))))
 intro v1 W hS
 refine .qn z (.seq (.g (.q z ?_)))
 have ⟨y1,hy1,h⟩:=bnd h
 refine .c (.cO hS Tryz.func137 (bZ hy1 (hS.keep q_0)) z z ?_)
 intro W hS
 refine .q z (.nil ?_)
 refine .cs z h ?_ ?_ <;> intro h
 ·cases h
  exact .g (.q z (.q z (.qn z (.ret (ab (vs:=[_,_]) v1 (rt z (rt z rn)) z (hS.to [0]))))))
 refine .skip (.g (.q z ?_))
 have ⟨y2,hy2,h⟩:=bnd h
 refine .c (.cV hS Tryz.func229 (qj hy2 (hS.keep q_0)) z z ?_)
 intro v2 W hS
 refine .qn z (.seq (.g (.qn z (.block ?_))))
 have ⟨y3,hy3,h⟩:=bnd h
 refine .via (.iter (fun s1 E' W'=>aD E' [(0,(sv v_0)),(4,(sv v1)),(5,(sv v2)),(6,vi s1.1)] ∧ Sep No w W' [ae (sv v2) 4 1 D.bool s1.2,ae (sv v1) 102 5 aK []]) (fun y4 x E' W'=>x = .exit 0 ∧ aD E' [(0,(sv v_0)),(4,(sv v1)),(5,(sv v2))] ∧ Sep No w W' [ae (sv v2) 4 1 D.bool y4,ae (sv v1) 102 5 aK []]) hy3 ⟨sb z,hS.to [0,0]⟩ ?_) ?_
 ·intro s1 y5 E W h hI
  obtain ⟨hE,hS⟩:=hI
  refine CW.sub hE ?_
  unfold ie at h
  refine .seq (.g (.q z (.q z (.s (bF (hS.keep q_0) T.u78 z z) z (.q z (.nil ?_))))))
  refine .cs z h ?_ ?_ <;> intro h
  ·refine .skip (.seq (.block (.region (.q z (.q z (.q z (.q z ?_)))))))
   have ⟨x1,hx1,h⟩:=bnd h
   refine .s (ixv hS.lv hx1 T.u48 T.t4 z z z) z (.s (lde (RV.flat hS.lv hx1 z) T.t4 z z z z z) z (.q z ?_))
   have ⟨b1,hb1,h⟩:=bnd h
   refine .cu 8 36 (b1) hS ?_ ?_
   ·refine .both (x1) (fun hb=>?_) (fun hb=>?_)
    ·have hg1:=hb
     have h:=aF hb hb1
     refine .g hg1 (.q z (.g hg1 (.q z ?_)))
     have ⟨x2,hx2,h⟩:=bnd h
     refine .g hg1 (.s (ixv (hS.keep q_0) hx2 T.u78 T.t102 z z z) z (.g hg1 (.s (lde (RV.flat (hS.keep q_0) hx2 z) T.t102 z z z z z) z (.g hg1 (.q z ?_)))))
     have ⟨y6,hy6,h⟩:=bnd h
     refine .g hg1 (.c (.cO hS Tryz.func230 (sh hy6) z z ?_))
     intro W hS
     refine .g hg1 (.q z (.s (pkt hg1 z z z) z ?_))
     cases h
     exact .nil (ck 8 hS)
    refine .xx hb z (.xx hb z (.xx hb z (.xx hb z (.xx hb z (.xx hb z (.xx hb z ?_))))))
    cases aG hb hb1
    exact .s (pkf hb z z z) z (.nil (ck 8 hS))
   intro W hS
   have ⟨x3,hx3,h⟩:=bnd h
   refine .s (ixv hS.lv hx3 T.u48 T.t4 z z z) z ?_
   have ⟨r1,hr1,h⟩:=bnd h
   refine .c (.sev hr1 hx3 hS T.t4 z z z z z z ?_)
   intro W hS
   refine .nil (.region (.q z (.q z (.q z (.nil ?_)))))
   cases h
   exact ⟨z,sb z,hS.to [0,0]⟩
  refine .exit ?_
  cases h
  exact ⟨by simp,z,sb z,hS.to [0,0]⟩
 intro x E W hJ
 obtain ⟨rfl,hE,hS⟩:=hJ
 refine ⟨_,hE.sub,?_⟩
 refine .seq (.g (.qn z (.block ?_)))
 have ⟨y7,hy7,h⟩:=bnd h
 refine .via (.iter (fun s2 E' W'=>∃ (v5 : Hd),aD E' [(0,(sv v_0)),(4,(sv v5)),(5,(sv v2)),(7,vi s2.2)] ∧ Sep No w W' [ae (sv v2) 4 1 D.bool y3,ae (sv v5) 102 5 aK s2.1]) (fun y8 x E' W'=>x = .exit 2 ∧ ∃ (v6 : Hd),aD E' [(4,(sv v6))] ∧ Sep No w W' [ae (sv v2) 4 1 D.bool y3,ae (sv v6) 102 5 aK y8]) hy7 ⟨v1,sb z,hS.to [0,0]⟩ ?_) ?_
 ·intro s2 y9 E W h hI
  obtain ⟨v4,hE,hS⟩:=hI
  refine CW.sub hE ?_
  unfold ig at h
  refine .seq (.g (.q z (.q z (.s (bF (hS.keep q_0) T.u78 z z) z (.q z (.nil ?_))))))
  refine .cs z h ?_ ?_ <;> intro h
  ·refine .skip ?_
   have ⟨y10,hy10,h⟩:=bnd h
   refine .seq (CW.via (R':=fun x E' W'=>x = .normal ∧ ∃ (v7 : Hd),aD E' [(0,(sv v_0)),(4,(sv v7)),(5,(sv v2)),(7,vi s2.2)] ∧ Sep No w W' [ae (sv v2) 4 1 D.bool y3,ae (sv v7) 102 5 aK y10]) ?_ ?_)
   ·have h:=hy10
    refine .block (.g (.q z (.q z ?_)))
    have ⟨x4,hx4,h⟩:=bnd h
    refine .s (ixv (hS.keep q_0) hx4 T.u78 T.t102 z z z) z (.s (lde (RV.flat (hS.keep q_0) hx4 z) T.t102 z z z z z) z (.c (.alloc T.t102 hS ?_)))
    intro g1 W hS
    refine .c (.st T.t102 hS z z z ?_)
    intro W hS
    refine .nil (.seq (.g (.q z (.q z ?_))))
    have ⟨x5,hx5,h⟩:=bnd h
    refine .s (ixv hS.p1.lv hx5 T.u48 T.t4 z z z) z (.s (lde (RV.flat hS.p1.lv hx5 z) T.t4 z z z z z) z (.q z (.nil ?_)))
    refine .cs z h ?_ ?_ <;> intro h
    ·refine .exit ?_
     cases h
     exact ⟨z,v4,sb z,hS.to [1,1]⟩
    refine .skip ?_
    have ⟨y11,hy11,h⟩:=bnd h
    refine .seq (CW.via (R':=fun x E' W'=>x = .normal ∧ aD E' [(0,(sv v_0)),(4,(sv v4)),(5,(sv v2)),(7,vi s2.2),(8,pt g1)] ∧ Sep No w W' [.box g1 102 [vi y11.Op,vi y11.Dst,vi y11.A,vi y11.B,vi y11.N],ae (sv v2) 4 1 D.bool y3,ae (sv v4) 102 5 aK s2.1]) ?_ ?_)
    ·have h:=hy11
     refine .g (.s (fa T.f102_0 z z z) z (.s (ld T.t3 hS z z z z z) z (.q z (.q z (.cu 4 60 ((x4.Op == 4) || (x4.Op == 5)) hS ?_ ?_)))))
     ·refine .both (x4.Op == 4) (fun hb=>?_) (fun hb=>?_)
      ·exact .xx hb z (.xx hb z (.xx hb z (.s (pkt hb z z z) z (.nil (ck 4 hS z (kL hb))))))
      have hg2:=hb
      exact .g hg2 (.s (fa T.f102_0 z z z) z (.g hg2 (.s (ld T.t3 hS z z z z z) z (.g hg2 (.q z (.s (pkf hg2 z z z) z (.nil (ck 4 hS z (kM hg2)))))))))
     intro W hS
     refine .nil ?_
     refine .cs z h ?_ ?_ <;> intro h
     ·refine .region (.q z (.s (fa T.f102_4 z z z) z (.s (ld T.t3 hS z z z z z) z ?_)))
      have ⟨y12,hy12,h⟩:=bnd h
      refine .c (.cO hS Tryz.func231 (ro hy12 hS.p1.lv) z z ?_)
      intro W hS
      refine .s (fa T.f102_4 z z z) z (.c (.st T.t3 hS z z z ?_))
      intro W hS
      refine .nil ?_
      cases h
      exact ⟨z,sb z,hS.to [0,0,0]⟩
     refine .skip ?_
     obtain rfl:=o9 h
     exact ⟨z,sb z,hS.to [0,0,0]⟩
    intro x E W hJ
    obtain ⟨rfl,hE,hS⟩:=hJ
    refine ⟨_,hE.sub,?_⟩
    refine .region (.q z (.s (ld T.t102 hS z z z z z) z (.c (.liv [y11] aK T.u78 T.t102 hS z z z z ?_ z (fun _=>z)))))
    intro v8 W hS
    have ⟨r2,hr2,h⟩:=bnd h
    have hT0:=hS.p3
    refine .c (.av hr2 hT0 hT0.p1.lv (fun _=>z) T.u78 T.t102 z z z ?_)
    intro v9 W hS
    refine .q z (.nil ?_)
    obtain rfl:=o9 h
    exact ⟨z,v9,sb z,hS.to [3,0]⟩
   intro x E W hJ
   obtain ⟨rfl,v10,hE,hS⟩:=hJ
   refine ⟨_,hE.sub,?_⟩
   refine .region (.q z (.q z (.q z (.nil ?_))))
   cases h
   exact ⟨z,v10,sb z,hS.to [0,0]⟩
  refine .exit ?_
  cases h
  exact ⟨by simp,z,v4,sb z,hS.to [0,0]⟩
 intro x E W hJ
 obtain ⟨rfl,v11,hE,hS⟩:=hJ
 refine ⟨_,hE.sub,?_⟩
 cases h
 exact .g (.q z (.q z (.qn z (.ret (ab (vs:=[_,_]) v11 (rt z (rt z rn)) z (hS.to [1]))))))
theorem si {a0 : List ah} {v_0 : Hd} {w : World} {r : (List ah)} (h : jF a0 = some r) (q_0 : RO w v_0 102 5 aK a0) : Cl 177 #[(sv v_0)] w (Ret No w (fun s : Hd=>(sv s)) (fun s=>[ae (sv s) 102 5 aK r])):=by
 unfold jF at h
 refine ar Tryz.func177 z z ?_
 have hS:=Sep.start w
 refine .g (.qn z (.g (.q z ?_)))
 have ⟨y1,hy1,h⟩:=bnd h
 refine .c (.cV hS Tryz.func200 (qU hy1 (hS.keep q_0)) z z ?_)
 intro v1 W hS
 refine .q z (.q z (.q z (.q z (.qn z (.g (.q z ?_))))))
 have ⟨y2,hy2,h⟩:=bnd h
 refine .c (.cV hS Tryz.func201 (qZ hy2 hS.lv) z z ?_)
 intro v2 W hS
 refine .q z (.q z (.q z (.q z (.qn z (.g (.q z ?_))))))
 have ⟨y3,hy3,h⟩:=bnd h
 refine .c (.cV hS Tryz.func202 (rh hy3 hS.lv) z z ?_)
 intro v3 W hS
 refine .q z (.q z (.q z (.q z (.qn z (.g (.q z ?_))))))
 have ⟨y4,hy4,h⟩:=bnd h
 refine .c (.cV hS Tryz.func203 (rl hy4 hS.lv) z z ?_)
 intro v4 W hS
 refine .q z (.q z (.q z (.q z (.qn z (.g (.q z ?_))))))
 have ⟨y5,hy5,h⟩:=bnd h
 refine .c (.cV hS Tryz.func204 (oU hy5 hS.lv) z z ?_)
 intro v5 W hS
 cases h
 exact .q z (.q z (.q z (.q z (.qn z (.g (.q z (.qn z (.ret (ab (vs:=[_]) v5 (rt z rn) z (hS.to [0]))))))))))
theorem oq {a0 : List ah} {a1 : Int} {v_0 : Hd} {w : World} {r : (List ah) × Bool} (h : eG a0 a1 = some r) (q_0 : RO w v_0 102 5 aK a0) : Cl 132 #[(sv v_0),vi a1] w (Ret No w (fun s : Hd=>.tuple #[(sv s),.bool r.2]) (fun s=>[ae (sv s) 102 5 aK r.1])):=by
 unfold eG at h
 refine ar Tryz.func132 z z ?_
 have hS:=Sep.start w
 refine .g (.q z (.qn z (.seq (.g (.q z ?_)))))
 have ⟨y1,hy1,h⟩:=bnd h
 refine .c (.cO hS Tryz.func137 (bZ hy1 (hS.keep q_0)) z z ?_)
 intro W hS
 refine .q z (.q z ?_)
 have ⟨b1,hb1,h⟩:=bnd h
 refine .cu 4 15 (b1) hS ?_ ?_
 ·refine .both (!y1) (fun hb=>?_) (fun hb=>?_)
  ·refine .xx hb z (.xx hb z (.xx hb z ?_))
   cases aF hb hb1
   exact .s (pkt hb z z z) z (.nil (ck 4 hS))
  have hg1:=hb
  have h:=aG hb hb1
  refine .g hg1 (.q z ?_)
  have ⟨y2,hy2,h⟩:=bnd h
  refine .g hg1 (.c (.cO hS Tryz.func32 (aQ hy2) z z ?_))
  intro W hS
  refine .g hg1 (.q z (.s (pkf hg1 z z z) z ?_))
  cases h
  exact .nil (ck 4 hS)
 intro W hS
 refine .nil ?_
 refine .cs z h ?_ ?_ <;> intro h
 ·refine .g (.c (.liv [] aK T.u78 T.t102 hS z z z z ?_ z (fun _=>z)))
  intro v1 W hS
  cases h
  exact .q z (.qn z (.ret (ab (vs:=[_,_]) v1 (rt z (rt z rn)) z (hS.to [0]))))
 refine .skip (.g (.c (.liv [] aK T.u78 T.t102 hS z z z z ?_ z (fun _=>z))))
 intro v2 W hS
 refine .q z ?_
 have ⟨r1,hr1,h⟩:=bnd h
 refine .c (.av hr1 hS (hS.keep q_0) (fun _=>z) T.u78 T.t102 z z z ?_)
 intro v3 W hS
 refine .qn z (.seq (.g (.qn z (.block ?_))))
 have ⟨y3,hy3,h⟩:=bnd h
 refine .via (.iter (fun s1 E' W'=>∃ (v6 : Hd),aD E' [(1,vi a1),(6,(sv v6)),(7,vi s1.2)] ∧ Sep No w W' [ae (sv v6) 102 5 aK s1.1]) (fun y4 x E' W'=>x = .exit 0 ∧ ∃ (v7 : Hd),aD E' [(6,(sv v7))] ∧ Sep No w W' [ae (sv v7) 102 5 aK y4]) hy3 ⟨v3,sb z,hS.to [0]⟩ ?_) ?_
 ·intro s1 y5 E W h hI
  obtain ⟨v5,hE,hS⟩:=hI
  refine CW.sub hE ?_
  unfold gu at h
  refine .seq (.g (.q z (.q z (.q z (.nil ?_)))))
  refine .cs z h ?_ ?_ <;> intro h
  ·refine .skip (.seq (.block (.region (.q z ?_))))
   have ⟨y6,hy6,h⟩:=bnd h
   refine .c (.cV hS Tryz.func177 (si hy6 hS.lv) z z ?_)
   intro v8 W hS
   refine .qn z (.region (.q z (.q z (.q z (.nil ?_)))))
   cases h
   exact ⟨z,v8,sb z,hS.to [0]⟩
  refine .exit ?_
  cases h
  exact ⟨by simp,z,v5,sb z,hS.to [0]⟩
 intro x E W hJ
 obtain ⟨rfl,v9,hE,hS⟩:=hJ
 refine ⟨_,hE.sub,?_⟩
 cases h
 exact .g (.q z (.q z (.qn z (.ret (ab (vs:=[_,_]) v9 (rt z (rt z rn)) z (hS.to [0]))))))
theorem sj {k : Nat} {a0 : aH} {aq : Hd} {g_0 : Nat} {S : Nat → Prop} {w : World} {r : (List ah) × Int} (h : jG k a0 = some r) (aE : RV w (Old S w) (sv aq) 5 1 (D.int .u8) a0.b) (hO : bO w [.box g_0 117 [(sv aq),vi a0.p]] S) (hlt : ∀ b,S b → b < w.heap.size) : Cl 82 #[pt g_0] w (Ret S w (fun s : Hd=>(sv s)) (fun s=>[.box g_0 117 [(sv aq),vi r.2],ae (sv s) 102 5 aK r.1])):=by
 unfold jG at h
 refine ar Tryz.func82 z z ?_
 have hS:=Sep.sm hO hlt
 refine .g (.qn z (.seq (.g (.q z ?_))))
 have ⟨y1,hy1,h⟩:=bnd h
 refine .c (.cS (L0:=[.box g_0 117 [(sv aq),vi a0.p]]) hS Tryz.func39 (fun S h1 h2 h3=>(ak hy1 (hS.ks aE h1) h2 (zz h1))) z z ?_)
 rintro ⟨⟩ W hS
 refine .qn z (.cond z (fun hb=>?_) (fun hb=>?_))
 ·have h:=aF hb h
  refine .g (.q z ?_)
  have ⟨y2,hy2,h⟩:=bnd h
  refine .c (.cS (L0:=[.box g_0 117 [(sv aq),vi y1.2]]) hS Tryz.func129 (fun S h1 h2 h3=>(mt hy2 (hS.ks aE h1) h2 (zz h1))) z z ?_)
  rintro v1 W hS
  cases h
  exact .qn z (.ret (ab (vs:=[_]) v1 (rt z rn) z (hS.to [0,0])))
 have h:=aG hb h
 refine .skip (.g (.q z ?_))
 have ⟨y3,hy3,h⟩:=bnd h
 refine .c (.cS (L0:=[.box g_0 117 [(sv aq),vi y1.2]]) hS Tryz.func131 (fun S h1 h2 h3=>(qM hy3 (hS.ks aE h1) h2 (zz h1))) z z ?_)
 rintro v2 W hS
 have ⟨y4,hy4,h⟩:=bnd h
 refine .c (.cV hS Tryz.func130 (oS hy4 hS.p1.lv) z z ?_)
 intro v3 W hS
 refine .q z (.q z (.q z (.q z (.qn z (.seq (.g (.q z (.s (bF hS.lv T.u78 z z) z (.qn z (.cond z (fun hb=>?_) (fun hb=>?_)))))))))))
 ·have h:=aF hb h
  refine .g (.q z ?_)
  have ⟨y5,hy5,h⟩:=bnd h
  have hS:=hS.p1
  refine .c (.cS (L0:=[.box g_0 117 [(sv aq),vi y3.2]]) hS Tryz.func129 (fun S h1 h2 h3=>(mt hy5 (hS.ks aE h1) h2 (zz h1))) z z ?_)
  rintro v4 W hS
  cases h
  exact .qn z (.ret (ab (vs:=[_]) v4 (rt z rn) z (hS.to [0,0])))
 have h:=aG hb h
 refine .skip (.g (.q z (.q z ?_)))
 have ⟨y6,hy6,h⟩:=bnd h
 have hS:=hS.p1
 refine .c (.cS (L0:=[.box g_0 117 [(sv aq),vi y3.2]]) hS Tryz.func39 (fun S h1 h2 h3=>(ak hy6 (hS.ks aE h1) h2 (zz h1))) z z ?_)
 rintro ⟨⟩ W hS
 refine .q z ?_
 have ⟨y7,hy7,h⟩:=bnd h
 refine .c (.cV hS Tryz.func132 (oq hy7 hS.p1.lv) z z ?_)
 intro v5 W hS
 cases h
 exact .q z (.q z (.q z (.q z (.qn z (.g (.q z (.qn z (.ret (ab (vs:=[_]) v5 (rt z rn) z (hS.to [1,0]))))))))))
theorem rp {k : Nat} {a0 : aH} {aq : Hd} {g_0 : Nat} {S : Nat → Prop} {w : World} {r : (List (List ah)) × Int} (h : iK k a0 = some r) (aE : RV w (Old S w) (sv aq) 5 1 (D.int .u8) a0.b) (hO : bO w [.box g_0 117 [(sv aq),vi a0.p]] S) (hlt : ∀ b,S b → b < w.heap.size) : Cl 40 #[pt g_0] w (Ret S w (fun s : Hd=>(sv s)) (fun s=>[.box g_0 117 [(sv aq),vi r.2],ae (sv s) 78 1 (fun (l : List ah)=>D.row 102 5 (l.map aK)) r.1])):=by
 unfold iK at h
 refine ar Tryz.func40 z z ?_
 have hS:=Sep.sm hO hlt
 refine .g (.qn z (.g (.c (.lg (L1:=[]) [] (fun (l : List ah)=>D.row 102 5 (l.map aK)) T.u36 T.t78 (hS.to [0]) z z z (.nil) ?_ z (fun _=>z)))))
 intro v1 W hS
 refine .qn z (.g (.q z ?_))
 have ⟨y1,hy1,h⟩:=bnd h
 have hS:=hS.p1
 refine .c (.cS (L0:=[.box g_0 117 [(sv aq),vi a0.p]]) hS Tryz.func39 (fun S h1 h2 h3=>(ak hy1 (hS.ks aE h1) h2 (zz h1))) z z ?_)
 rintro ⟨⟩ W hS
 refine .q z (.qn z (.seq (.g (.qn z (.block ?_)))))
 have ⟨y2,hy2,h⟩:=bnd h
 refine .via (.iter (fun s1 E' W'=>∃ (v4 : Hd),aD E' [(0,pt g_0),(3,(sv v4)),(4,vi (w64 (1 + y1.1))),(5,vi s1.2.1)] ∧ Sep S w W' [.box g_0 117 [(sv aq),vi s1.2.2],ae (sv v4) 78 1 (fun (l : List ah)=>D.row 102 5 (l.map aK)) s1.1]) (fun y3 x E' W'=>x = .exit 0 ∧ ∃ (v5 : Hd),aD E' [(3,(sv v5))] ∧ Sep S w W' [.box g_0 117 [(sv aq),vi y3.2],ae (sv v5) 78 1 (fun (l : List ah)=>D.row 102 5 (l.map aK)) y3.1]) hy2 ⟨v1,sb z,hS.to [0,0]⟩ ?_) ?_
 ·intro s1 y4 E W h hI
  obtain ⟨v3,hE,hS⟩:=hI
  refine CW.sub hE ?_
  unfold kt at h
  refine .seq (.g (.q z (.q z (.qn z (.cond z (fun hb=>?_) (fun hb=>?_))))))
  ·have h:=aF hb h
   refine .skip (.seq (.block (.region (.q z (.q z ?_)))))
   have ⟨y5,hy5,h⟩:=bnd h
   refine .c (.cS (L0:=[.box g_0 117 [(sv aq),vi s1.2.2]]) hS Tryz.func82 (fun S h1 h2 h3=>(sj hy5 (hS.ks aE h1) h2 (zz h1))) z z ?_)
   rintro v6 W hS
   refine .c (.lg (L1:=[ae (sv v6) 102 5 aK y5.1]) [y5.1] (fun (l : List ah)=>D.row 102 5 (l.map aK)) T.u36 T.t78 (hS.to [1,0,0]) z z z (.row (.nil)) ?_ z (fun _=>z))
   intro v7 W hS
   have ⟨r1,hr1,h⟩:=bnd h
   refine .c (.appv hr1 (hS.to [2,0,0]) T.u36 T.t78 z z z ?_)
   intro v8 W hS
   refine .qn z (.region (.q z (.q z (.q z (.nil ?_)))))
   cases h
   exact ⟨z,v8,sb z,hS.to [1,0]⟩
  have h:=aG hb h
  refine .exit ?_
  cases h
  exact ⟨by simp,z,v3,sb z,hS.to [0,0]⟩
 intro x E W hJ
 obtain ⟨rfl,v9,hE,hS⟩:=hJ
 refine ⟨_,hE.sub,?_⟩
 cases h
 exact .g (.q z (.qn z (.ret (ab (vs:=[_]) v9 (rt z rn) z (hS.to [0,0])))))
theorem eh {a0 : Int} {a1 : Int} {a2 : Int} {w : World} {r : Int} (h : dD a0 a1 a2 = some r) : Cl 182 #[vi a0,vi a1,vi a2] w (RU w (.int .i64 r)):=by
 unfold dD at h
 refine ar Tryz.func182 z z ?_
 have hS:=Sep.start w
 refine .g (.qn z (.seq (.g (.q z (.q z (.q z (.nil ?_)))))))
 refine .cs z h ?_ ?_ <;> intro h
 ·obtain rfl:=o9 h
  exact .g (.q z (.qn z (.ret (ab (vs:=[_]) () (rt z rn) z (hS.to [])))))
 refine .skip (.g (.c (.liv [8,9,18,19,20,21,22,23] (D.int .i64) T.u23 T.t3 hS z z z z ?_ z (fun _=>z))))
 intro v1 W hS
 refine .q z ?_
 have ⟨x1,hx1,h⟩:=bnd h
 obtain rfl:=o9 h
 exact .s (ixv hS.lv hx1 T.u23 T.t3 z z z) z (.s (lde (RV.flat hS.lv hx1 z) T.t3 z z z z z) z (.qn z (.ret (ab (vs:=[_]) () (rt z rn) z (hS.to [])))))
theorem hY {a0 : List Instr} {a1 : Int} {a2 : Int} {v_0 : Hd} {S : Nat → Prop} {w : World} {r : (List Instr)} (h : dV a0 a1 a2 = some r) (hO : bO w [ae (sv v_0) 105 5 aw a0] S) (hlt : ∀ b,S b → b < w.heap.size) : Cl 183 #[(sv v_0),vi a1,vi a2] w (Ret S w (fun s : Hd=>(sv s)) (fun s=>[ae (sv s) 105 5 aw r])):=by
 unfold dV at h
 refine ar Tryz.func183 z z ?_
 have hS:=Sep.sm hO hlt
 refine .g (.qn z (.seq (.g (.q z (.q z (.q z (.nil ?_)))))))
 refine .cs z h ?_ ?_ <;> intro h
 ·obtain rfl:=o9 h
  exact .g (.q z (.qn z (.ret (ab (vs:=[_]) v_0 (rt z rn) z (hS.to [0])))))
 refine .skip (.g (.q z (.q z (.q z (.q z (.q z (.s (bs T.s105 z z) z (.c (.liv [(Instr.mk 16 0 2 7 (w64 (4 * (w64 (a1 - a2)))))] aw T.u66 T.t105 hS z z z z ?_ z (fun _=>z))))))))))
 intro v1 W hS
 have ⟨r1,hr1,h⟩:=bnd h
 have hT0:=hS.p1
 refine .c (.av hr1 hT0 hT0.p1.lv (fun _=>z) T.u66 T.t105 z z z ?_)
 intro v2 W hS
 obtain rfl:=o9 h
 exact .qn z (.ret (ab (vs:=[_]) v2 (rt z rn) z (hS.to [0])))
theorem ey {a0 : Int} {w : World} {r : Int} (h : cf a0 = some r) : Cl 192 #[vi a0] w (RU w (.int .i64 r)):=by
 unfold cf at h
 refine ar Tryz.func192 z z ?_
 have hS:=Sep.start w
 refine .g (.qn z (.g (.qn z (.seq (.g (.qn z (.block ?_)))))))
 have ⟨y1,hy1,h⟩:=bnd h
 refine .via (.iter (fun s1 E' W'=>aD E' [(0,vi a0),(3,vi s1.1),(4,vi s1.2)] ∧ Sep No w W' []) (fun y2 x E' W'=>x = .exit 0 ∧ aD E' [(3,vi y2)] ∧ Sep No w W' []) hy1 ⟨sb z,hS.to []⟩ ?_) ?_
 ·intro s1 y3 E W h hI
  obtain ⟨hE,hS⟩:=hI
  refine CW.sub hE ?_
  unfold ep at h
  refine .seq (.g (.q z (.q z (.q z (.nil ?_)))))
  refine .cs z h ?_ ?_ <;> intro h
  ·refine .skip (.seq (.block (.region (.q z (.q z (.qn z (.region (.q z (.q z (.q z (.nil ?_)))))))))))
   cases h
   exact ⟨z,sb z,hS.to []⟩
  refine .exit ?_
  cases h
  exact ⟨by simp,z,sb z,hS.to []⟩
 intro x E W hJ
 obtain ⟨rfl,hE,hS⟩:=hJ
 refine ⟨_,hE.sub,?_⟩
 obtain rfl:=o9 h
 exact .g (.q z (.qn z (.ret (ab (vs:=[_]) () (rt z rn) z (hS.to [])))))
theorem cR {a0 : Int} {a1 : Int} {a2 : Int} {w : World} {r : Int} (h : aR a0 a1 a2 = some r) : Cl 165 #[vi a0,vi a1,vi a2] w (RU w (.int .i64 r)):=by
 unfold aR at h
 refine ar Tryz.func165 z z ?_
 have hS:=Sep.start w
 refine .g (.qn z (.seq (.g (.q z ?_))))
 have ⟨y1,hy1,h⟩:=bnd h
 refine .c (.cO hS Tryz.func32 (aQ hy1) z z ?_)
 intro W hS
 refine .q z (.q z ?_)
 have ⟨b1,hb1,h⟩:=bnd h
 refine .cu 4 14 (b1) hS ?_ ?_
 ·refine .both (!y1) (fun hb=>?_) (fun hb=>?_)
  ·refine .xx hb z (.xx hb z (.xx hb z ?_))
   cases aF hb hb1
   exact .s (pkt hb z z z) z (.nil (ck 4 hS))
  have hg1:=hb
  have h:=aG hb hb1
  refine .g hg1 (.q z ?_)
  have ⟨y2,hy2,h⟩:=bnd h
  refine .g hg1 (.c (.cO hS Tryz.func32 (aQ hy2) z z ?_))
  intro W hS
  refine .g hg1 (.q z (.s (pkf hg1 z z z) z ?_))
  cases h
  exact .nil (ck 4 hS)
 intro W hS
 refine .q z ?_
 have ⟨b2,hb2,h⟩:=bnd h
 refine .cu 6 21 (b2) hS ?_ ?_
 ·refine .both (b1) (fun hb=>?_) (fun hb=>?_)
  ·refine .xx hb z (.xx hb z (.xx hb z (.xx hb z (.xx hb z ?_))))
   cases aF hb hb2
   exact .s (pkt hb z z z) z (.nil (ck 6 hS))
  have hg2:=hb
  have h:=aG hb hb2
  refine .g hg2 (.q z (.g hg2 (.q z (.g hg2 (.q z ?_)))))
  have ⟨y3,hy3,h⟩:=bnd h
  refine .g hg2 (.c (.cO hS Tryz.func32 (aQ hy3) z z ?_))
  intro W hS
  refine .g hg2 (.q z (.s (pkf hg2 z z z) z ?_))
  cases h
  exact .nil (ck 6 hS)
 intro W hS
 refine .nil ?_
 refine .cs z h ?_ ?_ <;> intro h
 ·cases h
  exact .g (.qn z (.ret (ab (vs:=[_]) () (rt z rn) z (hS.to []))))
 refine .skip (.seq (.rk 8 hS [] T.mix ?_))
 intro W hS
 have hT:=hS.to []
 refine .tp' 0 z z hT (.tp' 1 z z hT (.tp' 4 z z hT ?_))
 have ⟨y4,hy4,h⟩:=bnd h
 refine .by1 2 z (.cO hS Tryz.func192 (ey hy4) z z ?_)
 intro W hS
 have hT:=hS.to []
 refine ⟨fun _=>hT,?_⟩
 have ⟨d1,hd1,h⟩:=bnd h
 refine .ts' 3 z (fun W hT=>dq hd1 z z z) hT z ?_
 have ⟨y5,hy5,h⟩:=bnd h
 refine .by1 5 z (.cO hS Tryz.func192 (ey hy5) z z ?_)
 intro W hS
 have hT:=hS.to []
 refine ⟨fun _=>hT,?_⟩
 have ⟨d2,hd2,h⟩:=bnd h
 obtain rfl:=o9 h
 exact .ts' 6 z (fun W hT=>dr hd2 z z z) hT z (.tp' 7 z z hT (.done (.ret (ab (vs:=[_]) () (rt z rn) z (hS.to [])))))
theorem pC {a0 : Int} {a1 : Int} {w : World} {r : Int} (h : cg a0 a1 = some r) : Cl 209 #[vi a0,vi a1] w (RU w (.int .i64 r)):=by
 unfold cg at h
 refine ar Tryz.func209 z z ?_
 have hS:=Sep.start w
 refine .g (.qn z (.seq (.g (.q z ?_))))
 have ⟨y1,hy1,h⟩:=bnd h
 refine .c (.cO hS Tryz.func32 (aQ hy1) z z ?_)
 intro W hS
 refine .q z (.q z ?_)
 have ⟨b1,hb1,h⟩:=bnd h
 refine .cu 7 15 (b1) hS ?_ ?_
 ·refine .both (!y1) (fun hb=>?_) (fun hb=>?_)
  ·refine .xx hb z (.xx hb z (.xx hb z (.xx hb z (.xx hb z (.xx hb z ?_)))))
   cases aF hb hb1
   exact .s (pkt hb z z z) z (.nil (ck 7 hS))
  have hg1:=hb
  have h:=aG hb hb1
  refine .g hg1 (.q z (.g hg1 (.q z ?_)))
  have ⟨y2,hy2,h⟩:=bnd h
  refine .g hg1 (.c (.cO hS Tryz.func192 (ey hy2) z z ?_))
  intro W hS
  refine .g hg1 (.q z ?_)
  have ⟨y3,hy3,h⟩:=bnd h
  refine .g hg1 (.c (.cO hS Tryz.func32 (aQ hy3) z z ?_))
  intro W hS
  refine .g hg1 (.q z (.s (pkf hg1 z z z) z ?_))
  cases h
  exact .nil (ck 7 hS)
 intro W hS
 refine .nil ?_
 refine .cs z h ?_ ?_ <;> intro h
 ·cases h
  exact .g (.qn z (.ret (ab (vs:=[_]) () (rt z rn) z (hS.to []))))
 refine .skip (.seq (.g (.q z (.q z (.q z ?_)))))
 have ⟨y4,hy4,h⟩:=bnd h
 refine .c (.cO hS Tryz.func192 (ey hy4) z z ?_)
 intro W hS
 refine .q z (.nil ?_)
 refine .cs z h ?_ ?_ <;> intro h
 ·refine .g (.q z (.q z ?_))
  have ⟨y5,hy5,h⟩:=bnd h
  refine .c (.cO hS Tryz.func192 (ey hy5) z z ?_)
  intro W hS
  cases h
  exact .q z (.qn z (.ret (ab (vs:=[_]) () (rt z rn) z (hS.to []))))
 obtain rfl:=o9 h
 exact .skip (.g (.q z (.qn z (.ret (ab (vs:=[_]) () (rt z rn) z (hS.to []))))))
theorem mV {a0 : Int} {w : World} {r : Int} (h : cJ a0 = some r) : Cl 210 #[vi a0] w (RU w (.int .i64 r)):=by
 unfold cJ at h
 refine ar Tryz.func210 z z ?_
 have hS:=Sep.start w
 refine .g (.qn z (.seq (.g (.q z ?_))))
 have ⟨y1,hy1,h⟩:=bnd h
 refine .c (.cO hS Tryz.func140 (f8 hy1) z z ?_)
 intro W hS
 refine .q z (.nil ?_)
 refine .cs z h ?_ ?_ <;> intro h
 ·cases h
  exact .g (.qn z (.ret (ab (vs:=[_]) () (rt z rn) z (hS.to []))))
 refine .skip (.seq (.g (.q z (.q z (.nil ?_)))))
 refine .cs z h ?_ ?_ <;> intro h
 ·cases h
  exact .g (.q z (.q z (.qn z (.ret (ab (vs:=[_]) () (rt z rn) z (hS.to []))))))
 obtain rfl:=o9 h
 exact .skip (.g (.q z (.qn z (.ret (ab (vs:=[_]) () (rt z rn) z (hS.to []))))))
theorem rq {a0 : Int} {a1 : Int} {w : World} {r : (List Instr)} (h : iL a0 a1 = some r) : Cl 184 #[vi a0,vi a1] w (Ret No w (fun s : Hd=>(sv s)) (fun s=>[ae (sv s) 105 5 aw r])):=by
 unfold iL at h
 refine ar Tryz.func184 z z ?_
 have hS:=Sep.start w
 refine .g (.qn z (.seq (.g (.q z ?_))))
 have ⟨y1,hy1,h⟩:=bnd h
 refine .c (.cO hS Tryz.func32 (aQ hy1) z z ?_)
 intro W hS
 refine .nil ?_
 refine .cs z h ?_ ?_ <;> intro h
 ·refine .g (.q z (.q z (.s (bs T.s105 z z) z (.c (.liv [(Instr.mk 12 a0 0 0 a1)] aw T.u66 T.t105 hS z z z z ?_ z (fun _=>z))))))
  intro v1 W hS
  cases h
  exact .qn z (.ret (ab (vs:=[_]) v1 (rt z rn) z (hS.to [0])))
 refine .skip (.g (.q z ?_))
 have ⟨y2,hy2,h⟩:=bnd h
 refine .c (.cO hS Tryz.func210 (mV hy2) z z ?_)
 intro W hS
 have ⟨y3,hy3,h⟩:=bnd h
 refine .c (.cO hS Tryz.func165 (cR hy3) z z ?_)
 intro W hS
 have ⟨y4,hy4,h⟩:=bnd h
 refine .c (.cO hS Tryz.func209 (pC hy4) z z ?_)
 intro W hS
 refine .qn z (.g (.q z (.q z (.q z ?_))))
 have ⟨y5,hy5,h⟩:=bnd h
 refine .c (.cO hS Tryz.func72 (eI hy5) z z ?_)
 intro W hS
 have ⟨y6,hy6,h⟩:=bnd h
 refine .c (.cO hS Tryz.func210 (mV hy6) z z ?_)
 intro W hS
 have ⟨y7,hy7,h⟩:=bnd h
 refine .c (.cO hS Tryz.func165 (cR hy7) z z ?_)
 intro W hS
 refine .qn z (.g (.q z (.q z (.s (bs T.s105 z z) z (.c (.liv [(Instr.mk 19 a0 0 0 y7)] aw T.u66 T.t105 hS z z z z ?_ z (fun _=>z)))))))
 intro v2 W hS
 refine .qn z (.g (.q z (.q z (.q z (.q z (.s (bs T.s105 z z) z (.c (.liv [(Instr.mk 12 a0 a0 0 y4)] aw T.u66 T.t105 hS z z z z ?_ z (fun _=>z)))))))))
 intro v3 W hS
 have ⟨r1,hr1,h⟩:=bnd h
 have hT0:=hS.p1
 refine .c (.av hr1 hT0 hT0.p1.lv (fun _=>z) T.u66 T.t105 z z z ?_)
 intro v4 W hS
 obtain rfl:=o9 h
 exact .qn z (.ret (ab (vs:=[_]) v4 (rt z rn) z (hS.to [0])))
theorem fN {a0 : Int} {a1 : Int} {a2 : Int} {w : World} {r : (List Instr)} (h : dS a0 a1 a2 = some r) : Cl 185 #[vi a0,vi a1,vi a2] w (Ret No w (fun s : Hd=>(sv s)) (fun s=>[ae (sv s) 105 5 aw r])):=by
 unfold dS at h
 refine ar Tryz.func185 z z ?_
 have hS:=Sep.start w
 refine .g (.qn z (.seq (.g (.q z (.q z (.q z (.nil ?_)))))))
 refine .cs z h ?_ ?_ <;> intro h
 ·refine .g (.c (.liv [] aw T.u66 T.t105 hS z z z z ?_ z (fun _=>z)))
  intro v1 W hS
  cases h
  exact .qn z (.ret (ab (vs:=[_]) v1 (rt z rn) z (hS.to [0])))
 refine .skip (.g (.q z (.q z (.q z (.q z (.q z (.s (bs T.s105 z z) z (.c (.liv [(Instr.mk 14 a2 2 0 (w64 (4 * (w64 (a0 - a1)))))] aw T.u66 T.t105 hS z z z z ?_ z (fun _=>z))))))))))
 intro v2 W hS
 cases h
 exact .qn z (.ret (ab (vs:=[_]) v2 (rt z rn) z (hS.to [0])))
theorem ll {a0 : Int} {a1 : Int} {w : World} {r : Instr} (h : eH a0 a1 = some r) : Cl 186 #[vi a0,vi a1] w (RU w (.agg #[vi r.Op,vi r.Rd,vi r.Rs,vi r.Rt,vi r.Imm])):=by
 unfold eH at h
 refine ar Tryz.func186 z z ?_
 have hS:=Sep.start w
 refine .g (.c (.alloc T.t105 hS ?_))
 intro g1 W hS
 refine .nil (.g (.q z (.q z (.s (bs T.s105 z z) z (.c (.st T.t105 hS z z z ?_))))))
 intro W hS
 cases h
 exact .nil (.ret (ab (vs:=[_]) () (rc hS T.t105 z rn z z) z (hS.to [])))
theorem ui {a0 : Int} {w : World} {r : Int} (h : lQ a0 = some r) : Cl 211 #[vi a0] w (RU w (.int .i64 r)):=by
 unfold lQ at h
 refine ar Tryz.func211 z z ?_
 have hS:=Sep.start w
 refine .g (.qn z (.g (.c (.liv [7,8,6,8,11,9,10,1,2,3,4,5] (D.int .i64) T.u23 T.t3 hS z z z z ?_ z (fun _=>z)))))
 intro v1 W hS
 refine .qn z (.g (.q z (.q z (.q z ?_))))
 have ⟨x1,hx1,h⟩:=bnd h
 obtain rfl:=o9 h
 exact .s (ixv hS.lv hx1 T.u23 T.t3 z z z) z (.s (lde (RV.flat hS.lv hx1 z) T.t3 z z z z z) z (.qn z (.ret (ab (vs:=[_]) () (rt z rn) z (hS.to [])))))
theorem t6 {a0 : ah} {a1 : Int} {w : World} {r : (List Instr)} (h : mm a0 a1 = some r) : Cl 187 #[.agg #[vi a0.Op,vi a0.Dst,vi a0.A,vi a0.B,vi a0.N],vi a1] w (Ret No w (fun s : Hd=>(sv s)) (fun s=>[ae (sv s) 105 5 aw r])):=by
 unfold mm at h
 refine ar Tryz.func187 z z ?_
 have hS:=Sep.start w
 refine .g (.c (.box hS z z ?_))
 intro g1 W hS
 refine .qn z (.seq (.rk 10 hS [0] T.mix ?_))
 intro W hS
 have hT:=hS.to [0]
 refine .ts' 0 z (fun W hT=>fa T.f102_2 z z z) hT z (.ts' 1 z (fun W hT=>ld T.t3 hT z z z z z) hT z (.tp' 2 z z hT (.ts' 4 z (fun W hT=>fa T.f102_3 z z z) hT z (.ts' 5 z (fun W hT=>ld T.t3 hT z z z z z) hT z (.tp' 6 z z hT ?_)))))
 have ⟨y1,hy1,h⟩:=bnd h
 refine .by1 3 z (.cV hS Tryz.func185 (fN hy1) z z ?_)
 intro v1 W hS
 have hT:=hS.to [1]
 refine ⟨fun _=>hT,?_⟩
 have ⟨y2,hy2,h⟩:=bnd h
 refine .by1 7 z (.cV hS Tryz.func185 (fN hy2) z z ?_)
 intro v2 W hS
 have hT:=hS.to [2]
 refine ⟨fun _=>hT,?_⟩
 have ⟨r1,hr1,h⟩:=bnd h
 have hT0:=hS.p1
 refine .by1 8 z (.av hr1 hT0 hT0.p1.lv (fun _=>z) T.u66 T.t105 z z z ?_)
 intro v3 W hS
 have hT:=hS.to [2]
 refine ⟨fun _=>hT,.tp' 9 z z hT (.done (.g (.s (fa T.f102_1 z z z) z (.s (ld T.t3 hS.p2 z z z z z) z (.q z ?_)))))⟩
 have ⟨y3,hy3,h⟩:=bnd h
 refine .c (.cO hS Tryz.func182 (eh hy3) z z ?_)
 intro W hS
 refine .qn z (.seq (.rk 17 hS [1,1] T.mix ?_))
 intro W hS
 have hT:=hS.to [1,1]
 refine .tp' 0 z z hT (.ts' 1 z (fun W hT=>fa T.f102_4 z z z) hT z (.ts' 2 z (fun W hT=>ld T.t3 hT.p1 z z z z z) hT z (.tp' 4 z z hT (.ts' 5 z (fun W hT=>fa T.f102_2 z z z) hT z (.ts' 6 z (fun W hT=>ld T.t3 hT.p1 z z z z z) hT z (.tp' 7 z z hT (.ts' 9 z (fun W hT=>fa T.f102_3 z z z) hT z (.ts' 10 z (fun W hT=>ld T.t3 hT.p1 z z z z z) hT z (.tp' 11 z z hT ?_)))))))))
 have ⟨y4,hy4,h⟩:=bnd h
 refine .by1 3 z (.cO hS Tryz.func211 (ui hy4) z z ?_)
 intro W hS
 have hT:=hS.to [1,1]
 refine ⟨fun _=>hT,?_⟩
 have ⟨y5,hy5,h⟩:=bnd h
 refine .by1 8 z (.cO hS Tryz.func182 (eh hy5) z z ?_)
 intro W hS
 have hT:=hS.to [1,1]
 refine ⟨fun _=>hT,?_⟩
 have ⟨y6,hy6,h⟩:=bnd h
 refine .by1 12 z (.cO hS Tryz.func182 (eh hy6) z z ?_)
 intro W hS
 have hT:=hS.to [1,1]
 refine ⟨fun _=>hT,.ts' 13 z (fun W hT=>bs T.s105 z z) hT z (.by1 14 z (.liv [(Instr.mk y4 y3 y5 y6 0)] aw T.u66 T.t105 hS z z z z ?_ z (fun _=>z)))⟩
 intro v4 W hS
 have hT:=hS.to [2,2]
 refine ⟨fun _=>hT,?_⟩
 have ⟨r2,hr2,h⟩:=bnd h
 have hT0:=hS.p1
 refine .by1 15 z (.av hr2 hT0 hT0.p1.lv (fun _=>z) T.u66 T.t105 z z z ?_)
 intro v5 W hS
 have hT:=hS.to [2,2]
 refine ⟨fun _=>hT,.tp' 16 z z hT (.done ?_)⟩
 have ⟨y7,hy7,h⟩:=bnd h
 refine .seq (CW.via (R':=fun x E' W'=>x = .normal ∧ ∃ (v6 : Hd),aD E' [(1,vi a1),(2,pt g1),(5,(sv v6))] ∧ Sep No w W' [ae (sv v4) 105 5 aw [(Instr.mk y4 y3 y5 y6 0)],ae (sv v2) 105 5 aw y2,.box g1 102 [vi a0.Op,vi a0.Dst,vi a0.A,vi a0.B,vi a0.N],ae (sv v6) 105 5 aw y7]) ?_ ?_)
 ·have h:=hy7
  refine .g (.s (fa T.f102_4 z z z) z (.s (ld T.t3 hS.p3 z z z z z) z (.q z (.nil ?_))))
  refine .cs z h ?_ ?_ <;> intro h
  ·refine .region (.q z (.q z (.q z (.s (bs T.s105 z z) z (.c (.liv [(Instr.mk 13 y3 y3 0 1)] aw T.u66 T.t105 hS z z z z ?_ z (fun _=>z)))))))
   intro v7 W hS
   have ⟨r3,hr3,h⟩:=bnd h
   have hT0:=hS.p1
   refine .c (.av hr3 hT0 hT0.p1.lv (fun _=>z) T.u66 T.t105 z z z ?_)
   intro v8 W hS
   refine .q z (.nil ?_)
   obtain rfl:=o9 h
   exact ⟨z,v8,sb z,hS.to [2,2,2,0]⟩
  refine .skip ?_
  obtain rfl:=o9 h
  exact ⟨z,v5,sb z,hS.to [1,1,1,0]⟩
 intro x E W hJ
 obtain ⟨rfl,v9,hE,hS⟩:=hJ
 refine ⟨_,hE.sub,?_⟩
 refine .g (.q z (.s (fa T.f102_1 z z z) z (.s (ld T.t3 hS.p2 z z z z z) z (.q z ?_))))
 have ⟨y8,hy8,h⟩:=bnd h
 have hS:=hS.p3
 refine .c (.cS (L0:=[ae (sv v9) 105 5 aw y7]) hS Tryz.func183 (fun S h1 h2 h3=>(hY hy8 h2 (zz h1))) z z ?_)
 rintro v10 W hS
 obtain rfl:=o9 h
 exact .qn z (.ret (ab (vs:=[_]) v10 (rt z rn) z (hS.to [0])))
theorem sk {a0 : ah} {a1 : Int} {a2 : Int} {w : World} {r : (List Instr)} (h : lu a0 a1 a2 = some r) : Cl 188 #[.agg #[vi a0.Op,vi a0.Dst,vi a0.A,vi a0.B,vi a0.N],vi a1,vi a2] w (Ret No w (fun s : Hd=>(sv s)) (fun s=>[ae (sv s) 105 5 aw r])):=by
 unfold lu at h
 refine ar Tryz.func188 z z ?_
 have hS:=Sep.start w
 refine .g (.c (.box hS z z ?_))
 intro g1 W hS
 refine .qn z (.seq (.rk 12 hS [0] T.mix ?_))
 intro W hS
 have hT:=hS.to [0]
 refine .ts' 0 z (fun W hT=>fa T.f102_2 z z z) hT z (.ts' 1 z (fun W hT=>ld T.t3 hT z z z z z) hT z (.tp' 2 z z hT (.ts' 4 z (fun W hT=>fa T.f102_2 z z z) hT z (.ts' 5 z (fun W hT=>ld T.t3 hT z z z z z) hT z (.tp' 6 z z hT ?_)))))
 have ⟨y1,hy1,h⟩:=bnd h
 refine .by1 3 z (.cV hS Tryz.func185 (fN hy1) z z ?_)
 intro v1 W hS
 have hT:=hS.to [1]
 refine ⟨fun _=>hT,?_⟩
 have ⟨y2,hy2,h⟩:=bnd h
 refine .by1 7 z (.cO hS Tryz.func182 (eh hy2) z z ?_)
 intro W hS
 have hT:=hS.to [1]
 refine ⟨fun _=>hT,.ts' 8 z (fun W hT=>bs T.s105 z z) hT z (.by1 9 z (.liv [(Instr.mk 18 0 y2 0 8)] aw T.u66 T.t105 hS z z z z ?_ z (fun _=>z)))⟩
 intro v2 W hS
 have hT:=hS.to [2]
 refine ⟨fun _=>hT,?_⟩
 have ⟨r1,hr1,h⟩:=bnd h
 have hT0:=hS.p1
 refine .by1 10 z (.av hr1 hT0 hT0.p1.lv (fun _=>z) T.u66 T.t105 z z z ?_)
 intro v3 W hS
 have hT:=hS.to [2]
 refine ⟨fun _=>hT,.tp' 11 z z hT (.done (.g (.q z (.q z (.q z (.s (bF hS.lv T.u66 z z) z (.q z (.q z (.s (bs T.s105 z z) z (.c (.liv [(Instr.mk 20 0 0 0 (w64 (a2 - (w64 (4 * (r1.length : Int))))))] aw T.u66 T.t105 hS z z z z ?_ z (fun _=>z))))))))))))⟩
 intro v4 W hS
 have ⟨r2,hr2,h⟩:=bnd h
 have hT0:=hS.p1
 refine .c (.av hr2 hT0 hT0.p1.lv (fun _=>z) T.u66 T.t105 z z z ?_)
 intro v5 W hS
 obtain rfl:=o9 h
 exact .qn z (.ret (ab (vs:=[_]) v5 (rt z rn) z (hS.to [0])))
theorem fO {a0 : List Instr} {a1 : Int} {v_0 : Hd} {S : Nat → Prop} {w : World} {r : (List Instr)} (h : dT a0 a1 = some r) (hO : bO w [ae (sv v_0) 105 5 aw a0] S) (hlt : ∀ b,S b → b < w.heap.size) : Cl 189 #[(sv v_0),vi a1] w (Ret S w (fun s : Hd=>(sv s)) (fun s=>[ae (sv s) 105 5 aw r])):=by
 unfold dT at h
 refine ar Tryz.func189 z z ?_
 have hS:=Sep.sm hO hlt
 refine .g (.qn z (.g (.q z (.q z (.s (bs T.s105 z z) z (.c (.liv [(Instr.mk 12 17 0 0 a1)] aw T.u66 T.t105 hS z z z z ?_ z (fun _=>z))))))))
 intro v1 W hS
 have ⟨r1,hr1,h⟩:=bnd h
 have hT0:=hS.p1
 refine .c (.av hr1 hT0 hT0.p1.lv (fun _=>z) T.u66 T.t105 z z z ?_)
 intro v2 W hS
 refine .qn z (.g (.q z (.s (bs T.s105 z z) z (.c (.liv [(Instr.mk 15 1 0 0 0)] aw T.u66 T.t105 hS z z z z ?_ z (fun _=>z))))))
 intro v3 W hS
 have ⟨r2,hr2,h⟩:=bnd h
 have hT0:=hS.p1
 refine .c (.av hr2 hT0 hT0.p1.lv (fun _=>z) T.u66 T.t105 z z z ?_)
 intro v4 W hS
 obtain rfl:=o9 h
 exact .qn z (.ret (ab (vs:=[_]) v4 (rt z rn) z (hS.to [0])))
theorem nG {a0 : Int} {a1 : Int} {w : World} {r : (List Instr)} (h : gO a0 a1 = some r) : Cl 190 #[vi a0,vi a1] w (Ret No w (fun s : Hd=>(sv s)) (fun s=>[ae (sv s) 105 5 aw r])):=by
 unfold gO at h
 refine ar Tryz.func190 z z ?_
 have hS:=Sep.start w
 refine .g (.qn z (.g (.q z (.q z ?_))))
 have ⟨y1,hy1,h⟩:=bnd h
 refine .c (.cV hS Tryz.func185 (fN hy1) z z ?_)
 intro v1 W hS
 refine .q z (.q z ?_)
 have ⟨y2,hy2,h⟩:=bnd h
 refine .c (.cO hS Tryz.func182 (eh hy2) z z ?_)
 intro W hS
 have ⟨y3,hy3,h⟩:=bnd h
 refine .c (.cO hS Tryz.func186 (ll hy3) z z ?_)
 intro W hS
 refine .c (.liv [y3] aw T.u66 T.t105 hS z z z z ?_ z (fun _=>z))
 intro v2 W hS
 have ⟨r1,hr1,h⟩:=bnd h
 have hT0:=hS.p1
 refine .c (.av hr1 hT0 hT0.p1.lv (fun _=>z) T.u66 T.t105 z z z ?_)
 intro v3 W hS
 obtain rfl:=o9 h
 exact .qn z (.ret (ab (vs:=[_]) v3 (rt z rn) z (hS.to [0])))
theorem ot {a0 : Int} {w : World} {r : Instr} (h : jf a0 = some r) : Cl 191 #[vi a0] w (RU w (.agg #[vi r.Op,vi r.Rd,vi r.Rs,vi r.Rt,vi r.Imm])):=by
 unfold jf at h
 refine ar Tryz.func191 z z ?_
 have hS:=Sep.start w
 refine .g (.c (.alloc T.t105 hS ?_))
 intro g1 W hS
 refine .nil (.g (.q z (.s (bs T.s105 z z) z (.c (.st T.t105 hS z z z ?_)))))
 intro W hS
 cases h
 exact .nil (.ret (ab (vs:=[_]) () (rc hS T.t105 z rn z z) z (hS.to [])))
end

end Go.Proofs.YtgcmopfhafoabaaGreatDoor.N
