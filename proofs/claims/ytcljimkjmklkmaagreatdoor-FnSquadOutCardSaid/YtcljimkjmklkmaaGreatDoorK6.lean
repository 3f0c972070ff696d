/- Printed by a program of mine: that the program's functions compute it. -/
import Derived.Test.YtcljimkjmklkmaaGreatDoorK5
set_option linter.unusedVariables false
set_option linter.unusedSimpArgs false
set_option maxRecDepth 100000
set_option maxHeartbeats 4000000
namespace Go.Proofs.YtcljimkjmklkmaaGreatDoor.N
open Go.Proofs.YtcljimkjmklkmaaGreatDoor.X
noncomputable section
theorem pe {a0 : Int} {a1 : Int} {a2 : Int} {w : World} {r : Int × Bool} (h : gQ a0 a1 a2 = some r) : Cl 140 #[iv a0,iv a1,iv a2] w (RU w (.tuple #[iv r.1,.bool r.2])):=by
 unfold gQ at h
 refine ay Tryz.func140 z z ?_
 have hS:=Sep.start w
 refine .g (.q z (.qn z (.seq (.g (.q z ?_)))))
 have ⟨y1,hy1,h⟩:=bnd h
 refine .c (.cO hS Tryz.func154 (lJ hy1) z z ?_)
 intro W hS
 refine .q z (.q z ?_)
 have ⟨b1,hb1,h⟩:=bnd h
 refine .cu 4 15 (b1) hS ?_ ?_
 ·refine .both (!y1) (fun hb=>?_) (fun hb=>?_)
  ·refine .xx hb z (.xx hb z (.xx hb z ?_))
   cases aI hb hb1
   exact .s (pkt hb z z z) z (.nil (ck 4 hS))
  have hg1:=hb
  have h:=aJ hb hb1
  refine .g hg1 (.q z ?_)
  have ⟨y2,hy2,h⟩:=bnd h
  refine .g hg1 (.c (.cO hS Tryz.func83 (dB hy2) z z ?_))
  intro W hS
  refine .g hg1 (.q z (.s (pkf hg1 z z z) z ?_))
  cases h
  exact .nil (ck 4 hS)
 intro W hS
 refine .q z ?_
 have ⟨b2,hb2,h⟩:=bnd h
 refine .cu 4 20 (b2) hS ?_ ?_
 ·refine .both (b1) (fun hb=>?_) (fun hb=>?_)
  ·refine .xx hb z (.xx hb z (.xx hb z ?_))
   cases aI hb hb2
   exact .s (pkt hb z z z) z (.nil (ck 4 hS))
  have hg2:=hb
  have h:=aJ hb hb2
  refine .g hg2 (.q z ?_)
  have ⟨y3,hy3,h⟩:=bnd h
  refine .g hg2 (.c (.cO hS Tryz.func83 (dB hy3) z z ?_))
  intro W hS
  refine .g hg2 (.q z (.s (pkf hg2 z z z) z ?_))
  cases h
  exact .nil (ck 4 hS)
 intro W hS
 refine .nil ?_
 refine .cs z h ?_ ?_ <;> intro h
 ·cases h
  exact .g (.q z (.qn z (.ret (ab (vs:=[_,_]) () (rt z (rt z rn)) z (hS.to [])))))
 refine .skip (.seq (.g (.qn z (.block (.g (.q z (.q z (.nil ?_))))))))
 refine .cs z h ?_ ?_ <;> intro h
 ·cases h
  exact .g (.q z (.q z (.q z (.q z (.qn z (.ret (ab (vs:=[_,_]) () (rt z (rt z rn)) z (hS.to []))))))))
 refine .g (.q z (.q z (.nil ?_)))
 refine .cs z h ?_ ?_ <;> intro h
 ·cases h
  exact .g (.q z (.q z (.q z (.q z (.qn z (.ret (ab (vs:=[_,_]) () (rt z (rt z rn)) z (hS.to []))))))))
 refine .g (.q z (.q z (.nil ?_)))
 refine .cs z h ?_ ?_ <;> intro h
 ·cases h
  exact .g (.q z (.q z (.q z (.q z (.qn z (.ret (ab (vs:=[_,_]) () (rt z (rt z rn)) z (hS.to []))))))))
 refine .g (.q z (.q z (.nil ?_)))
 refine .cs z h ?_ ?_ <;> intro h
 ·refine .g (.q z (.q z (.q z ?_)))
  have ⟨y4,hy4,h⟩:=bnd h
  refine .c (.cO hS Tryz.func117 (mo hy4) z z ?_)
  intro W hS
  cases h
  exact .q z (.qn z (.ret (ab (vs:=[_,_]) () (rt z (rt z rn)) z (hS.to []))))
 refine .g (.q z (.q z (.nil ?_)))
 refine .cs z h ?_ ?_ <;> intro h
 ·refine .g (.q z (.q z (.q z ?_)))
  have ⟨y5,hy5,h⟩:=bnd h
  refine .c (.cO hS Tryz.func117 (mo hy5) z z ?_)
  intro W hS
  cases h
  exact .q z (.qn z (.ret (ab (vs:=[_,_]) () (rt z (rt z rn)) z (hS.to []))))
 refine .g (.q z (.q z (.nil ?_)))
 refine .cs z h ?_ ?_ <;> intro h
 ·refine .g (.q z (.q z ?_))
  have ⟨y6,hy6,h⟩:=bnd h
  refine .c (.cO hS Tryz.func155 (nI hy6) z z ?_)
  intro W hS
  cases h
  exact .q z (.qn z (.ret (ab (vs:=[_,_]) () (rt z (rt z rn)) z (hS.to []))))
 refine .g (.q z (.q z (.nil ?_)))
 refine .cs z h ?_ ?_ <;> intro h
 ·refine .g (.q z (.q z ?_))
  have ⟨y7,hy7,h⟩:=bnd h
  refine .c (.cO hS Tryz.func155 (nI hy7) z z ?_)
  intro W hS
  cases h
  exact .q z (.qn z (.ret (ab (vs:=[_,_]) () (rt z (rt z rn)) z (hS.to []))))
 refine .g (.q z (.q z (.nil ?_)))
 refine .cs z h ?_ ?_ <;> intro h
 ·refine .g (.q z (.q z (.q z ?_)))
  have ⟨y8,hy8,h⟩:=bnd h
  refine .c (.cO hS Tryz.func74 (cC hy8) z z ?_)
  intro W hS
  cases h
  exact .q z (.qn z (.ret (ab (vs:=[_,_]) () (rt z (rt z rn)) z (hS.to []))))
 refine .g (.q z (.q z (.nil ?_)))
 refine .cs z h ?_ ?_ <;> intro h
 ·refine .g (.q z (.q z (.q z ?_)))
  have ⟨y9,hy9,h⟩:=bnd h
  refine .c (.cO hS Tryz.func74 (cC hy9) z z ?_)
  intro W hS
  cases h
  exact .q z (.qn z (.ret (ab (vs:=[_,_]) () (rt z (rt z rn)) z (hS.to []))))
 refine .g (.q z (.q z (.nil ?_)))
 refine .cs z h ?_ ?_ <;> intro h
 ·refine .g (.q z (.q z (.q z ?_)))
  have ⟨y10,hy10,h⟩:=bnd h
  refine .c (.cO hS Tryz.func74 (cC hy10) z z ?_)
  intro W hS
  cases h
  exact .q z (.qn z (.ret (ab (vs:=[_,_]) () (rt z (rt z rn)) z (hS.to []))))
 refine .g (.q z (.q z (.nil ?_)))
 refine .cs z h ?_ ?_ <;> intro h
 ·refine .g (.q z (.q z ?_))
  have ⟨y11,hy11,h⟩:=bnd h
  refine .c (.cO hS Tryz.func156 (qY hy11) z z ?_)
  intro W hS
  cases h
  exact .q z (.qn z (.ret (ab (vs:=[_,_]) () (rt z (rt z rn)) z (hS.to []))))
 refine .skip (.g (.q z (.q z ?_)))
 have ⟨y12,hy12,h⟩:=bnd h
 refine .c (.cO hS Tryz.func157 (qZ hy12) z z ?_)
 intro W hS
 cases h
 exact .q z (.qn z (.ret (ab (vs:=[_,_]) () (rt z (rt z rn)) z (hS.to []))))
theorem mG {a0 : al} {a1 : bi} {a2 : bi} {w : World} {r : bi} (h : fC a0 a1 a2 = some r) : Cl 200 #[.agg #[iv a0.Op,iv a0.Dst,iv a0.A,iv a0.B,iv a0.N],.agg #[iv a1.Kind,iv a1.N],.agg #[iv a2.Kind,iv a2.N]] w (RU w (.agg #[iv r.Kind,iv r.N])):=by
 unfold fC at h
 refine ay Tryz.func200 z z ?_
 have hS:=Sep.start w
 refine .g (.c (.box hS z z ?_))
 intro g1 W hS
 refine .c (.box hS z z ?_)
 intro g2 W hS
 refine .c (.box hS z z ?_)
 intro g3 W hS
 refine .c (.alloc T.t196 hS ?_)
 intro g4 W hS
 refine .nil (.seq (.g (.s (fa T.f196_0 z z z) z (.s (ld T.t3 hS.p2 z z z z z) z (.q z (.q z (.cu 4 16 ((a1.Kind != 1) || (a2.Kind != 1)) hS ?_ ?_)))))))
 ·refine .both (a1.Kind != 1) (fun hb=>?_) (fun hb=>?_)
  ·exact .xx hb z (.xx hb z (.xx hb z (.s (pkt hb z z z) z (.nil (ck 4 hS z (ig hb))))))
  have hg1:=hb
  exact .g hg1 (.s (fa T.f196_0 z z z) z (.g hg1 (.s (ld T.t3 hS.p1 z z z z z) z (.g hg1 (.q z (.s (pkf hg1 z z z) z (.nil (ck 4 hS z (ij hg1)))))))))
 intro W hS
 refine .nil ?_
 refine .cs z h ?_ ?_ <;> intro h
 ·refine .g (.s (bs T.s196 z z) z (.c (.st T.t196 hS z z z ?_)))
  intro W hS
  cases h
  exact .nil (.ret (ab (vs:=[_]) () (rc hS T.t196 z rn z z) z (hS.to [])))
 refine .skip (.g (.s (fa T.f107_4 z z z) z (.s (ld T.t3 hS.p3 z z z z z) z (.s (fa T.f196_1 z z z) z (.s (ld T.t3 hS.p2 z z z z z) z (.s (fa T.f196_1 z z z) z (.s (ld T.t3 hS.p1 z z z z z) z ?_)))))))
 have ⟨y1,hy1,h⟩:=bnd h
 refine .c (.cO hS Tryz.func140 (pe hy1) z z ?_)
 intro W hS
 refine .q z (.q z (.q z (.q z (.qn z (.g (.q z (.s (bs T.s196 z z) z (.c (.st T.t196 hS z z z ?_)))))))))
 intro W hS
 cases h
 exact .nil (.ret (ab (vs:=[_]) () (rc hS T.t196 z rn z z) z (hS.to [])))
theorem q8 {a0 : al} {a1 : List bi} {v_1 : Hd} {w : World} {r : (List bi)} (h : i3 a0 a1 = some r) (q_1 : RO w v_1 196 2 bZ a1) : Cl 198 #[.agg #[iv a0.Op,iv a0.Dst,iv a0.A,iv a0.B,iv a0.N],(sv v_1)] w (Ret No w (fun s : Hd=>(sv s)) (fun s=>[ae (sv s) 196 2 bZ r])):=by
 unfold i3 at h
 refine ay Tryz.func198 z z ?_
 have hS:=Sep.start w
 refine .g (.c (.box hS z z ?_))
 intro g1 W hS
 refine .qn z (.g (.c (.liv [] bZ T.u176 T.t196 hS z z z z ?_ z (fun _=>z))))
 intro v1 W hS
 refine .q z ?_
 have ⟨r1,hr1,h⟩:=bnd h
 refine .c (.av hr1 hS (hS.keep q_1) (fun _=>z) T.u176 T.t196 z z z ?_)
 intro v2 W hS
 refine .qn z (.seq (.g (.s (fa T.f107_0 z z z) z (.s (ld T.t3 hS.p1 z z z z z) z (.nil (.block (.g (.q z (.q z (.nil ?_))))))))))
 refine .cs z h ?_ ?_ <;> intro h
 ·refine .region (.q z (.s (fa T.f107_1 z z z) z (.s (ld T.t3 hS.p1 z z z z z) z (.s (fa T.f107_4 z z z) z (.s (ld T.t3 hS.p1 z z z z z) z (.s (bs T.s196 z z) z ?_))))))
  have ⟨x1,hx1,h⟩:=bnd h
  refine .s (ixv hS.lv hx1 T.u176 T.t196 z z z) z ?_
  have ⟨r2,hr2,h⟩:=bnd h
  refine .c (.sev hr2 hx1 hS T.t196 z z z z z z ?_)
  intro W hS
  obtain rfl:=o9 h
  exact .nil (.g (.q z (.qn z (.ret (ab (vs:=[_]) v2 (rt z rn) z (hS.to [0]))))))
 refine .g (.q z (.q z (.nil ?_)))
 refine .cs z h ?_ ?_ <;> intro h
 ·refine .rk 9 hS [0,0] T.mix ?_
  intro W hS
  have hT:=hS.to [0,0]
  refine .tp' 0 z z hT (.ts' 1 z (fun W hT=>fa T.f107_1 z z z) hT z (.ts' 2 z (fun W hT=>ld T.t3 hT.p1 z z z z z) hT z (.tp' 3 z z hT (.ts' 4 z (fun W hT=>fa T.f107_2 z z z) hT z (.ts' 5 z (fun W hT=>ld T.t3 hT.p1 z z z z z) hT z ?_)))))
  have ⟨x2,hx2,h⟩:=bnd h
  refine .ts' 6 z (fun W hT=>ixv (hS.keep q_1) hx2 T.u176 T.t196 z z z) hT z (.ts' 7 z (fun W hT=>lde (RV.flat (hT.keep q_1) hx2 z) T.t196 z z z z z) hT z ?_)
  have ⟨x3,hx3,h⟩:=bnd h
  refine .ts' 8 z (fun W hT=>ixv hS.lv hx3 T.u176 T.t196 z z z) hT z ?_
  have ⟨r3,hr3,h⟩:=bnd h
  refine .by1 9 z (.sev hr3 hx3 hS T.t196 z z z z z z ?_)
  intro W hS
  refine ⟨fun h=>absurd z h,?_⟩
  obtain rfl:=o9 h
  exact .done (.g (.q z (.qn z (.ret (ab (vs:=[_]) v2 (rt z rn) z (hS.to [0]))))))
 refine .g (.q z (.q z (.nil ?_)))
 refine .cs z h ?_ ?_ <;> intro h
 ·refine .region (.q z (.s (fa T.f107_1 z z z) z (.s (ld T.t3 hS.p1 z z z z z) z (.s (bs T.s196 z z) z ?_))))
  have ⟨x4,hx4,h⟩:=bnd h
  refine .s (ixv hS.lv hx4 T.u176 T.t196 z z z) z ?_
  have ⟨r4,hr4,h⟩:=bnd h
  refine .c (.sev hr4 hx4 hS T.t196 z z z z z z ?_)
  intro W hS
  obtain rfl:=o9 h
  exact .nil (.g (.q z (.qn z (.ret (ab (vs:=[_]) v2 (rt z rn) z (hS.to [0]))))))
 refine .g (.q z (.q z (.nil ?_)))
 refine .cs z h ?_ ?_ <;> intro h
 ·refine .rk 16 hS [0,0] T.mix ?_
  intro W hS
  have hT:=hS.to [0,0]
  refine .tp' 0 z z hT (.ts' 1 z (fun W hT=>fa T.f107_1 z z z) hT z (.ts' 2 z (fun W hT=>ld T.t3 hT.p1 z z z z z) hT z (.ts' 3 z (fun W hT=>ld T.t107 hT.p1 z z z z z) hT z (.tp' 4 z z hT (.ts' 5 z (fun W hT=>fa T.f107_2 z z z) hT z (.ts' 6 z (fun W hT=>ld T.t3 hT.p1 z z z z z) hT z ?_))))))
  have ⟨x5,hx5,h⟩:=bnd h
  refine .ts' 7 z (fun W hT=>ixv (hS.keep q_1) hx5 T.u176 T.t196 z z z) hT z (.ts' 8 z (fun W hT=>lde (RV.flat (hT.keep q_1) hx5 z) T.t196 z z z z z) hT z (.tp' 9 z z hT (.ts' 10 z (fun W hT=>fa T.f107_3 z z z) hT z (.ts' 11 z (fun W hT=>ld T.t3 hT.p1 z z z z z) hT z ?_))))
  have ⟨x6,hx6,h⟩:=bnd h
  refine .ts' 12 z (fun W hT=>ixv (hS.keep q_1) hx6 T.u176 T.t196 z z z) hT z (.ts' 13 z (fun W hT=>lde (RV.flat (hT.keep q_1) hx6 z) T.t196 z z z z z) hT z ?_)
  have ⟨y1,hy1,h⟩:=bnd h
  refine .by1 14 z (.cO hS Tryz.func200 (mG hy1) z z ?_)
  intro W hS
  have hT:=hS.to [0,0]
  refine ⟨fun _=>hT,?_⟩
  have ⟨x7,hx7,h⟩:=bnd h
  refine .ts' 15 z (fun W hT=>ixv hS.lv hx7 T.u176 T.t196 z z z) hT z ?_
  have ⟨r5,hr5,h⟩:=bnd h
  refine .by1 16 z (.sev hr5 hx7 hS T.t196 z z z z z z ?_)
  intro W hS
  refine ⟨fun h=>absurd z h,?_⟩
  obtain rfl:=o9 h
  exact .done (.g (.q z (.qn z (.ret (ab (vs:=[_]) v2 (rt z rn) z (hS.to [0]))))))
 obtain rfl:=o9 h
 exact .skip (.g (.q z (.qn z (.ret (ab (vs:=[_]) v2 (rt z rn) z (hS.to [0]))))))
theorem nJ {a0 : bi} {a1 : bi} {w : World} {r : bi} (h : jW a0 a1 = some r) : Cl 206 #[.agg #[iv a0.Kind,iv a0.N],.agg #[iv a1.Kind,iv a1.N]] w (RU w (.agg #[iv r.Kind,iv r.N])):=by
 unfold jW at h
 refine ay Tryz.func206 z z ?_
 have hS:=Sep.start w
 refine .g (.c (.box hS z z ?_))
 intro g1 W hS
 refine .c (.box hS z z ?_)
 intro g2 W hS
 refine .c (.alloc T.t196 hS ?_)
 intro g3 W hS
 refine .nil (.seq (.g (.s (fa T.f196_0 z z z) z (.s (ld T.t3 hS.p2 z z z z z) z (.q z (.nil ?_))))))
 refine .cs z h ?_ ?_ <;> intro h
 ·refine .g (.s (ld T.t196 hS.p1 z z z z z) z (.c (.st T.t196 hS z z z ?_)))
  intro W hS
  obtain rfl:=o9 h
  exact .nil (.ret (ab (vs:=[_]) () (rc hS T.t196 z rn z z) z (hS.to [])))
 refine .skip (.seq (.g (.s (fa T.f196_0 z z z) z (.s (ld T.t3 hS.p1 z z z z z) z (.q z (.q z (.cu 4 16 ((a1.Kind == 0) || ((a0.Kind == a1.Kind) && ((a0.N == a1.N) && true))) hS ?_ ?_)))))))
 ·refine .both (a1.Kind == 0) (fun hb=>?_) (fun hb=>?_)
  ·exact .xx hb z (.xx hb z (.xx hb z (.s (pkt hb z z z) z (.nil (ck 4 hS z (ig hb))))))
  have hg1:=hb
  exact .g hg1 (.s (ld T.t196 hS.p2 z z z z z) z (.g hg1 (.s (ld T.t196 hS.p1 z z z z z) z (.g hg1 (.s (eqs T.e196 z z z z) z (.s (pkf hg1 z z z) z (.nil (ck 4 hS z (ij hg1)))))))))
 intro W hS
 refine .nil ?_
 refine .cs z h ?_ ?_ <;> intro h
 ·refine .g (.s (ld T.t196 hS.p2 z z z z z) z (.c (.st T.t196 hS z z z ?_)))
  intro W hS
  obtain rfl:=o9 h
  exact .nil (.ret (ab (vs:=[_]) () (rc hS T.t196 z rn z z) z (hS.to [])))
 refine .skip (.g (.s (bs T.s196 z z) z (.c (.st T.t196 hS z z z ?_))))
 intro W hS
 cases h
 exact .nil (.ret (ab (vs:=[_]) () (rc hS T.t196 z rn z z) z (hS.to [])))
theorem q9 {a0 : List (List bi)} {a1 : Int} {a2 : List bi} {v_0 : Hd} {v_2 : Hd} {S : Nat → Prop} {w : World} {r : Bool × (List (List bi))} (h : i4 a0 a1 a2 = some r) (q_2 : RV w (Old S w) (sv v_2) 196 2 bZ a2) (hO : bG w [ae (sv v_0) 176 1 (fun (l : List bi)=>D.row 196 2 (l.map bZ)) a0] S) (hlt : ∀ b,S b → b < w.heap.size) : Cl 199 #[(sv v_0),iv a1,(sv v_2)] w (Ret S w (fun s : Unit=>.bool r.1) (fun s=>[ae (sv v_0) 176 1 (fun (l : List bi)=>D.row 196 2 (l.map bZ)) r.2])):=by
 unfold i4 at h
 refine ay Tryz.func199 z z ?_
 have hS:=Sep.sm hO hlt
 refine .g (.qn z (.g (.qn z (.seq (.g (.qn z (.block ?_)))))))
 have ⟨y1,hy1,h⟩:=bnd h
 refine .via (.iter (fun s1 E' W'=>aK E' [(0,(sv v_0)),(1,iv a1),(2,(sv v_2)),(7,.bool s1.1),(8,iv s1.2.1)] ∧ Sep S w W' [ae (sv v_0) 176 1 (fun (l : List bi)=>D.row 196 2 (l.map bZ)) s1.2.2]) (fun y2 x E' W'=>x = .exit 0 ∧ aK E' [(7,.bool y2.1)] ∧ Sep S w W' [ae (sv v_0) 176 1 (fun (l : List bi)=>D.row 196 2 (l.map bZ)) y2.2]) hy1 ⟨sb z,hS.to [0]⟩ ?_) ?_
 ·intro s1 y3 E W h hI
  obtain ⟨hE,hS⟩:=hI
  refine CW.sub hE ?_
  unfold kF at h
  refine .seq (.g (.q z (.q z (.nil ?_))))
  refine .cs z h ?_ ?_ <;> intro h
  ·refine .skip ?_
   have ⟨y4,hy4,h⟩:=bnd h
   refine .seq (CW.via (R':=fun x E' W'=>x = .normal ∧ aK E' [(0,(sv v_0)),(1,iv a1),(2,(sv v_2)),(7,.bool y4.1),(8,iv s1.2.1)] ∧ Sep S w W' [ae (sv v_0) 176 1 (fun (l : List bi)=>D.row 196 2 (l.map bZ)) y4.2]) ?_ ?_)
   ·have h:=hy4
    refine .block (.seq ?_)
    have ⟨x1,hx1,h⟩:=bnd h
    obtain ⟨k1,hS⟩:=Sep.ov hS hx1
    obtain ⟨v1,k1,rfl,hS⟩:=hS.ow
    obtain ⟨rfl,hS⟩:=hS.oN
    have ⟨x4,hx4,h⟩:=bnd h
    have ⟨x5,hx5,h⟩:=bnd h
    have ⟨y6,hy6,h⟩:=bnd h
    refine .via (R':=fun x E' W'=>x = .normal ∧ ∃ (g2 : Nat),aK E' [(0,(sv v_0)),(1,iv a1),(2,(sv v_2)),(7,.bool s1.1),(8,iv s1.2.1),(9,pt g2)] ∧ Sep S w W' [ae (sv v_0) 176 1 (fun (l : List bi)=>D.row 196 2 (l.map bZ)) s1.2.2,.box g2 196 [iv y6.Kind,iv y6.N]]) ?_ ?_
    ·refine .rk 13 hS [0,0] T.mix ?_
     intro W hS
     have hT:=hS.to [0,0]
     refine .tp' 0 z z hT (.tp' 1 z z hT (.ts' 2 z (fun W hT=>ixh hT.p1 hx1 T.u173 T.t176 z z z) hT z (.ts' 3 z (fun W hT=>lde (hT.p1.hcellsv) T.t176 z z z z z) hT z (.tp' 4 z z hT (.ts' 5 z (fun W hT=>ixv hS.lv hx4 T.u176 T.t196 z z z) hT z (.ts' 6 z (fun W hT=>lde (RV.flat hT.lv hx4 z) T.t196 z z z z z) hT z (.tp' 7 z z hT (.tp' 8 z z hT (.ts' 9 z (fun W hT=>ixv (hS.keep q_2) hx5 T.u176 T.t196 z z z) hT z (.ts' 10 z (fun W hT=>lde (RV.flat (hT.keep q_2) hx5 z) T.t196 z z z z z) hT z (.by [11,12] ⟨⟨_,z,?_⟩,⟨_,z,?_⟩,trivial⟩)))))))))))
     ·refine (.cO hS Tryz.func206 (nJ hy6) z z ?_)
      intro W hS
      have hT:=hS.to [0,0]
      refine ⟨fun _=>hT,.by1 12 z (.alloc T.t196 hS ?_)⟩
      intro g3 W hS
      have hT:=hS.to [1,1]
      refine ⟨fun _=>hT,.by1 13 z (.st T.t196 hS z z z ?_)⟩
      intro W hS
      refine ⟨fun h=>absurd z h,?_⟩
      refine .done ?_
      have hS:=Sep.gat (ds:=[.row 196 2 (x1.map bZ)]) (cs:=[(sv v1)]) (L1:=[ae (sv v1) 196 2 bZ x1]) (.row (.nil)) (hS.to [1,1,0])
      have hS : Sep _ _ _ [ae (sv v_0) 176 1 (fun (l : List bi)=>D.row 196 2 (l.map bZ)) s1.2.2,.box g3 196 [iv y6.Kind,iv y6.N]]:=Sep.back0v hx1 hS
      exact ⟨z,g3,sb z,hS.to [0,0]⟩
     refine (.alloc T.t196 hS ?_)
     intro g4 W hS
     have hT:=hS.to [1,1]
     refine ⟨fun _=>hT,.by1 11 z (.cO hS Tryz.func206 (nJ hy6) z z ?_)⟩
     intro W hS
     have hT:=hS.to [1,1]
     refine ⟨fun _=>hT,.by1 13 z (.st T.t196 hS z z z ?_)⟩
     intro W hS
     refine ⟨fun h=>absurd z h,?_⟩
     refine .done ?_
     have hS:=Sep.gat (ds:=[.row 196 2 (x1.map bZ)]) (cs:=[(sv v1)]) (L1:=[ae (sv v1) 196 2 bZ x1]) (.row (.nil)) (hS.to [1,1,0])
     have hS : Sep _ _ _ [ae (sv v_0) 176 1 (fun (l : List bi)=>D.row 196 2 (l.map bZ)) s1.2.2,.box g4 196 [iv y6.Kind,iv y6.N]]:=Sep.back0v hx1 hS
     exact ⟨z,g4,sb z,hS.to [0,0]⟩
    intro x E W hJ
    obtain ⟨rfl,g5,hE,hS⟩:=hJ
    refine ⟨_,hE.sub,?_⟩
    refine .seq ?_
    have ⟨x6,hx6,h⟩:=bnd h
    obtain ⟨k2,hS⟩:=Sep.ov hS hx6
    obtain ⟨v2,k2,rfl,hS⟩:=hS.ow
    obtain ⟨rfl,hS⟩:=hS.oN
    refine .rk 9 hS [0,0,0] T.mix ?_
    intro W hS
    have hT:=hS.to [0,0,0]
    refine .ts' 0 z (fun W hT=>ld T.t196 hT.p2 z z z z z) hT z (.tp' 1 z z hT (.tp' 2 z z hT (.ts' 3 z (fun W hT=>ixh hT.p1 hx6 T.u173 T.t176 z z z) hT z (.ts' 4 z (fun W hT=>lde (hT.p1.hcellsv) T.t176 z z z z z) hT z (.tp' 5 z z hT ?_)))))
    have ⟨x8,hx8,h⟩:=bnd h
    refine .ts' 6 z (fun W hT=>ixv hS.lv hx8 T.u176 T.t196 z z z) hT z (.ts' 7 z (fun W hT=>lde (RV.flat hT.lv hx8 z) T.t196 z z z z z) hT z (.ts' 8 z (fun W hT=>nes T.e196 z z z z) hT z (.done ?_)))
    refine .cs z h ?_ ?_ <;> intro h
    ·refine .seq (.rk 7 hS [0,0,0] T.mix ?_)
     intro W hS
     have hT:=hS.to [0,0,0]
     refine .tp' 0 z z hT (.tp' 1 z z hT (.ts' 2 z (fun W hT=>ixh hT.p1 hx6 T.u173 T.t176 z z z) hT z (.ts' 3 z (fun W hT=>lde (hT.p1.hcellsv) T.t176 z z z z z) hT z (.tp' 4 z z hT (.ts' 5 z (fun W hT=>ld T.t196 hT.p2 z z z z z) hT z ?_)))))
     have ⟨x9,hx9,h⟩:=bnd h
     refine .ts' 6 z (fun W hT=>ixv hS.lv hx9 T.u176 T.t196 z z z) hT z ?_
     have ⟨r1,hr1,h⟩:=bnd h
     refine .by1 7 z (.sev hr1 hx9 hS T.t196 z z z z z z ?_)
     intro W hS
     refine ⟨fun h=>absurd z h,?_⟩
     refine .done (.region (.q z (.nil ?_)))
     have hS:=Sep.gat (ds:=[.row 196 2 (r1.map bZ)]) (cs:=[(sv v2)]) (L1:=[ae (sv v2) 196 2 bZ r1]) (.row (.nil)) (hS.to [0,0,0])
     have hS : Sep _ _ _ [ae (sv v_0) 176 1 (fun (l : List bi)=>D.row 196 2 (l.map bZ)) (s1.2.2.set (Int.toNat a1) r1),.box g5 196 [iv y6.Kind,iv y6.N]]:=hS.bv
     cases h
     exact ⟨z,sb z,hS.to [0]⟩
    refine .skip ?_
    have hS:=Sep.gat (ds:=[.row 196 2 (x6.map bZ)]) (cs:=[(sv v2)]) (L1:=[ae (sv v2) 196 2 bZ x6]) (.row (.nil)) (hS.to [0,0,0])
    have hS : Sep _ _ _ [ae (sv v_0) 176 1 (fun (l : List bi)=>D.row 196 2 (l.map bZ)) s1.2.2,.box g5 196 [iv y6.Kind,iv y6.N]]:=Sep.back0v hx6 hS
    cases h
    exact ⟨z,sb z,hS.to [0]⟩
   intro x E W hJ
   obtain ⟨rfl,hE,hS⟩:=hJ
   refine ⟨_,hE.sub,?_⟩
   refine .region (.q z (.q z (.q z (.nil ?_))))
   cases h
   exact ⟨z,sb z,hS.to [0]⟩
  refine .exit ?_
  cases h
  exact ⟨by simp,z,sb z,hS.to [0]⟩
 intro x E W hJ
 obtain ⟨rfl,hE,hS⟩:=hJ
 refine ⟨_,hE.sub,?_⟩
 cases h
 exact .g (.q z (.qn z (.ret (ab (vs:=[_]) () (rt z rn) z (hS.to [0])))))
theorem ra {a0 : List al} {a1 : List (List bi)} {v_0 : Hd} {v_1 : Hd} {S : Nat → Prop} {w : World} {r : Bool × (List (List bi))} (h : i5 a0 a1 = some r) (q_0 : RV w (Old S w) (sv v_0) 107 5 aX a0) (hO : bG w [ae (sv v_1) 176 1 (fun (l : List bi)=>D.row 196 2 (l.map bZ)) a1] S) (hlt : ∀ b,S b → b < w.heap.size) : Cl 187 #[(sv v_0),(sv v_1)] w (Ret S w (fun s : Unit=>.bool r.1) (fun s=>[ae (sv v_1) 176 1 (fun (l : List bi)=>D.row 196 2 (l.map bZ)) r.2])):=by
 unfold i5 at h
 refine ay Tryz.func187 z z ?_
 have hS:=Sep.sm hO hlt
 refine .g (.qn z (.g (.qn z (.seq (.g (.qn z (.block ?_)))))))
 have ⟨y1,hy1,h⟩:=bnd h
 refine .via (.iter (fun s1 E' W'=>aK E' [(0,(sv v_0)),(1,(sv v_1)),(5,.bool s1.1),(6,iv s1.2.1)] ∧ Sep S w W' [ae (sv v_1) 176 1 (fun (l : List bi)=>D.row 196 2 (l.map bZ)) s1.2.2]) (fun y2 x E' W'=>x = .exit 0 ∧ aK E' [(5,.bool y2.1)] ∧ Sep S w W' [ae (sv v_1) 176 1 (fun (l : List bi)=>D.row 196 2 (l.map bZ)) y2.2]) hy1 ⟨sb z,hS.to [0]⟩ ?_) ?_
 ·intro s1 y3 E W h hI
  obtain ⟨hE,hS⟩:=hI
  refine CW.sub hE ?_
  unfold kH at h
  refine .seq (.g (.q z (.q z (.s (bq (hS.keep q_0) T.u78 z z) z (.q z (.nil ?_))))))
  refine .cs z h ?_ ?_ <;> intro h
  ·refine .skip ?_
   have ⟨y4,hy4,h⟩:=bnd h
   refine .seq (CW.via (R':=fun x E' W'=>x = .normal ∧ aK E' [(0,(sv v_0)),(1,(sv v_1)),(5,.bool y4.1),(6,iv s1.2.1)] ∧ Sep S w W' [ae (sv v_1) 176 1 (fun (l : List bi)=>D.row 196 2 (l.map bZ)) y4.2]) ?_ ?_)
   ·have h:=hy4
    refine .block (.seq (.g (.q z (.q z ?_))))
    have ⟨x1,hx1,h⟩:=bnd h
    refine .s (ixv hS.lv hx1 T.u173 T.t176 z z z) z ?_
    obtain ⟨k1,hS⟩:=Sep.ov hS hx1
    obtain ⟨v1,k1,rfl,hS⟩:=hS.ow
    obtain ⟨rfl,hS⟩:=hS.oN
    refine .s (lde (hS.p1.hcellsv) T.t176 z z z z z) z ?_
    have ⟨x2,hx2,h⟩:=bnd h
    refine .s (ixv hS.lv hx2 T.u176 T.t196 z z z) z (.s (fe T.f196_0 z z z) z (.s (lde (RV.flat hS.lv hx2 z) T.t3 z z z z z) z (.q z (.nil ?_))))
    refine .cs z h ?_ ?_ <;> intro h
    ·refine .exit ?_
     have hS:=Sep.gat (ds:=[.row 196 2 (x1.map bZ)]) (cs:=[(sv v1)]) (L1:=[ae (sv v1) 196 2 bZ x1]) (.row (.nil)) (hS.to [0,0])
     have hS : Sep _ _ _ [ae (sv v_1) 176 1 (fun (l : List bi)=>D.row 196 2 (l.map bZ)) s1.2.2]:=Sep.back0v hx1 hS
     cases h
     exact ⟨z,sb z,hS.to [0]⟩
    refine .skip (.g (.q z (.q z (.q z (.s (ixh hS.p1 hx1 T.u173 T.t176 z z z) z (.s (lde (hS.p1.hcellsv) T.t176 z z z z z) z (.q z ?_)))))))
    have ⟨y5,hy5,h⟩:=bnd h
    refine .c (.cV hS Tryz.func197 (qX hy5 (hS.keep q_0) hS.lv) z z ?_)
    intro v2 W hS
    refine .qn z (.seq (.rk 10 hS [0,0,0] T.mix ?_))
    intro W hS
    have hT:=hS.to [0,0,0]
    refine .tp' 0 z z hT (.tp' 1 z z hT ?_)
    have ⟨x3,hx3,h⟩:=bnd h
    refine .ts' 2 z (fun W hT=>ixv (hS.keep q_0) hx3 T.u78 T.t107 z z z) hT z (.ts' 3 z (fun W hT=>lde (RV.flat (hT.keep q_0) hx3 z) T.t107 z z z z z) hT z (.tp' 4 z z hT (.tp' 5 z z hT (.ts' 6 z (fun W hT=>ixh hT.p2 hx1 T.u173 T.t176 z z z) hT z (.ts' 7 z (fun W hT=>lde (hT.p2.hcellsv) T.t176 z z z z z) hT z ?_)))))
    have ⟨y6,hy6,h⟩:=bnd h
    refine .by1 8 z (.cV hS Tryz.func198 (q8 hy6 hS.p1.lv) z z ?_)
    intro v3 W hS
    have hT:=hS.to [1,1,1]
    refine ⟨fun _=>hT,.tp' 9 z z hT (.done (.g (.qn z (.block ?_))))⟩
    have hS:=Sep.gat (ds:=[.row 196 2 (x1.map bZ)]) (cs:=[(sv v1)]) (L1:=[ae (sv v1) 196 2 bZ x1]) (.row (.nil)) (hS.to [2,2,0,0])
    have hS : Sep _ _ _ [ae (sv v_1) 176 1 (fun (l : List bi)=>D.row 196 2 (l.map bZ)) s1.2.2,ae (sv v3) 196 2 bZ y6,ae (sv v2) 3 1 (D.int .i64) y5]:=Sep.back0v hx1 hS
    have ⟨y7,hy7,h⟩:=bnd h
    refine .via (.iter (fun s2 E' W'=>aK E' [(0,(sv v_0)),(1,(sv v_1)),(5,.bool s2.1),(6,iv s1.2.1),(7,(sv v2)),(8,(sv v3)),(9,iv s2.2.1)] ∧ Sep S w W' [ae (sv v_1) 176 1 (fun (l : List bi)=>D.row 196 2 (l.map bZ)) s2.2.2,ae (sv v3) 196 2 bZ y6,ae (sv v2) 3 1 (D.int .i64) y5]) (fun y8 x E' W'=>x = .exit 2 ∧ aK E' [(0,(sv v_0)),(1,(sv v_1)),(5,.bool y8.1),(6,iv s1.2.1)] ∧ Sep S w W' [ae (sv v_1) 176 1 (fun (l : List bi)=>D.row 196 2 (l.map bZ)) y8.2,ae (sv v3) 196 2 bZ y6,ae (sv v2) 3 1 (D.int .i64) y5]) hy7 ⟨sb z,hS.to [0,0,0]⟩ ?_) ?_
    ·intro s2 y9 E W h hI
     obtain ⟨hE,hS⟩:=hI
     refine CW.sub hE ?_
     unfold kG at h
     refine .seq (.g (.q z (.q z (.s (bq hS.p2.lv T.u23 z z) z (.qn z (.cond z (fun hb=>?_) (fun hb=>?_)))))))
     ·have h:=aI hb h
      refine .skip ?_
      have ⟨y10,hy10,h⟩:=bnd h
      refine .seq (CW.via (R':=fun x E' W'=>x = .normal ∧ aK E' [(0,(sv v_0)),(1,(sv v_1)),(5,.bool y10.1),(6,iv s1.2.1),(7,(sv v2)),(8,(sv v3)),(9,iv s2.2.1)] ∧ Sep S w W' [ae (sv v_1) 176 1 (fun (l : List bi)=>D.row 196 2 (l.map bZ)) y10.2,ae (sv v3) 196 2 bZ y6,ae (sv v2) 3 1 (D.int .i64) y5]) ?_ ?_)
      ·have h:=hy10
       refine .block (.g (.q z (.q z (.q z ?_))))
       have ⟨x4,hx4,h⟩:=bnd h
       refine .s (ixv hS.p2.lv hx4 T.u23 T.t3 z z z) z (.s (lde (RV.flat hS.p2.lv hx4 z) T.t3 z z z z z) z (.q z ?_))
       have ⟨y11,hy11,h⟩:=bnd h
       refine .c (.cS (L0:=[ae (sv v_1) 176 1 (fun (l : List bi)=>D.row 196 2 (l.map bZ)) s2.2.2]) hS Tryz.func199 (fun S h1 h2 h3=>(q9 hy11 (h3.rdv (k:=0) z) h2 (zz h1))) z z ?_)
       rintro ⟨⟩ W hS
       refine .nil ?_
       refine .cs z h ?_ ?_ <;> intro h
       ·refine .region (.q z (.nil ?_))
        cases h
        exact ⟨z,sb z,hS.to [0,0,0]⟩
       refine .skip ?_
       cases h
       exact ⟨z,sb z,hS.to [0,0,0]⟩
      intro x E W hJ
      obtain ⟨rfl,hE,hS⟩:=hJ
      refine ⟨_,hE.sub,?_⟩
      refine .region (.q z (.q z (.q z (.nil ?_))))
      cases h
      exact ⟨z,sb z,hS.to [0,0,0]⟩
     have h:=aJ hb h
     refine .exit ?_
     cases h
     exact ⟨by simp,z,sb z,hS.to [0,0,0]⟩
    intro x E W hJ
    obtain ⟨rfl,hE,hS⟩:=hJ
    refine ⟨_,hE.sub,?_⟩
    cases h
    exact ⟨z,sb z,hS.to [0]⟩
   intro x E W hJ
   obtain ⟨rfl,hE,hS⟩:=hJ
   refine ⟨_,hE.sub,?_⟩
   refine .region (.q z (.q z (.q z (.nil ?_))))
   cases h
   exact ⟨z,sb z,hS.to [0]⟩
  refine .exit ?_
  cases h
  exact ⟨by simp,z,sb z,hS.to [0]⟩
 intro x E W hJ
 obtain ⟨rfl,hE,hS⟩:=hJ
 refine ⟨_,hE.sub,?_⟩
 cases h
 exact .g (.q z (.qn z (.ret (ab (vs:=[_]) () (rt z rn) z (hS.to [0])))))
theorem sj {a0 : List al} {v_0 : Hd} {w : World} {r : (List (List bi))} (h : jX a0 = some r) (q_0 : RO w v_0 107 5 aX a0) : Cl 168 #[(sv v_0)] w (Ret No w (fun s : Hd=>(sv s)) (fun s=>[ae (sv s) 176 1 (fun (l : List bi)=>D.row 196 2 (l.map bZ)) r])):=by
 unfold jX at h
 refine ay Tryz.func168 z z ?_
 have hS:=Sep.start w
 refine .g (.qn z (.g (.c (.lg (L1:=[]) [] (fun (l : List bi)=>D.row 196 2 (l.map bZ)) T.u173 T.t176 (hS.to []) z z z (.nil) ?_ z (fun _=>z)))))
 intro v1 W hS
 refine .qn z (.seq (.g (.q z ?_)))
 have ⟨y1,hy1,h⟩:=bnd h
 refine .c (.cO hS Tryz.func124 (cz hy1 (hS.keep q_0)) z z ?_)
 intro W hS
 refine .qn z (.cond z (fun hb=>?_) (fun hb=>?_))
 ·have h:=aI hb h
  cases h
  exact .g (.q z (.qn z (.ret (ab (vs:=[_]) v1 (rt z rn) z (hS.to [0])))))
 have h:=aJ hb h
 refine .skip (.seq (.g (.qn z (.block ?_))))
 have ⟨y2,hy2,h⟩:=bnd h
 refine .via (.iter (fun s1 E' W'=>∃ (v4 : Hd),aK E' [(0,(sv v_0)),(3,(sv v4)),(4,iv s1.2)] ∧ Sep No w W' [ae (sv v4) 176 1 (fun (l : List bi)=>D.row 196 2 (l.map bZ)) s1.1]) (fun y3 x E' W'=>x = .exit 0 ∧ ∃ (v5 : Hd),aK E' [(0,(sv v_0)),(3,(sv v5))] ∧ Sep No w W' [ae (sv v5) 176 1 (fun (l : List bi)=>D.row 196 2 (l.map bZ)) y3]) hy2 ⟨v1,sb z,hS.to [0]⟩ ?_) ?_
 ·intro s1 y4 E W h hI
  obtain ⟨v3,hE,hS⟩:=hI
  refine CW.sub hE ?_
  unfold lB at h
  refine .seq (.g (.q z (.q z (.s (bq (hS.keep q_0) T.u78 z z) z (.q z (.nil ?_))))))
  refine .cs z h ?_ ?_ <;> intro h
  ·refine .skip (.seq (.block (.region (.q z ?_))))
   have ⟨r1,hr1,h⟩:=bnd h
   refine .c (.mkv (bi.mk 0 0) bZ hr1 T.u176 T.t196 hS z z z z z (fun _=>z) ?_)
   intro v6 W hS
   refine .c (.lg (L1:=[ae (sv v6) 196 2 bZ r1]) [r1] (fun (l : List bi)=>D.row 196 2 (l.map bZ)) T.u173 T.t176 (hS.to [0,0]) z z z (.row (.nil)) ?_ z (fun _=>z))
   intro v7 W hS
   have ⟨r2,hr2,h⟩:=bnd h
   refine .c (.appv hr2 (hS.to [1,0]) T.u173 T.t176 z z z ?_)
   intro v8 W hS
   refine .qn z (.region (.q z (.q z (.q z (.nil ?_)))))
   cases h
   exact ⟨z,v8,sb z,hS.to [0]⟩
  refine .exit ?_
  cases h
  exact ⟨by simp,z,v3,sb z,hS.to [0]⟩
 intro x E W hJ
 obtain ⟨rfl,v9,hE,hS⟩:=hJ
 refine ⟨_,hE.sub,?_⟩
 refine .seq (.g (.qn z (.block ?_)))
 have ⟨y5,hy5,h⟩:=bnd h
 refine .via (.iter (fun s2 E' W'=>aK E' [(0,(sv v_0)),(3,(sv v9)),(5,iv s2.1)] ∧ Sep No w W' [ae (sv v9) 176 1 (fun (l : List bi)=>D.row 196 2 (l.map bZ)) s2.2]) (fun y6 x E' W'=>x = .exit 2 ∧ aK E' [(0,(sv v_0)),(3,(sv v9))] ∧ Sep No w W' [ae (sv v9) 176 1 (fun (l : List bi)=>D.row 196 2 (l.map bZ)) y6]) hy5 ⟨sb z,hS.to [0]⟩ ?_) ?_
 ·intro s2 y7 E W h hI
  obtain ⟨hE,hS⟩:=hI
  refine CW.sub hE ?_
  unfold lC at h
  refine .seq (.g (.q z (.q z (.nil ?_))))
  refine .cs z h ?_ ?_ <;> intro h
  ·refine .skip (.seq (.block (.region (.q z ?_))))
   have ⟨x1,hx1,h⟩:=bnd h
   refine .s (ixv hS.lv hx1 T.u173 T.t176 z z z) z ?_
   obtain ⟨k1,hS⟩:=Sep.ov hS hx1
   obtain ⟨v10,k1,rfl,hS⟩:=hS.ow
   obtain ⟨rfl,hS⟩:=hS.oN
   refine .s (lde (hS.p1.hcellsv) T.t176 z z z z z) z (.q z (.s (bs T.s196 z z) z ?_))
   have ⟨x2,hx2,h⟩:=bnd h
   refine .s (ixv hS.lv hx2 T.u176 T.t196 z z z) z ?_
   have ⟨r3,hr3,h⟩:=bnd h
   refine .c (.sev hr3 hx2 hS T.t196 z z z z z z ?_)
   intro W hS
   refine .nil (.region (.q z (.q z (.q z (.nil ?_)))))
   have hS:=Sep.gat (ds:=[.row 196 2 (r3.map bZ)]) (cs:=[(sv v10)]) (L1:=[ae (sv v10) 196 2 bZ r3]) (.row (.nil)) (hS.to [0,0])
   have hS : Sep _ _ _ [ae (sv v9) 176 1 (fun (l : List bi)=>D.row 196 2 (l.map bZ)) (s2.2.set (Int.toNat 0) r3)]:=hS.bv
   cases h
   exact ⟨z,sb z,hS.to [0]⟩
  refine .exit ?_
  cases h
  exact ⟨by simp,z,sb z,hS.to [0]⟩
 intro x E W hJ
 obtain ⟨rfl,hE,hS⟩:=hJ
 refine ⟨_,hE.sub,?_⟩
 refine .seq (.block ?_)
 have ⟨y8,hy8,h⟩:=bnd h
 refine .via (.iter (fun s3 E' W'=>aK E' [(0,(sv v_0)),(3,(sv v9))] ∧ Sep No w W' [ae (sv v9) 176 1 (fun (l : List bi)=>D.row 196 2 (l.map bZ)) s3]) (fun y9 x E' W'=>x = .exit 4 ∧ aK E' [(3,(sv v9))] ∧ Sep No w W' [ae (sv v9) 176 1 (fun (l : List bi)=>D.row 196 2 (l.map bZ)) y9]) hy8 ⟨sb z,hS.to [0]⟩ ?_) ?_
 ·intro s3 y10 E W h hI
  obtain ⟨hE,hS⟩:=hI
  refine CW.sub hE ?_
  unfold lD at h
  refine .seq (.g (.q z (.q z ?_)))
  have ⟨y11,hy11,h⟩:=bnd h
  refine .c (.cS (L0:=[ae (sv v9) 176 1 (fun (l : List bi)=>D.row 196 2 (l.map bZ)) s3]) hS Tryz.func187 (fun S h1 h2 h3=>(ra hy11 (hS.ks q_0 h1) h2 (zz h1))) z z ?_)
  rintro ⟨⟩ W hS
  refine .nil ?_
  refine .cs z h ?_ ?_ <;> intro h
  ·refine .skip (.block (.skip ?_))
   cases h
   exact ⟨z,sb z,hS.to [0]⟩
  refine .exit ?_
  cases h
  exact ⟨by simp,z,sb z,hS.to [0]⟩
 intro x E W hJ
 obtain ⟨rfl,hE,hS⟩:=hJ
 refine ⟨_,hE.sub,?_⟩
 obtain rfl:=o9 h
 exact .g (.q z (.qn z (.ret (ab (vs:=[_]) v9 (rt z rn) z (hS.to [0])))))
theorem fk {a0 : bi} {a1 : Int} {w : World} {r : Bool} (h : fg a0 a1 = some r) : Cl 189 #[.agg #[iv a0.Kind,iv a0.N],iv a1] w (RU w (.bool r)):=by
 unfold fg at h
 refine ay Tryz.func189 z z ?_
 have hS:=Sep.start w
 refine .g (.c (.box hS z z ?_))
 intro g1 W hS
 refine .qn z (.g (.s (fa T.f196_0 z z z) z (.s (ld T.t3 hS z z z z z) z (.q z (.q z (.cu 5 13 ((a0.Kind == 1) && (a0.N == a1)) hS ?_ ?_))))))
 ·refine .both (a0.Kind == 1) (fun hb=>?_) (fun hb=>?_)
  ·have hg1:=hb
   exact .g hg1 (.s (fa T.f196_1 z z z) z (.g hg1 (.s (ld T.t3 hS z z z z z) z (.g hg1 (.q z (.g hg1 (.q z (.s (pkt hg1 z z z) z (.nil (ck 5 hS z (bH hg1)))))))))))
  exact .xx hb z (.xx hb z (.xx hb z (.xx hb z (.s (pkf hb z z z) z (.nil (ck 5 hS z (bI hb)))))))
 intro W hS
 cases h
 exact .qn z (.ret (ab (vs:=[_]) () (rt z rn) z (hS.to [])))
def uq (w : World) (r : Bool) : Env → World → Prop:=Fin Tryz.prog Tryz.f207 No w (fun s : Unit=>.bool r) (fun s=>[]) .ret
theorem ub {a0 : List Int} {a1 : Int} {v_0 : Hd} {w : World} {r : Bool} (h : lr a0 a1 = some r) (q_0 : RO w v_0 3 1 (D.int .i64) a0) : Cl 207 #[(sv v_0),iv a1] w (RU w (.bool r)):=by
 unfold lr at h
 refine ay Tryz.func207 z z ?_
 have hS:=Sep.start w
 refine .g (.qn z (.seq (.g (.qn z (.block ?_)))))
 have ⟨y1,hy1,h⟩:=bnd h
 refine .via (.iter (fun s1 E' W'=>aK E' [(0,(sv v_0)),(1,iv a1),(5,iv s1)] ∧ Sep No w W' []) (fun y2 x E' W'=>(match y2 with | .inl o1=>x = .ret ∧ uq w o1 E' W' | .inr o2=>x = .exit 0 ∧ aK E' [] ∧ Sep No w W' [])) hy1 ⟨sb rfl,hS.to [] rfl⟩ ?_) ?_
 ·intro s1 y3 E W h hI
  obtain ⟨hE,hS⟩:=hI
  refine CW.sub hE ?_
  unfold mc at h
  refine .seq (.g (.q z (.q z (.s (bq (hS.keep q_0) T.u23 z z) z (.q z (.nil ?_))))))
  refine .cs z h ?_ ?_ <;> intro h
  ·refine .skip (.seq (.block (.g (.q z (.q z ?_)))))
   have ⟨x1,hx1,h⟩:=bnd h
   refine .s (ixv (hS.keep q_0) hx1 T.u23 T.t3 z z z) z (.s (lde (RV.flat (hS.keep q_0) hx1 z) T.t3 z z z z z) z (.q z (.q z (.nil ?_))))
   refine .cs z h ?_ ?_ <;> intro h
   ·refine .g (.qn z (.ret ?_))
    cases h
    exact ⟨by simp,z,ab (vs:=[_]) () (rt z rn) z (hS.to [])⟩
   refine .skip (.region (.q z (.q z (.q z (.nil ?_)))))
   cases h
   exact ⟨z,sb z,hS.to []⟩
  refine .exit ?_
  cases h
  exact ⟨by simp,z,sb z,hS.to []⟩
 intro x E W hJ
 rcases y1 with o3 | o4
 ·obtain ⟨rfl,hF⟩:=hJ
  refine ⟨_,fun _ _ h=>h,?_⟩
  cases h
  exact hF
 obtain ⟨rfl,hE,hS⟩:=hJ
 refine ⟨_,hE.sub,?_⟩
 obtain rfl:=o9 h
 exact .g (.qn z (.ret (ab (vs:=[_]) () (rt z rn) z (hS.to []))))
theorem kt {a0 : Int} {a1 : List Int} {v_1 : Hd} {w : World} {r : Bool} (h : fT a0 a1 = some r) (q_1 : RO w v_1 3 1 (D.int .i64) a1) : Cl 201 #[iv a0,(sv v_1)] w (RU w (.bool r)):=by
 unfold fT at h
 refine ay Tryz.func201 z z ?_
 have hS:=Sep.start w
 refine .g (.qn z (.g (.q z (.q z ?_))))
 have ⟨y1,hy1,h⟩:=bnd h
 refine .c (.cO hS Tryz.func207 (ub hy1 (hS.keep q_1)) z z ?_)
 intro W hS
 obtain rfl:=o9 h
 exact .qn z (.ret (ab (vs:=[_]) () (rt z rn) z (hS.to [])))
theorem uc {a0 : al} {a1 : bi} {a2 : bi} {w : World} {r : al} (h : lu a0 a1 a2 = some r) : Cl 188 #[.agg #[iv a0.Op,iv a0.Dst,iv a0.A,iv a0.B,iv a0.N],.agg #[iv a1.Kind,iv a1.N],.agg #[iv a2.Kind,iv a2.N]] w (RU w (.agg #[iv r.Op,iv r.Dst,iv r.A,iv r.B,iv r.N])):=by
 unfold lu at h
 refine ay Tryz.func188 z z ?_
 have hS:=Sep.start w
 refine .g (.c (.box hS z z ?_))
 intro g1 W hS
 refine .c (.box hS z z ?_)
 intro g2 W hS
 refine .c (.box hS z z ?_)
 intro g3 W hS
 refine .c (.alloc T.t107 hS ?_)
 intro g4 W hS
 refine .nil (.g (.s (ld T.t107 hS.p3 z z z z z) z (.s (ld T.t196 hS.p2 z z z z z) z (.s (ld T.t196 hS.p1 z z z z z) z ?_))))
 have ⟨y1,hy1,h⟩:=bnd h
 refine .c (.cO hS Tryz.func200 (mG hy1) z z ?_)
 intro W hS
 refine .c (.alloc T.t196 hS ?_)
 intro g5 W hS
 refine .c (.st T.t196 hS z z z ?_)
 intro W hS
 refine .nil (.seq (.block (.g (.s (fa T.f196_0 z z z) z (.s (ld T.t3 hS z z z z z) z (.q z (.q z (.nil ?_))))))))
 refine .cs z h ?_ ?_ <;> intro h
 ·refine .g (.s (fa T.f107_1 z z z) z (.s (ld T.t3 hS.p4 z z z z z) z (.s (fa T.f196_1 z z z) z (.s (ld T.t3 hS z z z z z) z (.s (bs T.s107 z z) z (.c (.st T.t107 hS.p1 z z z ?_)))))))
  intro W hS
  cases h
  exact .nil (.ret (ab (vs:=[_]) () (rc hS T.t107 z rn z z) z (hS.to [])))
 refine .g (.s (ld T.t196 hS.p2 z z z z z) z ?_)
 have ⟨y2,hy2,h⟩:=bnd h
 refine .c (.cO hS Tryz.func189 (fk hy2) z z ?_)
 intro W hS
 refine .q z ?_
 have ⟨b1,hb1,h⟩:=bnd h
 refine .cu 5 29 (b1) hS ?_ ?_
 ·refine .both (y2) (fun hb=>?_) (fun hb=>?_)
  ·have hg1:=hb
   have h:=aI hb hb1
   refine .g hg1 (.s (fa T.f107_4 z z z) z (.g hg1 (.s (ld T.t3 hS.p4 z z z z z) z (.g hg1 (.c (.liv [1,2,6,7,8,9] (D.int .i64) T.u23 T.t3 hS z z z z ?_ z (fun _=>z)))))))
   intro v1 W hS
   have ⟨y3,hy3,h⟩:=bnd h
   refine .g hg1 (.c (.cO hS Tryz.func201 (kt hy3 hS.lv) z z ?_))
   intro W hS
   refine .s (pkt hg1 z z z) z ?_
   cases h
   exact .nil (ck 5 (hS.to [1,1,1,1,1]))
  refine .xx hb z (.xx hb z (.xx hb z (.xx hb z ?_)))
  cases aJ hb hb1
  exact .s (pkf hb z z z) z (.nil (ck 5 hS))
 intro W hS
 refine .q z (.nil ?_)
 refine .cs z h ?_ ?_ <;> intro h
 ·refine .g (.s (fa T.f107_1 z z z) z (.s (ld T.t3 hS.p4 z z z z z) z (.s (fa T.f107_2 z z z) z (.s (ld T.t3 hS.p4 z z z z z) z (.s (bs T.s107 z z) z (.c (.st T.t107 hS.p1 z z z ?_)))))))
  intro W hS
  cases h
  exact .nil (.ret (ab (vs:=[_]) () (rc hS T.t107 z rn z z) z (hS.to [])))
 refine .g (.s (ld T.t196 hS.p2 z z z z z) z ?_)
 have ⟨y4,hy4,h⟩:=bnd h
 refine .c (.cO hS Tryz.func189 (fk hy4) z z ?_)
 intro W hS
 refine .q z ?_
 have ⟨b2,hb2,h⟩:=bnd h
 refine .cu 5 43 (b2) hS ?_ ?_
 ·refine .both (y4) (fun hb=>?_) (fun hb=>?_)
  ·have hg2:=hb
   have h:=aI hb hb2
   refine .g hg2 (.s (fa T.f107_4 z z z) z (.g hg2 (.s (ld T.t3 hS.p4 z z z z z) z (.g hg2 (.c (.liv [10,11] (D.int .i64) T.u23 T.t3 hS z z z z ?_ z (fun _=>z)))))))
   intro v2 W hS
   have ⟨y5,hy5,h⟩:=bnd h
   refine .g hg2 (.c (.cO hS Tryz.func201 (kt hy5 hS.lv) z z ?_))
   intro W hS
   refine .s (pkt hg2 z z z) z ?_
   cases h
   exact .nil (ck 5 (hS.to [1,1,1,1,1]))
  refine .xx hb z (.xx hb z (.xx hb z (.xx hb z ?_)))
  cases aJ hb hb2
  exact .s (pkf hb z z z) z (.nil (ck 5 hS))
 intro W hS
 refine .q z (.nil ?_)
 refine .cs z h ?_ ?_ <;> intro h
 ·refine .g (.s (fa T.f107_1 z z z) z (.s (ld T.t3 hS.p4 z z z z z) z (.s (fa T.f107_2 z z z) z (.s (ld T.t3 hS.p4 z z z z z) z (.s (bs T.s107 z z) z (.c (.st T.t107 hS.p1 z z z ?_)))))))
  intro W hS
  cases h
  exact .nil (.ret (ab (vs:=[_]) () (rc hS T.t107 z rn z z) z (hS.to [])))
 refine .g (.s (ld T.t196 hS.p3 z z z z z) z ?_)
 have ⟨y6,hy6,h⟩:=bnd h
 refine .c (.cO hS Tryz.func189 (fk hy6) z z ?_)
 intro W hS
 refine .q z ?_
 have ⟨b3,hb3,h⟩:=bnd h
 refine .cu 5 57 (b3) hS ?_ ?_
 ·refine .both (y6) (fun hb=>?_) (fun hb=>?_)
  ·have hg3:=hb
   have h:=aI hb hb3
   refine .g hg3 (.s (fa T.f107_4 z z z) z (.g hg3 (.s (ld T.t3 hS.p4 z z z z z) z (.g hg3 (.c (.liv [1,2,8] (D.int .i64) T.u23 T.t3 hS z z z z ?_ z (fun _=>z)))))))
   intro v3 W hS
   have ⟨y7,hy7,h⟩:=bnd h
   refine .g hg3 (.c (.cO hS Tryz.func201 (kt hy7 hS.lv) z z ?_))
   intro W hS
   refine .s (pkt hg3 z z z) z ?_
   cases h
   exact .nil (ck 5 (hS.to [1,1,1,1,1]))
  refine .xx hb z (.xx hb z (.xx hb z (.xx hb z ?_)))
  cases aJ hb hb3
  exact .s (pkf hb z z z) z (.nil (ck 5 hS))
 intro W hS
 refine .q z (.nil ?_)
 refine .cs z h ?_ ?_ <;> intro h
 ·refine .g (.s (fa T.f107_1 z z z) z (.s (ld T.t3 hS.p4 z z z z z) z (.s (fa T.f107_3 z z z) z (.s (ld T.t3 hS.p4 z z z z z) z (.s (bs T.s107 z z) z (.c (.st T.t107 hS.p1 z z z ?_)))))))
  intro W hS
  cases h
  exact .nil (.ret (ab (vs:=[_]) () (rc hS T.t107 z rn z z) z (hS.to [])))
 refine .g (.s (ld T.t196 hS.p3 z z z z z) z ?_)
 have ⟨y8,hy8,h⟩:=bnd h
 refine .c (.cO hS Tryz.func189 (fk hy8) z z ?_)
 intro W hS
 refine .q z (.cu 4 70 (y8 && (a0.N == 10)) hS ?_ ?_)
 ·refine .both (y8) (fun hb=>?_) (fun hb=>?_)
  ·have hg4:=hb
   exact .g hg4 (.s (fa T.f107_4 z z z) z (.g hg4 (.s (ld T.t3 hS.p4 z z z z z) z (.g hg4 (.q z (.s (pkt hg4 z z z) z (.nil (ck 4 hS z (bH hg4)))))))))
  exact .xx hb z (.xx hb z (.xx hb z (.s (pkf hb z z z) z (.nil (ck 4 hS z (bI hb))))))
 intro W hS
 refine .q z (.nil ?_)
 refine .cs z h ?_ ?_ <;> intro h
 ·refine .g (.s (fa T.f107_1 z z z) z (.s (ld T.t3 hS.p4 z z z z z) z (.s (fa T.f107_3 z z z) z (.s (ld T.t3 hS.p4 z z z z z) z (.s (bs T.s107 z z) z (.c (.st T.t107 hS.p1 z z z ?_)))))))
  intro W hS
  cases h
  exact .nil (.ret (ab (vs:=[_]) () (rc hS T.t107 z rn z z) z (hS.to [])))
 refine .g (.s (ld T.t196 hS.p3 z z z z z) z ?_)
 have ⟨y9,hy9,h⟩:=bnd h
 refine .c (.cO hS Tryz.func189 (fk hy9) z z ?_)
 intro W hS
 refine .q z ?_
 have ⟨b4,hb4,h⟩:=bnd h
 refine .cu 3 82 (b4) hS ?_ ?_
 ·refine .both (y9) (fun hb=>?_) (fun hb=>?_)
  ·refine .xx hb z (.xx hb z ?_)
   cases aI hb hb4
   exact .s (pkt hb z z z) z (.nil (ck 3 hS))
  have hg5:=hb
  have h:=aJ hb hb4
  refine .g hg5 (.s (ld T.t196 hS.p2 z z z z z) z ?_)
  have ⟨y10,hy10,h⟩:=bnd h
  refine .g hg5 (.c (.cO hS Tryz.func189 (fk hy10) z z ?_))
  intro W hS
  refine .s (pkf hg5 z z z) z ?_
  cases h
  exact .nil (ck 3 hS)
 intro W hS
 refine .q z ?_
 have ⟨b5,hb5,h⟩:=bnd h
 refine .cu 5 88 (b5) hS ?_ ?_
 ·refine .both (b4) (fun hb=>?_) (fun hb=>?_)
  ·have hg6:=hb
   have h:=aI hb hb5
   refine .g hg6 (.s (fa T.f107_4 z z z) z (.g hg6 (.s (ld T.t3 hS.p4 z z z z z) z (.g hg6 (.c (.liv [3,10] (D.int .i64) T.u23 T.t3 hS z z z z ?_ z (fun _=>z)))))))
   intro v4 W hS
   have ⟨y11,hy11,h⟩:=bnd h
   refine .g hg6 (.c (.cO hS Tryz.func201 (kt hy11 hS.lv) z z ?_))
   intro W hS
   refine .s (pkt hg6 z z z) z ?_
   cases h
   exact .nil (ck 5 (hS.to [1,1,1,1,1]))
  refine .xx hb z (.xx hb z (.xx hb z (.xx hb z ?_)))
  cases aJ hb hb5
  exact .s (pkf hb z z z) z (.nil (ck 5 hS))
 intro W hS
 refine .q z (.nil ?_)
 refine .cs z h ?_ ?_ <;> intro h
 ·refine .g (.s (fa T.f107_1 z z z) z (.s (ld T.t3 hS.p4 z z z z z) z (.s (bs T.s107 z z) z (.c (.st T.t107 hS.p1 z z z ?_)))))
  intro W hS
  cases h
  exact .nil (.ret (ab (vs:=[_]) () (rc hS T.t107 z rn z z) z (hS.to [])))
 refine .skip (.g (.s (ld T.t107 hS.p4 z z z z z) z (.c (.st T.t107 hS.p1 z z z ?_))))
 intro W hS
 obtain rfl:=o9 h
 exact .nil (.ret (ab (vs:=[_]) () (rc hS T.t107 z rn z z) z (hS.to [])))
theorem sk {a0 : al} {a1 : List bi} {a2 : Int} {v_1 : Hd} {w : World} {r : al} (h : jY a0 a1 a2 = some r) (q_1 : RO w v_1 196 2 bZ a1) : Cl 169 #[.agg #[iv a0.Op,iv a0.Dst,iv a0.A,iv a0.B,iv a0.N],(sv v_1),iv a2] w (RU w (.agg #[iv r.Op,iv r.Dst,iv r.A,iv r.B,iv r.N])):=by
 unfold jY at h
 refine ay Tryz.func169 z z ?_
 have hS:=Sep.start w
 refine .g (.c (.box hS z z ?_))
 intro g1 W hS
 refine .c (.alloc T.t107 hS ?_)
 intro g2 W hS
 refine .nil (.seq (.g (.q z ?_)))
 have ⟨x1,hx1,h⟩:=bnd h
 refine .s (ixv (hS.keep q_1) hx1 T.u176 T.t196 z z z) z (.s (fe T.f196_0 z z z) z (.s (lde (RV.flat (hS.keep q_1) hx1 z) T.t3 z z z z z) z (.q z (.nil ?_))))
 refine .cs z h ?_ ?_ <;> intro h
 ·refine .g (.s (ld T.t107 hS.p1 z z z z z) z (.c (.st T.t107 hS z z z ?_)))
  intro W hS
  obtain rfl:=o9 h
  exact .nil (.ret (ab (vs:=[_]) () (rc hS T.t107 z rn z z) z (hS.to [])))
 refine .skip (.seq (.g (.s (fa T.f107_0 z z z) z (.s (ld T.t3 hS.p1 z z z z z) z (.nil (.block (.g (.q z (.q z (.nil ?_))))))))))
 refine .cs z h ?_ ?_ <;> intro h
 ·refine .g (.q z (.s (fa T.f107_2 z z z) z (.s (ld T.t3 hS.p1 z z z z z) z ?_)))
  have ⟨x2,hx2,h⟩:=bnd h
  refine .s (ixv (hS.keep q_1) hx2 T.u176 T.t196 z z z) z (.s (fe T.f196_0 z z z) z (.s (lde (RV.flat (hS.keep q_1) hx2 z) T.t3 z z z z z) z (.q z (.nil ?_))))
  refine .cs z h ?_ ?_ <;> intro h
  ·refine .seq (.rk 9 hS [0,0] T.mix ?_)
   intro W hS
   have hT:=hS.to [0,0]
   refine .ts' 0 z (fun W hT=>fa T.f107_1 z z z) hT z (.ts' 1 z (fun W hT=>ld T.t3 hT.p1 z z z z z) hT z (.tp' 2 z z hT (.ts' 3 z (fun W hT=>fa T.f107_2 z z z) hT z (.ts' 4 z (fun W hT=>ld T.t3 hT.p1 z z z z z) hT z ?_))))
   have ⟨x3,hx3,h⟩:=bnd h
   refine .ts' 5 z (fun W hT=>ixv (hS.keep q_1) hx3 T.u176 T.t196 z z z) hT z (.ts' 6 z (fun W hT=>fe T.f196_1 z z z) hT z (.ts' 7 z (fun W hT=>lde (RV.flat (hT.keep q_1) hx3 z) T.t3 z z z z z) hT z (.ts' 8 z (fun W hT=>bs T.s107 z z) hT z (.by1 9 z (.st T.t107 hS z z z ?_)))))
   intro W hS
   refine ⟨fun h=>absurd z h,?_⟩
   cases h
   exact .done (.ret (ab (vs:=[_]) () (rc hS T.t107 z rn z z) z (hS.to [])))
  refine .skip (.g (.s (ld T.t107 hS.p1 z z z z z) z (.c (.st T.t107 hS z z z ?_))))
  intro W hS
  obtain rfl:=o9 h
  exact .nil (.ret (ab (vs:=[_]) () (rc hS T.t107 z rn z z) z (hS.to [])))
 refine .g (.q z (.q z (.nil ?_)))
 refine .cs z h ?_ ?_ <;> intro h
 ·refine .seq (.rk 12 hS [0,0] T.mix ?_)
  intro W hS
  have hT:=hS.to [0,0]
  refine .ts' 0 z (fun W hT=>ld T.t107 hT.p1 z z z z z) hT z (.tp' 1 z z hT (.ts' 2 z (fun W hT=>fa T.f107_2 z z z) hT z (.ts' 3 z (fun W hT=>ld T.t3 hT.p1 z z z z z) hT z ?_)))
  have ⟨x4,hx4,h⟩:=bnd h
  refine .ts' 4 z (fun W hT=>ixv (hS.keep q_1) hx4 T.u176 T.t196 z z z) hT z (.ts' 5 z (fun W hT=>lde (RV.flat (hT.keep q_1) hx4 z) T.t196 z z z z z) hT z (.tp' 6 z z hT (.ts' 7 z (fun W hT=>fa T.f107_3 z z z) hT z (.ts' 8 z (fun W hT=>ld T.t3 hT.p1 z z z z z) hT z ?_))))
  have ⟨x5,hx5,h⟩:=bnd h
  refine .ts' 9 z (fun W hT=>ixv (hS.keep q_1) hx5 T.u176 T.t196 z z z) hT z (.ts' 10 z (fun W hT=>lde (RV.flat (hT.keep q_1) hx5 z) T.t196 z z z z z) hT z ?_)
  have ⟨y1,hy1,h⟩:=bnd h
  refine .by1 11 z (.cO hS Tryz.func188 (uc hy1) z z ?_)
  intro W hS
  have hT:=hS.to [0,0]
  refine ⟨fun _=>hT,.by1 12 z (.st T.t107 hS z z z ?_)⟩
  intro W hS
  refine ⟨fun h=>absurd z h,?_⟩
  obtain rfl:=o9 h
  exact .done (.ret (ab (vs:=[_]) () (rc hS T.t107 z rn z z) z (hS.to [])))
 refine .g (.q z (.q z (.nil ?_)))
 refine .cs z h ?_ ?_ <;> intro h
 ·refine .seq (.g (.q z (.s (fa T.f107_2 z z z) z (.s (ld T.t3 hS.p1 z z z z z) z ?_))))
  have ⟨x6,hx6,h⟩:=bnd h
  refine .s (ixv (hS.keep q_1) hx6 T.u176 T.t196 z z z) z (.s (lde (RV.flat (hS.keep q_1) hx6 z) T.t196 z z z z z) z ?_)
  have ⟨y2,hy2,h⟩:=bnd h
  refine .c (.cO hS Tryz.func189 (fk hy2) z z ?_)
  intro W hS
  refine .nil ?_
  refine .cs z h ?_ ?_ <;> intro h
  ·refine .g (.s (fa T.f107_4 z z z) z (.s (ld T.t3 hS.p1 z z z z z) z (.s (bs T.s107 z z) z (.c (.st T.t107 hS z z z ?_)))))
   intro W hS
   cases h
   exact .nil (.ret (ab (vs:=[_]) () (rc hS T.t107 z rn z z) z (hS.to [])))
  refine .skip (.g (.q z (.s (fa T.f107_2 z z z) z (.s (ld T.t3 hS.p1 z z z z z) z ?_))))
  have ⟨x7,hx7,h⟩:=bnd h
  refine .s (ixv (hS.keep q_1) hx7 T.u176 T.t196 z z z) z (.s (fe T.f196_0 z z z) z (.s (lde (RV.flat (hS.keep q_1) hx7 z) T.t3 z z z z z) z (.q z (.nil ?_))))
  refine .cs z h ?_ ?_ <;> intro h
  ·refine .g (.q z (.q z (.s (bs T.s107 z z) z (.c (.st T.t107 hS z z z ?_)))))
   intro W hS
   cases h
   exact .nil (.ret (ab (vs:=[_]) () (rc hS T.t107 z rn z z) z (hS.to [])))
  refine .skip (.g (.s (ld T.t107 hS.p1 z z z z z) z (.c (.st T.t107 hS z z z ?_))))
  intro W hS
  obtain rfl:=o9 h
  exact .nil (.ret (ab (vs:=[_]) () (rc hS T.t107 z rn z z) z (hS.to [])))
 refine .skip (.g (.s (ld T.t107 hS.p1 z z z z z) z (.c (.st T.t107 hS z z z ?_))))
 intro W hS
 obtain rfl:=o9 h
 exact .nil (.ret (ab (vs:=[_]) () (rc hS T.t107 z rn z z) z (hS.to [])))
theorem rb {a0 : List al} {v_0 : Hd} {w : World} {r : (List al) × Bool} (h : i6 a0 = some r) (q_0 : RO w v_0 107 5 aX a0) : Cl 148 #[(sv v_0)] w (Ret No w (fun s : Hd=>.tuple #[(sv s),.bool r.2]) (fun s=>[ae (sv s) 107 5 aX r.1])):=by
 unfold i6 at h
 refine ay Tryz.func148 z z ?_
 have hS:=Sep.start w
 refine .g (.q z (.qn z (.g (.c (.liv [] aX T.u78 T.t107 hS z z z z ?_ z (fun _=>z))))))
 intro v1 W hS
 refine .qn z (.seq (.g (.q z ?_)))
 have ⟨y1,hy1,h⟩:=bnd h
 refine .c (.cO hS Tryz.func124 (cz hy1 (hS.keep q_0)) z z ?_)
 intro W hS
 refine .q z (.nil ?_)
 refine .cs z h ?_ ?_ <;> intro h
 ·cases h
  exact .g (.q z (.q z (.qn z (.ret (ab (vs:=[_,_]) v1 (rt z (rt z rn)) z (hS.to [0]))))))
 refine .skip (.g (.q z ?_))
 have ⟨y2,hy2,h⟩:=bnd h
 refine .c (.cV hS Tryz.func168 (sj hy2 (hS.keep q_0)) z z ?_)
 intro v2 W hS
 refine .qn z (.seq (.g (.qn z (.block ?_))))
 have ⟨y3,hy3,h⟩:=bnd h
 refine .via (.iter (fun s1 E' W'=>∃ (v5 : Hd),aK E' [(0,(sv v_0)),(4,(sv v5)),(5,(sv v2)),(6,iv s1.2)] ∧ Sep No w W' [ae (sv v2) 176 1 (fun (l : List bi)=>D.row 196 2 (l.map bZ)) y2,ae (sv v5) 107 5 aX s1.1]) (fun y4 x E' W'=>x = .exit 0 ∧ ∃ (v6 : Hd),aK E' [(4,(sv v6))] ∧ Sep No w W' [ae (sv v2) 176 1 (fun (l : List bi)=>D.row 196 2 (l.map bZ)) y2,ae (sv v6) 107 5 aX y4]) hy3 ⟨v1,sb z,hS.to [0,0]⟩ ?_) ?_
 ·intro s1 y5 E W h hI
  obtain ⟨v4,hE,hS⟩:=hI
  refine CW.sub hE ?_
  unfold iq at h
  refine .seq (.g (.q z (.q z (.s (bq (hS.keep q_0) T.u78 z z) z (.q z (.nil ?_))))))
  refine .cs z h ?_ ?_ <;> intro h
  ·refine .skip (.seq (.block ?_))
   have ⟨x1,hx1,h⟩:=bnd h
   obtain ⟨k1,hS⟩:=Sep.ov hS hx1
   obtain ⟨v7,k1,rfl,hS⟩:=hS.ow
   obtain ⟨rfl,hS⟩:=hS.oN
   refine .rk 14 hS [0,0] T.mix ?_
   intro W hS
   have hT:=hS.to [0,0]
   refine .tp' 0 z z hT (.tp' 1 z z hT (.tp' 2 z z hT ?_))
   have ⟨x3,hx3,h⟩:=bnd h
   refine .ts' 3 z (fun W hT=>ixv (hS.keep q_0) hx3 T.u78 T.t107 z z z) hT z (.ts' 4 z (fun W hT=>lde (RV.flat (hT.keep q_0) hx3 z) T.t107 z z z z z) hT z (.tp' 5 z z hT (.tp' 6 z z hT (.ts' 7 z (fun W hT=>ixh hT.p1 hx1 T.u173 T.t176 z z z) hT z (.ts' 8 z (fun W hT=>lde (hT.p1.hcellsv) T.t176 z z z z z) hT z (.tp' 9 z z hT ?_))))))
   have ⟨y7,hy7,h⟩:=bnd h
   refine .by1 10 z (.cO hS Tryz.func169 (sk hy7 hS.lv) z z ?_)
   intro W hS
   have hT:=hS.to [0,0]
   refine ⟨fun _=>hT,.by1 11 z (.liv [y7] aX T.u78 T.t107 hS z z z z ?_ z (fun _=>z))⟩
   intro v10 W hS
   have hT:=hS.to [1,1]
   refine ⟨fun _=>hT,?_⟩
   have ⟨r2,hr2,h⟩:=bnd h
   have hT0:=hS.p3
   refine .by1 12 z (.av hr2 hT0 hT0.p1.lv (fun _=>z) T.u78 T.t107 z z z ?_)
   intro v11 W hS
   have hT:=hS.to [2,2]
   refine ⟨fun _=>hT,.tp' 13 z z hT (.done (.region (.q z (.q z (.q z (.nil ?_))))))⟩
   have hS:=Sep.gat (ds:=[.row 196 2 (x1.map bZ)]) (cs:=[(sv v7)]) (L1:=[ae (sv v7) 196 2 bZ x1]) (.row (.nil)) (hS.to [2,2,0,0])
   have hS : Sep _ _ _ [ae (sv v2) 176 1 (fun (l : List bi)=>D.row 196 2 (l.map bZ)) y2,ae (sv v11) 107 5 aX r2,ae (sv v10) 107 5 aX [y7]]:=Sep.back0v hx1 hS
   cases h
   exact ⟨z,v11,sb z,hS.to [0,0]⟩
  refine .exit ?_
  cases h
  exact ⟨by simp,z,v4,sb z,hS.to [0,0]⟩
 intro x E W hJ
 obtain ⟨rfl,v12,hE,hS⟩:=hJ
 refine ⟨_,hE.sub,?_⟩
 cases h
 exact .g (.q z (.q z (.qn z (.ret (ab (vs:=[_,_]) v12 (rt z (rt z rn)) z (hS.to [1]))))))
theorem nK {w : World} {r : (List Int)} (h : ir = some r) : Cl 190 #[] w (Ret No w (fun s : Hd=>(sv s)) (fun s=>[ae (sv s) 3 1 (D.int .i64) r])):=by
 unfold ir at h
 refine ay Tryz.func190 z z ?_
 have hS:=Sep.start w
 refine .g (.qn z (.g (.c (.liv [] (D.int .i64) T.u23 T.t3 hS z z z z ?_ z (fun _=>z)))))
 intro v1 W hS
 refine .qn z (.seq (.g (.qn z (.block ?_))))
 have ⟨y1,hy1,h⟩:=bnd h
 refine .via (.iter (fun s1 E' W'=>∃ (v4 : Hd),aK E' [(1,(sv v4)),(2,iv s1.2)] ∧ Sep No w W' [ae (sv v4) 3 1 (D.int .i64) s1.1]) (fun y2 x E' W'=>x = .exit 0 ∧ ∃ (v5 : Hd),aK E' [(1,(sv v5))] ∧ Sep No w W' [ae (sv v5) 3 1 (D.int .i64) y2]) hy1 ⟨v1,sb z,hS.to [0]⟩ ?_) ?_
 ·intro s1 y3 E W h hI
  obtain ⟨v3,hE,hS⟩:=hI
  refine CW.sub hE ?_
  unfold lF at h
  refine .seq (.g (.q z (.q z (.nil ?_))))
  refine .cs z h ?_ ?_ <;> intro h
  ·refine .skip (.seq (.block (.region (.q z (.q z (.c (.liv [s1.2] (D.int .i64) T.u23 T.t3 hS z z z z ?_ z (fun _=>z))))))))
   intro v6 W hS
   have ⟨r1,hr1,h⟩:=bnd h
   have hT0:=hS.p1
   refine .c (.av hr1 hT0 hT0.p1.lv (fun _=>z) T.u23 T.t3 z z z ?_)
   intro v7 W hS
   refine .qn z (.region (.q z (.q z (.q z (.nil ?_)))))
   cases h
   exact ⟨z,v7,sb z,hS.to [0]⟩
  refine .exit ?_
  cases h
  exact ⟨by simp,z,v3,sb z,hS.to [0]⟩
 intro x E W hJ
 obtain ⟨rfl,v8,hE,hS⟩:=hJ
 refine ⟨_,hE.sub,?_⟩
 obtain rfl:=o9 h
 exact .g (.q z (.qn z (.ret (ab (vs:=[_]) v8 (rt z rn) z (hS.to [0])))))
theorem kZ {a0 : al} {w : World} {r : Int} (h : dM a0 = some r) : Cl 208 #[.agg #[iv a0.Op,iv a0.Dst,iv a0.A,iv a0.B,iv a0.N]] w (RU w (.int .i64 r)):=by
 unfold dM at h
 refine ay Tryz.func208 z z ?_
 have hS:=Sep.start w
 refine .g (.c (.box hS z z ?_))
 intro g1 W hS
 refine .qn z (.seq (.g (.s (ld T.t107 hS z z z z z) z ?_)))
 have ⟨y1,hy1,h⟩:=bnd h
 refine .c (.cO hS Tryz.func147 (kr hy1) z z ?_)
 intro W hS
 refine .q z (.nil ?_)
 refine .cs z h ?_ ?_ <;> intro h
 ·cases h
  exact .g (.qn z (.ret (ab (vs:=[_]) () (rt z rn) z (hS.to []))))
 refine .skip (.seq (.g (.s (fa T.f107_0 z z z) z (.s (ld T.t3 hS z z z z z) z (.nil (.block ?_))))))
 have ⟨y2,hy2,h⟩:=bnd h
 refine .seq (CW.via (R':=fun x E' W'=>x = .normal ∧ aK E' [(1,pt g1),(8,.bool y2)] ∧ Sep No w W' [.box g1 107 [iv a0.Op,iv a0.Dst,iv a0.A,iv a0.B,iv a0.N]]) ?_ ?_)
 ·have h:=hy2
  refine .g (.q z (.q z (.nil ?_)))
  refine .cs z h ?_ ?_ <;> intro h
  ·refine .skip ?_
   cases h
   exact ⟨z,sb z,hS.to [0]⟩
  refine .g (.q z (.q z (.nil ?_)))
  refine .cs z h ?_ ?_ <;> intro h
  ·refine .skip ?_
   cases h
   exact ⟨z,sb z,hS.to [0]⟩
  refine .g (.q z (.q z (.nil ?_)))
  refine .cs z h ?_ ?_ <;> intro h
  ·refine .skip ?_
   cases h
   exact ⟨z,sb z,hS.to [0]⟩
  refine .region (.q z (.q z (.nil ?_)))
  cases h
  exact ⟨z,sb z,hS.to [0]⟩
 intro x E W hJ
 obtain ⟨rfl,hE,hS⟩:=hJ
 refine ⟨_,hE.sub,?_⟩
 refine .cs z h ?_ ?_ <;> intro h
 ·cases h
  exact .g (.s (fa T.f107_1 z z z) z (.s (ld T.t3 hS z z z z z) z (.qn z (.ret (ab (vs:=[_]) () (rt z rn) z (hS.to []))))))
 cases h
 exact .skip (.g (.qn z (.ret (ab (vs:=[_]) () (rt z rn) z (hS.to [])))))
theorem re {a0 : al} {a1 : List Int} {v_1 : Hd} {w : World} {r : (List Int)} (h : i7 a0 a1 = some r) (q_1 : RO w v_1 3 1 (D.int .i64) a1) : Cl 202 #[.agg #[iv a0.Op,iv a0.Dst,iv a0.A,iv a0.B,iv a0.N],(sv v_1)] w (Ret No w (fun s : Hd=>(sv s)) (fun s=>[ae (sv s) 3 1 (D.int .i64) r])):=by
 unfold i7 at h
 refine ay Tryz.func202 z z ?_
 have hS:=Sep.start w
 refine .g (.c (.box hS z z ?_))
 intro g1 W hS
 refine .qn z (.g (.c (.liv [] (D.int .i64) T.u23 T.t3 hS z z z z ?_ z (fun _=>z))))
 intro v1 W hS
 refine .q z ?_
 have ⟨r1,hr1,h⟩:=bnd h
 refine .c (.av hr1 hS (hS.keep q_1) (fun _=>z) T.u23 T.t3 z z z ?_)
 intro v2 W hS
 refine .qn z (.g (.s (ld T.t107 hS.p1 z z z z z) z ?_))
 have ⟨y1,hy1,h⟩:=bnd h
 refine .c (.cO hS Tryz.func208 (kZ hy1) z z ?_)
 intro W hS
 refine .qn z (.seq (.g (.q z (.q z (.nil ?_)))))
 refine .cs z h ?_ ?_ <;> intro h
 ·obtain rfl:=o9 h
  exact .g (.q z (.qn z (.ret (ab (vs:=[_]) v2 (rt z rn) z (hS.to [0])))))
 refine .skip (.seq (.g (.qn z (.block ?_))))
 have ⟨y2,hy2,h⟩:=bnd h
 refine .via (.iter (fun s1 E' W'=>aK E' [(2,pt g1),(5,(sv v2)),(6,iv y1),(7,iv s1.1)] ∧ Sep No w W' [ae (sv v2) 3 1 (D.int .i64) s1.2,.box g1 107 [iv a0.Op,iv a0.Dst,iv a0.A,iv a0.B,iv a0.N]]) (fun y3 x E' W'=>x = .exit 0 ∧ aK E' [(2,pt g1),(5,(sv v2)),(6,iv y1)] ∧ Sep No w W' [ae (sv v2) 3 1 (D.int .i64) y3,.box g1 107 [iv a0.Op,iv a0.Dst,iv a0.A,iv a0.B,iv a0.N]]) hy2 ⟨sb z,hS.to [0,0]⟩ ?_) ?_
 ·intro s1 y4 E W h hI
  obtain ⟨hE,hS⟩:=hI
  refine CW.sub hE ?_
  unfold kI at h
  refine .seq (.g (.q z (.q z (.nil ?_))))
  refine .cs z h ?_ ?_ <;> intro h
  ·refine .skip ?_
   have ⟨y5,hy5,h⟩:=bnd h
   refine .seq (CW.via (R':=fun x E' W'=>x = .normal ∧ aK E' [(2,pt g1),(5,(sv v2)),(6,iv y1),(7,iv s1.1)] ∧ Sep No w W' [ae (sv v2) 3 1 (D.int .i64) y5,.box g1 107 [iv a0.Op,iv a0.Dst,iv a0.A,iv a0.B,iv a0.N]]) ?_ ?_)
   ·have h:=hy5
    refine .block (.g (.q z (.q z ?_)))
    have ⟨x1,hx1,h⟩:=bnd h
    refine .s (ixv hS.lv hx1 T.u23 T.t3 z z z) z (.s (lde (RV.flat hS.lv hx1 z) T.t3 z z z z z) z (.q z (.q z (.nil ?_))))
    refine .cs z h ?_ ?_ <;> intro h
    ·refine .region (.q z (.q z (.q z ?_)))
     have ⟨x2,hx2,h⟩:=bnd h
     refine .s (ixv hS.lv hx2 T.u23 T.t3 z z z) z ?_
     have ⟨r2,hr2,h⟩:=bnd h
     refine .c (.sev hr2 hx2 hS T.t3 z z z z z z ?_)
     intro W hS
     refine .nil ?_
     obtain rfl:=o9 h
     exact ⟨z,sb z,hS.to [0,0]⟩
    refine .skip ?_
    cases h
    exact ⟨z,sb z,hS.to [0,0]⟩
   intro x E W hJ
   obtain ⟨rfl,hE,hS⟩:=hJ
   refine ⟨_,hE.sub,?_⟩
   refine .region (.q z (.q z (.q z (.nil ?_))))
   cases h
   exact ⟨z,sb z,hS.to [0,0]⟩
  refine .exit ?_
  cases h
  exact ⟨by simp,z,sb z,hS.to [0,0]⟩
 intro x E W hJ
 obtain ⟨rfl,hE,hS⟩:=hJ
 refine ⟨_,hE.sub,?_⟩
 refine .g (.q z (.q z (.q z ?_)))
 have ⟨x3,hx3,h⟩:=bnd h
 refine .s (ixv hS.lv hx3 T.u23 T.t3 z z z) z ?_
 have ⟨r3,hr3,h⟩:=bnd h
 refine .c (.sev hr3 hx3 hS T.t3 z z z z z z ?_)
 intro W hS
 refine .nil (.seq (.g (.s (fa T.f107_0 z z z) z (.s (ld T.t3 hS.p1 z z z z z) z (.q z (.nil ?_))))))
 refine .cs z h ?_ ?_ <;> intro h
 ·refine .region (.q z (.q z (.s (fa T.f107_2 z z z) z (.s (ld T.t3 hS.p1 z z z z z) z ?_))))
  have ⟨x4,hx4,h⟩:=bnd h
  refine .s (ixv hS.lv hx4 T.u23 T.t3 z z z) z ?_
  have ⟨r4,hr4,h⟩:=bnd h
  refine .c (.sev hr4 hx4 hS T.t3 z z z z z z ?_)
  intro W hS
  obtain rfl:=o9 h
  exact .nil (.g (.q z (.qn z (.ret (ab (vs:=[_]) v2 (rt z rn) z (hS.to [0]))))))
 obtain rfl:=o9 h
 exact .skip (.g (.q z (.qn z (.ret (ab (vs:=[_]) v2 (rt z rn) z (hS.to [0]))))))
theorem rf {a0 : List (List Int)} {a1 : Int} {a2 : List Int} {v_0 : Hd} {v_2 : Hd} {S : Nat → Prop} {w : World} {r : Bool × (List (List Int))} (h : i9 a0 a1 a2 = some r) (q_2 : RV w (Old S w) (sv v_2) 3 1 (D.int .i64) a2) (hO : bG w [ae (sv v_0) 23 1 (fun (l : List Int)=>D.row 3 1 (l.map (D.int .i64))) a0] S) (hlt : ∀ b,S b → b < w.heap.size) : Cl 203 #[(sv v_0),iv a1,(sv v_2)] w (Ret S w (fun s : Unit=>.bool r.1) (fun s=>[ae (sv v_0) 23 1 (fun (l : List Int)=>D.row 3 1 (l.map (D.int .i64))) r.2])):=by
 unfold i9 at h
 refine ay Tryz.func203 z z ?_
 have hS:=Sep.sm hO hlt
 refine .g (.qn z (.seq (.g (.q z (.q z ?_)))))
 have ⟨x1,hx1,h⟩:=bnd h
 refine .s (ixv hS.lv hx1 T.u177 T.t23 z z z) z ?_
 obtain ⟨k1,hS⟩:=Sep.ov hS hx1
 obtain ⟨v1,k1,rfl,hS⟩:=hS.ow
 obtain ⟨rfl,hS⟩:=hS.oN
 refine .s (lde (hS.p1.hcellsv) T.t23 z z z z z) z (.s (bq hS.lv T.u23 z z) z (.q z (.nil ?_)))
 refine .cs z h ?_ ?_ <;> intro h
 ·refine .g (.q z (.q z (.c (.liv [] (D.int .i64) T.u23 T.t3 hS z z z z ?_ z (fun _=>z)))))
  intro v2 W hS
  refine .q z ?_
  have ⟨r1,hr1,h⟩:=bnd h
  refine .c (.av hr1 hS (hS.keep q_2) (fun _=>z) T.u23 T.t3 z z z ?_)
  intro v3 W hS
  refine .s (ixh hS.p2 hx1 T.u177 T.t23 z z z) z (.c (.sthv hS.p2 T.t23 z z z ?_))
  intro W hS
  refine .nil (.g (.qn z (.ret ?_)))
  have hS:=Sep.gat (ds:=[.row 3 1 (r1.map (D.int .i64))]) (cs:=[(sv v3)]) (L1:=[ae (sv v3) 3 1 (D.int .i64) r1]) (.row (.nil)) (hS.to [1,0,0])
  have hS : Sep _ _ _ [ae (sv v_0) 23 1 (fun (l : List Int)=>D.row 3 1 (l.map (D.int .i64))) (a0.set (Int.toNat a1) r1),ae (sv v1) 3 1 (D.int .i64) x1]:=hS.bv
  cases h
  exact ab (vs:=[_]) () (rt z rn) z (hS.to [0])
 refine .skip (.g (.qn z (.seq (.g (.qn z (.block ?_))))))
 have hS:=Sep.gat (ds:=[.row 3 1 (x1.map (D.int .i64))]) (cs:=[(sv v1)]) (L1:=[ae (sv v1) 3 1 (D.int .i64) x1]) (.row (.nil)) (hS.to [0,0])
 have hS : Sep _ _ _ [ae (sv v_0) 23 1 (fun (l : List Int)=>D.row 3 1 (l.map (D.int .i64))) a0]:=Sep.back0v hx1 hS
 have ⟨y1,hy1,h⟩:=bnd h
 refine .via (.iter (fun s1 E' W'=>aK E' [(0,(sv v_0)),(1,iv a1),(2,(sv v_2)),(7,.bool s1.1),(8,iv s1.2.1)] ∧ Sep S w W' [ae (sv v_0) 23 1 (fun (l : List Int)=>D.row 3 1 (l.map (D.int .i64))) s1.2.2]) (fun y2 x E' W'=>x = .exit 0 ∧ aK E' [(7,.bool y2.1)] ∧ Sep S w W' [ae (sv v_0) 23 1 (fun (l : List Int)=>D.row 3 1 (l.map (D.int .i64))) y2.2]) hy1 ⟨sb z,hS.to [0]⟩ ?_) ?_
 ·intro s1 y3 E W h hI
  obtain ⟨hE,hS⟩:=hI
  refine CW.sub hE ?_
  unfold kJ at h
  refine .seq (.g (.q z (.q z (.nil ?_))))
  refine .cs z h ?_ ?_ <;> intro h
  ·refine .skip ?_
   have ⟨y4,hy4,h⟩:=bnd h
   refine .seq (CW.via (R':=fun x E' W'=>x = .normal ∧ aK E' [(0,(sv v_0)),(1,iv a1),(2,(sv v_2)),(7,.bool y4.1),(8,iv s1.2.1)] ∧ Sep S w W' [ae (sv v_0) 23 1 (fun (l : List Int)=>D.row 3 1 (l.map (D.int .i64))) y4.2]) ?_ ?_)
   ·have h:=hy4
    refine .block (.seq ?_)
    have ⟨x2,hx2,h⟩:=bnd h
    obtain ⟨k2,hS⟩:=Sep.ov hS hx2
    obtain ⟨v4,k2,rfl,hS⟩:=hS.ow
    obtain ⟨rfl,hS⟩:=hS.oN
    have ⟨x6,hx6,h⟩:=bnd h
    have ⟨b2,hb2,h⟩:=bnd h
    refine .via (R':=fun x E' W'=>x = .normal ∧ aK E' [(0,(sv v_0)),(1,iv a1),(2,(sv v_2)),(7,.bool s1.1),(8,iv s1.2.1),(47,.bool b2)] ∧ Sep S w W' [ae (sv v_0) 23 1 (fun (l : List Int)=>D.row 3 1 (l.map (D.int .i64))) s1.2.2]) ?_ ?_
    ·refine .rk 23 hS [0,0] T.mix ?_
     intro W hS
     have hT:=hS.to [0,0]
     refine .tp' 0 z z hT (.tp' 1 z z hT (.ts' 2 z (fun W hT=>ixh hT.p1 hx2 T.u177 T.t23 z z z) hT z (.ts' 3 z (fun W hT=>lde (hT.p1.hcellsv) T.t23 z z z z z) hT z (.tp' 4 z z hT (.ts' 5 z (fun W hT=>ixv hS.lv hx6 T.u23 T.t3 z z z) hT z (.ts' 6 z (fun W hT=>lde (RV.flat hT.lv hx6 z) T.t3 z z z z z) hT z (.tp' 7 z z hT (.tp' 8 z z hT (.tp' 9 z z hT (.both (x6 != s1.2.1) (fun hb=>?_) (fun hb=>?_)))))))))))
     ·have hg2:=hb
      have h_b2:=aI hb hb2
      refine .t1g 10 z hg2 (fun W hT=>pr z) hT (.t1g 11 z hg2 (fun W hT=>pr z) hT (.t1g 12 z hg2 (fun W hT=>ixh hT.p1 hx2 T.u177 T.t23 z z z) hT (.t1g 13 z hg2 (fun W hT=>lde (hT.p1.hcellsv) T.t23 z z z z z) hT (.t1g 14 z hg2 (fun W hT=>pr z) hT ?_ (by kernel_rfl) z z) (by kernel_rfl) z z) (by kernel_rfl) z z) (by kernel_rfl) z z) (by kernel_rfl) z z
      have ⟨x7,hx7,h_b2⟩:=bnd h_b2
      refine .t1g 15 z hg2 (fun W hT=>ixv hS.lv hx7 T.u23 T.t3 z z z) hT (.t1g 16 z hg2 (fun W hT=>lde (RV.flat hT.lv hx7 z) T.t3 z z z z z) hT (.t1g 17 z hg2 (fun W hT=>pr z) hT (.t1g 18 z hg2 (fun W hT=>pr z) hT ?_ (by kernel_rfl) z z) (by kernel_rfl) z z) (by kernel_rfl) z z) (by kernel_rfl) z z
      have ⟨x8,hx8,h_b2⟩:=bnd h_b2
      refine .t1g 19 z hg2 (fun W hT=>ixv (hS.keep q_2) hx8 T.u23 T.t3 z z z) hT (.t1g 20 z hg2 (fun W hT=>lde (RV.flat (hT.keep q_2) hx8 z) T.t3 z z z z z) hT (.t1g 21 z hg2 (fun W hT=>pr z) hT (.ts' 22 z (fun W hT=>pkt hg2 z z z) hT z (.eqv 47 z (sR h_b2) (.done ?_))) (by kernel_rfl) z z) (by kernel_rfl) z z) (by kernel_rfl) z z
      have hS:=Sep.gat (ds:=[.row 3 1 (x2.map (D.int .i64))]) (cs:=[(sv v4)]) (L1:=[ae (sv v4) 3 1 (D.int .i64) x2]) (.row (.nil)) (hS.to [0,0])
      have hS : Sep _ _ _ [ae (sv v_0) 23 1 (fun (l : List Int)=>D.row 3 1 (l.map (D.int .i64))) s1.2.2]:=Sep.back0v hx2 hS
      exact ⟨z,sb z,hS.to [0]⟩
     refine .off 10 z hb hT (.off 11 z hb hT (.off 12 z hb hT (.off 13 z hb hT (.off 14 z hb hT (.off 15 z hb hT (.off 16 z hb hT (.off 17 z hb hT (.off 18 z hb hT (.off 19 z hb hT (.off 20 z hb hT (.off 21 z hb hT (.ts' 22 z (fun W hT=>pkf hb z z z) hT z (.eqv 47 z (sR (aJ hb hb2)) (.done ?_))) (by kernel_rfl) z z) (by kernel_rfl) z z) (by kernel_rfl) z z) (by kernel_rfl) z z) (by kernel_rfl) z z) (by kernel_rfl) z z) (by kernel_rfl) z z) (by kernel_rfl) z z) (by kernel_rfl) z z) (by kernel_rfl) z z) (by kernel_rfl) z z) (by kernel_rfl) z z
     have hS:=Sep.gat (ds:=[.row 3 1 (x2.map (D.int .i64))]) (cs:=[(sv v4)]) (L1:=[ae (sv v4) 3 1 (D.int .i64) x2]) (.row (.nil)) (hS.to [0,0])
     have hS : Sep _ _ _ [ae (sv v_0) 23 1 (fun (l : List Int)=>D.row 3 1 (l.map (D.int .i64))) s1.2.2]:=Sep.back0v hx2 hS
     exact ⟨z,sb z,hS.to [0]⟩
    intro x E W hJ
    obtain ⟨rfl,hE,hS⟩:=hJ
    refine ⟨_,hE.sub,?_⟩
    refine .cs z h ?_ ?_ <;> intro h
    ·refine .g (.q z (.q z ?_))
     have ⟨x9,hx9,h⟩:=bnd h
     refine .s (ixv hS.lv hx9 T.u177 T.t23 z z z) z ?_
     obtain ⟨k3,hS⟩:=Sep.ov hS hx9
     obtain ⟨v5,k3,rfl,hS⟩:=hS.ow
     obtain ⟨rfl,hS⟩:=hS.oN
     refine .s (lde (hS.p1.hcellsv) T.t23 z z z z z) z (.q z (.q z ?_))
     have ⟨x10,hx10,h⟩:=bnd h
     refine .s (ixv hS.lv hx10 T.u23 T.t3 z z z) z ?_
     have ⟨r2,hr2,h⟩:=bnd h
     refine .c (.sev hr2 hx10 hS T.t3 z z z z z z ?_)
     intro W hS
     refine .nil (.region (.q z (.nil ?_)))
     have hS:=Sep.gat (ds:=[.row 3 1 (r2.map (D.int .i64))]) (cs:=[(sv v5)]) (L1:=[ae (sv v5) 3 1 (D.int .i64) r2]) (.row (.nil)) (hS.to [0,0])
     have hS : Sep _ _ _ [ae (sv v_0) 23 1 (fun (l : List Int)=>D.row 3 1 (l.map (D.int .i64))) (s1.2.2.set (Int.toNat a1) r2)]:=hS.bv
     cases h
     exact ⟨z,sb z,hS.to [0]⟩
    refine .skip ?_
    cases h
    exact ⟨z,sb z,hS.to [0]⟩
   intro x E W hJ
   obtain ⟨rfl,hE,hS⟩:=hJ
   refine ⟨_,hE.sub,?_⟩
   refine .region (.q z (.q z (.q z (.nil ?_))))
   cases h
   exact ⟨z,sb z,hS.to [0]⟩
  refine .exit ?_
  cases h
  exact ⟨by simp,z,sb z,hS.to [0]⟩
 intro x E W hJ
 obtain ⟨rfl,hE,hS⟩:=hJ
 refine ⟨_,hE.sub,?_⟩
 cases h
 exact .g (.q z (.qn z (.ret (ab (vs:=[_]) () (rt z rn) z (hS.to [0])))))
theorem rh {a0 : List al} {a1 : List (List Int)} {v_0 : Hd} {v_1 : Hd} {S : Nat → Prop} {w : World} {r : Bool × (List (List Int))} (h : ja a0 a1 = some r) (q_0 : RV w (Old S w) (sv v_0) 107 5 aX a0) (hO : bG w [ae (sv v_1) 23 1 (fun (l : List Int)=>D.row 3 1 (l.map (D.int .i64))) a1] S) (hlt : ∀ b,S b → b < w.heap.size) : Cl 191 #[(sv v_0),(sv v_1)] w (Ret S w (fun s : Unit=>.bool r.1) (fun s=>[ae (sv v_1) 23 1 (fun (l : List Int)=>D.row 3 1 (l.map (D.int .i64))) r.2])):=by
 unfold ja at h
 refine ay Tryz.func191 z z ?_
 have hS:=Sep.sm hO hlt
 refine .g (.qn z (.g (.qn z (.seq (.g (.qn z (.block ?_)))))))
 have ⟨y1,hy1,h⟩:=bnd h
 refine .via (.iter (fun s1 E' W'=>aK E' [(0,(sv v_0)),(1,(sv v_1)),(5,.bool s1.1),(6,iv s1.2.1)] ∧ Sep S w W' [ae (sv v_1) 23 1 (fun (l : List Int)=>D.row 3 1 (l.map (D.int .i64))) s1.2.2]) (fun y2 x E' W'=>x = .exit 0 ∧ aK E' [(5,.bool y2.1)] ∧ Sep S w W' [ae (sv v_1) 23 1 (fun (l : List Int)=>D.row 3 1 (l.map (D.int .i64))) y2.2]) hy1 ⟨sb z,hS.to [0]⟩ ?_) ?_
 ·intro s1 y3 E W h hI
  obtain ⟨hE,hS⟩:=hI
  refine CW.sub hE ?_
  unfold kL at h
  refine .seq (.g (.q z (.q z (.s (bq (hS.keep q_0) T.u78 z z) z (.q z (.nil ?_))))))
  refine .cs z h ?_ ?_ <;> intro h
  ·refine .skip ?_
   have ⟨y4,hy4,h⟩:=bnd h
   refine .seq (CW.via (R':=fun x E' W'=>x = .normal ∧ aK E' [(0,(sv v_0)),(1,(sv v_1)),(5,.bool y4.1),(6,iv s1.2.1)] ∧ Sep S w W' [ae (sv v_1) 23 1 (fun (l : List Int)=>D.row 3 1 (l.map (D.int .i64))) y4.2]) ?_ ?_)
   ·have h:=hy4
    refine .block (.seq (.g (.q z (.q z ?_))))
    have ⟨x1,hx1,h⟩:=bnd h
    refine .s (ixv hS.lv hx1 T.u177 T.t23 z z z) z ?_
    obtain ⟨k1,hS⟩:=Sep.ov hS hx1
    obtain ⟨v1,k1,rfl,hS⟩:=hS.ow
    obtain ⟨rfl,hS⟩:=hS.oN
    refine .s (lde (hS.p1.hcellsv) T.t23 z z z z z) z (.s (bq hS.lv T.u23 z z) z (.q z (.nil ?_)))
    refine .cs z h ?_ ?_ <;> intro h
    ·refine .exit ?_
     have hS:=Sep.gat (ds:=[.row 3 1 (x1.map (D.int .i64))]) (cs:=[(sv v1)]) (L1:=[ae (sv v1) 3 1 (D.int .i64) x1]) (.row (.nil)) (hS.to [0,0])
     have hS : Sep _ _ _ [ae (sv v_1) 23 1 (fun (l : List Int)=>D.row 3 1 (l.map (D.int .i64))) s1.2.2]:=Sep.back0v hx1 hS
     cases h
     exact ⟨z,sb z,hS.to [0]⟩
    refine .skip (.g (.q z (.q z ?_)))
    have ⟨y5,hy5,h⟩:=bnd h
    refine .c (.cV hS Tryz.func193 (jD hy5 (hS.keep q_0)) z z ?_)
    intro v2 W hS
    refine .qn z (.seq (.rk 10 hS [0,0,0] T.mix ?_))
    intro W hS
    have hT:=hS.to [0,0,0]
    refine .tp' 0 z z hT (.tp' 1 z z hT ?_)
    have ⟨x2,hx2,h⟩:=bnd h
    refine .ts' 2 z (fun W hT=>ixv (hS.keep q_0) hx2 T.u78 T.t107 z z z) hT z (.ts' 3 z (fun W hT=>lde (RV.flat (hT.keep q_0) hx2 z) T.t107 z z z z z) hT z (.tp' 4 z z hT (.tp' 5 z z hT (.ts' 6 z (fun W hT=>ixh hT.p2 hx1 T.u177 T.t23 z z z) hT z (.ts' 7 z (fun W hT=>lde (hT.p2.hcellsv) T.t23 z z z z z) hT z ?_)))))
    have ⟨y6,hy6,h⟩:=bnd h
    refine .by1 8 z (.cV hS Tryz.func202 (re hy6 hS.p1.lv) z z ?_)
    intro v3 W hS
    have hT:=hS.to [1,1,1]
    refine ⟨fun _=>hT,.tp' 9 z z hT (.done (.g (.qn z (.block ?_))))⟩
    have hS:=Sep.gat (ds:=[.row 3 1 (x1.map (D.int .i64))]) (cs:=[(sv v1)]) (L1:=[ae (sv v1) 3 1 (D.int .i64) x1]) (.row (.nil)) (hS.to [2,2,0,0])
    have hS : Sep _ _ _ [ae (sv v_1) 23 1 (fun (l : List Int)=>D.row 3 1 (l.map (D.int .i64))) s1.2.2,ae (sv v3) 3 1 (D.int .i64) y6,ae (sv v2) 3 1 (D.int .i64) y5]:=Sep.back0v hx1 hS
    have ⟨y7,hy7,h⟩:=bnd h
    refine .via (.iter (fun s2 E' W'=>aK E' [(0,(sv v_0)),(1,(sv v_1)),(5,.bool s2.1),(6,iv s1.2.1),(7,(sv v2)),(8,(sv v3)),(9,iv s2.2.1)] ∧ Sep S w W' [ae (sv v_1) 23 1 (fun (l : List Int)=>D.row 3 1 (l.map (D.int .i64))) s2.2.2,ae (sv v3) 3 1 (D.int .i64) y6,ae (sv v2) 3 1 (D.int .i64) y5]) (fun y8 x E' W'=>x = .exit 2 ∧ aK E' [(0,(sv v_0)),(1,(sv v_1)),(5,.bool y8.1),(6,iv s1.2.1)] ∧ Sep S w W' [ae (sv v_1) 23 1 (fun (l : List Int)=>D.row 3 1 (l.map (D.int .i64))) y8.2,ae (sv v3) 3 1 (D.int .i64) y6,ae (sv v2) 3 1 (D.int .i64) y5]) hy7 ⟨sb z,hS.to [0,0,0]⟩ ?_) ?_
    ·intro s2 y9 E W h hI
     obtain ⟨hE,hS⟩:=hI
     refine CW.sub hE ?_
     unfold kK at h
     refine .seq (.g (.q z (.q z (.s (bq hS.p2.lv T.u23 z z) z (.qn z (.cond z (fun hb=>?_) (fun hb=>?_)))))))
     ·have h:=aI hb h
      refine .skip ?_
      have ⟨y10,hy10,h⟩:=bnd h
      refine .seq (CW.via (R':=fun x E' W'=>x = .normal ∧ aK E' [(0,(sv v_0)),(1,(sv v_1)),(5,.bool y10.1),(6,iv s1.2.1),(7,(sv v2)),(8,(sv v3)),(9,iv s2.2.1)] ∧ Sep S w W' [ae (sv v_1) 23 1 (fun (l : List Int)=>D.row 3 1 (l.map (D.int .i64))) y10.2,ae (sv v3) 3 1 (D.int .i64) y6,ae (sv v2) 3 1 (D.int .i64) y5]) ?_ ?_)
      ·have h:=hy10
       refine .block (.g (.q z (.q z (.q z ?_))))
       have ⟨x3,hx3,h⟩:=bnd h
       refine .s (ixv hS.p2.lv hx3 T.u23 T.t3 z z z) z (.s (lde (RV.flat hS.p2.lv hx3 z) T.t3 z z z z z) z (.q z ?_))
       have ⟨y11,hy11,h⟩:=bnd h
       refine .c (.cS (L0:=[ae (sv v_1) 23 1 (fun (l : List Int)=>D.row 3 1 (l.map (D.int .i64))) s2.2.2]) hS Tryz.func203 (fun S h1 h2 h3=>(rf hy11 (h3.rdv (k:=0) z) h2 (zz h1))) z z ?_)
       rintro ⟨⟩ W hS
       refine .nil ?_
       refine .cs z h ?_ ?_ <;> intro h
       ·refine .region (.q z (.nil ?_))
        cases h
        exact ⟨z,sb z,hS.to [0,0,0]⟩
       refine .skip ?_
       cases h
       exact ⟨z,sb z,hS.to [0,0,0]⟩
      intro x E W hJ
      obtain ⟨rfl,hE,hS⟩:=hJ
      refine ⟨_,hE.sub,?_⟩
      refine .region (.q z (.q z (.q z (.nil ?_))))
      cases h
      exact ⟨z,sb z,hS.to [0,0,0]⟩
     have h:=aJ hb h
     refine .exit ?_
     cases h
     exact ⟨by simp,z,sb z,hS.to [0,0,0]⟩
    intro x E W hJ
    obtain ⟨rfl,hE,hS⟩:=hJ
    refine ⟨_,hE.sub,?_⟩
    cases h
    exact ⟨z,sb z,hS.to [0]⟩
   intro x E W hJ
   obtain ⟨rfl,hE,hS⟩:=hJ
   refine ⟨_,hE.sub,?_⟩
   refine .region (.q z (.q z (.q z (.nil ?_))))
   cases h
   exact ⟨z,sb z,hS.to [0]⟩
  refine .exit ?_
  cases h
  exact ⟨by simp,z,sb z,hS.to [0]⟩
 intro x E W hJ
 obtain ⟨rfl,hE,hS⟩:=hJ
 refine ⟨_,hE.sub,?_⟩
 cases h
 exact .g (.q z (.qn z (.ret (ab (vs:=[_]) () (rt z rn) z (hS.to [0])))))
theorem ri {a0 : List al} {v_0 : Hd} {w : World} {r : (List (List Int))} (h : jb a0 = some r) (q_0 : RO w v_0 107 5 aX a0) : Cl 170 #[(sv v_0)] w (Ret No w (fun s : Hd=>(sv s)) (fun s=>[ae (sv s) 23 1 (fun (l : List Int)=>D.row 3 1 (l.map (D.int .i64))) r])):=by
 unfold jb at h
 refine ay Tryz.func170 z z ?_
 have hS:=Sep.start w
 refine .g (.qn z (.g (.c (.lg (L1:=[]) [] (fun (l : List Int)=>D.row 3 1 (l.map (D.int .i64))) T.u177 T.t23 (hS.to []) z z z (.nil) ?_ z (fun _=>z)))))
 intro v1 W hS
 refine .qn z (.seq (.g (.q z ?_)))
 have ⟨y1,hy1,h⟩:=bnd h
 refine .c (.cO hS Tryz.func124 (cz hy1 (hS.keep q_0)) z z ?_)
 intro W hS
 refine .qn z (.cond z (fun hb=>?_) (fun hb=>?_))
 ·have h:=aI hb h
  cases h
  exact .g (.q z (.qn z (.ret (ab (vs:=[_]) v1 (rt z rn) z (hS.to [0])))))
 have h:=aJ hb h
 refine .skip (.seq (.g (.qn z (.block ?_))))
 have ⟨y2,hy2,h⟩:=bnd h
 refine .via (.iter (fun s1 E' W'=>∃ (v4 : Hd),aK E' [(0,(sv v_0)),(3,(sv v4)),(4,iv s1.2)] ∧ Sep No w W' [ae (sv v4) 23 1 (fun (l : List Int)=>D.row 3 1 (l.map (D.int .i64))) s1.1]) (fun y3 x E' W'=>x = .exit 0 ∧ ∃ (v5 : Hd),aK E' [(0,(sv v_0)),(3,(sv v5))] ∧ Sep No w W' [ae (sv v5) 23 1 (fun (l : List Int)=>D.row 3 1 (l.map (D.int .i64))) y3]) hy2 ⟨v1,sb z,hS.to [0]⟩ ?_) ?_
 ·intro s1 y4 E W h hI
  obtain ⟨v3,hE,hS⟩:=hI
  refine CW.sub hE ?_
  unfold kM at h
  refine .seq (.g (.q z (.q z (.s (bq (hS.keep q_0) T.u78 z z) z (.q z (.nil ?_))))))
  refine .cs z h ?_ ?_ <;> intro h
  ·refine .skip (.seq (.block (.region (.q z (.c (.liv [] (D.int .i64) T.u23 T.t3 hS z z z z ?_ z (fun _=>z)))))))
   intro v6 W hS
   refine .c (.lg (L1:=[ae (sv v6) 3 1 (D.int .i64) []]) [[]] (fun (l : List Int)=>D.row 3 1 (l.map (D.int .i64))) T.u177 T.t23 (hS.to [0,0]) z z z (.row (.nil)) ?_ z (fun _=>z))
   intro v7 W hS
   have ⟨r1,hr1,h⟩:=bnd h
   refine .c (.appv hr1 (hS.to [1,0]) T.u177 T.t23 z z z ?_)
   intro v8 W hS
   refine .qn z (.region (.q z (.q z (.q z (.nil ?_)))))
   cases h
   exact ⟨z,v8,sb z,hS.to [0]⟩
  refine .exit ?_
  cases h
  exact ⟨by simp,z,v3,sb z,hS.to [0]⟩
 intro x E W hJ
 obtain ⟨rfl,v9,hE,hS⟩:=hJ
 refine ⟨_,hE.sub,?_⟩
 refine .g (.q z ?_)
 have ⟨y5,hy5,h⟩:=bnd h
 refine .c (.cV hS Tryz.func190 (nK hy5) z z ?_)
 intro v10 W hS
 have ⟨x1,hx1,h⟩:=bnd h
 refine .s (ixv hS.p1.lv hx1 T.u177 T.t23 z z z) z ?_
 obtain ⟨k1,hS⟩:=Sep.ov hS.p1 hx1
 obtain ⟨v11,k1,rfl,hS⟩:=hS.ow
 obtain ⟨rfl,hS⟩:=hS.oN
 refine .c (.sthv hS.p1 T.t23 z z z ?_)
 intro W hS
 refine .nil (.seq (.block ?_))
 have hS:=Sep.gat (ds:=[.row 3 1 (y5.map (D.int .i64))]) (cs:=[(sv v10)]) (L1:=[ae (sv v10) 3 1 (D.int .i64) y5]) (.row (.nil)) (hS.to [2,0,0])
 have hS : Sep _ _ _ [ae (sv v9) 23 1 (fun (l : List Int)=>D.row 3 1 (l.map (D.int .i64))) (y2.set (Int.toNat 0) y5),ae (sv v11) 3 1 (D.int .i64) x1]:=hS.bv
 have ⟨y6,hy6,h⟩:=bnd h
 refine .via (.iter (fun s2 E' W'=>aK E' [(0,(sv v_0)),(3,(sv v9))] ∧ Sep No w W' [ae (sv v9) 23 1 (fun (l : List Int)=>D.row 3 1 (l.map (D.int .i64))) s2,ae (sv v11) 3 1 (D.int .i64) x1]) (fun y7 x E' W'=>x = .exit 2 ∧ aK E' [(0,(sv v_0)),(3,(sv v9))] ∧ Sep No w W' [ae (sv v9) 23 1 (fun (l : List Int)=>D.row 3 1 (l.map (D.int .i64))) y7,ae (sv v11) 3 1 (D.int .i64) x1]) hy6 ⟨sb z,hS.to [0,0]⟩ ?_) ?_
 ·intro s2 y8 E W h hI
  obtain ⟨hE,hS⟩:=hI
  refine CW.sub hE ?_
  unfold kN at h
  refine .seq (.g (.q z (.q z ?_)))
  have ⟨y9,hy9,h⟩:=bnd h
  refine .c (.cS (L0:=[ae (sv v9) 23 1 (fun (l : List Int)=>D.row 3 1 (l.map (D.int .i64))) s2]) hS Tryz.func191 (fun S h1 h2 h3=>(rh hy9 (hS.ks q_0 h1) h2 (zz h1))) z z ?_)
  rintro ⟨⟩ W hS
  refine .nil ?_
  refine .cs z h ?_ ?_ <;> intro h
  ·refine .skip (.block (.skip ?_))
   cases h
   exact ⟨z,sb z,hS.to [0,0]⟩
  refine .exit ?_
  cases h
  exact ⟨by simp,z,sb z,hS.to [0,0]⟩
 intro x E W hJ
 obtain ⟨rfl,hE,hS⟩:=hJ
 refine ⟨_,hE.sub,?_⟩
 refine .seq (.g (.qn z (.block ?_)))
 have ⟨y10,hy10,h⟩:=bnd h
 refine .via (.iter (fun s3 E' W'=>aK E' [(0,(sv v_0)),(3,(sv v9)),(5,iv s3.1)] ∧ Sep No w W' [ae (sv v9) 23 1 (fun (l : List Int)=>D.row 3 1 (l.map (D.int .i64))) s3.2,ae (sv v11) 3 1 (D.int .i64) x1]) (fun y11 x E' W'=>x = .exit 4 ∧ aK E' [(3,(sv v9))] ∧ Sep No w W' [ae (sv v9) 23 1 (fun (l : List Int)=>D.row 3 1 (l.map (D.int .i64))) y11,ae (sv v11) 3 1 (D.int .i64) x1]) hy10 ⟨sb z,hS.to [0,0]⟩ ?_) ?_
 ·intro s3 y12 E W h hI
  obtain ⟨hE,hS⟩:=hI
  refine CW.sub hE ?_
  unfold kO at h
  refine .seq (.g (.q z (.q z (.s (bq (hS.keep q_0) T.u78 z z) z (.q z (.nil ?_))))))
  refine .cs z h ?_ ?_ <;> intro h
  ·refine .skip ?_
   have ⟨y13,hy13,h⟩:=bnd h
   refine .seq (CW.via (R':=fun x E' W'=>x = .normal ∧ aK E' [(0,(sv v_0)),(3,(sv v9)),(5,iv s3.1)] ∧ Sep No w W' [ae (sv v9) 23 1 (fun (l : List Int)=>D.row 3 1 (l.map (D.int .i64))) y13,ae (sv v11) 3 1 (D.int .i64) x1]) ?_ ?_)
   ·have h:=hy13
    refine .block (.g (.q z (.q z ?_)))
    have ⟨x2,hx2,h⟩:=bnd h
    refine .s (ixv hS.lv hx2 T.u177 T.t23 z z z) z ?_
    obtain ⟨k2,hS⟩:=Sep.ov hS hx2
    obtain ⟨v12,k2,rfl,hS⟩:=hS.ow
    obtain ⟨rfl,hS⟩:=hS.oN
    refine .s (lde (hS.p1.hcellsv) T.t23 z z z z z) z (.s (bq hS.lv T.u23 z z) z (.q z (.nil ?_)))
    refine .cs z h ?_ ?_ <;> intro h
    ·refine .region (.q z (.q z ?_))
     have ⟨y14,hy14,h⟩:=bnd h
     refine .c (.cV hS Tryz.func190 (nK hy14) z z ?_)
     intro v13 W hS
     refine .s (ixh hS.p2 hx2 T.u177 T.t23 z z z) z (.c (.sthv hS.p2 T.t23 z z z ?_))
     intro W hS
     refine .nil ?_
     have hS:=Sep.gat (ds:=[.row 3 1 (y14.map (D.int .i64))]) (cs:=[(sv v13)]) (L1:=[ae (sv v13) 3 1 (D.int .i64) y14]) (.row (.nil)) (hS.to [1,0,0,0])
     have hS : Sep _ _ _ [ae (sv v9) 23 1 (fun (l : List Int)=>D.row 3 1 (l.map (D.int .i64))) (s3.2.set (Int.toNat s3.1) y14),ae (sv v12) 3 1 (D.int .i64) x2,ae (sv v11) 3 1 (D.int .i64) x1]:=hS.bv
     cases h
     exact ⟨z,sb z,hS.to [0,1]⟩
    refine .skip ?_
    have hS:=Sep.gat (ds:=[.row 3 1 (x2.map (D.int .i64))]) (cs:=[(sv v12)]) (L1:=[ae (sv v12) 3 1 (D.int .i64) x2]) (.row (.nil)) (hS.to [0,0,0])
    have hS : Sep _ _ _ [ae (sv v9) 23 1 (fun (l : List Int)=>D.row 3 1 (l.map (D.int .i64))) s3.2,ae (sv v11) 3 1 (D.int .i64) x1]:=Sep.back0v hx2 hS
    cases h
    exact ⟨z,sb z,hS.to [0,0]⟩
   intro x E W hJ
   obtain ⟨rfl,hE,hS⟩:=hJ
   refine ⟨_,hE.sub,?_⟩
   refine .region (.q z (.q z (.q z (.nil ?_))))
   cases h
   exact ⟨z,sb z,hS.to [0,0]⟩
  refine .exit ?_
  cases h
  exact ⟨by simp,z,sb z,hS.to [0,0]⟩
 intro x E W hJ
 obtain ⟨rfl,hE,hS⟩:=hJ
 refine ⟨_,hE.sub,?_⟩
 obtain rfl:=o9 h
 exact .g (.q z (.qn z (.ret (ab (vs:=[_]) v9 (rt z rn) z (hS.to [0])))))
theorem sn {a0 : al} {a1 : List Int} {v_1 : Hd} {w : World} {r : al} (h : jZ a0 a1 = some r) (q_1 : RO w v_1 3 1 (D.int .i64) a1) : Cl 171 #[.agg #[iv a0.Op,iv a0.Dst,iv a0.A,iv a0.B,iv a0.N],(sv v_1)] w (RU w (.agg #[iv r.Op,iv r.Dst,iv r.A,iv r.B,iv r.N])):=by
 unfold jZ at h
 refine ay Tryz.func171 z z ?_
 have hS:=Sep.start w
 refine .g (.c (.box hS z z ?_))
 intro g1 W hS
 refine .c (.alloc T.t107 hS ?_)
 intro g2 W hS
 refine .nil (.seq (.g (.s (fa T.f107_0 z z z) z (.s (ld T.t3 hS.p1 z z z z z) z (.nil (.block ?_))))))
 have ⟨y1,hy1,h⟩:=bnd h
 refine .seq (CW.via (R':=fun x E' W'=>x = .normal ∧ aK E' [(1,(sv v_1)),(2,pt g1),(4,pt g2),(6,iv a0.Op),(7,.bool y1)] ∧ Sep No w W' [.box g2 107 [iv 0,iv 0,iv 0,iv 0,iv 0],.box g1 107 [iv a0.Op,iv a0.Dst,iv a0.A,iv a0.B,iv a0.N]]) ?_ ?_)
 ·have h:=hy1
  refine .g (.q z (.q z (.nil ?_)))
  refine .cs z h ?_ ?_ <;> intro h
  ·refine .skip ?_
   cases h
   exact ⟨z,sb z,hS.to [0,0]⟩
  refine .g (.q z (.q z (.nil ?_)))
  refine .cs z h ?_ ?_ <;> intro h
  ·refine .skip ?_
   cases h
   exact ⟨z,sb z,hS.to [0,0]⟩
  refine .g (.q z (.q z (.nil ?_)))
  refine .cs z h ?_ ?_ <;> intro h
  ·refine .skip ?_
   cases h
   exact ⟨z,sb z,hS.to [0,0]⟩
  refine .region (.q z (.q z (.nil ?_)))
  cases h
  exact ⟨z,sb z,hS.to [0,0]⟩
 intro x E W hJ
 obtain ⟨rfl,hE,hS⟩:=hJ
 refine ⟨_,hE.sub,?_⟩
 refine .cs z h ?_ ?_ <;> intro h
 ·refine .region (.q z (.s (fa T.f107_2 z z z) z (.s (ld T.t3 hS.p1 z z z z z) z ?_)))
  have ⟨x1,hx1,h⟩:=bnd h
  refine .s (ixv (hS.keep q_1) hx1 T.u23 T.t3 z z z) z (.s (lde (RV.flat (hS.keep q_1) hx1 z) T.t3 z z z z z) z (.s (fa T.f107_2 z z z) z (.c (.st T.t3 hS.p1 z z z ?_))))
  intro W hS
  refine .nil (.g (.s (ld T.t107 hS z z z z z) z (.c (.st T.t107 hS.p1 z z z ?_))))
  intro W hS
  cases h
  exact .nil (.ret (ab (vs:=[_]) () (rc hS T.t107 z rn z z) z (hS.to [])))
 refine .g (.q z (.q z (.nil ?_)))
 refine .cs z h ?_ ?_ <;> intro h
 ·refine .g (.q z (.s (fa T.f107_2 z z z) z (.s (ld T.t3 hS.p1 z z z z z) z ?_)))
  have ⟨x2,hx2,h⟩:=bnd h
  refine .s (ixv (hS.keep q_1) hx2 T.u23 T.t3 z z z) z (.s (lde (RV.flat (hS.keep q_1) hx2 z) T.t3 z z z z z) z (.s (fa T.f107_2 z z z) z (.c (.st T.t3 hS.p1 z z z ?_))))
  intro W hS
  refine .nil (.region (.q z (.s (fa T.f107_3 z z z) z (.s (ld T.t3 hS z z z z z) z ?_))))
  have ⟨x3,hx3,h⟩:=bnd h
  refine .s (ixv (hS.keep q_1) hx3 T.u23 T.t3 z z z) z (.s (lde (RV.flat (hS.keep q_1) hx3 z) T.t3 z z z z z) z (.s (fa T.f107_3 z z z) z (.c (.st T.t3 hS z z z ?_))))
  intro W hS
  refine .nil (.g (.s (ld T.t107 hS z z z z z) z (.c (.st T.t107 hS.p1 z z z ?_))))
  intro W hS
  cases h
  exact .nil (.ret (ab (vs:=[_]) () (rc hS T.t107 z rn z z) z (hS.to [])))
 refine .skip (.g (.s (ld T.t107 hS.p1 z z z z z) z (.c (.st T.t107 hS z z z ?_))))
 intro W hS
 obtain rfl:=o9 h
 exact .nil (.ret (ab (vs:=[_]) () (rc hS T.t107 z rn z z) z (hS.to [])))
end
noncomputable section
theorem rj {a0 : List al} {v_0 : Hd} {w : World} {r : (List al) × Bool} (h : jc a0 = some r) (q_0 : RO w v_0 107 5 aX a0) : Cl 149 #[(sv v_0)] w (Ret No w (fun s : Hd=>.tuple #[(sv s),.bool r.2]) (fun s=>[ae (sv s) 107 5 aX r.1])):=by
 unfold jc at h
 refine ay Tryz.func149 z z ?_
 have hS:=Sep.start w
 refine .g (.q z (.qn z (.g (.c (.liv [] aX T.u78 T.t107 hS z z z z ?_ z (fun _=>z))))))
 intro v1 W hS
 refine .qn z (.seq (.g (.q z ?_)))
 have ⟨y1,hy1,h⟩:=bnd h
 refine .c (.cO hS Tryz.func124 (cz hy1 (hS.keep q_0)) z z ?_)
 intro W hS
 refine .q z (.nil ?_)
 refine .cs z h ?_ ?_ <;> intro h
 ·cases h
  exact .g (.q z (.q z (.qn z (.ret (ab (vs:=[_,_]) v1 (rt z (rt z rn)) z (hS.to [0]))))))
 refine .skip (.g (.q z ?_))
 have ⟨y2,hy2,h⟩:=bnd h
 refine .c (.cV hS Tryz.func170 (ri hy2 (hS.keep q_0)) z z ?_)
 intro v2 W hS
 refine .qn z (.seq (.g (.qn z (.block ?_))))
 have ⟨y3,hy3,h⟩:=bnd h
 refine .via (.iter (fun s1 E' W'=>∃ (v5 : Hd),aK E' [(0,(sv v_0)),(4,(sv v5)),(5,(sv v2)),(6,iv s1.2)] ∧ Sep No w W' [ae (sv v2) 23 1 (fun (l : List Int)=>D.row 3 1 (l.map (D.int .i64))) y2,ae (sv v5) 107 5 aX s1.1]) (fun y4 x E' W'=>x = .exit 0 ∧ ∃ (v6 : Hd),aK E' [(4,(sv v6))] ∧ Sep No w W' [ae (sv v2) 23 1 (fun (l : List Int)=>D.row 3 1 (l.map (D.int .i64))) y2,ae (sv v6) 107 5 aX y4]) hy3 ⟨v1,sb z,hS.to [0,0]⟩ ?_) ?_
 ·intro s1 y5 E W h hI
  obtain ⟨v4,hE,hS⟩:=hI
  refine CW.sub hE ?_
  unfold iu at h
  refine .seq (.g (.q z (.q z (.s (bq (hS.keep q_0) T.u78 z z) z (.q z (.nil ?_))))))
  refine .cs z h ?_ ?_ <;> intro h
  ·refine .skip (.seq (.block ?_))
   have ⟨x1,hx1,h⟩:=bnd h
   obtain ⟨k1,hS⟩:=Sep.ov hS hx1
   obtain ⟨v7,k1,rfl,hS⟩:=hS.ow
   obtain ⟨rfl,hS⟩:=hS.oN
   refine .rk 13 hS [0,0] T.mix ?_
   intro W hS
   have hT:=hS.to [0,0]
   refine .tp' 0 z z hT (.tp' 1 z z hT (.tp' 2 z z hT ?_))
   have ⟨x3,hx3,h⟩:=bnd h
   refine .ts' 3 z (fun W hT=>ixv (hS.keep q_0) hx3 T.u78 T.t107 z z z) hT z (.ts' 4 z (fun W hT=>lde (RV.flat (hT.keep q_0) hx3 z) T.t107 z z z z z) hT z (.tp' 5 z z hT (.tp' 6 z z hT (.ts' 7 z (fun W hT=>ixh hT.p1 hx1 T.u177 T.t23 z z z) hT z (.ts' 8 z (fun W hT=>lde (hT.p1.hcellsv) T.t23 z z z z z) hT z ?_)))))
   have ⟨y7,hy7,h⟩:=bnd h
   refine .by1 9 z (.cO hS Tryz.func171 (sn hy7 hS.lv) z z ?_)
   intro W hS
   have hT:=hS.to [0,0]
   refine ⟨fun _=>hT,.by1 10 z (.liv [y7] aX T.u78 T.t107 hS z z z z ?_ z (fun _=>z))⟩
   intro v10 W hS
   have hT:=hS.to [1,1]
   refine ⟨fun _=>hT,?_⟩
   have ⟨r2,hr2,h⟩:=bnd h
   have hT0:=hS.p3
   refine .by1 11 z (.av hr2 hT0 hT0.p1.lv (fun _=>z) T.u78 T.t107 z z z ?_)
   intro v11 W hS
   have hT:=hS.to [2,2]
   refine ⟨fun _=>hT,.tp' 12 z z hT (.done (.region (.q z (.q z (.q z (.nil ?_))))))⟩
   have hS:=Sep.gat (ds:=[.row 3 1 (x1.map (D.int .i64))]) (cs:=[(sv v7)]) (L1:=[ae (sv v7) 3 1 (D.int .i64) x1]) (.row (.nil)) (hS.to [2,2,0,0])
   have hS : Sep _ _ _ [ae (sv v2) 23 1 (fun (l : List Int)=>D.row 3 1 (l.map (D.int .i64))) y2,ae (sv v11) 107 5 aX r2,ae (sv v10) 107 5 aX [y7]]:=Sep.back0v hx1 hS
   cases h
   exact ⟨z,v11,sb z,hS.to [0,0]⟩
  refine .exit ?_
  cases h
  exact ⟨by simp,z,v4,sb z,hS.to [0,0]⟩
 intro x E W hJ
 obtain ⟨rfl,v12,hE,hS⟩:=hJ
 refine ⟨_,hE.sub,?_⟩
 cases h
 exact .g (.q z (.q z (.qn z (.ret (ab (vs:=[_,_]) v12 (rt z (rt z rn)) z (hS.to [1]))))))
def rl (w : World) (r : Int) : Env → World → Prop:=Fin Tryz.prog Tryz.f172 No w (fun s : Unit=>.int .i64 r) (fun s=>[]) .ret
theorem qh {a0 : List al} {a1 : Int} {v_0 : Hd} {w : World} {r : Int} (h : gR a0 a1 = some r) (q_0 : RO w v_0 107 5 aX a0) : Cl 172 #[(sv v_0),iv a1] w (RU w (.int .i64 r)):=by
 unfold gR at h
 refine ay Tryz.func172 z z ?_
 have hS:=Sep.start w
 refine .g (.qn z (.g (.q z (.qn z (.seq (.g (.qn z (.block ?_))))))))
 have ⟨y1,hy1,h⟩:=bnd h
 refine .via (.iter (fun s1 E' W'=>aK E' [(0,(sv v_0)),(1,iv a1),(5,iv s1.1),(6,iv s1.2)] ∧ Sep No w W' []) (fun y2 x E' W'=>(match y2 with | .inl o1=>x = .ret ∧ rl w o1 E' W' | .inr o2=>x = .exit 0 ∧ aK E' [(1,iv a1)] ∧ Sep No w W' [])) hy1 ⟨sb rfl,hS.to [] rfl⟩ ?_) ?_
 ·intro s1 y3 E W h hI
  obtain ⟨hE,hS⟩:=hI
  refine CW.sub hE ?_
  unfold j0 at h
  refine .seq (.g (.q z (.q z (.s (bq (hS.keep q_0) T.u78 z z) z (.q z (.nil ?_))))))
  refine .cs z h ?_ ?_ <;> intro h
  ·refine .skip (.seq (.block (.seq (.g (.q z (.q z ?_))))))
   have ⟨x1,hx1,h⟩:=bnd h
   refine .s (ixv (hS.keep q_0) hx1 T.u78 T.t107 z z z) z (.s (fe T.f107_0 z z z) z (.s (lde (RV.flat (hS.keep q_0) hx1 z) T.t3 z z z z z) z (.q z (.nil ?_))))
   refine .cs z h ?_ ?_ <;> intro h
   ·refine .g (.q z (.qn z (.ret ?_)))
    cases h
    exact ⟨by simp,z,ab (vs:=[_]) () (rt z rn) z (hS.to [])⟩
   refine .skip (.region (.q z (.q z ?_)))
   have ⟨x2,hx2,h⟩:=bnd h
   refine .s (ixv (hS.keep q_0) hx2 T.u78 T.t107 z z z) z (.s (fe T.f107_4 z z z) z (.s (lde (RV.flat (hS.keep q_0) hx2 z) T.t3 z z z z z) z (.qn z (.region (.q z (.q z (.q z (.nil ?_))))))))
   cases h
   exact ⟨z,sb z,hS.to []⟩
  refine .exit ?_
  cases h
  exact ⟨by simp,z,sb z,hS.to []⟩
 intro x E W hJ
 rcases y1 with o3 | o4
 ·obtain ⟨rfl,hF⟩:=hJ
  refine ⟨_,fun _ _ h=>h,?_⟩
  cases h
  exact hF
 obtain ⟨rfl,hE,hS⟩:=hJ
 refine ⟨_,hE.sub,?_⟩
 obtain rfl:=o9 h
 exact .g (.q z (.qn z (.ret (ab (vs:=[_]) () (rt z rn) z (hS.to [])))))
theorem ro {a0 : List al} {v_0 : Hd} {w : World} {r : (List al) × Bool} (h : jd a0 = some r) (q_0 : RO w v_0 107 5 aX a0) : Cl 150 #[(sv v_0)] w (Ret No w (fun s : Hd=>.tuple #[(sv s),.bool r.2]) (fun s=>[ae (sv s) 107 5 aX r.1])):=by
 unfold jd at h
 refine ay Tryz.func150 z z ?_
 have hS:=Sep.start w
 refine .g (.q z (.qn z (.g (.c (.liv [] aX T.u78 T.t107 hS z z z z ?_ z (fun _=>z))))))
 intro v1 W hS
 refine .qn z (.seq (.g (.q z ?_)))
 have ⟨y1,hy1,h⟩:=bnd h
 refine .c (.cO hS Tryz.func124 (cz hy1 (hS.keep q_0)) z z ?_)
 intro W hS
 refine .q z (.nil ?_)
 refine .cs z h ?_ ?_ <;> intro h
 ·cases h
  exact .g (.q z (.q z (.qn z (.ret (ab (vs:=[_,_]) v1 (rt z (rt z rn)) z (hS.to [0]))))))
 refine .skip (.seq (.g (.qn z (.block ?_))))
 have ⟨y2,hy2,h⟩:=bnd h
 refine .via (.iter (fun s1 E' W'=>∃ (v4 : Hd),aK E' [(0,(sv v_0)),(4,(sv v4)),(5,iv s1.2)] ∧ Sep No w W' [ae (sv v4) 107 5 aX s1.1]) (fun y3 x E' W'=>x = .exit 0 ∧ ∃ (v5 : Hd),aK E' [(4,(sv v5))] ∧ Sep No w W' [ae (sv v5) 107 5 aX y3]) hy2 ⟨v1,sb z,hS.to [0]⟩ ?_) ?_
 ·intro s1 y4 E W h hI
  obtain ⟨v3,hE,hS⟩:=hI
  refine CW.sub hE ?_
  unfold iw at h
  refine .seq (.g (.q z (.q z (.s (bq (hS.keep q_0) T.u78 z z) z (.q z (.nil ?_))))))
  refine .cs z h ?_ ?_ <;> intro h
  ·refine .skip (.seq (.block (.g (.q z (.q z ?_)))))
   have ⟨x1,hx1,h⟩:=bnd h
   refine .s (ixv (hS.keep q_0) hx1 T.u78 T.t107 z z z) z (.s (lde (RV.flat (hS.keep q_0) hx1 z) T.t107 z z z z z) z (.c (.alloc T.t107 hS ?_)))
   intro g1 W hS
   refine .c (.st T.t107 hS z z z ?_)
   intro W hS
   refine .nil ?_
   have ⟨y5,hy5,h⟩:=bnd h
   refine .seq (CW.via (R':=fun x E' W'=>x = .normal ∧ aK E' [(0,(sv v_0)),(4,(sv v3)),(5,iv s1.2),(6,pt g1)] ∧ Sep No w W' [.box g1 107 [iv y5.Op,iv y5.Dst,iv y5.A,iv y5.B,iv y5.N],ae (sv v3) 107 5 aX s1.1]) ?_ ?_)
   ·have h:=hy5
    refine .g (.s (fa T.f107_0 z z z) z (.s (ld T.t3 hS z z z z z) z (.q z (.q z (.cu 4 29 ((x1.Op == 4) || (x1.Op == 5)) hS ?_ ?_)))))
    ·refine .both (x1.Op == 4) (fun hb=>?_) (fun hb=>?_)
     ·exact .xx hb z (.xx hb z (.xx hb z (.s (pkt hb z z z) z (.nil (ck 4 hS z (ig hb))))))
     have hg1:=hb
     exact .g hg1 (.s (fa T.f107_0 z z z) z (.g hg1 (.s (ld T.t3 hS z z z z z) z (.g hg1 (.q z (.s (pkf hg1 z z z) z (.nil (ck 4 hS z (ij hg1)))))))))
    intro W hS
    refine .nil ?_
    refine .cs z h ?_ ?_ <;> intro h
    ·refine .region (.q z (.s (fa T.f107_4 z z z) z (.s (ld T.t3 hS z z z z z) z ?_)))
     have ⟨y6,hy6,h⟩:=bnd h
     refine .c (.cO hS Tryz.func172 (qh hy6 (hS.keep q_0)) z z ?_)
     intro W hS
     refine .s (fa T.f107_4 z z z) z (.c (.st T.t3 hS z z z ?_))
     intro W hS
     refine .nil ?_
     cases h
     exact ⟨z,sb z,hS.to [0,0]⟩
    refine .skip ?_
    obtain rfl:=o9 h
    exact ⟨z,sb z,hS.to [0,0]⟩
   intro x E W hJ
   obtain ⟨rfl,hE,hS⟩:=hJ
   refine ⟨_,hE.sub,?_⟩
   refine .region (.q z (.s (ld T.t107 hS z z z z z) z (.c (.liv [y5] aX T.u78 T.t107 hS z z z z ?_ z (fun _=>z)))))
   intro v6 W hS
   have ⟨r1,hr1,h⟩:=bnd h
   have hT0:=hS.p2
   refine .c (.av hr1 hT0 hT0.p1.lv (fun _=>z) T.u78 T.t107 z z z ?_)
   intro v7 W hS
   refine .qn z (.region (.q z (.q z (.q z (.nil ?_)))))
   cases h
   exact ⟨z,v7,sb z,hS.to [0]⟩
  refine .exit ?_
  cases h
  exact ⟨by simp,z,v3,sb z,hS.to [0]⟩
 intro x E W hJ
 obtain ⟨rfl,v8,hE,hS⟩:=hJ
 refine ⟨_,hE.sub,?_⟩
 cases h
 exact .g (.q z (.q z (.qn z (.ret (ab (vs:=[_,_]) v8 (rt z (rt z rn)) z (hS.to [0]))))))
theorem na {a0 : List al} {a1 : List (List Bool)} {a2 : Int} {v_0 : Hd} {v_1 : Hd} {w : World} {r : (List Bool)} (h : gv a0 a1 a2 = some r) (q_0 : RO w v_0 107 5 aX a0) (q_1 : RO w v_1 184 1 (fun (l : List Bool)=>D.row 4 1 (l.map D.bool)) a1) : Cl 175 #[(sv v_0),(sv v_1),iv a2] w (Ret No w (fun s : Hd=>(sv s)) (fun s=>[ae (sv s) 4 1 D.bool r])):=by
 unfold gv at h
 refine ay Tryz.func175 z z ?_
 have hS:=Sep.start w
 refine .g (.qn z (.seq (.region ?_)))
 have ⟨r1,hr1,h⟩:=bnd h
 refine .c (.mkv false D.bool hr1 T.u184 T.t4 hS z z z z z (fun _=>z) ?_)
 intro v1 W hS
 refine .qn z (.g (.q z (.q z ?_)))
 have ⟨y1,hy1,h⟩:=bnd h
 refine .c (.cV hS Tryz.func193 (jD hy1 (hS.keep q_0)) z z ?_)
 intro v2 W hS
 refine .qn z (.seq (.g (.qn z (.block ?_))))
 have ⟨y2,hy2,h⟩:=bnd h
 refine .via (.iter (fun s1 E' W'=>aK E' [(1,(sv v_1)),(7,(sv v1)),(8,(sv v2)),(9,iv s1.1)] ∧ Sep No w W' [ae (sv v2) 3 1 (D.int .i64) y1,ae (sv v1) 4 1 D.bool s1.2]) (fun y3 x E' W'=>x = .exit 0 ∧ aK E' [(7,(sv v1))] ∧ Sep No w W' [ae (sv v2) 3 1 (D.int .i64) y1,ae (sv v1) 4 1 D.bool y3]) hy2 ⟨sb z,hS.to [0,0]⟩ ?_) ?_
 ·intro s1 y4 E W h hI
  obtain ⟨hE,hS⟩:=hI
  refine CW.sub hE ?_
  unfold kQ at h
  refine .seq (.g (.q z (.q z (.s (bq hS.lv T.u23 z z) z (.q z (.nil ?_))))))
  refine .cs z h ?_ ?_ <;> intro h
  ·refine .skip (.seq (.block (.g (.qn z (.block ?_)))))
   have ⟨y5,hy5,h⟩:=bnd h
   refine .via (.iter (fun s2 E' W'=>aK E' [(1,(sv v_1)),(7,(sv v1)),(8,(sv v2)),(9,iv s1.1),(10,iv s2.1)] ∧ Sep No w W' [ae (sv v2) 3 1 (D.int .i64) y1,ae (sv v1) 4 1 D.bool s2.2]) (fun y6 x E' W'=>x = .exit 2 ∧ aK E' [(1,(sv v_1)),(7,(sv v1)),(8,(sv v2)),(9,iv s1.1)] ∧ Sep No w W' [ae (sv v2) 3 1 (D.int .i64) y1,ae (sv v1) 4 1 D.bool y6]) hy5 ⟨sb z,hS.to [0,0]⟩ ?_) ?_
   ·intro s2 y7 E W h hI
    obtain ⟨hE,hS⟩:=hI
    refine CW.sub hE ?_
    unfold kP at h
    refine .seq (.g (.q z (.q z (.nil ?_))))
    refine .cs z h ?_ ?_ <;> intro h
    ·refine .skip (.seq (.block (.region (.q z (.q z (.q z (.q z ?_)))))))
     have ⟨x1,hx1,h⟩:=bnd h
     refine .s (ixv hS.p1.lv hx1 T.u184 T.t4 z z z) z (.s (lde (RV.flat hS.p1.lv hx1 z) T.t4 z z z z z) z (.q z ?_))
     have ⟨b1,hb1,h⟩:=bnd h
     refine .cu 11 42 (b1) hS ?_ ?_
     ·refine .both (x1) (fun hb=>?_) (fun hb=>?_)
      ·refine .xx hb z (.xx hb z (.xx hb z (.xx hb z (.xx hb z (.xx hb z (.xx hb z (.xx hb z (.xx hb z (.xx hb z ?_)))))))))
       cases aI hb hb1
       exact .s (pkt hb z z z) z (.nil (ck 11 hS))
      have hg1:=hb
      have h:=aJ hb hb1
      refine .g hg1 (.q z (.g hg1 (.q z (.g hg1 (.q z ?_)))))
      have ⟨x2,hx2,h⟩:=bnd h
      refine .g hg1 (.s (ixv hS.lv hx2 T.u23 T.t3 z z z) z (.g hg1 (.s (lde (RV.flat hS.lv hx2 z) T.t3 z z z z z) z ?_)))
      have ⟨x3,hx3,h⟩:=bnd h
      obtain ⟨k1,hd,hck1⟩:=RV.el2 q_1 hx3
      obtain ⟨v3,k1,rfl,q1,hd1⟩:=dF q_1 hd
      obtain rfl:=lZ q_1 hd1
      refine .g hg1 (.s (ixv (hS.keep q_1) hx3 T.u181 T.t184 z z z) z (.g hg1 (.s (lde (hck1 _ hS.agree) T.t184 z z z z z) z (.g hg1 (.q z ?_)))))
      have ⟨x4,hx4,h⟩:=bnd h
      refine .g hg1 (.s (ixv (hS.keep (q1 _ q_1)) hx4 T.u184 T.t4 z z z) z (.g hg1 (.s (lde (RV.flat (hS.keep (q1 _ q_1)) hx4 z) T.t4 z z z z z) z (.s (pkf hg1 z z z) z ?_))))
      cases h
      exact .nil (ck 11 hS)
     intro W hS
     have ⟨x5,hx5,h⟩:=bnd h
     refine .s (ixv hS.p1.lv hx5 T.u184 T.t4 z z z) z ?_
     have ⟨r2,hr2,h⟩:=bnd h
     refine .c (.sev hr2 hx5 hS.p1 T.t4 z z z z z z ?_)
     intro W hS
     refine .nil (.region (.q z (.q z (.q z (.nil ?_)))))
     cases h
     exact ⟨z,sb z,hS.to [1,0]⟩
    refine .exit ?_
    cases h
    exact ⟨by simp,z,sb z,hS.to [0,0]⟩
   intro x E W hJ
   obtain ⟨rfl,hE,hS⟩:=hJ
   refine ⟨_,hE.sub,?_⟩
   refine .region (.q z (.q z (.q z (.nil ?_))))
   cases h
   exact ⟨z,sb z,hS.to [0,0]⟩
  refine .exit ?_
  cases h
  exact ⟨by simp,z,sb z,hS.to [0,0]⟩
 intro x E W hJ
 obtain ⟨rfl,hE,hS⟩:=hJ
 refine ⟨_,hE.sub,?_⟩
 obtain rfl:=o9 h
 exact .g (.q z (.qn z (.ret (ab (vs:=[_]) v1 (rt z rn) z (hS.to [1])))))
theorem rp {a0 : al} {w : World} {r : (List Int)} (h : je a0 = some r) : Cl 209 #[.agg #[iv a0.Op,iv a0.Dst,iv a0.A,iv a0.B,iv a0.N]] w (Ret No w (fun s : Hd=>(sv s)) (fun s=>[ae (sv s) 3 1 (D.int .i64) r])):=by
 unfold je at h
 refine ay Tryz.func209 z z ?_
 have hS:=Sep.start w
 refine .g (.c (.box hS z z ?_))
 intro g1 W hS
 refine .qn z (.seq (.g (.s (ld T.t107 hS z z z z z) z ?_)))
 have ⟨y1,hy1,h⟩:=bnd h
 refine .c (.cO hS Tryz.func147 (kr hy1) z z ?_)
 intro W hS
 refine .q z (.nil ?_)
 refine .cs z h ?_ ?_ <;> intro h
 ·refine .g (.c (.liv [] (D.int .i64) T.u23 T.t3 hS z z z z ?_ z (fun _=>z)))
  intro v1 W hS
  cases h
  exact .qn z (.ret (ab (vs:=[_]) v1 (rt z rn) z (hS.to [0])))
 refine .skip (.seq (.g (.s (fa T.f107_0 z z z) z (.s (ld T.t3 hS z z z z z) z (.nil (.block ?_))))))
 have ⟨y2,hy2,h⟩:=bnd h
 refine .seq (CW.via (R':=fun x E' W'=>x = .normal ∧ aK E' [(1,pt g1),(8,iv a0.Op),(9,.bool y2)] ∧ Sep No w W' [.box g1 107 [iv a0.Op,iv a0.Dst,iv a0.A,iv a0.B,iv a0.N]]) ?_ ?_)
 ·have h:=hy2
  refine .g (.q z (.q z (.nil ?_)))
  refine .cs z h ?_ ?_ <;> intro h
  ·refine .skip ?_
   cases h
   exact ⟨z,sb z,hS.to [0]⟩
  refine .g (.q z (.q z (.nil ?_)))
  refine .cs z h ?_ ?_ <;> intro h
  ·refine .skip ?_
   cases h
   exact ⟨z,sb z,hS.to [0]⟩
  refine .g (.q z (.q z (.nil ?_)))
  refine .cs z h ?_ ?_ <;> intro h
  ·refine .skip ?_
   cases h
   exact ⟨z,sb z,hS.to [0]⟩
  refine .region (.q z (.q z (.nil ?_)))
  cases h
  exact ⟨z,sb z,hS.to [0]⟩
 intro x E W hJ
 obtain ⟨rfl,hE,hS⟩:=hJ
 refine ⟨_,hE.sub,?_⟩
 refine .cs z h ?_ ?_ <;> intro h
 ·refine .g (.s (fa T.f107_2 z z z) z (.s (ld T.t3 hS z z z z z) z (.c (.liv [a0.A] (D.int .i64) T.u23 T.t3 hS z z z z ?_ z (fun _=>z)))))
  intro v2 W hS
  cases h
  exact .qn z (.ret (ab (vs:=[_]) v2 (rt z rn) z (hS.to [0])))
 refine .g (.q z (.q z (.nil ?_)))
 refine .cs z h ?_ ?_ <;> intro h
 ·refine .seq (.g (.s (fa T.f107_2 z z z) z (.s (ld T.t3 hS z z z z z) z (.s (fa T.f107_3 z z z) z (.s (ld T.t3 hS z z z z z) z (.q z (.nil ?_)))))))
  refine .cs z h ?_ ?_ <;> intro h
  ·refine .g (.s (fa T.f107_2 z z z) z (.s (ld T.t3 hS z z z z z) z (.c (.liv [a0.A] (D.int .i64) T.u23 T.t3 hS z z z z ?_ z (fun _=>z)))))
   intro v3 W hS
   cases h
   exact .qn z (.ret (ab (vs:=[_]) v3 (rt z rn) z (hS.to [0])))
  refine .skip (.g (.s (fa T.f107_2 z z z) z (.s (ld T.t3 hS z z z z z) z (.s (fa T.f107_3 z z z) z (.s (ld T.t3 hS z z z z z) z (.s (mnv z z z) z (.s (fa T.f107_2 z z z) z (.s (ld T.t3 hS z z z z z) z (.s (fa T.f107_3 z z z) z (.s (ld T.t3 hS z z z z z) z (.s (mxv z z z) z (.c (.liv [min a0.A a0.B,max a0.A a0.B] (D.int .i64) T.u23 T.t3 hS z z z z ?_ z (fun _=>z))))))))))))))
  intro v4 W hS
  cases h
  exact .qn z (.ret (ab (vs:=[_]) v4 (rt z rn) z (hS.to [0])))
 refine .skip (.g (.c (.liv [] (D.int .i64) T.u23 T.t3 hS z z z z ?_ z (fun _=>z))))
 intro v5 W hS
 cases h
 exact .qn z (.ret (ab (vs:=[_]) v5 (rt z rn) z (hS.to [0])))
theorem qi {a0 : al} {a1 : List Bool} {v_1 : Hd} {w : World} {r : (List Bool)} (h : gS a0 a1 = some r) (q_1 : RO w v_1 4 1 D.bool a1) : Cl 204 #[.agg #[iv a0.Op,iv a0.Dst,iv a0.A,iv a0.B,iv a0.N],(sv v_1)] w (Ret No w (fun s : Hd=>(sv s)) (fun s=>[ae (sv s) 4 1 D.bool r])):=by
 unfold gS at h
 refine ay Tryz.func204 z z ?_
 have hS:=Sep.start w
 refine .g (.c (.box hS z z ?_))
 intro g1 W hS
 refine .qn z (.g (.c (.liv [] D.bool T.u184 T.t4 hS z z z z ?_ z (fun _=>z))))
 intro v1 W hS
 refine .q z ?_
 have ⟨r1,hr1,h⟩:=bnd h
 refine .c (.av hr1 hS (hS.keep q_1) (fun _=>z) T.u184 T.t4 z z z ?_)
 intro v2 W hS
 refine .q z (.nil ?_)
 have ⟨y1,hy1,h⟩:=bnd h
 refine .seq (CW.via (R':=fun x E' W'=>x = .normal ∧ aK E' [(2,pt g1),(5,(sv v2))] ∧ Sep No w W' [ae (sv v2) 4 1 D.bool y1,.box g1 107 [iv a0.Op,iv a0.Dst,iv a0.A,iv a0.B,iv a0.N]]) ?_ ?_)
 ·have h:=hy1
  refine .g (.s (ld T.t107 hS.p1 z z z z z) z ?_)
  have ⟨y2,hy2,h⟩:=bnd h
  refine .c (.cO hS Tryz.func208 (kZ hy2) z z ?_)
  intro W hS
  refine .q z (.nil ?_)
  refine .cs z h ?_ ?_ <;> intro h
  ·refine .region (.q z (.s (ld T.t107 hS.p1 z z z z z) z ?_))
   have ⟨y3,hy3,h⟩:=bnd h
   refine .c (.cO hS Tryz.func208 (kZ hy3) z z ?_)
   intro W hS
   have ⟨x1,hx1,h⟩:=bnd h
   refine .s (ixv hS.lv hx1 T.u184 T.t4 z z z) z ?_
   have ⟨r2,hr2,h⟩:=bnd h
   refine .c (.sev hr2 hx1 hS T.t4 z z z z z z ?_)
   intro W hS
   refine .nil ?_
   obtain rfl:=o9 h
   exact ⟨z,sb z,hS.to [0,0]⟩
  refine .skip ?_
  obtain rfl:=o9 h
  exact ⟨z,sb z,hS.to [0,0]⟩
 intro x E W hJ
 obtain ⟨rfl,hE,hS⟩:=hJ
 refine ⟨_,hE.sub,?_⟩
 refine .g (.s (ld T.t107 hS.p1 z z z z z) z ?_)
 have ⟨y4,hy4,h⟩:=bnd h
 refine .c (.cV hS Tryz.func209 (rp hy4) z z ?_)
 intro v3 W hS
 refine .qn z (.seq (.g (.qn z (.block ?_))))
 have ⟨y5,hy5,h⟩:=bnd h
 refine .via (.iter (fun s1 E' W'=>aK E' [(5,(sv v2)),(6,(sv v3)),(7,iv s1.1)] ∧ Sep No w W' [ae (sv v3) 3 1 (D.int .i64) y4,ae (sv v2) 4 1 D.bool s1.2,.box g1 107 [iv a0.Op,iv a0.Dst,iv a0.A,iv a0.B,iv a0.N]]) (fun y6 x E' W'=>x = .exit 0 ∧ aK E' [(5,(sv v2))] ∧ Sep No w W' [ae (sv v3) 3 1 (D.int .i64) y4,ae (sv v2) 4 1 D.bool y6,.box g1 107 [iv a0.Op,iv a0.Dst,iv a0.A,iv a0.B,iv a0.N]]) hy5 ⟨sb z,hS.to [0,0,0]⟩ ?_) ?_
 ·intro s1 y7 E W h hI
  obtain ⟨hE,hS⟩:=hI
  refine CW.sub hE ?_
  unfold j1 at h
  refine .seq (.g (.q z (.q z (.s (bq hS.lv T.u23 z z) z (.q z (.nil ?_))))))
  refine .cs z h ?_ ?_ <;> intro h
  ·refine .skip (.seq (.block (.region (.q z (.q z (.q z ?_))))))
   have ⟨x2,hx2,h⟩:=bnd h
   refine .s (ixv hS.lv hx2 T.u23 T.t3 z z z) z (.s (lde (RV.flat hS.lv hx2 z) T.t3 z z z z z) z ?_)
   have ⟨x3,hx3,h⟩:=bnd h
   refine .s (ixv hS.p1.lv hx3 T.u184 T.t4 z z z) z ?_
   have ⟨r3,hr3,h⟩:=bnd h
   refine .c (.sev hr3 hx3 hS.p1 T.t4 z z z z z z ?_)
   intro W hS
   refine .nil (.region (.q z (.q z (.q z (.nil ?_)))))
   cases h
   exact ⟨z,sb z,hS.to [1,0,0]⟩
  refine .exit ?_
  cases h
  exact ⟨by simp,z,sb z,hS.to [0,0,0]⟩
 intro x E W hJ
 obtain ⟨rfl,hE,hS⟩:=hJ
 refine ⟨_,hE.sub,?_⟩
 obtain rfl:=o9 h
 exact .g (.q z (.qn z (.ret (ab (vs:=[_]) v2 (rt z rn) z (hS.to [1])))))
def ud (w : World) (r : Bool) : Env → World → Prop:=Fin Tryz.prog Tryz.f205 No w (fun s : Unit=>.bool r) (fun s=>[]) .ret
theorem so {a0 : List Bool} {a1 : List Bool} {v_0 : Hd} {v_1 : Hd} {w : World} {r : Bool} (h : j2 a0 a1 = some r) (q_0 : RO w v_0 4 1 D.bool a0) (q_1 : RO w v_1 4 1 D.bool a1) : Cl 205 #[(sv v_0),(sv v_1)] w (RU w (.bool r)):=by
 unfold j2 at h
 refine ay Tryz.func205 z z ?_
 have hS:=Sep.start w
 refine .g (.qn z (.seq (.g (.qn z (.block ?_)))))
 have ⟨y1,hy1,h⟩:=bnd h
 refine .via (.iter (fun s1 E' W'=>aK E' [(0,(sv v_0)),(1,(sv v_1)),(5,iv s1)] ∧ Sep No w W' []) (fun y2 x E' W'=>(match y2 with | .inl o1=>x = .ret ∧ ud w o1 E' W' | .inr o2=>x = .exit 0 ∧ aK E' [(0,(sv v_0)),(1,(sv v_1))] ∧ Sep No w W' [])) hy1 ⟨sb rfl,hS.to [] rfl⟩ ?_) ?_
 ·intro s1 y3 E W h hI
  obtain ⟨hE,hS⟩:=hI
  refine CW.sub hE ?_
  unfold lG at h
  refine .seq (.g (.q z (.q z (.s (bq (hS.keep q_0) T.u184 z z) z (.q z (.nil ?_))))))
  refine .cs z h ?_ ?_ <;> intro h
  ·refine .skip (.seq (.block (.seq (.rk 9 hS [] T.mix ?_))))
   intro W hS
   have hT:=hS.to []
   refine .tp' 0 z z hT (.tp' 1 z z hT ?_)
   have ⟨x1,hx1,h⟩:=bnd h
   refine .ts' 2 z (fun W hT=>ixv (hS.keep q_0) hx1 T.u184 T.t4 z z z) hT z (.ts' 3 z (fun W hT=>lde (RV.flat (hT.keep q_0) hx1 z) T.t4 z z z z z) hT z (.tp' 4 z z hT (.tp' 5 z z hT ?_)))
   have ⟨x2,hx2,h⟩:=bnd h
   refine .ts' 6 z (fun W hT=>ixv (hS.keep q_1) hx2 T.u184 T.t4 z z z) hT z (.ts' 7 z (fun W hT=>lde (RV.flat (hT.keep q_1) hx2 z) T.t4 z z z z z) hT z (.ts' 8 z (fun W hT=>neb T.u4 z z z) hT z (.done ?_)))
   refine .cs z h ?_ ?_ <;> intro h
   ·refine .g (.qn z (.ret ?_))
    cases h
    exact ⟨by simp,z,ab (vs:=[_]) () (rt z rn) z (hS.to [])⟩
   refine .skip (.region (.q z (.q z (.q z (.nil ?_)))))
   cases h
   exact ⟨z,sb z,hS.to []⟩
  refine .exit ?_
  cases h
  exact ⟨by simp,z,sb z,hS.to []⟩
 intro x E W hJ
 rcases y1 with o3 | o4
 ·obtain ⟨rfl,hF⟩:=hJ
  refine ⟨_,fun _ _ h=>h,?_⟩
  cases h
  exact hF
 obtain ⟨rfl,hE,hS⟩:=hJ
 refine ⟨_,hE.sub,?_⟩
 cases h
 exact .g (.q z (.s (bq (hS.keep q_0) T.u184 z z) z (.q z (.s (bq (hS.keep q_1) T.u184 z z) z (.q z (.qn z (.ret (ab (vs:=[_]) () (rt z rn) z (hS.to [])))))))))
theorem rq {a0 : List al} {a1 : List (List Bool)} {v_0 : Hd} {v_1 : Hd} {S : Nat → Prop} {w : World} {r : Bool × (List (List Bool))} (h : jf a0 a1 = some r) (q_0 : RV w (Old S w) (sv v_0) 107 5 aX a0) (hO : bG w [ae (sv v_1) 184 1 (fun (l : List Bool)=>D.row 4 1 (l.map D.bool)) a1] S) (hlt : ∀ b,S b → b < w.heap.size) : Cl 192 #[(sv v_0),(sv v_1)] w (Ret S w (fun s : Unit=>.bool r.1) (fun s=>[ae (sv v_1) 184 1 (fun (l : List Bool)=>D.row 4 1 (l.map D.bool)) r.2])):=by
 unfold jf at h
 refine ay Tryz.func192 z z ?_
 have hS:=Sep.sm hO hlt
 refine .g (.qn z (.g (.qn z (.seq (.g (.q z (.s (bq (hS.keep q_0) T.u78 z z) z (.q z (.qn z (.block ?_))))))))))
 have ⟨y1,hy1,h⟩:=bnd h
 refine .via (.iter (fun s1 E' W'=>aK E' [(0,(sv v_0)),(1,(sv v_1)),(5,.bool s1.1),(6,iv s1.2.1)] ∧ Sep S w W' [ae (sv v_1) 184 1 (fun (l : List Bool)=>D.row 4 1 (l.map D.bool)) s1.2.2]) (fun y2 x E' W'=>x = .exit 0 ∧ aK E' [(5,.bool y2.1)] ∧ Sep S w W' [ae (sv v_1) 184 1 (fun (l : List Bool)=>D.row 4 1 (l.map D.bool)) y2.2]) hy1 ⟨sb z,hS.to [0]⟩ ?_) ?_
 ·intro s1 y3 E W h hI
  obtain ⟨hE,hS⟩:=hI
  refine CW.sub hE ?_
  unfold kR at h
  refine .seq (.g (.q z (.q z (.nil ?_))))
  refine .cs z h ?_ ?_ <;> intro h
  ·refine .skip ?_
   have ⟨y4,hy4,h⟩:=bnd h
   refine .seq (CW.via (R':=fun x E' W'=>x = .normal ∧ aK E' [(0,(sv v_0)),(1,(sv v_1)),(5,.bool y4.1),(6,iv s1.2.1)] ∧ Sep S w W' [ae (sv v_1) 184 1 (fun (l : List Bool)=>D.row 4 1 (l.map D.bool)) y4.2]) ?_ ?_)
   ·have h:=hy4
    refine .block (.seq (.rk 10 hS [0] T.mix ?_))
    intro W hS
    have hT:=hS.to [0]
    refine .tp' 0 z z hT (.tp' 1 z z hT ?_)
    have ⟨x1,hx1,h⟩:=bnd h
    refine .ts' 2 z (fun W hT=>ixv (hS.keep q_0) hx1 T.u78 T.t107 z z z) hT z (.ts' 3 z (fun W hT=>lde (RV.flat (hT.keep q_0) hx1 z) T.t107 z z z z z) hT z (.tp' 4 z z hT (.tp' 5 z z hT (.tp' 6 z z hT ?_))))
    have ⟨y5,hy5,h⟩:=bnd h
    refine .by1 7 z (.cV hS Tryz.func175 (na hy5 (hS.keep q_0) hS.lv) z z ?_)
    intro v1 W hS
    have hT:=hS.to [1]
    refine ⟨fun _=>hT,?_⟩
    have ⟨y6,hy6,h⟩:=bnd h
    refine .by1 8 z (.cV hS Tryz.func204 (qi hy6 hS.lv) z z ?_)
    intro v2 W hS
    have hT:=hS.to [2]
    refine ⟨fun _=>hT,.tp' 9 z z hT (.done (.g (.q z (.q z (.q z ?_)))))⟩
    have ⟨x2,hx2,h⟩:=bnd h
    refine .s (ixv hS.p2.lv hx2 T.u181 T.t184 z z z) z ?_
    obtain ⟨k1,hS⟩:=Sep.ov hS.p2 hx2
    obtain ⟨v3,k1,rfl,hS⟩:=hS.ow
    obtain ⟨rfl,hS⟩:=hS.oN
    refine .s (lde (hS.p1.hcellsv) T.t184 z z z z z) z ?_
    have ⟨y7,hy7,h⟩:=bnd h
    refine .c (.cO hS Tryz.func205 (so hy7 hS.p2.lv hS.lv) z z ?_)
    intro W hS
    refine .q z (.nil ?_)
    refine .cs z h ?_ ?_ <;> intro h
    ·refine .g (.q z (.q z (.q z (.s (ixh hS.p1 hx2 T.u181 T.t184 z z z) z (.c (.sthv hS.p1 T.t184 z z z ?_))))))
     intro W hS
     refine .nil (.region (.q z (.nil ?_)))
     have hS:=Sep.gat (ds:=[.row 4 1 (y6.map D.bool)]) (cs:=[(sv v2)]) (L1:=[ae (sv v2) 4 1 D.bool y6]) (.row (.nil)) (hS.to [2,0,0,0])
     have hS : Sep _ _ _ [ae (sv v_1) 184 1 (fun (l : List Bool)=>D.row 4 1 (l.map D.bool)) (s1.2.2.set (Int.toNat s1.2.1) y6),ae (sv v3) 4 1 D.bool x2,ae (sv v1) 4 1 D.bool y5]:=hS.bv
     cases h
     exact ⟨z,sb z,hS.to [0]⟩
    refine .skip ?_
    have hS:=Sep.gat (ds:=[.row 4 1 (x2.map D.bool)]) (cs:=[(sv v3)]) (L1:=[ae (sv v3) 4 1 D.bool x2]) (.row (.nil)) (hS.to [0,0,0,0])
    have hS : Sep _ _ _ [ae (sv v_1) 184 1 (fun (l : List Bool)=>D.row 4 1 (l.map D.bool)) s1.2.2,ae (sv v2) 4 1 D.bool y6,ae (sv v1) 4 1 D.bool y5]:=Sep.back0v hx2 hS
    cases h
    exact ⟨z,sb z,hS.to [0]⟩
   intro x E W hJ
   obtain ⟨rfl,hE,hS⟩:=hJ
   refine ⟨_,hE.sub,?_⟩
   refine .region (.q z (.q z (.q z (.nil ?_))))
   cases h
   exact ⟨z,sb z,hS.to [0]⟩
  refine .exit ?_
  cases h
  exact ⟨by simp,z,sb z,hS.to [0]⟩
 intro x E W hJ
 obtain ⟨rfl,hE,hS⟩:=hJ
 refine ⟨_,hE.sub,?_⟩
 cases h
 exact .g (.q z (.qn z (.ret (ab (vs:=[_]) () (rt z rn) z (hS.to [0])))))
theorem ue {a0 : List al} {v_0 : Hd} {w : World} {r : (List (List Bool))} (h : lw a0 = some r) (q_0 : RO w v_0 107 5 aX a0) : Cl 173 #[(sv v_0)] w (Ret No w (fun s : Hd=>(sv s)) (fun s=>[ae (sv s) 184 1 (fun (l : List Bool)=>D.row 4 1 (l.map D.bool)) r])):=by
 unfold lw at h
 refine ay Tryz.func173 z z ?_
 have hS:=Sep.start w
 refine .g (.qn z (.g (.c (.lg (L1:=[]) [] (fun (l : List Bool)=>D.row 4 1 (l.map D.bool)) T.u181 T.t184 (hS.to []) z z z (.nil) ?_ z (fun _=>z)))))
 intro v1 W hS
 refine .qn z (.seq (.g (.q z ?_)))
 have ⟨y1,hy1,h⟩:=bnd h
 refine .c (.cO hS Tryz.func124 (cz hy1 (hS.keep q_0)) z z ?_)
 intro W hS
 refine .qn z (.cond z (fun hb=>?_) (fun hb=>?_))
 ·have h:=aI hb h
  cases h
  exact .g (.q z (.qn z (.ret (ab (vs:=[_]) v1 (rt z rn) z (hS.to [0])))))
 have h:=aJ hb h
 refine .skip (.seq (.g (.qn z (.block ?_))))
 have ⟨y2,hy2,h⟩:=bnd h
 refine .via (.iter (fun s1 E' W'=>∃ (v4 : Hd),aK E' [(0,(sv v_0)),(3,(sv v4)),(4,iv s1.2)] ∧ Sep No w W' [ae (sv v4) 184 1 (fun (l : List Bool)=>D.row 4 1 (l.map D.bool)) s1.1]) (fun y3 x E' W'=>x = .exit 0 ∧ ∃ (v5 : Hd),aK E' [(0,(sv v_0)),(3,(sv v5))] ∧ Sep No w W' [ae (sv v5) 184 1 (fun (l : List Bool)=>D.row 4 1 (l.map D.bool)) y3]) hy2 ⟨v1,sb z,hS.to [0]⟩ ?_) ?_
 ·intro s1 y4 E W h hI
  obtain ⟨v3,hE,hS⟩:=hI
  refine CW.sub hE ?_
  unfold md at h
  refine .seq (.g (.q z (.q z (.s (bq (hS.keep q_0) T.u78 z z) z (.q z (.nil ?_))))))
  refine .cs z h ?_ ?_ <;> intro h
  ·refine .skip (.seq (.block (.region (.q z ?_))))
   have ⟨r1,hr1,h⟩:=bnd h
   refine .c (.mkv false D.bool hr1 T.u184 T.t4 hS z z z z z (fun _=>z) ?_)
   intro v6 W hS
   refine .c (.lg (L1:=[ae (sv v6) 4 1 D.bool r1]) [r1] (fun (l : List Bool)=>D.row 4 1 (l.map D.bool)) T.u181 T.t184 (hS.to [0,0]) z z z (.row (.nil)) ?_ z (fun _=>z))
   intro v7 W hS
   have ⟨r2,hr2,h⟩:=bnd h
   refine .c (.appv hr2 (hS.to [1,0]) T.u181 T.t184 z z z ?_)
   intro v8 W hS
   refine .qn z (.region (.q z (.q z (.q z (.nil ?_)))))
   cases h
   exact ⟨z,v8,sb z,hS.to [0]⟩
  refine .exit ?_
  cases h
  exact ⟨by simp,z,v3,sb z,hS.to [0]⟩
 intro x E W hJ
 obtain ⟨rfl,v9,hE,hS⟩:=hJ
 refine ⟨_,hE.sub,?_⟩
 refine .seq (.block ?_)
 have ⟨y5,hy5,h⟩:=bnd h
 refine .via (.iter (fun s2 E' W'=>aK E' [(0,(sv v_0)),(3,(sv v9))] ∧ Sep No w W' [ae (sv v9) 184 1 (fun (l : List Bool)=>D.row 4 1 (l.map D.bool)) s2]) (fun y6 x E' W'=>x = .exit 2 ∧ aK E' [(3,(sv v9))] ∧ Sep No w W' [ae (sv v9) 184 1 (fun (l : List Bool)=>D.row 4 1 (l.map D.bool)) y6]) hy5 ⟨sb z,hS.to [0]⟩ ?_) ?_
 ·intro s2 y7 E W h hI
  obtain ⟨hE,hS⟩:=hI
  refine CW.sub hE ?_
  unfold me at h
  refine .seq (.g (.q z (.q z ?_)))
  have ⟨y8,hy8,h⟩:=bnd h
  refine .c (.cS (L0:=[ae (sv v9) 184 1 (fun (l : List Bool)=>D.row 4 1 (l.map D.bool)) s2]) hS Tryz.func192 (fun S h1 h2 h3=>(rq hy8 (hS.ks q_0 h1) h2 (zz h1))) z z ?_)
  rintro ⟨⟩ W hS
  refine .nil ?_
  refine .cs z h ?_ ?_ <;> intro h
  ·refine .skip (.block (.skip ?_))
   cases h
   exact ⟨z,sb z,hS.to [0]⟩
  refine .exit ?_
  cases h
  exact ⟨by simp,z,sb z,hS.to [0]⟩
 intro x E W hJ
 obtain ⟨rfl,hE,hS⟩:=hJ
 refine ⟨_,hE.sub,?_⟩
 obtain rfl:=o9 h
 exact .g (.q z (.qn z (.ret (ab (vs:=[_]) v9 (rt z rn) z (hS.to [0])))))
theorem sq {a0 : al} {a1 : List Bool} {v_1 : Hd} {w : World} {r : Bool} (h : j3 a0 a1 = some r) (q_1 : RO w v_1 4 1 D.bool a1) : Cl 174 #[.agg #[iv a0.Op,iv a0.Dst,iv a0.A,iv a0.B,iv a0.N],(sv v_1)] w (RU w (.bool r)):=by
 unfold j3 at h
 refine ay Tryz.func174 z z ?_
 have hS:=Sep.start w
 refine .g (.c (.box hS z z ?_))
 intro g1 W hS
 refine .qn z (.seq (.g (.s (fa T.f107_0 z z z) z (.s (ld T.t3 hS z z z z z) z (.nil (.block ?_))))))
 have ⟨y1,hy1,h⟩:=bnd h
 refine .seq (CW.via (R':=fun x E' W'=>x = .normal ∧ aK E' [(1,(sv v_1)),(2,pt g1),(7,.bool y1)] ∧ Sep No w W' [.box g1 107 [iv a0.Op,iv a0.Dst,iv a0.A,iv a0.B,iv a0.N]]) ?_ ?_)
 ·have h:=hy1
  refine .g (.q z (.q z (.nil ?_)))
  refine .cs z h ?_ ?_ <;> intro h
  ·refine .skip ?_
   cases h
   exact ⟨z,sb z,hS.to [0]⟩
  refine .g (.q z (.q z (.nil ?_)))
  refine .cs z h ?_ ?_ <;> intro h
  ·refine .skip ?_
   cases h
   exact ⟨z,sb z,hS.to [0]⟩
  refine .region (.q z (.q z (.nil ?_)))
  cases h
  exact ⟨z,sb z,hS.to [0]⟩
 intro x E W hJ
 obtain ⟨rfl,hE,hS⟩:=hJ
 refine ⟨_,hE.sub,?_⟩
 refine .cs z h ?_ ?_ <;> intro h
 ·refine .g (.q z (.s (fa T.f107_1 z z z) z (.s (ld T.t3 hS z z z z z) z ?_)))
  have ⟨x1,hx1,h⟩:=bnd h
  cases h
  exact .s (ixv (hS.keep q_1) hx1 T.u184 T.t4 z z z) z (.s (lde (RV.flat (hS.keep q_1) hx1 z) T.t4 z z z z z) z (.q z (.qn z (.ret (ab (vs:=[_]) () (rt z rn) z (hS.to []))))))
 obtain rfl:=o9 h
 exact .skip (.g (.qn z (.ret (ab (vs:=[_]) () (rt z rn) z (hS.to [])))))
theorem rr {a0 : List al} {v_0 : Hd} {w : World} {r : (List al) × Bool} (h : jg a0 = some r) (q_0 : RO w v_0 107 5 aX a0) : Cl 151 #[(sv v_0)] w (Ret No w (fun s : Hd=>.tuple #[(sv s),.bool r.2]) (fun s=>[ae (sv s) 107 5 aX r.1])):=by
 unfold jg at h
 refine ay Tryz.func151 z z ?_
 have hS:=Sep.start w
 refine .g (.q z (.qn z (.g (.c (.liv [] aX T.u78 T.t107 hS z z z z ?_ z (fun _=>z))))))
 intro v1 W hS
 refine .qn z (.seq (.g (.q z ?_)))
 have ⟨y1,hy1,h⟩:=bnd h
 refine .c (.cO hS Tryz.func124 (cz hy1 (hS.keep q_0)) z z ?_)
 intro W hS
 refine .q z (.nil ?_)
 refine .cs z h ?_ ?_ <;> intro h
 ·cases h
  exact .g (.q z (.q z (.qn z (.ret (ab (vs:=[_,_]) v1 (rt z (rt z rn)) z (hS.to [0]))))))
 refine .skip (.g (.q z ?_))
 have ⟨y2,hy2,h⟩:=bnd h
 refine .c (.cV hS Tryz.func173 (ue hy2 (hS.keep q_0)) z z ?_)
 intro v2 W hS
 refine .qn z (.seq (.g (.qn z (.block ?_))))
 have ⟨y3,hy3,h⟩:=bnd h
 refine .via (.iter (fun s1 E' W'=>∃ (v5 : Hd),aK E' [(0,(sv v_0)),(4,(sv v5)),(5,(sv v2)),(6,iv s1.2)] ∧ Sep No w W' [ae (sv v2) 184 1 (fun (l : List Bool)=>D.row 4 1 (l.map D.bool)) y2,ae (sv v5) 107 5 aX s1.1]) (fun y4 x E' W'=>x = .exit 0 ∧ ∃ (v6 : Hd),aK E' [(4,(sv v6))] ∧ Sep No w W' [ae (sv v2) 184 1 (fun (l : List Bool)=>D.row 4 1 (l.map D.bool)) y2,ae (sv v6) 107 5 aX y4]) hy3 ⟨v1,sb z,hS.to [0,0]⟩ ?_) ?_
 ·intro s1 y5 E W h hI
  obtain ⟨v4,hE,hS⟩:=hI
  refine CW.sub hE ?_
  unfold iy at h
  refine .seq (.g (.q z (.q z (.s (bq (hS.keep q_0) T.u78 z z) z (.q z (.nil ?_))))))
  refine .cs z h ?_ ?_ <;> intro h
  ·refine .skip (.seq (.block (.g (.q z (.q z ?_)))))
   have ⟨x1,hx1,h⟩:=bnd h
   refine .s (ixv (hS.keep q_0) hx1 T.u78 T.t107 z z z) z (.s (lde (RV.flat (hS.keep q_0) hx1 z) T.t107 z z z z z) z (.c (.alloc T.t107 hS ?_)))
   intro g1 W hS
   refine .c (.st T.t107 hS z z z ?_)
   intro W hS
   refine .nil ?_
   have ⟨y6,hy6,h⟩:=bnd h
   refine .seq (CW.via (R':=fun x E' W'=>x = .normal ∧ aK E' [(0,(sv v_0)),(4,(sv v4)),(5,(sv v2)),(6,iv s1.2),(7,pt g1)] ∧ Sep No w W' [.box g1 107 [iv y6.Op,iv y6.Dst,iv y6.A,iv y6.B,iv y6.N],ae (sv v2) 184 1 (fun (l : List Bool)=>D.row 4 1 (l.map D.bool)) y2,ae (sv v4) 107 5 aX s1.1]) ?_ ?_)
   ·have h:=hy6
    refine .seq (.rk 6 hS [0,0,0] T.mix ?_)
    intro W hS
    have hT:=hS.to [0,0,0]
    refine .ts' 0 z (fun W hT=>ld T.t107 hT z z z z z) hT z (.tp' 1 z z hT (.tp' 2 z z hT (.tp' 3 z z hT ?_)))
    have ⟨y7,hy7,h⟩:=bnd h
    refine .by1 4 z (.cV hS Tryz.func175 (na hy7 (hS.keep q_0) hS.p1.lv) z z ?_)
    intro v7 W hS
    have hT:=hS.to [1,1,1]
    refine ⟨fun _=>hT,?_⟩
    have ⟨y8,hy8,h⟩:=bnd h
    refine .by1 5 z (.cO hS Tryz.func174 (sq hy8 hS.lv) z z ?_)
    intro W hS
    have hT:=hS.to [1,1,1]
    refine ⟨fun _=>hT,.done ?_⟩
    refine .cs z h ?_ ?_ <;> intro h
    ·refine .region (.q z (.q z (.s (bs T.s107 z z) z (.c (.st T.t107 hS.p1 z z z ?_)))))
     intro W hS
     refine .nil ?_
     cases h
     exact ⟨z,sb z,hS.to [0,1,1]⟩
    refine .skip ?_
    obtain rfl:=o9 h
    exact ⟨z,sb z,hS.to [1,1,1]⟩
   intro x E W hJ
   obtain ⟨rfl,hE,hS⟩:=hJ
   refine ⟨_,hE.sub,?_⟩
   refine .region (.q z (.s (ld T.t107 hS z z z z z) z (.c (.liv [y6] aX T.u78 T.t107 hS z z z z ?_ z (fun _=>z)))))
   intro v8 W hS
   have ⟨r1,hr1,h⟩:=bnd h
   have hT0:=hS.p3
   refine .c (.av hr1 hT0 hT0.p1.lv (fun _=>z) T.u78 T.t107 z z z ?_)
   intro v9 W hS
   refine .qn z (.region (.q z (.q z (.q z (.nil ?_)))))
   cases h
   exact ⟨z,v9,sb z,hS.to [3,0]⟩
  refine .exit ?_
  cases h
  exact ⟨by simp,z,v4,sb z,hS.to [0,0]⟩
 intro x E W hJ
 obtain ⟨rfl,v10,hE,hS⟩:=hJ
 refine ⟨_,hE.sub,?_⟩
 cases h
 exact .g (.q z (.q z (.qn z (.ret (ab (vs:=[_,_]) v10 (rt z (rt z rn)) z (hS.to [1]))))))
theorem qj {a0 : List al} {a1 : List Bool} {v_0 : Hd} {v_1 : Hd} {S : Nat → Prop} {w : World} {r : Bool × (List Bool)} (h : gU a0 a1 = some r) (q_0 : RV w (Old S w) (sv v_0) 107 5 aX a0) (hO : bG w [ae (sv v_1) 4 1 D.bool a1] S) (hlt : ∀ b,S b → b < w.heap.size) : Cl 194 #[(sv v_0),(sv v_1)] w (Ret S w (fun s : Unit=>.bool r.1) (fun s=>[ae (sv v_1) 4 1 D.bool r.2])):=by
 unfold gU at h
 refine ay Tryz.func194 z z ?_
 have hS:=Sep.sm hO hlt
 refine .g (.qn z (.g (.qn z (.seq (.g (.qn z (.block ?_)))))))
 have ⟨y1,hy1,h⟩:=bnd h
 refine .via (.iter (fun s1 E' W'=>aK E' [(0,(sv v_0)),(1,(sv v_1)),(5,.bool s1.1),(6,iv s1.2.1)] ∧ Sep S w W' [ae (sv v_1) 4 1 D.bool s1.2.2]) (fun y2 x E' W'=>x = .exit 0 ∧ aK E' [(5,.bool y2.1)] ∧ Sep S w W' [ae (sv v_1) 4 1 D.bool y2.2]) hy1 ⟨sb z,hS.to [0]⟩ ?_) ?_
 ·intro s1 y3 E W h hI
  obtain ⟨hE,hS⟩:=hI
  refine CW.sub hE ?_
  unfold j5 at h
  refine .seq (.g (.q z (.q z (.s (bq (hS.keep q_0) T.u78 z z) z (.q z (.nil ?_))))))
  refine .cs z h ?_ ?_ <;> intro h
  ·refine .skip ?_
   have ⟨y4,hy4,h⟩:=bnd h
   refine .seq (CW.via (R':=fun x E' W'=>x = .normal ∧ aK E' [(0,(sv v_0)),(1,(sv v_1)),(5,.bool y4.1),(6,iv s1.2.1)] ∧ Sep S w W' [ae (sv v_1) 4 1 D.bool y4.2]) ?_ ?_)
   ·have h:=hy4
    refine .block (.seq (.g (.q z (.q z ?_))))
    have ⟨x1,hx1,h⟩:=bnd h
    refine .s (ixv hS.lv hx1 T.u184 T.t4 z z z) z (.s (lde (RV.flat hS.lv hx1 z) T.t4 z z z z z) z (.q z (.nil ?_)))
    refine .cs z h ?_ ?_ <;> intro h
    ·refine .exit ?_
     cases h
     exact ⟨z,sb z,hS.to [0]⟩
    refine .skip (.g (.q z (.q z ?_)))
    have ⟨y5,hy5,h⟩:=bnd h
    refine .c (.cV hS Tryz.func193 (jD hy5 (hS.keep q_0)) z z ?_)
    intro v1 W hS
    refine .qn z (.g (.qn z (.block ?_)))
    have ⟨y6,hy6,h⟩:=bnd h
    refine .via (.iter (fun s2 E' W'=>aK E' [(0,(sv v_0)),(1,(sv v_1)),(5,.bool s2.1),(6,iv s1.2.1),(7,(sv v1)),(8,iv s2.2.1)] ∧ Sep S w W' [ae (sv v1) 3 1 (D.int .i64) y5,ae (sv v_1) 4 1 D.bool s2.2.2]) (fun y7 x E' W'=>x = .exit 2 ∧ aK E' [(0,(sv v_0)),(1,(sv v_1)),(5,.bool y7.1),(6,iv s1.2.1)] ∧ Sep S w W' [ae (sv v1) 3 1 (D.int .i64) y5,ae (sv v_1) 4 1 D.bool y7.2]) hy6 ⟨sb z,hS.to [0,0]⟩ ?_) ?_
    ·intro s2 y8 E W h hI
     obtain ⟨hE,hS⟩:=hI
     refine CW.sub hE ?_
     unfold j4 at h
     refine .seq (.g (.q z (.q z (.s (bq hS.lv T.u23 z z) z (.q z (.nil ?_))))))
     refine .cs z h ?_ ?_ <;> intro h
     ·refine .skip ?_
      have ⟨y9,hy9,h⟩:=bnd h
      refine .seq (CW.via (R':=fun x E' W'=>x = .normal ∧ aK E' [(0,(sv v_0)),(1,(sv v_1)),(5,.bool y9.1),(6,iv s1.2.1),(7,(sv v1)),(8,iv s2.2.1)] ∧ Sep S w W' [ae (sv v1) 3 1 (D.int .i64) y5,ae (sv v_1) 4 1 D.bool y9.2]) ?_ ?_)
      ·have h:=hy9
       refine .block (.g (.q z (.q z (.q z ?_))))
       have ⟨x2,hx2,h⟩:=bnd h
       refine .s (ixv hS.lv hx2 T.u23 T.t3 z z z) z (.s (lde (RV.flat hS.lv hx2 z) T.t3 z z z z z) z ?_)
       have ⟨x3,hx3,h⟩:=bnd h
       refine .s (ixv hS.p1.lv hx3 T.u184 T.t4 z z z) z (.s (lde (RV.flat hS.p1.lv hx3 z) T.t4 z z z z z) z (.q z (.nil ?_)))
       refine .cs z h ?_ ?_ <;> intro h
       ·refine .g (.q z (.q z (.q z ?_)))
        have ⟨x4,hx4,h⟩:=bnd h
        refine .s (ixv hS.lv hx4 T.u23 T.t3 z z z) z (.s (lde (RV.flat hS.lv hx4 z) T.t3 z z z z z) z ?_)
        have ⟨x5,hx5,h⟩:=bnd h
        refine .s (ixv hS.p1.lv hx5 T.u184 T.t4 z z z) z ?_
        have ⟨r1,hr1,h⟩:=bnd h
        refine .c (.sev hr1 hx5 hS.p1 T.t4 z z z z z z ?_)
        intro W hS
        refine .nil (.region (.q z (.nil ?_)))
        cases h
        exact ⟨z,sb z,hS.to [1,0]⟩
       refine .skip ?_
       cases h
       exact ⟨z,sb z,hS.to [0,0]⟩
      intro x E W hJ
      obtain ⟨rfl,hE,hS⟩:=hJ
      refine ⟨_,hE.sub,?_⟩
      refine .region (.q z (.q z (.q z (.nil ?_))))
      cases h
      exact ⟨z,sb z,hS.to [0,0]⟩
     refine .exit ?_
     cases h
     exact ⟨by simp,z,sb z,hS.to [0,0]⟩
    intro x E W hJ
    obtain ⟨rfl,hE,hS⟩:=hJ
    refine ⟨_,hE.sub,?_⟩
    cases h
    exact ⟨z,sb z,hS.to [1]⟩
   intro x E W hJ
   obtain ⟨rfl,hE,hS⟩:=hJ
   refine ⟨_,hE.sub,?_⟩
   refine .region (.q z (.q z (.q z (.nil ?_))))
   cases h
   exact ⟨z,sb z,hS.to [0]⟩
  refine .exit ?_
  cases h
  exact ⟨by simp,z,sb z,hS.to [0]⟩
 intro x E W hJ
 obtain ⟨rfl,hE,hS⟩:=hJ
 refine ⟨_,hE.sub,?_⟩
 cases h
 exact .g (.q z (.qn z (.ret (ab (vs:=[_]) () (rt z rn) z (hS.to [0])))))
theorem qk {a0 : List al} {v_0 : Hd} {w : World} {r : (List Bool)} (h : gV a0 = some r) (q_0 : RO w v_0 107 5 aX a0) : Cl 176 #[(sv v_0)] w (Ret No w (fun s : Hd=>(sv s)) (fun s=>[ae (sv s) 4 1 D.bool r])):=by
 unfold gV at h
 refine ay Tryz.func176 z z ?_
 have hS:=Sep.start w
 refine .g (.qn z (.seq (.g (.q z ?_))))
 have ⟨y1,hy1,h⟩:=bnd h
 refine .c (.cO hS Tryz.func124 (cz hy1 (hS.keep q_0)) z z ?_)
 intro W hS
 refine .qn z (.cond z (fun hb=>?_) (fun hb=>?_))
 ·have h:=aI hb h
  refine .g (.c (.liv [] D.bool T.u184 T.t4 hS z z z z ?_ z (fun _=>z)))
  intro v1 W hS
  cases h
  exact .qn z (.ret (ab (vs:=[_]) v1 (rt z rn) z (hS.to [0])))
 have h:=aJ hb h
 refine .skip (.g (.q z (.s (bq (hS.keep q_0) T.u78 z z) z ?_)))
 have ⟨r1,hr1,h⟩:=bnd h
 refine .c (.mkv false D.bool hr1 T.u184 T.t4 hS z z z z z (fun _=>z) ?_)
 intro v2 W hS
 refine .qn z (.g (.q z ?_))
 have ⟨x1,hx1,h⟩:=bnd h
 refine .s (ixv hS.lv hx1 T.u184 T.t4 z z z) z ?_
 have ⟨r2,hr2,h⟩:=bnd h
 refine .c (.sev hr2 hx1 hS T.t4 z z z z z z ?_)
 intro W hS
 refine .nil (.seq (.block ?_))
 have ⟨y2,hy2,h⟩:=bnd h
 refine .via (.iter (fun s1 E' W'=>aK E' [(0,(sv v_0)),(3,(sv v2))] ∧ Sep No w W' [ae (sv v2) 4 1 D.bool s1]) (fun y3 x E' W'=>x = .exit 0 ∧ aK E' [(3,(sv v2))] ∧ Sep No w W' [ae (sv v2) 4 1 D.bool y3]) hy2 ⟨sb z,hS.to [0]⟩ ?_) ?_
 ·intro s1 y4 E W h hI
  obtain ⟨hE,hS⟩:=hI
  refine CW.sub hE ?_
  unfold j6 at h
  refine .seq (.g (.q z (.q z ?_)))
  have ⟨y5,hy5,h⟩:=bnd h
  refine .c (.cS (L0:=[ae (sv v2) 4 1 D.bool s1]) hS Tryz.func194 (fun S h1 h2 h3=>(qj hy5 (hS.ks q_0 h1) h2 (zz h1))) z z ?_)
  rintro ⟨⟩ W hS
  refine .nil ?_
  refine .cs z h ?_ ?_ <;> intro h
  ·refine .skip (.block (.skip ?_))
   cases h
   exact ⟨z,sb z,hS.to [0]⟩
  refine .exit ?_
  cases h
  exact ⟨by simp,z,sb z,hS.to [0]⟩
 intro x E W hJ
 obtain ⟨rfl,hE,hS⟩:=hJ
 refine ⟨_,hE.sub,?_⟩
 obtain rfl:=o9 h
 exact .g (.q z (.qn z (.ret (ab (vs:=[_]) v2 (rt z rn) z (hS.to [0])))))
theorem sr {a0 : al} {a1 : Int} {w : World} {r : Bool} (h : j7 a0 a1 = some r) : Cl 177 #[.agg #[iv a0.Op,iv a0.Dst,iv a0.A,iv a0.B,iv a0.N],iv a1] w (RU w (.bool r)):=by
 unfold j7 at h
 refine ay Tryz.func177 z z ?_
 have hS:=Sep.start w
 refine .g (.c (.box hS z z ?_))
 intro g1 W hS
 refine .qn z (.seq (.g (.s (fa T.f107_0 z z z) z (.s (ld T.t3 hS z z z z z) z (.nil (.block ?_))))))
 have ⟨y1,hy1,h⟩:=bnd h
 refine .seq (CW.via (R':=fun x E' W'=>x = .normal ∧ aK E' [(1,iv a1),(2,pt g1),(6,iv a0.Op),(7,.bool y1)] ∧ Sep No w W' [.box g1 107 [iv a0.Op,iv a0.Dst,iv a0.A,iv a0.B,iv a0.N]]) ?_ ?_)
 ·have h:=hy1
  refine .g (.q z (.q z (.nil ?_)))
  refine .cs z h ?_ ?_ <;> intro h
  ·refine .skip ?_
   cases h
   exact ⟨z,sb z,hS.to [0]⟩
  refine .region (.q z (.q z (.nil ?_)))
  cases h
  exact ⟨z,sb z,hS.to [0]⟩
 intro x E W hJ
 obtain ⟨rfl,hE,hS⟩:=hJ
 refine ⟨_,hE.sub,?_⟩
 refine .cs z h ?_ ?_ <;> intro h
 ·cases h
  exact .g (.s (fa T.f107_4 z z z) z (.s (ld T.t3 hS z z z z z) z (.q z (.q z (.q z (.qn z (.ret (ab (vs:=[_]) () (rt z rn) z (hS.to [])))))))))
 refine .g (.q z (.q z (.nil ?_)))
 refine .cs z h ?_ ?_ <;> intro h
 ·cases h
  exact .g (.s (fa T.f107_1 z z z) z (.s (ld T.t3 hS z z z z z) z (.s (fa T.f107_2 z z z) z (.s (ld T.t3 hS z z z z z) z (.q z (.qn z (.ret (ab (vs:=[_]) () (rt z rn) z (hS.to [])))))))))
 obtain rfl:=o9 h
 exact .skip (.g (.qn z (.ret (ab (vs:=[_]) () (rt z rn) z (hS.to [])))))
theorem ru {a0 : List Bool} {a1 : Int} {v_0 : Hd} {w : World} {r : Int} (h : jh a0 a1 = some r) (q_0 : RO w v_0 4 1 D.bool a0) : Cl 178 #[(sv v_0),iv a1] w (RU w (.int .i64 r)):=by
 unfold jh at h
 refine ay Tryz.func178 z z ?_
 have hS:=Sep.start w
 refine .g (.qn z (.g (.qn z (.seq (.g (.qn z (.block ?_)))))))
 have ⟨y1,hy1,h⟩:=bnd h
 refine .via (.iter (fun s1 E' W'=>aK E' [(0,(sv v_0)),(1,iv a1),(5,iv s1.1),(6,iv s1.2)] ∧ Sep No w W' []) (fun y2 x E' W'=>x = .exit 0 ∧ aK E' [(5,iv y2)] ∧ Sep No w W' []) hy1 ⟨sb z,hS.to []⟩ ?_) ?_
 ·intro s1 y3 E W h hI
  obtain ⟨hE,hS⟩:=hI
  refine CW.sub hE ?_
  unfold kS at h
  refine .seq (.g (.q z (.q z (.q z (.nil ?_)))))
  refine .cs z h ?_ ?_ <;> intro h
  ·refine .skip ?_
   have ⟨y4,hy4,h⟩:=bnd h
   refine .seq (CW.via (R':=fun x E' W'=>x = .normal ∧ aK E' [(0,(sv v_0)),(1,iv a1),(5,iv y4),(6,iv s1.2)] ∧ Sep No w W' []) ?_ ?_)
   ·have h:=hy4
    refine .block (.g (.q z (.q z ?_)))
    have ⟨x1,hx1,h⟩:=bnd h
    refine .s (ixv (hS.keep q_0) hx1 T.u184 T.t4 z z z) z (.s (lde (RV.flat (hS.keep q_0) hx1 z) T.t4 z z z z z) z (.nil ?_))
    refine .cs z h ?_ ?_ <;> intro h
    ·refine .region (.q z (.q z (.q z (.nil ?_))))
     cases h
     exact ⟨z,sb z,hS.to []⟩
    refine .skip ?_
    cases h
    exact ⟨z,sb z,hS.to []⟩
   intro x E W hJ
   obtain ⟨rfl,hE,hS⟩:=hJ
   refine ⟨_,hE.sub,?_⟩
   refine .region (.q z (.q z (.q z (.nil ?_))))
   cases h
   exact ⟨z,sb z,hS.to []⟩
  refine .exit ?_
  cases h
  exact ⟨by simp,z,sb z,hS.to []⟩
 intro x E W hJ
 obtain ⟨rfl,hE,hS⟩:=hJ
 refine ⟨_,hE.sub,?_⟩
 obtain rfl:=o9 h
 exact .g (.q z (.qn z (.ret (ab (vs:=[_]) () (rt z rn) z (hS.to [])))))
theorem oQ {a0 : List al} {v_0 : Hd} {w : World} {r : (List al) × Bool} (h : fD a0 = some r) (q_0 : RO w v_0 107 5 aX a0) : Cl 152 #[(sv v_0)] w (Ret No w (fun s : Hd=>.tuple #[(sv s),.bool r.2]) (fun s=>[ae (sv s) 107 5 aX r.1])):=by
 unfold fD at h
 refine ay Tryz.func152 z z ?_
 have hS:=Sep.start w
 refine .g (.q z (.qn z (.g (.c (.liv [] aX T.u78 T.t107 hS z z z z ?_ z (fun _=>z))))))
 intro v1 W hS
 refine .qn z (.seq (.g (.q z ?_)))
 have ⟨y1,hy1,h⟩:=bnd h
 refine .c (.cO hS Tryz.func124 (cz hy1 (hS.keep q_0)) z z ?_)
 intro W hS
 refine .q z (.nil ?_)
 refine .cs z h ?_ ?_ <;> intro h
 ·cases h
  exact .g (.q z (.q z (.qn z (.ret (ab (vs:=[_,_]) v1 (rt z (rt z rn)) z (hS.to [0]))))))
 refine .skip (.g (.q z ?_))
 have ⟨y2,hy2,h⟩:=bnd h
 refine .c (.cV hS Tryz.func176 (qk hy2 (hS.keep q_0)) z z ?_)
 intro v2 W hS
 refine .qn z (.seq (.g (.qn z (.block ?_))))
 have ⟨y3,hy3,h⟩:=bnd h
 refine .via (.iter (fun s1 E' W'=>aK E' [(0,(sv v_0)),(4,(sv v1)),(5,(sv v2)),(6,iv s1.1)] ∧ Sep No w W' [ae (sv v2) 4 1 D.bool s1.2,ae (sv v1) 107 5 aX []]) (fun y4 x E' W'=>x = .exit 0 ∧ aK E' [(0,(sv v_0)),(4,(sv v1)),(5,(sv v2))] ∧ Sep No w W' [ae (sv v2) 4 1 D.bool y4,ae (sv v1) 107 5 aX []]) hy3 ⟨sb z,hS.to [0,0]⟩ ?_) ?_
 ·intro s1 y5 E W h hI
  obtain ⟨hE,hS⟩:=hI
  refine CW.sub hE ?_
  unfold iR at h
  refine .seq (.g (.q z (.q z (.s (bq (hS.keep q_0) T.u78 z z) z (.q z (.nil ?_))))))
  refine .cs z h ?_ ?_ <;> intro h
  ·refine .skip (.seq (.block (.region (.q z (.q z (.q z (.q z ?_)))))))
   have ⟨x1,hx1,h⟩:=bnd h
   refine .s (ixv hS.lv hx1 T.u184 T.t4 z z z) z (.s (lde (RV.flat hS.lv hx1 z) T.t4 z z z z z) z (.q z ?_))
   have ⟨b1,hb1,h⟩:=bnd h
   refine .cu 8 36 (b1) hS ?_ ?_
   ·refine .both (x1) (fun hb=>?_) (fun hb=>?_)
    ·have hg1:=hb
     have h:=aI hb hb1
     refine .g hg1 (.q z (.g hg1 (.q z ?_)))
     have ⟨x2,hx2,h⟩:=bnd h
     refine .g hg1 (.s (ixv (hS.keep q_0) hx2 T.u78 T.t107 z z z) z (.g hg1 (.s (lde (RV.flat (hS.keep q_0) hx2 z) T.t107 z z z z z) z (.g hg1 (.q z ?_)))))
     have ⟨y6,hy6,h⟩:=bnd h
     refine .g hg1 (.c (.cO hS Tryz.func177 (sr hy6) z z ?_))
     intro W hS
     refine .g hg1 (.q z (.s (pkt hg1 z z z) z ?_))
     cases h
     exact .nil (ck 8 hS)
    refine .xx hb z (.xx hb z (.xx hb z (.xx hb z (.xx hb z (.xx hb z (.xx hb z ?_))))))
    cases aJ hb hb1
    exact .s (pkf hb z z z) z (.nil (ck 8 hS))
   intro W hS
   have ⟨x3,hx3,h⟩:=bnd h
   refine .s (ixv hS.lv hx3 T.u184 T.t4 z z z) z ?_
   have ⟨r1,hr1,h⟩:=bnd h
   refine .c (.sev hr1 hx3 hS T.t4 z z z z z z ?_)
   intro W hS
   refine .nil (.region (.q z (.q z (.q z (.nil ?_)))))
   cases h
   exact ⟨z,sb z,hS.to [0,0]⟩
  refine .exit ?_
  cases h
  exact ⟨by simp,z,sb z,hS.to [0,0]⟩
 intro x E W hJ
 obtain ⟨rfl,hE,hS⟩:=hJ
 refine ⟨_,hE.sub,?_⟩
 refine .seq (.g (.qn z (.block ?_)))
 have ⟨y7,hy7,h⟩:=bnd h
 refine .via (.iter (fun s2 E' W'=>∃ (v5 : Hd),aK E' [(0,(sv v_0)),(4,(sv v5)),(5,(sv v2)),(7,iv s2.2)] ∧ Sep No w W' [ae (sv v2) 4 1 D.bool y3,ae (sv v5) 107 5 aX s2.1]) (fun y8 x E' W'=>x = .exit 2 ∧ ∃ (v6 : Hd),aK E' [(4,(sv v6))] ∧ Sep No w W' [ae (sv v2) 4 1 D.bool y3,ae (sv v6) 107 5 aX y8]) hy7 ⟨v1,sb z,hS.to [0,0]⟩ ?_) ?_
 ·intro s2 y9 E W h hI
  obtain ⟨v4,hE,hS⟩:=hI
  refine CW.sub hE ?_
  unfold iU at h
  refine .seq (.g (.q z (.q z (.s (bq (hS.keep q_0) T.u78 z z) z (.q z (.nil ?_))))))
  refine .cs z h ?_ ?_ <;> intro h
  ·refine .skip ?_
   have ⟨y10,hy10,h⟩:=bnd h
   refine .seq (CW.via (R':=fun x E' W'=>x = .normal ∧ ∃ (v7 : Hd),aK E' [(0,(sv v_0)),(4,(sv v7)),(5,(sv v2)),(7,iv s2.2)] ∧ Sep No w W' [ae (sv v2) 4 1 D.bool y3,ae (sv v7) 107 5 aX y10]) ?_ ?_)
   ·have h:=hy10
    refine .block (.g (.q z (.q z ?_)))
    have ⟨x4,hx4,h⟩:=bnd h
    refine .s (ixv (hS.keep q_0) hx4 T.u78 T.t107 z z z) z (.s (lde (RV.flat (hS.keep q_0) hx4 z) T.t107 z z z z z) z (.c (.alloc T.t107 hS ?_)))
    intro g1 W hS
    refine .c (.st T.t107 hS z z z ?_)
    intro W hS
    refine .nil (.seq (.g (.q z (.q z ?_))))
    have ⟨x5,hx5,h⟩:=bnd h
    refine .s (ixv hS.p1.lv hx5 T.u184 T.t4 z z z) z (.s (lde (RV.flat hS.p1.lv hx5 z) T.t4 z z z z z) z (.q z (.nil ?_)))
    refine .cs z h ?_ ?_ <;> intro h
    ·refine .exit ?_
     cases h
     exact ⟨z,v4,sb z,hS.to [1,1]⟩
    refine .skip ?_
    have ⟨y11,hy11,h⟩:=bnd h
    refine .seq (CW.via (R':=fun x E' W'=>x = .normal ∧ aK E' [(0,(sv v_0)),(4,(sv v4)),(5,(sv v2)),(7,iv s2.2),(8,pt g1)] ∧ Sep No w W' [.box g1 107 [iv y11.Op,iv y11.Dst,iv y11.A,iv y11.B,iv y11.N],ae (sv v2) 4 1 D.bool y3,ae (sv v4) 107 5 aX s2.1]) ?_ ?_)
    ·have h:=hy11
     refine .g (.s (fa T.f107_0 z z z) z (.s (ld T.t3 hS z z z z z) z (.q z (.q z (.cu 4 60 ((x4.Op == 4) || (x4.Op == 5)) hS ?_ ?_)))))
     ·refine .both (x4.Op == 4) (fun hb=>?_) (fun hb=>?_)
      ·exact .xx hb z (.xx hb z (.xx hb z (.s (pkt hb z z z) z (.nil (ck 4 hS z (ig hb))))))
      have hg2:=hb
      exact .g hg2 (.s (fa T.f107_0 z z z) z (.g hg2 (.s (ld T.t3 hS z z z z z) z (.g hg2 (.q z (.s (pkf hg2 z z z) z (.nil (ck 4 hS z (ij hg2)))))))))
     intro W hS
     refine .nil ?_
     refine .cs z h ?_ ?_ <;> intro h
     ·refine .region (.q z (.s (fa T.f107_4 z z z) z (.s (ld T.t3 hS z z z z z) z ?_)))
      have ⟨y12,hy12,h⟩:=bnd h
      refine .c (.cO hS Tryz.func178 (ru hy12 hS.p1.lv) z z ?_)
      intro W hS
      refine .s (fa T.f107_4 z z z) z (.c (.st T.t3 hS z z z ?_))
      intro W hS
      refine .nil ?_
      cases h
      exact ⟨z,sb z,hS.to [0,0,0]⟩
     refine .skip ?_
     obtain rfl:=o9 h
     exact ⟨z,sb z,hS.to [0,0,0]⟩
    intro x E W hJ
    obtain ⟨rfl,hE,hS⟩:=hJ
    refine ⟨_,hE.sub,?_⟩
    refine .region (.q z (.s (ld T.t107 hS z z z z z) z (.c (.liv [y11] aX T.u78 T.t107 hS z z z z ?_ z (fun _=>z)))))
    intro v8 W hS
    have ⟨r2,hr2,h⟩:=bnd h
    have hT0:=hS.p3
    refine .c (.av hr2 hT0 hT0.p1.lv (fun _=>z) T.u78 T.t107 z z z ?_)
    intro v9 W hS
    refine .q z (.nil ?_)
    obtain rfl:=o9 h
    exact ⟨z,v9,sb z,hS.to [3,0]⟩
   intro x E W hJ
   obtain ⟨rfl,v10,hE,hS⟩:=hJ
   refine ⟨_,hE.sub,?_⟩
   refine .region (.q z (.q z (.q z (.nil ?_))))
   cases h
   exact ⟨z,v10,sb z,hS.to [0,0]⟩
  refine .exit ?_
  cases h
  exact ⟨by simp,z,v4,sb z,hS.to [0,0]⟩
 intro x E W hJ
 obtain ⟨rfl,v11,hE,hS⟩:=hJ
 refine ⟨_,hE.sub,?_⟩
 cases h
 exact .g (.q z (.q z (.qn z (.ret (ab (vs:=[_,_]) v11 (rt z (rt z rn)) z (hS.to [1]))))))
theorem ss {a0 : List al} {v_0 : Hd} {w : World} {r : (List al)} (h : j8 a0 = some r) (q_0 : RO w v_0 107 5 aX a0) : Cl 125 #[(sv v_0)] w (Ret No w (fun s : Hd=>(sv s)) (fun s=>[ae (sv s) 107 5 aX r])):=by
 unfold j8 at h
 refine ay Tryz.func125 z z ?_
 have hS:=Sep.start w
 refine .g (.qn z (.g (.q z ?_)))
 have ⟨y1,hy1,h⟩:=bnd h
 refine .c (.cV hS Tryz.func148 (rb hy1 (hS.keep q_0)) z z ?_)
 intro v1 W hS
 refine .q z (.q z (.q z (.q z (.qn z (.g (.q z ?_))))))
 have ⟨y2,hy2,h⟩:=bnd h
 refine .c (.cV hS Tryz.func149 (rj hy2 hS.lv) z z ?_)
 intro v2 W hS
 refine .q z (.q z (.q z (.q z (.qn z (.g (.q z ?_))))))
 have ⟨y3,hy3,h⟩:=bnd h
 refine .c (.cV hS Tryz.func150 (ro hy3 hS.lv) z z ?_)
 intro v3 W hS
 refine .q z (.q z (.q z (.q z (.qn z (.g (.q z ?_))))))
 have ⟨y4,hy4,h⟩:=bnd h
 refine .c (.cV hS Tryz.func151 (rr hy4 hS.lv) z z ?_)
 intro v4 W hS
 refine .q z (.q z (.q z (.q z (.qn z (.g (.q z ?_))))))
 have ⟨y5,hy5,h⟩:=bnd h
 refine .c (.cV hS Tryz.func152 (oQ hy5 hS.lv) z z ?_)
 intro v5 W hS
 cases h
 exact .q z (.q z (.q z (.q z (.qn z (.g (.q z (.qn z (.ret (ab (vs:=[_]) v5 (rt z rn) z (hS.to [0]))))))))))
theorem oh {a0 : List al} {a1 : Int} {v_0 : Hd} {w : World} {r : (List al) × Bool} (h : eW a0 a1 = some r) (q_0 : RO w v_0 107 5 aX a0) : Cl 92 #[(sv v_0),iv a1] w (Ret No w (fun s : Hd=>.tuple #[(sv s),.bool r.2]) (fun s=>[ae (sv s) 107 5 aX r.1])):=by
 unfold eW at h
 refine ay Tryz.func92 z z ?_
 have hS:=Sep.start w
 refine .g (.q z (.qn z (.seq (.g (.q z ?_)))))
 have ⟨y1,hy1,h⟩:=bnd h
 refine .c (.cO hS Tryz.func124 (cz hy1 (hS.keep q_0)) z z ?_)
 intro W hS
 refine .q z (.q z ?_)
 have ⟨b1,hb1,h⟩:=bnd h
 refine .cu 4 15 (b1) hS ?_ ?_
 ·refine .both (!y1) (fun hb=>?_) (fun hb=>?_)
  ·refine .xx hb z (.xx hb z (.xx hb z ?_))
   cases aI hb hb1
   exact .s (pkt hb z z z) z (.nil (ck 4 hS))
  have hg1:=hb
  have h:=aJ hb hb1
  refine .g hg1 (.q z ?_)
  have ⟨y2,hy2,h⟩:=bnd h
  refine .g hg1 (.c (.cO hS Tryz.func23 (aM hy2) z z ?_))
  intro W hS
  refine .g hg1 (.q z (.s (pkf hg1 z z z) z ?_))
  cases h
  exact .nil (ck 4 hS)
 intro W hS
 refine .nil ?_
 refine .cs z h ?_ ?_ <;> intro h
 ·refine .g (.c (.liv [] aX T.u78 T.t107 hS z z z z ?_ z (fun _=>z)))
  intro v1 W hS
  cases h
  exact .q z (.qn z (.ret (ab (vs:=[_,_]) v1 (rt z (rt z rn)) z (hS.to [0]))))
 refine .skip (.g (.c (.liv [] aX T.u78 T.t107 hS z z z z ?_ z (fun _=>z))))
 intro v2 W hS
 refine .q z ?_
 have ⟨r1,hr1,h⟩:=bnd h
 refine .c (.av hr1 hS (hS.keep q_0) (fun _=>z) T.u78 T.t107 z z z ?_)
 intro v3 W hS
 refine .qn z (.seq (.g (.qn z (.block ?_))))
 have ⟨y3,hy3,h⟩:=bnd h
 refine .via (.iter (fun s1 E' W'=>∃ (v6 : Hd),aK E' [(1,iv a1),(6,(sv v6)),(7,iv s1.2)] ∧ Sep No w W' [ae (sv v6) 107 5 aX s1.1]) (fun y4 x E' W'=>x = .exit 0 ∧ ∃ (v7 : Hd),aK E' [(6,(sv v7))] ∧ Sep No w W' [ae (sv v7) 107 5 aX y4]) hy3 ⟨v3,sb z,hS.to [0]⟩ ?_) ?_
 ·intro s1 y5 E W h hI
  obtain ⟨v5,hE,hS⟩:=hI
  refine CW.sub hE ?_
  unfold gW at h
  refine .seq (.g (.q z (.q z (.q z (.nil ?_)))))
  refine .cs z h ?_ ?_ <;> intro h
  ·refine .skip (.seq (.block (.region (.q z ?_))))
   have ⟨y6,hy6,h⟩:=bnd h
   refine .c (.cV hS Tryz.func125 (ss hy6 hS.lv) z z ?_)
   intro v8 W hS
   refine .qn z (.region (.q z (.q z (.q z (.nil ?_)))))
   cases h
   exact ⟨z,v8,sb z,hS.to [0]⟩
  refine .exit ?_
  cases h
  exact ⟨by simp,z,v5,sb z,hS.to [0]⟩
 intro x E W hJ
 obtain ⟨rfl,v9,hE,hS⟩:=hJ
 refine ⟨_,hE.sub,?_⟩
 cases h
 exact .g (.q z (.q z (.qn z (.ret (ab (vs:=[_,_]) v9 (rt z (rt z rn)) z (hS.to [0]))))))
theorem su {k : Nat} {a0 : aU} {ax : Hd} {g_0 : Nat} {S : Nat → Prop} {w : World} {r : (List al) × Int} (h : j9 k a0 = some r) (aQ : RV w (Old S w) (sv ax) 5 1 (D.int .u8) a0.b) (hO : bG w [.box g_0 74 [(sv ax),iv a0.p]] S) (hlt : ∀ b,S b → b < w.heap.size) : Cl 69 #[pt g_0] w (Ret S w (fun s : Hd=>(sv s)) (fun s=>[.box g_0 74 [(sv ax),iv r.2],ae (sv s) 107 5 aX r.1])):=by
 unfold j9 at h
 refine ay Tryz.func69 z z ?_
 have hS:=Sep.sm hO hlt
 refine .g (.qn z (.seq (.g (.q z ?_))))
 have ⟨y1,hy1,h⟩:=bnd h
 refine .c (.cS (L0:=[.box g_0 74 [(sv ax),iv a0.p]]) hS Tryz.func18 (fun S h1 h2 h3=>(ak hy1 (hS.ks aQ h1) h2 (zz h1))) z z ?_)
 rintro ⟨⟩ W hS
 refine .qn z (.cond z (fun hb=>?_) (fun hb=>?_))
 ·have h:=aI hb h
  refine .g (.q z ?_)
  have ⟨y2,hy2,h⟩:=bnd h
  refine .c (.cS (L0:=[.box g_0 74 [(sv ax),iv y1.2]]) hS Tryz.func89 (fun S h1 h2 h3=>(mE hy2 (hS.ks aQ h1) h2 (zz h1))) z z ?_)
  rintro v1 W hS
  cases h
  exact .qn z (.ret (ab (vs:=[_]) v1 (rt z rn) z (hS.to [0,0])))
 have h:=aJ hb h
 refine .skip (.g (.q z ?_))
 have ⟨y3,hy3,h⟩:=bnd h
 refine .c (.cS (L0:=[.box g_0 74 [(sv ax),iv y1.2]]) hS Tryz.func91 (fun S h1 h2 h3=>(qV hy3 (hS.ks aQ h1) h2 (zz h1))) z z ?_)
 rintro v2 W hS
 have ⟨y4,hy4,h⟩:=bnd h
 refine .c (.cV hS Tryz.func90 (oO hy4 hS.p1.lv) z z ?_)
 intro v3 W hS
 refine .q z (.q z (.q z (.q z (.qn z (.seq (.g (.q z (.s (bq hS.lv T.u78 z z) z (.qn z (.cond z (fun hb=>?_) (fun hb=>?_)))))))))))
 ·have h:=aI hb h
  refine .g (.q z ?_)
  have ⟨y5,hy5,h⟩:=bnd h
  have hS:=hS.p1
  refine .c (.cS (L0:=[.box g_0 74 [(sv ax),iv y3.2]]) hS Tryz.func89 (fun S h1 h2 h3=>(mE hy5 (hS.ks aQ h1) h2 (zz h1))) z z ?_)
  rintro v4 W hS
  cases h
  exact .qn z (.ret (ab (vs:=[_]) v4 (rt z rn) z (hS.to [0,0])))
 have h:=aJ hb h
 refine .skip (.g (.q z (.q z ?_)))
 have ⟨y6,hy6,h⟩:=bnd h
 have hS:=hS.p1
 refine .c (.cS (L0:=[.box g_0 74 [(sv ax),iv y3.2]]) hS Tryz.func18 (fun S h1 h2 h3=>(ak hy6 (hS.ks aQ h1) h2 (zz h1))) z z ?_)
 rintro ⟨⟩ W hS
 refine .q z ?_
 have ⟨y7,hy7,h⟩:=bnd h
 refine .c (.cV hS Tryz.func92 (oh hy7 hS.p1.lv) z z ?_)
 intro v5 W hS
 cases h
 exact .q z (.q z (.q z (.q z (.qn z (.g (.q z (.qn z (.ret (ab (vs:=[_]) v5 (rt z rn) z (hS.to [1,0]))))))))))
theorem rv {k : Nat} {a0 : aU} {ax : Hd} {g_0 : Nat} {S : Nat → Prop} {w : World} {r : (List (List al)) × Int} (h : ji k a0 = some r) (aQ : RV w (Old S w) (sv ax) 5 1 (D.int .u8) a0.b) (hO : bG w [.box g_0 74 [(sv ax),iv a0.p]] S) (hlt : ∀ b,S b → b < w.heap.size) : Cl 40 #[pt g_0] w (Ret S w (fun s : Hd=>(sv s)) (fun s=>[.box g_0 74 [(sv ax),iv r.2],ae (sv s) 78 1 (fun (l : List al)=>D.row 107 5 (l.map aX)) r.1])):=by
 unfold ji at h
 refine ay Tryz.func40 z z ?_
 have hS:=Sep.sm hO hlt
 refine .g (.qn z (.g (.c (.lg (L1:=[]) [] (fun (l : List al)=>D.row 107 5 (l.map aX)) T.u75 T.t78 (hS.to [0]) z z z (.nil) ?_ z (fun _=>z)))))
 intro v1 W hS
 refine .qn z (.g (.q z ?_))
 have ⟨y1,hy1,h⟩:=bnd h
 have hS:=hS.p1
 refine .c (.cS (L0:=[.box g_0 74 [(sv ax),iv a0.p]]) hS Tryz.func18 (fun S h1 h2 h3=>(ak hy1 (hS.ks aQ h1) h2 (zz h1))) z z ?_)
 rintro ⟨⟩ W hS
 refine .q z (.qn z (.seq (.g (.qn z (.block ?_)))))
 have ⟨y2,hy2,h⟩:=bnd h
 refine .via (.iter (fun s1 E' W'=>∃ (v4 : Hd),aK E' [(0,pt g_0),(3,(sv v4)),(4,iv (w64 (1 + y1.1))),(5,iv s1.2.1)] ∧ Sep S w W' [.box g_0 74 [(sv ax),iv s1.2.2],ae (sv v4) 78 1 (fun (l : List al)=>D.row 107 5 (l.map aX)) s1.1]) (fun y3 x E' W'=>x = .exit 0 ∧ ∃ (v5 : Hd),aK E' [(3,(sv v5))] ∧ Sep S w W' [.box g_0 74 [(sv ax),iv y3.2],ae (sv v5) 78 1 (fun (l : List al)=>D.row 107 5 (l.map aX)) y3.1]) hy2 ⟨v1,sb z,hS.to [0,0]⟩ ?_) ?_
 ·intro s1 y4 E W h hI
  obtain ⟨v3,hE,hS⟩:=hI
  refine CW.sub hE ?_
  unfold kT at h
  refine .seq (.g (.q z (.q z (.qn z (.cond z (fun hb=>?_) (fun hb=>?_))))))
  ·have h:=aI hb h
   refine .skip (.seq (.block (.region (.q z (.q z ?_)))))
   have ⟨y5,hy5,h⟩:=bnd h
   refine .c (.cS (L0:=[.box g_0 74 [(sv ax),iv s1.2.2]]) hS Tryz.func69 (fun S h1 h2 h3=>(su hy5 (hS.ks aQ h1) h2 (zz h1))) z z ?_)
   rintro v6 W hS
   refine .c (.lg (L1:=[ae (sv v6) 107 5 aX y5.1]) [y5.1] (fun (l : List al)=>D.row 107 5 (l.map aX)) T.u75 T.t78 (hS.to [1,0,0]) z z z (.row (.nil)) ?_ z (fun _=>z))
   intro v7 W hS
   have ⟨r1,hr1,h⟩:=bnd h
   refine .c (.appv hr1 (hS.to [2,0,0]) T.u75 T.t78 z z z ?_)
   intro v8 W hS
   refine .qn z (.region (.q z (.q z (.q z (.nil ?_)))))
   cases h
   exact ⟨z,v8,sb z,hS.to [1,0]⟩
  have h:=aJ hb h
  refine .exit ?_
  cases h
  exact ⟨by simp,z,v3,sb z,hS.to [0,0]⟩
 intro x E W hJ
 obtain ⟨rfl,v9,hE,hS⟩:=hJ
 refine ⟨_,hE.sub,?_⟩
 cases h
 exact .g (.q z (.qn z (.ret (ab (vs:=[_]) v9 (rt z rn) z (hS.to [0,0])))))
theorem eD {a0 : Int} {a1 : Int} {a2 : Int} {w : World} {r : Int} (h : dT a0 a1 a2 = some r) : Cl 93 #[iv a0,iv a1,iv a2] w (RU w (.int .i64 r)):=by
 unfold dT at h
 refine ay Tryz.func93 z z ?_
 have hS:=Sep.start w
 refine .g (.qn z (.seq (.g (.q z (.q z (.q z (.nil ?_)))))))
 refine .cs z h ?_ ?_ <;> intro h
 ·obtain rfl:=o9 h
  exact .g (.q z (.qn z (.ret (ab (vs:=[_]) () (rt z rn) z (hS.to [])))))
 refine .skip (.g (.c (.liv [8,9,18,19,20,21,22,23] (D.int .i64) T.u23 T.t3 hS z z z z ?_ z (fun _=>z))))
 intro v1 W hS
 refine .q z ?_
 have ⟨x1,hx1,h⟩:=bnd h
 obtain rfl:=o9 h
 exact .s (ixv hS.lv hx1 T.u23 T.t3 z z z) z (.s (lde (RV.flat hS.lv hx1 z) T.t3 z z z z z) z (.qn z (.ret (ab (vs:=[_]) () (rt z rn) z (hS.to [])))))
theorem iK {a0 : List Instr} {a1 : Int} {a2 : Int} {v_0 : Hd} {S : Nat → Prop} {w : World} {r : (List Instr)} (h : ek a0 a1 a2 = some r) (hO : bG w [ae (sv v_0) 51 5 br a0] S) (hlt : ∀ b,S b → b < w.heap.size) : Cl 94 #[(sv v_0),iv a1,iv a2] w (Ret S w (fun s : Hd=>(sv s)) (fun s=>[ae (sv s) 51 5 br r])):=by
 unfold ek at h
 refine ay Tryz.func94 z z ?_
 have hS:=Sep.sm hO hlt
 refine .g (.qn z (.seq (.g (.q z (.q z (.q z (.nil ?_)))))))
 refine .cs z h ?_ ?_ <;> intro h
 ·obtain rfl:=o9 h
  exact .g (.q z (.qn z (.ret (ab (vs:=[_]) v_0 (rt z rn) z (hS.to [0])))))
 refine .skip (.g (.q z (.q z (.q z (.q z (.q z (.s (bs T.s51 z z) z (.c (.liv [(Instr.mk 16 0 2 7 (w64 (4 * (w64 (a1 - a2)))))] br T.u35 T.t51 hS z z z z ?_ z (fun _=>z))))))))))
 intro v1 W hS
 have ⟨r1,hr1,h⟩:=bnd h
 have hT0:=hS.p1
 refine .c (.av hr1 hT0 hT0.p1.lv (fun _=>z) T.u35 T.t51 z z z ?_)
 intro v2 W hS
 obtain rfl:=o9 h
 exact .qn z (.ret (ab (vs:=[_]) v2 (rt z rn) z (hS.to [0])))
theorem et {a0 : Int} {w : World} {r : Int} (h : dc a0 = some r) : Cl 87 #[iv a0] w (RU w (.int .i64 r)):=by
 unfold dc at h
 refine ay Tryz.func87 z z ?_
 have hS:=Sep.start w
 refine .g (.qn z (.seq (.g (.q z ?_))))
 have ⟨y1,hy1,h⟩:=bnd h
 refine .c (.cO hS Tryz.func83 (dB hy1) z z ?_)
 intro W hS
 refine .q z (.nil ?_)
 refine .cs z h ?_ ?_ <;> intro h
 ·cases h
  exact .g (.qn z (.ret (ab (vs:=[_]) () (rt z rn) z (hS.to []))))
 refine .skip (.seq (.g (.q z (.q z (.nil ?_)))))
 refine .cs z h ?_ ?_ <;> intro h
 ·cases h
  exact .g (.q z (.q z (.qn z (.ret (ab (vs:=[_]) () (rt z rn) z (hS.to []))))))
 obtain rfl:=o9 h
 exact .skip (.g (.q z (.qn z (.ret (ab (vs:=[_]) () (rt z rn) z (hS.to []))))))
theorem eM {a0 : Int} {w : World} {r : Int} (h : cA a0 = some r) : Cl 153 #[iv a0] w (RU w (.int .i64 r)):=by
 unfold cA at h
 refine ay Tryz.func153 z z ?_
 have hS:=Sep.start w
 refine .g (.qn z (.g (.qn z (.seq (.g (.qn z (.block ?_)))))))
 have ⟨y1,hy1,h⟩:=bnd h
 refine .via (.iter (fun s1 E' W'=>aK E' [(0,iv a0),(3,iv s1.1),(4,iv s1.2)] ∧ Sep No w W' []) (fun y2 x E' W'=>x = .exit 0 ∧ aK E' [(3,iv y2)] ∧ Sep No w W' []) hy1 ⟨sb z,hS.to []⟩ ?_) ?_
 ·intro s1 y3 E W h hI
  obtain ⟨hE,hS⟩:=hI
  refine CW.sub hE ?_
  unfold eI at h
  refine .seq (.g (.q z (.q z (.q z (.nil ?_)))))
  refine .cs z h ?_ ?_ <;> intro h
  ·refine .skip (.seq (.block (.region (.q z (.q z (.qn z (.region (.q z (.q z (.q z (.nil ?_)))))))))))
   cases h
   exact ⟨z,sb z,hS.to []⟩
  refine .exit ?_
  cases h
  exact ⟨by simp,z,sb z,hS.to []⟩
 intro x E W hJ
 obtain ⟨rfl,hE,hS⟩:=hJ
 refine ⟨_,hE.sub,?_⟩
 obtain rfl:=o9 h
 exact .g (.q z (.qn z (.ret (ab (vs:=[_]) () (rt z rn) z (hS.to [])))))
theorem eE {a0 : Int} {a1 : Int} {w : World} {r : Int} (h : cE a0 a1 = some r) : Cl 126 #[iv a0,iv a1] w (RU w (.int .i64 r)):=by
 unfold cE at h
 refine ay Tryz.func126 z z ?_
 have hS:=Sep.start w
 refine .g (.qn z (.seq (.g (.q z ?_))))
 have ⟨y1,hy1,h⟩:=bnd h
 refine .c (.cO hS Tryz.func23 (aM hy1) z z ?_)
 intro W hS
 refine .q z (.q z ?_)
 have ⟨b1,hb1,h⟩:=bnd h
 refine .cu 7 15 (b1) hS ?_ ?_
 ·refine .both (!y1) (fun hb=>?_) (fun hb=>?_)
  ·refine .xx hb z (.xx hb z (.xx hb z (.xx hb z (.xx hb z (.xx hb z ?_)))))
   cases aI hb hb1
   exact .s (pkt hb z z z) z (.nil (ck 7 hS))
  have hg1:=hb
  have h:=aJ hb hb1
  refine .g hg1 (.q z (.g hg1 (.q z ?_)))
  have ⟨y2,hy2,h⟩:=bnd h
  refine .g hg1 (.c (.cO hS Tryz.func153 (eM hy2) z z ?_))
  intro W hS
  refine .g hg1 (.q z ?_)
  have ⟨y3,hy3,h⟩:=bnd h
  refine .g hg1 (.c (.cO hS Tryz.func23 (aM hy3) z z ?_))
  intro W hS
  refine .g hg1 (.q z (.s (pkf hg1 z z z) z ?_))
  cases h
  exact .nil (ck 7 hS)
 intro W hS
 refine .nil ?_
 refine .cs z h ?_ ?_ <;> intro h
 ·cases h
  exact .g (.qn z (.ret (ab (vs:=[_]) () (rt z rn) z (hS.to []))))
 refine .skip (.seq (.g (.q z (.q z (.q z ?_)))))
 have ⟨y4,hy4,h⟩:=bnd h
 refine .c (.cO hS Tryz.func153 (eM hy4) z z ?_)
 intro W hS
 refine .q z (.nil ?_)
 refine .cs z h ?_ ?_ <;> intro h
 ·refine .g (.q z (.q z ?_))
  have ⟨y5,hy5,h⟩:=bnd h
  refine .c (.cO hS Tryz.func153 (eM hy5) z z ?_)
  intro W hS
  cases h
  exact .q z (.qn z (.ret (ab (vs:=[_]) () (rt z rn) z (hS.to []))))
 obtain rfl:=o9 h
 exact .skip (.g (.q z (.qn z (.ret (ab (vs:=[_]) () (rt z rn) z (hS.to []))))))
theorem aY {a0 : Int} {a1 : Int} {a2 : Int} {w : World} {r : Int} (h : bb a0 a1 a2 = some r) : Cl 127 #[iv a0,iv a1,iv a2] w (RU w (.int .i64 r)):=by
 unfold bb at h
 refine ay Tryz.func127 z z ?_
 have hS:=Sep.start w
 refine .g (.qn z (.seq (.g (.q z ?_))))
 have ⟨y1,hy1,h⟩:=bnd h
 refine .c (.cO hS Tryz.func23 (aM hy1) z z ?_)
 intro W hS
 refine .q z (.q z ?_)
 have ⟨b1,hb1,h⟩:=bnd h
 refine .cu 4 14 (b1) hS ?_ ?_
 ·refine .both (!y1) (fun hb=>?_) (fun hb=>?_)
  ·refine .xx hb z (.xx hb z (.xx hb z ?_))
   cases aI hb hb1
   exact .s (pkt hb z z z) z (.nil (ck 4 hS))
  have hg1:=hb
  have h:=aJ hb hb1
  refine .g hg1 (.q z ?_)
  have ⟨y2,hy2,h⟩:=bnd h
  refine .g hg1 (.c (.cO hS Tryz.func23 (aM hy2) z z ?_))
  intro W hS
  refine .g hg1 (.q z (.s (pkf hg1 z z z) z ?_))
  cases h
  exact .nil (ck 4 hS)
 intro W hS
 refine .q z ?_
 have ⟨b2,hb2,h⟩:=bnd h
 refine .cu 6 21 (b2) hS ?_ ?_
 ·refine .both (b1) (fun hb=>?_) (fun hb=>?_)
  ·refine .xx hb z (.xx hb z (.xx hb z (.xx hb z (.xx hb z ?_))))
   cases aI hb hb2
   exact .s (pkt hb z z z) z (.nil (ck 6 hS))
  have hg2:=hb
  have h:=aJ hb hb2
  refine .g hg2 (.q z (.g hg2 (.q z (.g hg2 (.q z ?_)))))
  have ⟨y3,hy3,h⟩:=bnd h
  refine .g hg2 (.c (.cO hS Tryz.func23 (aM hy3) z z ?_))
  intro W hS
  refine .g hg2 (.q z (.s (pkf hg2 z z z) z ?_))
  cases h
  exact .nil (ck 6 hS)
 intro W hS
 refine .nil ?_
 refine .cs z h ?_ ?_ <;> intro h
 ·cases h
  exact .g (.qn z (.ret (ab (vs:=[_]) () (rt z rn) z (hS.to []))))
 refine .skip (.seq (.rk 8 hS [] T.mix ?_))
 intro W hS
 have hT:=hS.to []
 refine .tp' 0 z z hT (.tp' 1 z z hT (.tp' 4 z z hT ?_))
 have ⟨y4,hy4,h⟩:=bnd h
 refine .by1 2 z (.cO hS Tryz.func153 (eM hy4) z z ?_)
 intro W hS
 have hT:=hS.to []
 refine ⟨fun _=>hT,?_⟩
 have ⟨d1,hd1,h⟩:=bnd h
 refine .ts' 3 z (fun W hT=>dq hd1 z z z) hT z ?_
 have ⟨y5,hy5,h⟩:=bnd h
 refine .by1 5 z (.cO hS Tryz.func153 (eM hy5) z z ?_)
 intro W hS
 have hT:=hS.to []
 refine ⟨fun _=>hT,?_⟩
 have ⟨d2,hd2,h⟩:=bnd h
 obtain rfl:=o9 h
 exact .ts' 6 z (fun W hT=>dr hd2 z z z) hT z (.tp' 7 z z hT (.done (.ret (ab (vs:=[_]) () (rt z rn) z (hS.to [])))))
theorem rx {a0 : Int} {a1 : Int} {w : World} {r : (List Instr)} (h : jj a0 a1 = some r) : Cl 95 #[iv a0,iv a1] w (Ret No w (fun s : Hd=>(sv s)) (fun s=>[ae (sv s) 51 5 br r])):=by
 unfold jj at h
 refine ay Tryz.func95 z z ?_
 have hS:=Sep.start w
 refine .g (.qn z (.seq (.g (.q z ?_))))
 have ⟨y1,hy1,h⟩:=bnd h
 refine .c (.cO hS Tryz.func23 (aM hy1) z z ?_)
 intro W hS
 refine .nil ?_
 refine .cs z h ?_ ?_ <;> intro h
 ·refine .g (.q z (.q z (.s (bs T.s51 z z) z (.c (.liv [(Instr.mk 12 a0 0 0 a1)] br T.u35 T.t51 hS z z z z ?_ z (fun _=>z))))))
  intro v1 W hS
  cases h
  exact .qn z (.ret (ab (vs:=[_]) v1 (rt z rn) z (hS.to [0])))
 refine .skip (.g (.q z ?_))
 have ⟨y2,hy2,h⟩:=bnd h
 refine .c (.cO hS Tryz.func87 (et hy2) z z ?_)
 intro W hS
 have ⟨y3,hy3,h⟩:=bnd h
 refine .c (.cO hS Tryz.func127 (aY hy3) z z ?_)
 intro W hS
 have ⟨y4,hy4,h⟩:=bnd h
 refine .c (.cO hS Tryz.func126 (eE hy4) z z ?_)
 intro W hS
 refine .qn z (.g (.q z (.q z (.q z ?_))))
 have ⟨y5,hy5,h⟩:=bnd h
 refine .c (.cO hS Tryz.func74 (cC hy5) z z ?_)
 intro W hS
 have ⟨y6,hy6,h⟩:=bnd h
 refine .c (.cO hS Tryz.func87 (et hy6) z z ?_)
 intro W hS
 have ⟨y7,hy7,h⟩:=bnd h
 refine .c (.cO hS Tryz.func127 (aY hy7) z z ?_)
 intro W hS
 refine .qn z (.g (.q z (.q z (.s (bs T.s51 z z) z (.c (.liv [(Instr.mk 19 a0 0 0 y7)] br T.u35 T.t51 hS z z z z ?_ z (fun _=>z)))))))
 intro v2 W hS
 refine .qn z (.g (.q z (.q z (.q z (.q z (.s (bs T.s51 z z) z (.c (.liv [(Instr.mk 12 a0 a0 0 y4)] br T.u35 T.t51 hS z z z z ?_ z (fun _=>z)))))))))
 intro v3 W hS
 have ⟨r1,hr1,h⟩:=bnd h
 have hT0:=hS.p1
 refine .c (.av hr1 hT0 hT0.p1.lv (fun _=>z) T.u35 T.t51 z z z ?_)
 intro v4 W hS
 obtain rfl:=o9 h
 exact .qn z (.ret (ab (vs:=[_]) v4 (rt z rn) z (hS.to [0])))
theorem go {a0 : Int} {a1 : Int} {a2 : Int} {w : World} {r : (List Instr)} (h : ee a0 a1 a2 = some r) : Cl 96 #[iv a0,iv a1,iv a2] w (Ret No w (fun s : Hd=>(sv s)) (fun s=>[ae (sv s) 51 5 br r])):=by
 unfold ee at h
 refine ay Tryz.func96 z z ?_
 have hS:=Sep.start w
 refine .g (.qn z (.seq (.g (.q z (.q z (.q z (.nil ?_)))))))
 refine .cs z h ?_ ?_ <;> intro h
 ·refine .g (.c (.liv [] br T.u35 T.t51 hS z z z z ?_ z (fun _=>z)))
  intro v1 W hS
  cases h
  exact .qn z (.ret (ab (vs:=[_]) v1 (rt z rn) z (hS.to [0])))
 refine .skip (.g (.q z (.q z (.q z (.q z (.q z (.s (bs T.s51 z z) z (.c (.liv [(Instr.mk 14 a2 2 0 (w64 (4 * (w64 (a0 - a1)))))] br T.u35 T.t51 hS z z z z ?_ z (fun _=>z))))))))))
 intro v2 W hS
 cases h
 exact .qn z (.ret (ab (vs:=[_]) v2 (rt z rn) z (hS.to [0])))
theorem lL {a0 : Int} {a1 : Int} {w : World} {r : Instr} (h : eX a0 a1 = some r) : Cl 97 #[iv a0,iv a1] w (RU w (.agg #[iv r.Op,iv r.Rd,iv r.Rs,iv r.Rt,iv r.Imm])):=by
 unfold eX at h
 refine ay Tryz.func97 z z ?_
 have hS:=Sep.start w
 refine .g (.c (.alloc T.t51 hS ?_))
 intro g1 W hS
 refine .nil (.g (.q z (.q z (.s (bs T.s51 z z) z (.c (.st T.t51 hS z z z ?_))))))
 intro W hS
 cases h
 exact .nil (.ret (ab (vs:=[_]) () (rc hS T.t51 z rn z z) z (hS.to [])))
theorem ur {a0 : Int} {w : World} {r : Int} (h : mg a0 = some r) : Cl 128 #[iv a0] w (RU w (.int .i64 r)):=by
 unfold mg at h
 refine ay Tryz.func128 z z ?_
 have hS:=Sep.start w
 refine .g (.qn z (.g (.c (.liv [7,8,6,8,11,9,10,1,2,3,4,5] (D.int .i64) T.u23 T.t3 hS z z z z ?_ z (fun _=>z)))))
 intro v1 W hS
 refine .qn z (.g (.q z (.q z (.q z ?_))))
 have ⟨x1,hx1,h⟩:=bnd h
 obtain rfl:=o9 h
 exact .s (ixv hS.lv hx1 T.u23 T.t3 z z z) z (.s (lde (RV.flat hS.lv hx1 z) T.t3 z z z z z) z (.qn z (.ret (ab (vs:=[_]) () (rt z rn) z (hS.to [])))))
theorem uf {a0 : al} {a1 : Int} {w : World} {r : (List Instr)} (h : mA a0 a1 = some r) : Cl 98 #[.agg #[iv a0.Op,iv a0.Dst,iv a0.A,iv a0.B,iv a0.N],iv a1] w (Ret No w (fun s : Hd=>(sv s)) (fun s=>[ae (sv s) 51 5 br r])):=by
 unfold mA at h
 refine ay Tryz.func98 z z ?_
 have hS:=Sep.start w
 refine .g (.c (.box hS z z ?_))
 intro g1 W hS
 refine .qn z (.seq (.rk 10 hS [0] T.mix ?_))
 intro W hS
 have hT:=hS.to [0]
 refine .ts' 0 z (fun W hT=>fa T.f107_2 z z z) hT z (.ts' 1 z (fun W hT=>ld T.t3 hT z z z z z) hT z (.tp' 2 z z hT (.ts' 4 z (fun W hT=>fa T.f107_3 z z z) hT z (.ts' 5 z (fun W hT=>ld T.t3 hT z z z z z) hT z (.tp' 6 z z hT ?_)))))
 have ⟨y1,hy1,h⟩:=bnd h
 refine .by1 3 z (.cV hS Tryz.func96 (go hy1) z z ?_)
 intro v1 W hS
 have hT:=hS.to [1]
 refine ⟨fun _=>hT,?_⟩
 have ⟨y2,hy2,h⟩:=bnd h
 refine .by1 7 z (.cV hS Tryz.func96 (go hy2) z z ?_)
 intro v2 W hS
 have hT:=hS.to [2]
 refine ⟨fun _=>hT,?_⟩
 have ⟨r1,hr1,h⟩:=bnd h
 have hT0:=hS.p1
 refine .by1 8 z (.av hr1 hT0 hT0.p1.lv (fun _=>z) T.u35 T.t51 z z z ?_)
 intro v3 W hS
 have hT:=hS.to [2]
 refine ⟨fun _=>hT,.tp' 9 z z hT (.done (.g (.s (fa T.f107_1 z z z) z (.s (ld T.t3 hS.p2 z z z z z) z (.q z ?_)))))⟩
 have ⟨y3,hy3,h⟩:=bnd h
 refine .c (.cO hS Tryz.func93 (eD hy3) z z ?_)
 intro W hS
 refine .qn z (.seq (.rk 17 hS [1,1] T.mix ?_))
 intro W hS
 have hT:=hS.to [1,1]
 refine .tp' 0 z z hT (.ts' 1 z (fun W hT=>fa T.f107_4 z z z) hT z (.ts' 2 z (fun W hT=>ld T.t3 hT.p1 z z z z z) hT z (.tp' 4 z z hT (.ts' 5 z (fun W hT=>fa T.f107_2 z z z) hT z (.ts' 6 z (fun W hT=>ld T.t3 hT.p1 z z z z z) hT z (.tp' 7 z z hT (.ts' 9 z (fun W hT=>fa T.f107_3 z z z) hT z (.ts' 10 z (fun W hT=>ld T.t3 hT.p1 z z z z z) hT z (.tp' 11 z z hT ?_)))))))))
 have ⟨y4,hy4,h⟩:=bnd h
 refine .by1 3 z (.cO hS Tryz.func128 (ur hy4) z z ?_)
 intro W hS
 have hT:=hS.to [1,1]
 refine ⟨fun _=>hT,?_⟩
 have ⟨y5,hy5,h⟩:=bnd h
 refine .by1 8 z (.cO hS Tryz.func93 (eD hy5) z z ?_)
 intro W hS
 have hT:=hS.to [1,1]
 refine ⟨fun _=>hT,?_⟩
 have ⟨y6,hy6,h⟩:=bnd h
 refine .by1 12 z (.cO hS Tryz.func93 (eD hy6) z z ?_)
 intro W hS
 have hT:=hS.to [1,1]
 refine ⟨fun _=>hT,.ts' 13 z (fun W hT=>bs T.s51 z z) hT z (.by1 14 z (.liv [(Instr.mk y4 y3 y5 y6 0)] br T.u35 T.t51 hS z z z z ?_ z (fun _=>z)))⟩
 intro v4 W hS
 have hT:=hS.to [2,2]
 refine ⟨fun _=>hT,?_⟩
 have ⟨r2,hr2,h⟩:=bnd h
 have hT0:=hS.p1
 refine .by1 15 z (.av hr2 hT0 hT0.p1.lv (fun _=>z) T.u35 T.t51 z z z ?_)
 intro v5 W hS
 have hT:=hS.to [2,2]
 refine ⟨fun _=>hT,.tp' 16 z z hT (.done ?_)⟩
 have ⟨y7,hy7,h⟩:=bnd h
 refine .seq (CW.via (R':=fun x E' W'=>x = .normal ∧ ∃ (v6 : Hd),aK E' [(1,iv a1),(2,pt g1),(5,(sv v6))] ∧ Sep No w W' [ae (sv v4) 51 5 br [(Instr.mk y4 y3 y5 y6 0)],ae (sv v2) 51 5 br y2,.box g1 107 [iv a0.Op,iv a0.Dst,iv a0.A,iv a0.B,iv a0.N],ae (sv v6) 51 5 br y7]) ?_ ?_)
 ·have h:=hy7
  refine .g (.s (fa T.f107_4 z z z) z (.s (ld T.t3 hS.p3 z z z z z) z (.q z (.nil ?_))))
  refine .cs z h ?_ ?_ <;> intro h
  ·refine .region (.q z (.q z (.q z (.s (bs T.s51 z z) z (.c (.liv [(Instr.mk 13 y3 y3 0 1)] br T.u35 T.t51 hS z z z z ?_ z (fun _=>z)))))))
   intro v7 W hS
   have ⟨r3,hr3,h⟩:=bnd h
   have hT0:=hS.p1
   refine .c (.av hr3 hT0 hT0.p1.lv (fun _=>z) T.u35 T.t51 z z z ?_)
   intro v8 W hS
   refine .q z (.nil ?_)
   obtain rfl:=o9 h
   exact ⟨z,v8,sb z,hS.to [2,2,2,0]⟩
  refine .skip ?_
  obtain rfl:=o9 h
  exact ⟨z,v5,sb z,hS.to [1,1,1,0]⟩
 intro x E W hJ
 obtain ⟨rfl,v9,hE,hS⟩:=hJ
 refine ⟨_,hE.sub,?_⟩
 refine .g (.q z (.s (fa T.f107_1 z z z) z (.s (ld T.t3 hS.p2 z z z z z) z (.q z ?_))))
 have ⟨y8,hy8,h⟩:=bnd h
 have hS:=hS.p3
 refine .c (.cS (L0:=[ae (sv v9) 51 5 br y7]) hS Tryz.func94 (fun S h1 h2 h3=>(iK hy8 h2 (zz h1))) z z ?_)
 rintro v10 W hS
 obtain rfl:=o9 h
 exact .qn z (.ret (ab (vs:=[_]) v10 (rt z rn) z (hS.to [0])))
theorem sw {a0 : al} {a1 : Int} {a2 : Int} {w : World} {r : (List Instr)} (h : lM a0 a1 a2 = some r) : Cl 99 #[.agg #[iv a0.Op,iv a0.Dst,iv a0.A,iv a0.B,iv a0.N],iv a1,iv a2] w (Ret No w (fun s : Hd=>(sv s)) (fun s=>[ae (sv s) 51 5 br r])):=by
 unfold lM at h
 refine ay Tryz.func99 z z ?_
 have hS:=Sep.start w
 refine .g (.c (.box hS z z ?_))
 intro g1 W hS
 refine .qn z (.seq (.rk 12 hS [0] T.mix ?_))
 intro W hS
 have hT:=hS.to [0]
 refine .ts' 0 z (fun W hT=>fa T.f107_2 z z z) hT z (.ts' 1 z (fun W hT=>ld T.t3 hT z z z z z) hT z (.tp' 2 z z hT (.ts' 4 z (fun W hT=>fa T.f107_2 z z z) hT z (.ts' 5 z (fun W hT=>ld T.t3 hT z z z z z) hT z (.tp' 6 z z hT ?_)))))
 have ⟨y1,hy1,h⟩:=bnd h
 refine .by1 3 z (.cV hS Tryz.func96 (go hy1) z z ?_)
 intro v1 W hS
 have hT:=hS.to [1]
 refine ⟨fun _=>hT,?_⟩
 have ⟨y2,hy2,h⟩:=bnd h
 refine .by1 7 z (.cO hS Tryz.func93 (eD hy2) z z ?_)
 intro W hS
 have hT:=hS.to [1]
 refine ⟨fun _=>hT,.ts' 8 z (fun W hT=>bs T.s51 z z) hT z (.by1 9 z (.liv [(Instr.mk 18 0 y2 0 8)] br T.u35 T.t51 hS z z z z ?_ z (fun _=>z)))⟩
 intro v2 W hS
 have hT:=hS.to [2]
 refine ⟨fun _=>hT,?_⟩
 have ⟨r1,hr1,h⟩:=bnd h
 have hT0:=hS.p1
 refine .by1 10 z (.av hr1 hT0 hT0.p1.lv (fun _=>z) T.u35 T.t51 z z z ?_)
 intro v3 W hS
 have hT:=hS.to [2]
 refine ⟨fun _=>hT,.tp' 11 z z hT (.done (.g (.q z (.q z (.q z (.s (bq hS.lv T.u35 z z) z (.q z (.q z (.s (bs T.s51 z z) z (.c (.liv [(Instr.mk 20 0 0 0 (w64 (a2 - (w64 (4 * (r1.length : Int))))))] br T.u35 T.t51 hS z z z z ?_ z (fun _=>z))))))))))))⟩
 intro v4 W hS
 have ⟨r2,hr2,h⟩:=bnd h
 have hT0:=hS.p1
 refine .c (.av hr2 hT0 hT0.p1.lv (fun _=>z) T.u35 T.t51 z z z ?_)
 intro v5 W hS
 obtain rfl:=o9 h
 exact .qn z (.ret (ab (vs:=[_]) v5 (rt z rn) z (hS.to [0])))
theorem gp {a0 : List Instr} {a1 : Int} {v_0 : Hd} {S : Nat → Prop} {w : World} {r : (List Instr)} (h : ef a0 a1 = some r) (hO : bG w [ae (sv v_0) 51 5 br a0] S) (hlt : ∀ b,S b → b < w.heap.size) : Cl 100 #[(sv v_0),iv a1] w (Ret S w (fun s : Hd=>(sv s)) (fun s=>[ae (sv s) 51 5 br r])):=by
 unfold ef at h
 refine ay Tryz.func100 z z ?_
 have hS:=Sep.sm hO hlt
 refine .g (.qn z (.g (.q z (.q z (.s (bs T.s51 z z) z (.c (.liv [(Instr.mk 12 17 0 0 a1)] br T.u35 T.t51 hS z z z z ?_ z (fun _=>z))))))))
 intro v1 W hS
 have ⟨r1,hr1,h⟩:=bnd h
 have hT0:=hS.p1
 refine .c (.av hr1 hT0 hT0.p1.lv (fun _=>z) T.u35 T.t51 z z z ?_)
 intro v2 W hS
 refine .qn z (.g (.q z (.s (bs T.s51 z z) z (.c (.liv [(Instr.mk 15 1 0 0 0)] br T.u35 T.t51 hS z z z z ?_ z (fun _=>z))))))
 intro v3 W hS
 have ⟨r2,hr2,h⟩:=bnd h
 have hT0:=hS.p1
 refine .c (.av hr2 hT0 hT0.p1.lv (fun _=>z) T.u35 T.t51 z z z ?_)
 intro v4 W hS
 obtain rfl:=o9 h
 exact .qn z (.ret (ab (vs:=[_]) v4 (rt z rn) z (hS.to [0])))
theorem nL {a0 : Int} {a1 : Int} {w : World} {r : (List Instr)} (h : iz a0 a1 = some r) : Cl 101 #[iv a0,iv a1] w (Ret No w (fun s : Hd=>(sv s)) (fun s=>[ae (sv s) 51 5 br r])):=by
 unfold iz at h
 refine ay Tryz.func101 z z ?_
 have hS:=Sep.start w
 refine .g (.qn z (.g (.q z (.q z ?_))))
 have ⟨y1,hy1,h⟩:=bnd h
 refine .c (.cV hS Tryz.func96 (go hy1) z z ?_)
 intro v1 W hS
 refine .q z (.q z ?_)
 have ⟨y2,hy2,h⟩:=bnd h
 refine .c (.cO hS Tryz.func93 (eD hy2) z z ?_)
 intro W hS
 have ⟨y3,hy3,h⟩:=bnd h
 refine .c (.cO hS Tryz.func97 (lL hy3) z z ?_)
 intro W hS
 refine .c (.liv [y3] br T.u35 T.t51 hS z z z z ?_ z (fun _=>z))
 intro v2 W hS
 have ⟨r1,hr1,h⟩:=bnd h
 have hT0:=hS.p1
 refine .c (.av hr1 hT0 hT0.p1.lv (fun _=>z) T.u35 T.t51 z z z ?_)
 intro v3 W hS
 obtain rfl:=o9 h
 exact .qn z (.ret (ab (vs:=[_]) v3 (rt z rn) z (hS.to [0])))
theorem ol {a0 : Int} {w : World} {r : Instr} (h : jJ a0 = some r) : Cl 102 #[iv a0] w (RU w (.agg #[iv r.Op,iv r.Rd,iv r.Rs,iv r.Rt,iv r.Imm])):=by
 unfold jJ at h
 refine ay Tryz.func102 z z ?_
 have hS:=Sep.start w
 refine .g (.c (.alloc T.t51 hS ?_))
 intro g1 W hS
 refine .nil (.g (.q z (.s (bs T.s51 z z) z (.c (.st T.t51 hS z z z ?_)))))
 intro W hS
 cases h
 exact .nil (.ret (ab (vs:=[_]) () (rc hS T.t51 z rn z z) z (hS.to [])))
end
noncomputable section
theorem nM {a0 : al} {a1 : Int} {a2 : Int} {w : World} {r : (List Instr)} (h : iA a0 a1 a2 = some r) : Cl 71 #[.agg #[iv a0.Op,iv a0.Dst,iv a0.A,iv a0.B,iv a0.N],iv a1,iv a2] w (Ret No w (fun s : Hd=>(sv s)) (fun s=>[ae (sv s) 51 5 br r])):=by
 unfold iA at h
 refine ay Tryz.func71 z z ?_
 have hS:=Sep.start w
 refine .g (.c (.box hS z z ?_))
 intro g1 W hS
 refine .qn z (.g (.s (fa T.f107_1 z z z) z (.s (ld T.t3 hS z z z z z) z (.q z ?_))))
 have ⟨y1,hy1,h⟩:=bnd h
 refine .c (.cO hS Tryz.func93 (eD hy1) z z ?_)
 intro W hS
 refine .qn z (.seq (.g (.s (fa T.f107_0 z z z) z (.s (ld T.t3 hS z z z z z) z (.nil (.block (.g (.q z (.qn z (.cond z (fun hb=>?_) (fun hb=>?_)))))))))))
 ·have h:=aI hb h
  refine .seq (.rk 9 hS [0] T.mix ?_)
  intro W hS
  have hT:=hS.to [0]
  refine .tp' 0 z z hT (.ts' 1 z (fun W hT=>fa T.f107_4 z z z) hT z (.ts' 2 z (fun W hT=>ld T.t3 hT z z z z z) hT z (.ts' 4 z (fun W hT=>fa T.f107_1 z z z) hT z (.ts' 5 z (fun W hT=>ld T.t3 hT z z z z z) hT z (.tp' 6 z z hT ?_)))))
  have ⟨y2,hy2,h⟩:=bnd h
  refine .by1 3 z (.cV hS Tryz.func95 (rx hy2) z z ?_)
  intro v1 W hS
  have hT:=hS.to [1]
  refine ⟨fun _=>hT,?_⟩
  have ⟨y3,hy3,h⟩:=bnd h
  refine .by1 7 z (.cS (L0:=[ae (sv v1) 51 5 br y2]) hS Tryz.func94 (fun S h1 h2 h3=>(iK hy3 h2 (zz h1))) z z ?_)
  rintro v2 W hS
  have hT:=hS.to [1]
  refine ⟨fun _=>hT,?_⟩
  obtain rfl:=o9 h
  exact .tp' 8 z z hT (.done (.ret (ab (vs:=[_]) v2 (rt z rn) z (hS.to [0]))))
 have h:=aJ hb h
 refine .g (.q z (.qn z (.cond z (fun hb=>?_) (fun hb=>?_))))
 ·have h:=aI hb h
  refine .seq (.rk 17 hS [0] T.mix ?_)
  intro W hS
  have hT:=hS.to [0]
  refine .ts' 0 z (fun W hT=>fa T.f107_2 z z z) hT z (.ts' 1 z (fun W hT=>ld T.t3 hT z z z z z) hT z (.tp' 2 z z hT (.tp' 4 z z hT (.ts' 5 z (fun W hT=>fa T.f107_2 z z z) hT z (.ts' 6 z (fun W hT=>ld T.t3 hT z z z z z) hT z (.tp' 7 z z hT (.ts' 12 z (fun W hT=>fa T.f107_1 z z z) hT z (.ts' 13 z (fun W hT=>ld T.t3 hT z z z z z) hT z (.tp' 14 z z hT ?_)))))))))
  have ⟨y4,hy4,h⟩:=bnd h
  refine .by1 3 z (.cV hS Tryz.func96 (go hy4) z z ?_)
  intro v3 W hS
  have hT:=hS.to [1]
  refine ⟨fun _=>hT,?_⟩
  have ⟨y5,hy5,h⟩:=bnd h
  refine .by1 8 z (.cO hS Tryz.func93 (eD hy5) z z ?_)
  intro W hS
  have hT:=hS.to [1]
  refine ⟨fun _=>hT,?_⟩
  have ⟨y6,hy6,h⟩:=bnd h
  refine .by1 9 z (.cO hS Tryz.func97 (lL hy6) z z ?_)
  intro W hS
  have hT:=hS.to [1]
  refine ⟨fun _=>hT,.by1 10 z (.liv [y6] br T.u35 T.t51 hS z z z z ?_ z (fun _=>z))⟩
  intro v4 W hS
  have hT:=hS.to [2]
  refine ⟨fun _=>hT,?_⟩
  have ⟨r1,hr1,h⟩:=bnd h
  have hT0:=hS.p1
  refine .by1 11 z (.av hr1 hT0 hT0.p1.lv (fun _=>z) T.u35 T.t51 z z z ?_)
  intro v5 W hS
  have hT:=hS.to [2]
  refine ⟨fun _=>hT,?_⟩
  have ⟨y7,hy7,h⟩:=bnd h
  refine .by1 15 z (.cS (L0:=[ae (sv v5) 51 5 br r1]) hS Tryz.func94 (fun S h1 h2 h3=>(iK hy7 h2 (zz h1))) z z ?_)
  rintro v6 W hS
  have hT:=hS.to [2]
  refine ⟨fun _=>hT,?_⟩
  obtain rfl:=o9 h
  exact .tp' 16 z z hT (.done (.ret (ab (vs:=[_]) v6 (rt z rn) z (hS.to [0]))))
 have h:=aJ hb h
 refine .g (.q z (.q z (.nil ?_)))
 refine .cs z h ?_ ?_ <;> intro h
 ·refine .g (.s (ld T.t107 hS z z z z z) z (.q z ?_))
  have ⟨y8,hy8,h⟩:=bnd h
  refine .c (.cV hS Tryz.func98 (uf hy8) z z ?_)
  intro v7 W hS
  obtain rfl:=o9 h
  exact .qn z (.ret (ab (vs:=[_]) v7 (rt z rn) z (hS.to [0])))
 refine .g (.q z (.q z (.nil ?_)))
 refine .cs z h ?_ ?_ <;> intro h
 ·refine .g (.q z (.s (bs T.s51 z z) z (.c (.liv [(Instr.mk 20 0 0 0 a2)] br T.u35 T.t51 hS z z z z ?_ z (fun _=>z)))))
  intro v8 W hS
  cases h
  exact .qn z (.ret (ab (vs:=[_]) v8 (rt z rn) z (hS.to [0])))
 refine .g (.q z (.q z (.nil ?_)))
 refine .cs z h ?_ ?_ <;> intro h
 ·refine .g (.s (ld T.t107 hS z z z z z) z (.q z (.q z ?_)))
  have ⟨y9,hy9,h⟩:=bnd h
  refine .c (.cV hS Tryz.func99 (sw hy9) z z ?_)
  intro v9 W hS
  obtain rfl:=o9 h
  exact .qn z (.ret (ab (vs:=[_]) v9 (rt z rn) z (hS.to [0])))
 refine .g (.q z (.qn z (.cond z (fun hb=>?_) (fun hb=>?_))))
 ·have h:=aI hb h
  refine .seq (.rk 11 hS [0] T.mix ?_)
  intro W hS
  have hT:=hS.to [0]
  refine .ts' 0 z (fun W hT=>fa T.f107_2 z z z) hT z (.ts' 1 z (fun W hT=>ld T.t3 hT z z z z z) hT z (.tp' 2 z z hT (.ts' 4 z (fun W hT=>fa T.f107_4 z z z) hT z (.ts' 5 z (fun W hT=>ld T.t3 hT z z z z z) hT z ?_))))
  have ⟨y10,hy10,h⟩:=bnd h
  refine .by1 3 z (.cV hS Tryz.func101 (nL hy10) z z ?_)
  intro v10 W hS
  have hT:=hS.to [1]
  refine ⟨fun _=>hT,?_⟩
  have ⟨y11,hy11,h⟩:=bnd h
  refine .by1 6 z (.cO hS Tryz.func102 (ol hy11) z z ?_)
  intro W hS
  have hT:=hS.to [1]
  refine ⟨fun _=>hT,.by1 7 z (.liv [y11] br T.u35 T.t51 hS z z z z ?_ z (fun _=>z))⟩
  intro v11 W hS
  have hT:=hS.to [2]
  refine ⟨fun _=>hT,?_⟩
  have ⟨r2,hr2,h⟩:=bnd h
  have hT0:=hS.p1
  refine .by1 8 z (.av hr2 hT0 hT0.p1.lv (fun _=>z) T.u35 T.t51 z z z ?_)
  intro v12 W hS
  have hT:=hS.to [2]
  refine ⟨fun _=>hT,?_⟩
  have ⟨y12,hy12,h⟩:=bnd h
  refine .by1 9 z (.cS (L0:=[ae (sv v12) 51 5 br r2]) hS Tryz.func100 (fun S h1 h2 h3=>(gp hy12 h2 (zz h1))) z z ?_)
  rintro v13 W hS
  have hT:=hS.to [2]
  refine ⟨fun _=>hT,?_⟩
  obtain rfl:=o9 h
  exact .tp' 10 z z hT (.done (.ret (ab (vs:=[_]) v13 (rt z rn) z (hS.to [0]))))
 have h:=aJ hb h
 refine .g (.q z (.qn z (.cond z (fun hb=>?_) (fun hb=>?_))))
 ·have h:=aI hb h
  refine .g (.s (fa T.f107_4 z z z) z (.s (ld T.t3 hS z z z z z) z ?_))
  have ⟨y13,hy13,h⟩:=bnd h
  refine .c (.cO hS Tryz.func102 (ol hy13) z z ?_)
  intro W hS
  refine .c (.liv [y13] br T.u35 T.t51 hS z z z z ?_ z (fun _=>z))
  intro v14 W hS
  have ⟨y14,hy14,h⟩:=bnd h
  refine .c (.cS (L0:=[ae (sv v14) 51 5 br [y13]]) hS Tryz.func100 (fun S h1 h2 h3=>(gp hy14 h2 (zz h1))) z z ?_)
  rintro v15 W hS
  refine .qn z (.seq (.rk 10 hS [1] T.mix ?_))
  intro W hS
  have hT:=hS.to [1]
  refine .tp' 0 z z hT (.tp' 1 z z hT (.ts' 5 z (fun W hT=>fa T.f107_1 z z z) hT z (.ts' 6 z (fun W hT=>ld T.t3 hT z z z z z) hT z (.tp' 7 z z hT ?_))))
  have ⟨y15,hy15,h⟩:=bnd h
  refine .by1 2 z (.cO hS Tryz.func97 (lL hy15) z z ?_)
  intro W hS
  have hT:=hS.to [1]
  refine ⟨fun _=>hT,.by1 3 z (.liv [y15] br T.u35 T.t51 hS z z z z ?_ z (fun _=>z))⟩
  intro v16 W hS
  have hT:=hS.to [2]
  refine ⟨fun _=>hT,?_⟩
  have ⟨r3,hr3,h⟩:=bnd h
  have hT0:=hS.p1
  refine .by1 4 z (.av hr3 hT0 hT0.p1.lv (fun _=>z) T.u35 T.t51 z z z ?_)
  intro v17 W hS
  have hT:=hS.to [2]
  refine ⟨fun _=>hT,?_⟩
  have ⟨y16,hy16,h⟩:=bnd h
  refine .by1 8 z (.cS (L0:=[ae (sv v17) 51 5 br r3]) hS Tryz.func94 (fun S h1 h2 h3=>(iK hy16 h2 (zz h1))) z z ?_)
  rintro v18 W hS
  have hT:=hS.to [2]
  refine ⟨fun _=>hT,?_⟩
  obtain rfl:=o9 h
  exact .tp' 9 z z hT (.done (.ret (ab (vs:=[_]) v18 (rt z rn) z (hS.to [0]))))
 have h:=aJ hb h
 refine .g (.q z (.qn z (.cond z (fun hb=>?_) (fun hb=>?_))))
 ·have h:=aI hb h
  refine .g (.c (.liv [] br T.u35 T.t51 hS z z z z ?_ z (fun _=>z)))
  intro v19 W hS
  have ⟨y17,hy17,h⟩:=bnd h
  refine .c (.cS (L0:=[ae (sv v19) 51 5 br []]) hS Tryz.func100 (fun S h1 h2 h3=>(gp hy17 h2 (zz h1))) z z ?_)
  rintro v20 W hS
  obtain rfl:=o9 h
  exact .qn z (.ret (ab (vs:=[_]) v20 (rt z rn) z (hS.to [0])))
 have h:=aJ hb h
 refine .g (.q z (.qn z (.cond z (fun hb=>?_) (fun hb=>?_))))
 ·have h:=aI hb h
  refine .g (.s (fa T.f107_2 z z z) z (.s (ld T.t3 hS z z z z z) z (.q z ?_)))
  have ⟨y18,hy18,h⟩:=bnd h
  refine .c (.cV hS Tryz.func101 (nL hy18) z z ?_)
  intro v21 W hS
  have ⟨y19,hy19,h⟩:=bnd h
  refine .c (.cS (L0:=[ae (sv v21) 51 5 br y18]) hS Tryz.func100 (fun S h1 h2 h3=>(gp hy19 h2 (zz h1))) z z ?_)
  rintro v22 W hS
  obtain rfl:=o9 h
  exact .qn z (.ret (ab (vs:=[_]) v22 (rt z rn) z (hS.to [0])))
 have h:=aJ hb h
 refine .skip (.g (.c (.liv [] br T.u35 T.t51 hS z z z z ?_ z (fun _=>z))))
 intro v23 W hS
 have ⟨y20,hy20,h⟩:=bnd h
 refine .c (.cS (L0:=[ae (sv v23) 51 5 br []]) hS Tryz.func100 (fun S h1 h2 h3=>(gp hy20 h2 (zz h1))) z z ?_)
 rintro v24 W hS
 obtain rfl:=o9 h
 exact .qn z (.ret (ab (vs:=[_]) v24 (rt z rn) z (hS.to [0])))
theorem ql {a0 : List al} {a1 : Int} {v_0 : Hd} {w : World} {r : (List Int)} (h : gX a0 a1 = some r) (q_0 : RO w v_0 107 5 aX a0) : Cl 70 #[(sv v_0),iv a1] w (Ret No w (fun s : Hd=>(sv s)) (fun s=>[ae (sv s) 3 1 (D.int .i64) r])):=by
 unfold gX at h
 refine ay Tryz.func70 z z ?_
 have hS:=Sep.start w
 refine .g (.qn z (.g (.c (.liv [] (D.int .i64) T.u23 T.t3 hS z z z z ?_ z (fun _=>z)))))
 intro v1 W hS
 refine .qn z (.g (.qn z (.seq (.g (.qn z (.block ?_))))))
 have ⟨y1,hy1,h⟩:=bnd h
 refine .via (.iter (fun s1 E' W'=>∃ (v4 : Hd),aK E' [(0,(sv v_0)),(1,iv a1),(5,(sv v4)),(6,iv s1.2.1),(7,iv s1.2.2)] ∧ Sep No w W' [ae (sv v4) 3 1 (D.int .i64) s1.1]) (fun y2 x E' W'=>x = .exit 0 ∧ ∃ (v5 : Hd),aK E' [(5,(sv v5))] ∧ Sep No w W' [ae (sv v5) 3 1 (D.int .i64) y2]) hy1 ⟨v1,sb z,hS.to [0]⟩ ?_) ?_
 ·intro s1 y3 E W h hI
  obtain ⟨v3,hE,hS⟩:=hI
  refine CW.sub hE ?_
  unfold ka at h
  refine .seq (.g (.q z (.q z (.s (bq (hS.keep q_0) T.u78 z z) z (.q z (.nil ?_))))))
  refine .cs z h ?_ ?_ <;> intro h
  ·refine .skip (.seq (.block (.g (.q z (.q z (.c (.liv [s1.2.1] (D.int .i64) T.u23 T.t3 hS z z z z ?_ z (fun _=>z))))))))
   intro v6 W hS
   have ⟨r1,hr1,h⟩:=bnd h
   have hT0:=hS.p1
   refine .c (.av hr1 hT0 hT0.p1.lv (fun _=>z) T.u23 T.t3 z z z ?_)
   intro v7 W hS
   refine .qn z (.region (.q z (.q z (.q z ?_))))
   have ⟨x1,hx1,h⟩:=bnd h
   refine .s (ixv (hS.keep q_0) hx1 T.u78 T.t107 z z z) z (.s (lde (RV.flat (hS.keep q_0) hx1 z) T.t107 z z z z z) z (.q z ?_))
   have ⟨y4,hy4,h⟩:=bnd h
   refine .c (.cV hS Tryz.func71 (nM hy4) z z ?_)
   intro v8 W hS
   refine .s (bq hS.lv T.u35 z z) z (.q z (.qn z (.region (.q z (.q z (.q z (.nil ?_)))))))
   cases h
   exact ⟨z,v7,sb z,hS.to [1]⟩
  refine .exit ?_
  cases h
  exact ⟨by simp,z,v3,sb z,hS.to [0]⟩
 intro x E W hJ
 obtain ⟨rfl,v9,hE,hS⟩:=hJ
 refine ⟨_,hE.sub,?_⟩
 obtain rfl:=o9 h
 exact .g (.q z (.qn z (.ret (ab (vs:=[_]) v9 (rt z rn) z (hS.to [0])))))
theorem sy {a0 : List al} {a1 : Int} {v_0 : Hd} {w : World} {r : (List Instr)} (h : kc a0 a1 = some r) (q_0 : RO w v_0 107 5 aX a0) : Cl 41 #[(sv v_0),iv a1] w (Ret No w (fun s : Hd=>(sv s)) (fun s=>[ae (sv s) 51 5 br r])):=by
 unfold kc at h
 refine ay Tryz.func41 z z ?_
 have hS:=Sep.start w
 refine .g (.qn z (.g (.q z (.q z ?_))))
 have ⟨y1,hy1,h⟩:=bnd h
 refine .c (.cV hS Tryz.func70 (ql hy1 (hS.keep q_0)) z z ?_)
 intro v1 W hS
 refine .qn z (.g (.c (.liv [] br T.u35 T.t51 hS z z z z ?_ z (fun _=>z))))
 intro v2 W hS
 refine .qn z (.seq (.g (.qn z (.block ?_))))
 have ⟨y2,hy2,h⟩:=bnd h
 refine .via (.iter (fun s1 E' W'=>∃ (v5 : Hd),aK E' [(0,(sv v_0)),(1,iv a1),(5,(sv v1)),(6,(sv v5)),(7,iv s1.2)] ∧ Sep No w W' [ae (sv v1) 3 1 (D.int .i64) y1,ae (sv v5) 51 5 br s1.1]) (fun y3 x E' W'=>x = .exit 0 ∧ ∃ (v6 : Hd),aK E' [(6,(sv v6))] ∧ Sep No w W' [ae (sv v1) 3 1 (D.int .i64) y1,ae (sv v6) 51 5 br y3]) hy2 ⟨v2,sb z,hS.to [1,0]⟩ ?_) ?_
 ·intro s1 y4 E W h hI
  obtain ⟨v4,hE,hS⟩:=hI
  refine CW.sub hE ?_
  unfold lH at h
  refine .seq (.g (.q z (.q z (.s (bq (hS.keep q_0) T.u78 z z) z (.q z (.nil ?_))))))
  refine .cs z h ?_ ?_ <;> intro h
  ·refine .skip (.seq (.block (.g (.q z (.nil ?_)))))
   have ⟨y5,hy5,h⟩:=bnd h
   refine .seq (CW.via (R':=fun x E' W'=>x = .normal ∧ aK E' [(0,(sv v_0)),(1,iv a1),(5,(sv v1)),(6,(sv v4)),(7,iv s1.2),(8,iv y5)] ∧ Sep No w W' [ae (sv v1) 3 1 (D.int .i64) y1,ae (sv v4) 51 5 br s1.1]) ?_ ?_)
   ·have h:=hy5
    refine .g (.q z (.q z ?_))
    have ⟨x1,hx1,h⟩:=bnd h
    refine .s (ixv (hS.keep q_0) hx1 T.u78 T.t107 z z z) z (.s (fe T.f107_0 z z z) z (.s (lde (RV.flat (hS.keep q_0) hx1 z) T.t3 z z z z z) z (.q z (.q z ?_))))
    have ⟨b1,hb1,h⟩:=bnd h
    refine .cu 7 32 (b1) hS ?_ ?_
    ·refine .both (x1.Op == 4) (fun hb=>?_) (fun hb=>?_)
     ·refine .xx hb z (.xx hb z (.xx hb z (.xx hb z (.xx hb z (.xx hb z ?_)))))
      cases aI hb hb1
      exact .s (pkt hb z z z) z (.nil (ck 7 hS))
     have hg1:=hb
     have h:=aJ hb hb1
     refine .g hg1 (.q z (.g hg1 (.q z ?_)))
     have ⟨x2,hx2,h⟩:=bnd h
     refine .g hg1 (.s (ixv (hS.keep q_0) hx2 T.u78 T.t107 z z z) z (.g hg1 (.s (fe T.f107_0 z z z) z (.g hg1 (.s (lde (RV.flat (hS.keep q_0) hx2 z) T.t3 z z z z z) z (.g hg1 (.q z (.s (pkf hg1 z z z) z ?_))))))))
     cases h
     exact .nil (ck 7 hS)
    intro W hS
    refine .nil ?_
    refine .cs z h ?_ ?_ <;> intro h
    ·refine .rk 15 hS [0,0] T.mix ?_
     intro W hS
     have hT:=hS.to [0,0]
     refine .tp' 0 z z hT (.tp' 1 z z hT (.tp' 2 z z hT ?_))
     have ⟨x3,hx3,h⟩:=bnd h
     refine .ts' 3 z (fun W hT=>ixv (hS.keep q_0) hx3 T.u78 T.t107 z z z) hT z (.ts' 4 z (fun W hT=>fe T.f107_4 z z z) hT z (.ts' 5 z (fun W hT=>lde (RV.flat (hT.keep q_0) hx3 z) T.t3 z z z z z) hT z ?_))
     have ⟨x4,hx4,h⟩:=bnd h
     refine .ts' 6 z (fun W hT=>ixv hS.lv hx4 T.u23 T.t3 z z z) hT z (.ts' 7 z (fun W hT=>lde (RV.flat hT.lv hx4 z) T.t3 z z z z z) hT z (.tp' 8 z z hT (.tp' 9 z z hT ?_)))
     have ⟨x5,hx5,h⟩:=bnd h
     refine .ts' 10 z (fun W hT=>ixv hS.lv hx5 T.u23 T.t3 z z z) hT z (.ts' 11 z (fun W hT=>lde (RV.flat hT.lv hx5 z) T.t3 z z z z z) hT z (.tp' 12 z z hT (.tp' 13 z z hT (.tp' 14 z z hT (.done ?_)))))
     cases h
     exact ⟨z,sb z,hS.to [0,0]⟩
    refine .skip ?_
    cases h
    exact ⟨z,sb z,hS.to [0,0]⟩
   intro x E W hJ
   obtain ⟨rfl,hE,hS⟩:=hJ
   refine ⟨_,hE.sub,?_⟩
   refine .region (.q z (.q z (.q z ?_)))
   have ⟨x6,hx6,h⟩:=bnd h
   refine .s (ixv (hS.keep q_0) hx6 T.u78 T.t107 z z z) z (.s (lde (RV.flat (hS.keep q_0) hx6 z) T.t107 z z z z z) z (.q z (.q z ?_)))
   have ⟨y6,hy6,h⟩:=bnd h
   refine .c (.cV hS Tryz.func71 (nM hy6) z z ?_)
   intro v7 W hS
   have ⟨r1,hr1,h⟩:=bnd h
   have hT0:=hS.p2
   refine .c (.av hr1 hT0 hT0.p1.lv (fun _=>z) T.u35 T.t51 z z z ?_)
   intro v8 W hS
   refine .qn z (.region (.q z (.q z (.q z (.nil ?_)))))
   cases h
   exact ⟨z,v8,sb z,hS.to [2,0]⟩
  refine .exit ?_
  cases h
  exact ⟨by simp,z,v4,sb z,hS.to [0,0]⟩
 intro x E W hJ
 obtain ⟨rfl,v9,hE,hS⟩:=hJ
 refine ⟨_,hE.sub,?_⟩
 obtain rfl:=o9 h
 exact .g (.q z (.qn z (.ret (ab (vs:=[_]) v9 (rt z rn) z (hS.to [1])))))
theorem ry {k : Nat} {a0 : aU} {ax : Hd} {g_0 : Nat} {S : Nat → Prop} {w : World} {r : (List (List Instr)) × Int} (h : jk k a0 = some r) (aQ : RV w (Old S w) (sv ax) 5 1 (D.int .u8) a0.b) (hO : bG w [.box g_0 74 [(sv ax),iv a0.p]] S) (hlt : ∀ b,S b → b < w.heap.size) : Cl 17 #[pt g_0] w (Ret S w (fun s : Hd=>(sv s)) (fun s=>[.box g_0 74 [(sv ax),iv r.2],ae (sv s) 35 1 (fun (l : List Instr)=>D.row 51 5 (l.map br)) r.1])):=by
 unfold jk at h
 refine ay Tryz.func17 z z ?_
 have hS:=Sep.sm hO hlt
 refine .g (.qn z (.g (.q z ?_)))
 have ⟨y1,hy1,h⟩:=bnd h
 refine .c (.cS (L0:=[.box g_0 74 [(sv ax),iv a0.p]]) hS Tryz.func40 (fun S h1 h2 h3=>(rv hy1 (hS.ks aQ h1) h2 (zz h1))) z z ?_)
 rintro v1 W hS
 refine .qn z (.g (.q z ?_))
 have ⟨y2,hy2,h⟩:=bnd h
 refine .c (.cS (L0:=[.box g_0 74 [(sv ax),iv y1.2]]) hS Tryz.func18 (fun S h1 h2 h3=>(ak hy2 (hS.ks aQ h1) h2 (zz h1))) z z ?_)
 rintro ⟨⟩ W hS
 refine .q z (.qn z (.g (.c (.lg (L1:=[]) [] (fun (l : List Instr)=>D.row 51 5 (l.map br)) T.u24 T.t35 (hS.to [0,0]) z z z (.nil) ?_ z (fun _=>z)))))
 intro v2 W hS
 refine .qn z (.seq (.g (.qn z (.block ?_))))
 have ⟨y3,hy3,h⟩:=bnd h
 refine .via (.iter (fun s1 E' W'=>∃ (v5 : Hd),aK E' [(3,(sv v1)),(4,iv (w64 (1 + y2.1))),(5,(sv v5)),(6,iv s1.2)] ∧ Sep S w W' [.box g_0 74 [(sv ax),iv y2.2],ae (sv v1) 78 1 (fun (l : List al)=>D.row 107 5 (l.map aX)) y1.1,ae (sv v5) 35 1 (fun (l : List Instr)=>D.row 51 5 (l.map br)) s1.1]) (fun y4 x E' W'=>x = .exit 0 ∧ ∃ (v6 : Hd),aK E' [(5,(sv v6))] ∧ Sep S w W' [.box g_0 74 [(sv ax),iv y2.2],ae (sv v1) 78 1 (fun (l : List al)=>D.row 107 5 (l.map aX)) y1.1,ae (sv v6) 35 1 (fun (l : List Instr)=>D.row 51 5 (l.map br)) y4]) hy3 ⟨v2,sb z,hS.to [1,1,0]⟩ ?_) ?_
 ·intro s1 y5 E W h hI
  obtain ⟨v4,hE,hS⟩:=hI
  refine CW.sub hE ?_
  unfold kU at h
  refine .seq (.g (.q z (.q z (.s (bq hS.p1.lv T.u75 z z) z (.q z (.nil ?_))))))
  refine .cs z h ?_ ?_ <;> intro h
  ·refine .skip (.seq (.block (.region (.q z (.q z (.q z ?_))))))
   have ⟨x1,hx1,h⟩:=bnd h
   refine .s (ixv hS.p1.lv hx1 T.u75 T.t78 z z z) z ?_
   obtain ⟨k1,hS⟩:=Sep.ov hS.p1 hx1
   obtain ⟨v7,k1,rfl,hS⟩:=hS.ow
   obtain ⟨rfl,hS⟩:=hS.oN
   refine .s (lde (hS.p1.hcellsv) T.t78 z z z z z) z (.q z ?_)
   have ⟨y6,hy6,h⟩:=bnd h
   refine .c (.cV hS Tryz.func41 (sy hy6 hS.lv) z z ?_)
   intro v8 W hS
   refine .c (.lg (L1:=[ae (sv v8) 51 5 br y6]) [y6] (fun (l : List Instr)=>D.row 51 5 (l.map br)) T.u24 T.t35 (hS.to [0,0,0,0,0]) z z z (.row (.nil)) ?_ z (fun _=>z))
   intro v9 W hS
   have ⟨r1,hr1,h⟩:=bnd h
   refine .c (.appv hr1 (hS.to [4,0,0,0,0]) T.u24 T.t35 z z z ?_)
   intro v10 W hS
   refine .qn z (.region (.q z (.q z (.q z (.nil ?_)))))
   have hS:=Sep.gat (ds:=[.row 107 5 (x1.map aX)]) (cs:=[(sv v7)]) (L1:=[ae (sv v7) 107 5 aX x1]) (.row (.nil)) (hS.to [1,1,0,0])
   have hS : Sep _ _ _ [ae (sv v1) 78 1 (fun (l : List al)=>D.row 107 5 (l.map aX)) y1.1,ae (sv v10) 35 1 (fun (l : List Instr)=>D.row 51 5 (l.map br)) r1,.box g_0 74 [(sv ax),iv y2.2]]:=Sep.back0v hx1 hS
   cases h
   exact ⟨z,v10,sb z,hS.to [2,0,0]⟩
  refine .exit ?_
  cases h
  exact ⟨by simp,z,v4,sb z,hS.to [0,0,0]⟩
 intro x E W hJ
 obtain ⟨rfl,v11,hE,hS⟩:=hJ
 refine ⟨_,hE.sub,?_⟩
 cases h
 exact .g (.q z (.qn z (.ret (ab (vs:=[_]) v11 (rt z rn) z (hS.to [0,1])))))
theorem dn {a0 : Int} {w : World} {r : Int} (h : ce a0 = some r) : Cl 56 #[iv a0] w (RU w (.int .i64 r)):=by
 unfold ce at h
 refine ay Tryz.func56 z z ?_
 have hS:=Sep.start w
 cases h
 exact .g (.qn z (.g (.q z (.s (cv T.u3 T.u21 z z) z (.s (cv T.u21 T.u3 z z) z (.qn z (.ret (ab (vs:=[_]) () (rt z rn) z (hS.to [])))))))))
theorem ku {a0 : Int} {w : World} {r : Bool} (h : de a0 = some r) : Cl 78 #[iv a0] w (RU w (.bool r)):=by
 unfold de at h
 refine ay Tryz.func78 z z ?_
 have hS:=Sep.start w
 refine .g (.qn z (.g (.q z (.q z (.q z (.cu 3 8 ((decide (a0 ≥ (-2147483648))) && (decide (a0 ≤ 2147483647))) hS ?_ ?_))))))
 ·refine .both (decide (a0 ≥ (-2147483648))) (fun hb=>?_) (fun hb=>?_)
  ·have hg1:=hb
   exact .g hg1 (.q z (.g hg1 (.q z (.s (pkt hg1 z z z) z (.nil (ck 3 hS z (bH hg1)))))))
  exact .xx hb z (.xx hb z (.s (pkf hb z z z) z (.nil (ck 3 hS z (bI hb)))))
 intro W hS
 cases h
 exact .qn z (.ret (ab (vs:=[_]) () (rt z rn) z (hS.to [])))
theorem iL {a0 : Int} {w : World} {r : Int} (h : cl a0 = some r) : Cl 55 #[iv a0] w (RU w (.int .i64 r)):=by
 unfold cl at h
 refine ay Tryz.func55 z z ?_
 have hS:=Sep.start w
 refine .g (.qn z (.seq (.g (.q z ?_))))
 have ⟨y1,hy1,h⟩:=bnd h
 refine .c (.cO hS Tryz.func78 (ku hy1) z z ?_)
 intro W hS
 refine .q z (.nil ?_)
 refine .cs z h ?_ ?_ <;> intro h
 ·cases h
  exact .g (.qn z (.ret (ab (vs:=[_]) () (rt z rn) z (hS.to []))))
 cases h
 exact .skip (.g (.q z (.s (cv T.u3 T.u118 z z) z (.s (cv T.u118 T.u3 z z) z (.qn z (.ret (ab (vs:=[_]) () (rt z rn) z (hS.to []))))))))
theorem iM {a0 : Int} {w : World} {r : Int} (h : bO a0 = some r) : Cl 106 #[iv a0] w (RU w (.int .u8 r)):=by
 unfold bO at h
 refine ay Tryz.func106 z z ?_
 have hS:=Sep.start w
 refine .g (.qn z (.seq (.block (.g (.q z (.q z (.q z (.cu 3 9 ((decide (a0 ≥ 1)) && (decide (a0 ≤ 11))) hS ?_ ?_))))))))
 ·refine .both (decide (a0 ≥ 1)) (fun hb=>?_) (fun hb=>?_)
  ·have hg1:=hb
   exact .g hg1 (.q z (.g hg1 (.q z (.s (pkt hg1 z z z) z (.nil (ck 3 hS z (bH hg1)))))))
  exact .xx hb z (.xx hb z (.s (pkf hb z z z) z (.nil (ck 3 hS z (bI hb)))))
 intro W hS
 refine .q z (.nil ?_)
 refine .cs z h ?_ ?_ <;> intro h
 ·cases h
  exact .g (.qn z (.ret (ab (vs:=[_]) () (rt z rn) z (hS.to []))))
 refine .g (.q z (.q z (.q z (.cu 3 16 ((decide (a0 ≥ 12)) && (decide (a0 ≤ 15))) hS ?_ ?_))))
 ·refine .both (decide (a0 ≥ 12)) (fun hb=>?_) (fun hb=>?_)
  ·have hg2:=hb
   exact .g hg2 (.q z (.g hg2 (.q z (.s (pkt hg2 z z z) z (.nil (ck 3 hS z (bH hg2)))))))
  exact .xx hb z (.xx hb z (.s (pkf hb z z z) z (.nil (ck 3 hS z (bI hb)))))
 intro W hS
 refine .q z (.nil ?_)
 refine .cs z h ?_ ?_ <;> intro h
 ·cases h
  exact .g (.qn z (.ret (ab (vs:=[_]) () (rt z rn) z (hS.to []))))
 refine .g (.q z (.q z (.q z (.nil ?_))))
 refine .cs z h ?_ ?_ <;> intro h
 ·cases h
  exact .g (.qn z (.ret (ab (vs:=[_]) () (rt z rn) z (hS.to []))))
 refine .g (.q z (.q z (.q z (.cu 3 26 ((a0 == 17) || (a0 == 18)) hS ?_ ?_))))
 ·refine .both (a0 == 17) (fun hb=>?_) (fun hb=>?_)
  ·exact .xx hb z (.xx hb z (.s (pkt hb z z z) z (.nil (ck 3 hS z (ig hb)))))
  have hg3:=hb
  exact .g hg3 (.q z (.g hg3 (.q z (.s (pkf hg3 z z z) z (.nil (ck 3 hS z (ij hg3)))))))
 intro W hS
 refine .q z (.nil ?_)
 refine .cs z h ?_ ?_ <;> intro h
 ·cases h
  exact .g (.qn z (.ret (ab (vs:=[_]) () (rt z rn) z (hS.to []))))
 refine .g (.q z (.q z (.q z (.nil ?_))))
 refine .cs z h ?_ ?_ <;> intro h
 ·cases h
  exact .g (.qn z (.ret (ab (vs:=[_]) () (rt z rn) z (hS.to []))))
 refine .g (.q z (.q z (.q z (.nil ?_))))
 refine .cs z h ?_ ?_ <;> intro h
 ·cases h
  exact .g (.qn z (.ret (ab (vs:=[_]) () (rt z rn) z (hS.to []))))
 refine .g (.q z (.q z (.q z (.nil ?_))))
 refine .cs z h ?_ ?_ <;> intro h
 ·cases h
  exact .g (.qn z (.ret (ab (vs:=[_]) () (rt z rn) z (hS.to []))))
 cases h
 exact .skip (.g (.qn z (.ret (ab (vs:=[_]) () (rt z rn) z (hS.to [])))))
theorem ic {a0 : Int} {w : World} {r : Bool} (h : cG a0 = some r) : Cl 129 #[iv a0] w (RU w (.bool r)):=by
 unfold cG at h
 refine ay Tryz.func129 z z ?_
 have hS:=Sep.start w
 refine .g (.qn z (.g (.q z (.q z (.q z (.cu 3 8 ((decide (a0 ≥ 0)) && (decide (a0 < 32))) hS ?_ ?_))))))
 ·refine .both (decide (a0 ≥ 0)) (fun hb=>?_) (fun hb=>?_)
  ·have hg1:=hb
   exact .g hg1 (.q z (.g hg1 (.q z (.s (pkt hg1 z z z) z (.nil (ck 3 hS z (bH hg1)))))))
  exact .xx hb z (.xx hb z (.s (pkf hb z z z) z (.nil (ck 3 hS z (bI hb)))))
 intro W hS
 cases h
 exact .qn z (.ret (ab (vs:=[_]) () (rt z rn) z (hS.to [])))
theorem pB {a0 : Instr} {w : World} {r : Bool} (h : bu a0 = some r) : Cl 103 #[.agg #[iv a0.Op,iv a0.Rd,iv a0.Rs,iv a0.Rt,iv a0.Imm]] w (RU w (.bool r)):=by
 unfold bu at h
 refine ay Tryz.func103 z z ?_
 have hS:=Sep.start w
 refine .g (.c (.box hS z z ?_))
 intro g1 W hS
 refine .qn z (.seq (.rk 12 hS [0] T.mix ?_))
 intro W hS
 have hT:=hS.to [0]
 refine .ts' 0 z (fun W hT=>fa T.f51_1 z z z) hT z (.ts' 1 z (fun W hT=>ld T.t3 hT z z z z z) hT z (.ts' 3 z (fun W hT=>fa T.f51_2 z z z) hT z (.ts' 4 z (fun W hT=>ld T.t3 hT z z z z z) hT z (.ts' 6 z (fun W hT=>fa T.f51_3 z z z) hT z (.ts' 7 z (fun W hT=>ld T.t3 hT z z z z z) hT z ?_)))))
 have ⟨y1,hy1,h⟩:=bnd h
 refine .by1 2 z (.cO hS Tryz.func129 (ic hy1) z z ?_)
 intro W hS
 have hT:=hS.to [0]
 refine ⟨fun _=>hT,?_⟩
 have ⟨y2,hy2,h⟩:=bnd h
 refine .by1 5 z (.cO hS Tryz.func129 (ic hy2) z z ?_)
 intro W hS
 have hT:=hS.to [0]
 refine ⟨fun _=>hT,?_⟩
 have ⟨y3,hy3,h⟩:=bnd h
 refine .by1 8 z (.cO hS Tryz.func129 (ic hy3) z z ?_)
 intro W hS
 have hT:=hS.to [0]
 refine ⟨fun _=>hT,.tp' 9 z z hT (.tp' 10 z z hT (.tp' 11 z z hT (.done (.g (.s (fa T.f51_4 z z z) z (.s (ld T.t3 hS z z z z z) z (.q z (.q z (.cu 4 23 ((decide (a0.Imm ≥ (-2048))) && (decide (a0.Imm ≤ 2047))) hS ?_ ?_)))))))))⟩
 ·refine .both (decide (a0.Imm ≥ (-2048))) (fun hb=>?_) (fun hb=>?_)
  ·have hg1:=hb
   exact .g hg1 (.s (fa T.f51_4 z z z) z (.g hg1 (.s (ld T.t3 hS z z z z z) z (.g hg1 (.q z (.s (pkt hg1 z z z) z (.nil (ck 4 hS z (bH hg1)))))))))
  exact .xx hb z (.xx hb z (.xx hb z (.s (pkf hb z z z) z (.nil (ck 4 hS z (bI hb))))))
 intro W hS
 refine .qn z (.seq (.g (.s (fa T.f51_0 z z z) z (.s (ld T.t3 hS z z z z z) z ?_))))
 have ⟨y4,hy4,h⟩:=bnd h
 refine .c (.cO hS Tryz.func106 (iM hy4) z z ?_)
 intro W hS
 refine .nil (.block (.g (.q z (.q z (.nil ?_)))))
 refine .cs z h ?_ ?_ <;> intro h
 ·refine .g (.q z (.q z (.cu 2 32 (y1 && y2) hS ?_ ?_)))
  ·refine .both (y1) (fun hb=>?_) (fun hb=>?_)
   ·have hg2:=hb
    exact .g hg2 (.q z (.s (pkt hg2 z z z) z (.nil (ck 2 hS z (bH hg2)))))
   exact .xx hb z (.s (pkf hb z z z) z (.nil (ck 2 hS z (bI hb))))
  intro W hS
  refine .q z (.cu 2 35 ((y1 && y2) && y3) hS ?_ ?_)
  ·refine .both (y1 && y2) (fun hb=>?_) (fun hb=>?_)
   ·have hg3:=hb
    exact .g hg3 (.q z (.s (pkt hg3 z z z) z (.nil (ck 2 hS z (bH hg3)))))
   exact .xx hb z (.s (pkf hb z z z) z (.nil (ck 2 hS z (bI hb))))
  intro W hS
  refine .q z (.cu 4 40 (((y1 && y2) && y3) && (a0.Imm == 0)) hS ?_ ?_)
  ·refine .both ((y1 && y2) && y3) (fun hb=>?_) (fun hb=>?_)
   ·have hg4:=hb
    exact .g hg4 (.s (fa T.f51_4 z z z) z (.g hg4 (.s (ld T.t3 hS z z z z z) z (.g hg4 (.q z (.s (pkt hg4 z z z) z (.nil (ck 4 hS z (bH hg4)))))))))
   exact .xx hb z (.xx hb z (.xx hb z (.s (pkf hb z z z) z (.nil (ck 4 hS z (bI hb))))))
  intro W hS
  cases h
  exact .qn z (.ret (ab (vs:=[_]) () (rt z rn) z (hS.to [])))
 refine .g (.q z (.q z (.nil ?_)))
 refine .cs z h ?_ ?_ <;> intro h
 ·refine .g (.q z (.q z (.cu 2 46 (y1 && y2) hS ?_ ?_)))
  ·refine .both (y1) (fun hb=>?_) (fun hb=>?_)
   ·have hg5:=hb
    exact .g hg5 (.q z (.s (pkt hg5 z z z) z (.nil (ck 2 hS z (bH hg5)))))
   exact .xx hb z (.s (pkf hb z z z) z (.nil (ck 2 hS z (bI hb))))
  intro W hS
  refine .q z (.cu 4 51 ((y1 && y2) && (a0.Rt == 0)) hS ?_ ?_)
  ·refine .both (y1 && y2) (fun hb=>?_) (fun hb=>?_)
   ·have hg6:=hb
    exact .g hg6 (.s (fa T.f51_3 z z z) z (.g hg6 (.s (ld T.t3 hS z z z z z) z (.g hg6 (.q z (.s (pkt hg6 z z z) z (.nil (ck 4 hS z (bH hg6)))))))))
   exact .xx hb z (.xx hb z (.xx hb z (.s (pkf hb z z z) z (.nil (ck 4 hS z (bI hb))))))
  intro W hS
  refine .q z (.cu 2 54 (((y1 && y2) && (a0.Rt == 0)) && ((decide (a0.Imm ≥ (-2048))) && (decide (a0.Imm ≤ 2047)))) hS ?_ ?_)
  ·refine .both ((y1 && y2) && (a0.Rt == 0)) (fun hb=>?_) (fun hb=>?_)
   ·have hg7:=hb
    exact .g hg7 (.q z (.s (pkt hg7 z z z) z (.nil (ck 2 hS z (bH hg7)))))
   exact .xx hb z (.s (pkf hb z z z) z (.nil (ck 2 hS z (bI hb))))
  intro W hS
  cases h
  exact .qn z (.ret (ab (vs:=[_]) () (rt z rn) z (hS.to [])))
 refine .g (.q z (.q z (.nil ?_)))
 refine .cs z h ?_ ?_ <;> intro h
 ·refine .g (.s (fa T.f51_1 z z z) z (.s (ld T.t3 hS z z z z z) z (.q z (.q z (.cu 2 62 ((a0.Rd == 0) && y2) hS ?_ ?_)))))
  ·refine .both (a0.Rd == 0) (fun hb=>?_) (fun hb=>?_)
   ·have hg8:=hb
    exact .g hg8 (.q z (.s (pkt hg8 z z z) z (.nil (ck 2 hS z (bH hg8)))))
   exact .xx hb z (.s (pkf hb z z z) z (.nil (ck 2 hS z (bI hb))))
  intro W hS
  refine .q z (.cu 2 65 (((a0.Rd == 0) && y2) && y3) hS ?_ ?_)
  ·refine .both ((a0.Rd == 0) && y2) (fun hb=>?_) (fun hb=>?_)
   ·have hg9:=hb
    exact .g hg9 (.q z (.s (pkt hg9 z z z) z (.nil (ck 2 hS z (bH hg9)))))
   exact .xx hb z (.s (pkf hb z z z) z (.nil (ck 2 hS z (bI hb))))
  intro W hS
  refine .q z (.cu 2 68 ((((a0.Rd == 0) && y2) && y3) && ((decide (a0.Imm ≥ (-2048))) && (decide (a0.Imm ≤ 2047)))) hS ?_ ?_)
  ·refine .both (((a0.Rd == 0) && y2) && y3) (fun hb=>?_) (fun hb=>?_)
   ·have hg10:=hb
    exact .g hg10 (.q z (.s (pkt hg10 z z z) z (.nil (ck 2 hS z (bH hg10)))))
   exact .xx hb z (.s (pkf hb z z z) z (.nil (ck 2 hS z (bI hb))))
  intro W hS
  cases h
  exact .qn z (.ret (ab (vs:=[_]) () (rt z rn) z (hS.to [])))
 refine .g (.q z (.q z (.nil ?_)))
 refine .cs z h ?_ ?_ <;> intro h
 ·refine .g (.s (fa T.f51_1 z z z) z (.s (ld T.t3 hS z z z z z) z (.q z (.q z (.cu 2 76 ((a0.Rd == 0) && y2) hS ?_ ?_)))))
  ·refine .both (a0.Rd == 0) (fun hb=>?_) (fun hb=>?_)
   ·have hg11:=hb
    exact .g hg11 (.q z (.s (pkt hg11 z z z) z (.nil (ck 2 hS z (bH hg11)))))
   exact .xx hb z (.s (pkf hb z z z) z (.nil (ck 2 hS z (bI hb))))
  intro W hS
  refine .q z (.cu 2 79 (((a0.Rd == 0) && y2) && y3) hS ?_ ?_)
  ·refine .both ((a0.Rd == 0) && y2) (fun hb=>?_) (fun hb=>?_)
   ·have hg12:=hb
    exact .g hg12 (.q z (.s (pkt hg12 z z z) z (.nil (ck 2 hS z (bH hg12)))))
   exact .xx hb z (.s (pkf hb z z z) z (.nil (ck 2 hS z (bI hb))))
  intro W hS
  refine .q z (.cu 4 84 ((((a0.Rd == 0) && y2) && y3) && (decide (a0.Imm ≥ (-4096)))) hS ?_ ?_)
  ·refine .both (((a0.Rd == 0) && y2) && y3) (fun hb=>?_) (fun hb=>?_)
   ·have hg13:=hb
    exact .g hg13 (.s (fa T.f51_4 z z z) z (.g hg13 (.s (ld T.t3 hS z z z z z) z (.g hg13 (.q z (.s (pkt hg13 z z z) z (.nil (ck 4 hS z (bH hg13)))))))))
   exact .xx hb z (.xx hb z (.xx hb z (.s (pkf hb z z z) z (.nil (ck 4 hS z (bI hb))))))
  intro W hS
  refine .q z (.cu 4 89 (((((a0.Rd == 0) && y2) && y3) && (decide (a0.Imm ≥ (-4096)))) && (decide (a0.Imm ≤ 4094))) hS ?_ ?_)
  ·refine .both ((((a0.Rd == 0) && y2) && y3) && (decide (a0.Imm ≥ (-4096)))) (fun hb=>?_) (fun hb=>?_)
   ·have hg14:=hb
    exact .g hg14 (.s (fa T.f51_4 z z z) z (.g hg14 (.s (ld T.t3 hS z z z z z) z (.g hg14 (.q z (.s (pkt hg14 z z z) z (.nil (ck 4 hS z (bH hg14)))))))))
   exact .xx hb z (.xx hb z (.xx hb z (.s (pkf hb z z z) z (.nil (ck 4 hS z (bI hb))))))
  intro W hS
  refine .q z (.cu 5 95 ((((((a0.Rd == 0) && y2) && y3) && (decide (a0.Imm ≥ (-4096)))) && (decide (a0.Imm ≤ 4094))) && ((Int.tmod a0.Imm 2) == 0)) hS ?_ ?_)
  ·refine .both (((((a0.Rd == 0) && y2) && y3) && (decide (a0.Imm ≥ (-4096)))) && (decide (a0.Imm ≤ 4094))) (fun hb=>?_) (fun hb=>?_)
   ·have hg15:=hb
    exact .g hg15 (.s (fa T.f51_4 z z z) z (.g hg15 (.s (ld T.t3 hS z z z z z) z (.g hg15 (.q z (.g hg15 (.q z (.s (pkt hg15 z z z) z (.nil (ck 5 hS z (bH hg15)))))))))))
   exact .xx hb z (.xx hb z (.xx hb z (.xx hb z (.s (pkf hb z z z) z (.nil (ck 5 hS z (bI hb)))))))
  intro W hS
  cases h
  exact .qn z (.ret (ab (vs:=[_]) () (rt z rn) z (hS.to [])))
 refine .g (.q z (.q z (.nil ?_)))
 refine .cs z h ?_ ?_ <;> intro h
 ·refine .g (.q z (.q z (.cu 4 103 (y1 && (a0.Rs == 0)) hS ?_ ?_)))
  ·refine .both (y1) (fun hb=>?_) (fun hb=>?_)
   ·have hg16:=hb
    exact .g hg16 (.s (fa T.f51_2 z z z) z (.g hg16 (.s (ld T.t3 hS z z z z z) z (.g hg16 (.q z (.s (pkt hg16 z z z) z (.nil (ck 4 hS z (bH hg16)))))))))
   exact .xx hb z (.xx hb z (.xx hb z (.s (pkf hb z z z) z (.nil (ck 4 hS z (bI hb))))))
  intro W hS
  refine .q z (.cu 4 108 ((y1 && (a0.Rs == 0)) && (a0.Rt == 0)) hS ?_ ?_)
  ·refine .both (y1 && (a0.Rs == 0)) (fun hb=>?_) (fun hb=>?_)
   ·have hg17:=hb
    exact .g hg17 (.s (fa T.f51_3 z z z) z (.g hg17 (.s (ld T.t3 hS z z z z z) z (.g hg17 (.q z (.s (pkt hg17 z z z) z (.nil (ck 4 hS z (bH hg17)))))))))
   exact .xx hb z (.xx hb z (.xx hb z (.s (pkf hb z z z) z (.nil (ck 4 hS z (bI hb))))))
  intro W hS
  refine .q z (.cu 4 113 (((y1 && (a0.Rs == 0)) && (a0.Rt == 0)) && (decide (a0.Imm ≥ 0))) hS ?_ ?_)
  ·refine .both ((y1 && (a0.Rs == 0)) && (a0.Rt == 0)) (fun hb=>?_) (fun hb=>?_)
   ·have hg18:=hb
    exact .g hg18 (.s (fa T.f51_4 z z z) z (.g hg18 (.s (ld T.t3 hS z z z z z) z (.g hg18 (.q z (.s (pkt hg18 z z z) z (.nil (ck 4 hS z (bH hg18)))))))))
   exact .xx hb z (.xx hb z (.xx hb z (.s (pkf hb z z z) z (.nil (ck 4 hS z (bI hb))))))
  intro W hS
  refine .q z (.cu 4 118 ((((y1 && (a0.Rs == 0)) && (a0.Rt == 0)) && (decide (a0.Imm ≥ 0))) && (decide (a0.Imm ≤ 1048575))) hS ?_ ?_)
  ·refine .both (((y1 && (a0.Rs == 0)) && (a0.Rt == 0)) && (decide (a0.Imm ≥ 0))) (fun hb=>?_) (fun hb=>?_)
   ·have hg19:=hb
    exact .g hg19 (.s (fa T.f51_4 z z z) z (.g hg19 (.s (ld T.t3 hS z z z z z) z (.g hg19 (.q z (.s (pkt hg19 z z z) z (.nil (ck 4 hS z (bH hg19)))))))))
   exact .xx hb z (.xx hb z (.xx hb z (.s (pkf hb z z z) z (.nil (ck 4 hS z (bI hb))))))
  intro W hS
  cases h
  exact .qn z (.ret (ab (vs:=[_]) () (rt z rn) z (hS.to [])))
 refine .g (.q z (.q z (.nil ?_)))
 refine .cs z h ?_ ?_ <;> intro h
 ·refine .g (.q z (.q z (.cu 4 126 (y1 && (a0.Rs == 0)) hS ?_ ?_)))
  ·refine .both (y1) (fun hb=>?_) (fun hb=>?_)
   ·have hg20:=hb
    exact .g hg20 (.s (fa T.f51_2 z z z) z (.g hg20 (.s (ld T.t3 hS z z z z z) z (.g hg20 (.q z (.s (pkt hg20 z z z) z (.nil (ck 4 hS z (bH hg20)))))))))
   exact .xx hb z (.xx hb z (.xx hb z (.s (pkf hb z z z) z (.nil (ck 4 hS z (bI hb))))))
  intro W hS
  refine .q z (.cu 4 131 ((y1 && (a0.Rs == 0)) && (a0.Rt == 0)) hS ?_ ?_)
  ·refine .both (y1 && (a0.Rs == 0)) (fun hb=>?_) (fun hb=>?_)
   ·have hg21:=hb
    exact .g hg21 (.s (fa T.f51_3 z z z) z (.g hg21 (.s (ld T.t3 hS z z z z z) z (.g hg21 (.q z (.s (pkt hg21 z z z) z (.nil (ck 4 hS z (bH hg21)))))))))
   exact .xx hb z (.xx hb z (.xx hb z (.s (pkf hb z z z) z (.nil (ck 4 hS z (bI hb))))))
  intro W hS
  refine .q z (.cu 4 136 (((y1 && (a0.Rs == 0)) && (a0.Rt == 0)) && (decide (a0.Imm ≥ (-1048576)))) hS ?_ ?_)
  ·refine .both ((y1 && (a0.Rs == 0)) && (a0.Rt == 0)) (fun hb=>?_) (fun hb=>?_)
   ·have hg22:=hb
    exact .g hg22 (.s (fa T.f51_4 z z z) z (.g hg22 (.s (ld T.t3 hS z z z z z) z (.g hg22 (.q z (.s (pkt hg22 z z z) z (.nil (ck 4 hS z (bH hg22)))))))))
   exact .xx hb z (.xx hb z (.xx hb z (.s (pkf hb z z z) z (.nil (ck 4 hS z (bI hb))))))
  intro W hS
  refine .q z (.cu 4 141 ((((y1 && (a0.Rs == 0)) && (a0.Rt == 0)) && (decide (a0.Imm ≥ (-1048576)))) && (decide (a0.Imm ≤ 1048574))) hS ?_ ?_)
  ·refine .both (((y1 && (a0.Rs == 0)) && (a0.Rt == 0)) && (decide (a0.Imm ≥ (-1048576)))) (fun hb=>?_) (fun hb=>?_)
   ·have hg23:=hb
    exact .g hg23 (.s (fa T.f51_4 z z z) z (.g hg23 (.s (ld T.t3 hS z z z z z) z (.g hg23 (.q z (.s (pkt hg23 z z z) z (.nil (ck 4 hS z (bH hg23)))))))))
   exact .xx hb z (.xx hb z (.xx hb z (.s (pkf hb z z z) z (.nil (ck 4 hS z (bI hb))))))
  intro W hS
  refine .q z (.cu 5 147 (((((y1 && (a0.Rs == 0)) && (a0.Rt == 0)) && (decide (a0.Imm ≥ (-1048576)))) && (decide (a0.Imm ≤ 1048574))) && ((Int.tmod a0.Imm 2) == 0)) hS ?_ ?_)
  ·refine .both ((((y1 && (a0.Rs == 0)) && (a0.Rt == 0)) && (decide (a0.Imm ≥ (-1048576)))) && (decide (a0.Imm ≤ 1048574))) (fun hb=>?_) (fun hb=>?_)
   ·have hg24:=hb
    exact .g hg24 (.s (fa T.f51_4 z z z) z (.g hg24 (.s (ld T.t3 hS z z z z z) z (.g hg24 (.q z (.g hg24 (.q z (.s (pkt hg24 z z z) z (.nil (ck 5 hS z (bH hg24)))))))))))
   exact .xx hb z (.xx hb z (.xx hb z (.xx hb z (.s (pkf hb z z z) z (.nil (ck 5 hS z (bI hb)))))))
  intro W hS
  cases h
  exact .qn z (.ret (ab (vs:=[_]) () (rt z rn) z (hS.to [])))
 refine .g (.q z (.q z (.nil ?_)))
 refine .cs z h ?_ ?_ <;> intro h
 ·cases h
  exact .g (.s (ld T.t51 hS z z z z z) z (.s (bs T.s51 z z) z (.s (eqs T.e51 z z z z) z (.qn z (.ret (ab (vs:=[_]) () (rt z rn) z (hS.to [])))))))
 obtain rfl:=o9 h
 exact .skip (.g (.qn z (.ret (ab (vs:=[_]) () (rt z rn) z (hS.to [])))))
theorem mq {a0 : Int} {w : World} {r : Bool} (h : dY a0 = some r) : Cl 79 #[iv a0] w (RU w (.bool r)):=by
 unfold dY at h
 refine ay Tryz.func79 z z ?_
 have hS:=Sep.start w
 refine .g (.qn z (.g (.q z (.q z (.q z (.cu 3 8 ((decide (a0 ≥ 0)) && (decide (a0 < 4294967296))) hS ?_ ?_))))))
 ·refine .both (decide (a0 ≥ 0)) (fun hb=>?_) (fun hb=>?_)
  ·have hg1:=hb
   exact .g hg1 (.q z (.g hg1 (.q z (.s (pkt hg1 z z z) z (.nil (ck 3 hS z (bH hg1)))))))
  exact .xx hb z (.xx hb z (.s (pkf hb z z z) z (.nil (ck 3 hS z (bI hb)))))
 intro W hS
 cases h
 exact .qn z (.ret (ab (vs:=[_]) () (rt z rn) z (hS.to [])))
theorem cd {a0 : Int} {a1 : Int} {a2 : Int} {w : World} {r : Int} (h : bL a0 a1 a2 = some r) : Cl 105 #[iv a0,iv a1,iv a2] w (RU w (.int .i64 r)):=by
 unfold bL at h
 refine ay Tryz.func105 z z ?_
 have hS:=Sep.start w
 refine .g (.qn z (.seq (.g (.q z ?_))))
 have ⟨y1,hy1,h⟩:=bnd h
 refine .c (.cO hS Tryz.func79 (mq hy1) z z ?_)
 intro W hS
 refine .q z (.q z (.cu 3 13 ((!y1) || (decide (a1 < 0))) hS ?_ ?_))
 ·refine .both (!y1) (fun hb=>?_) (fun hb=>?_)
  ·exact .xx hb z (.xx hb z (.s (pkt hb z z z) z (.nil (ck 3 hS z (ig hb)))))
  have hg1:=hb
  exact .g hg1 (.q z (.g hg1 (.q z (.s (pkf hg1 z z z) z (.nil (ck 3 hS z (ij hg1)))))))
 intro W hS
 refine .q z (.cu 3 17 (((!y1) || (decide (a1 < 0))) || (decide (a1 > 31))) hS ?_ ?_)
 ·refine .both ((!y1) || (decide (a1 < 0))) (fun hb=>?_) (fun hb=>?_)
  ·exact .xx hb z (.xx hb z (.s (pkt hb z z z) z (.nil (ck 3 hS z (ig hb)))))
  have hg2:=hb
  exact .g hg2 (.q z (.g hg2 (.q z (.s (pkf hg2 z z z) z (.nil (ck 3 hS z (ij hg2)))))))
 intro W hS
 refine .q z (.cu 3 21 ((((!y1) || (decide (a1 < 0))) || (decide (a1 > 31))) || (decide (a2 < 1))) hS ?_ ?_)
 ·refine .both (((!y1) || (decide (a1 < 0))) || (decide (a1 > 31))) (fun hb=>?_) (fun hb=>?_)
  ·exact .xx hb z (.xx hb z (.s (pkt hb z z z) z (.nil (ck 3 hS z (ig hb)))))
  have hg3:=hb
  exact .g hg3 (.q z (.g hg3 (.q z (.s (pkf hg3 z z z) z (.nil (ck 3 hS z (ij hg3)))))))
 intro W hS
 refine .q z (.cu 5 27 (((((!y1) || (decide (a1 < 0))) || (decide (a1 > 31))) || (decide (a2 < 1))) || (decide (a2 > (w64 (32 - a1))))) hS ?_ ?_)
 ·refine .both ((((!y1) || (decide (a1 < 0))) || (decide (a1 > 31))) || (decide (a2 < 1))) (fun hb=>?_) (fun hb=>?_)
  ·exact .xx hb z (.xx hb z (.xx hb z (.xx hb z (.s (pkt hb z z z) z (.nil (ck 5 hS z (ig hb)))))))
  have hg4:=hb
  exact .g hg4 (.q z (.g hg4 (.q z (.g hg4 (.q z (.g hg4 (.q z (.s (pkf hg4 z z z) z (.nil (ck 5 hS z (ij hg4)))))))))))
 intro W hS
 refine .nil ?_
 refine .cs z h ?_ ?_ <;> intro h
 ·cases h
  exact .g (.qn z (.ret (ab (vs:=[_]) () (rt z rn) z (hS.to []))))
 refine .skip (.seq (.rk 8 hS [] T.mix ?_))
 intro W hS
 have hT:=hS.to []
 refine .tp' 0 z z hT (.tp' 1 z z hT ?_)
 have ⟨d1,hd1,h⟩:=bnd h
 refine .ts' 2 z (fun W hT=>la hd1 z z z) hT z (.tp' 3 z z hT ?_)
 have ⟨d2,hd2,h⟩:=bnd h
 cases h
 exact .ts' 4 z (fun W hT=>la hd2 z z z) hT z (.tp' 5 z z hT (.tp' 6 z z hT (.tp' 7 z z hT (.done (.ret (ab (vs:=[_]) () (rt z rn) z (hS.to [])))))))
theorem bn {a0 : Int} {a1 : Int} {a2 : Int} {a3 : Int} {g_3 : Nat} {w : World} {r : Int} (h : aE a0 a1 a2 a3 = some r) (b_3 : BR w (Old No w) g_3 3 [iv a3]) : Cl 104 #[iv a0,iv a1,iv a2,pt g_3] w (RU w (.int .i64 r)):=by
 unfold aE at h
 refine ay Tryz.func104 z z ?_
 have hS:=Sep.start w
 refine .g (.qn z (.g (.s (ldb T.t3 (hS.keepB b_3) z z z z z) z (.q z (.q z ?_)))))
 have ⟨y1,hy1,h⟩:=bnd h
 refine .c (.cO hS Tryz.func105 (cd hy1) z z ?_)
 intro W hS
 refine .q z ?_
 have ⟨d1,hd1,h⟩:=bnd h
 obtain rfl:=o9 h
 exact .s (la hd1 z z z) z (.qn z (.ret (ab (vs:=[_]) () (rt z rn) z (hS.to []))))
theorem oS {a0 : Instr} {w : World} {r : Int × Bool} (h : bX a0 = some r) (hG : Gl w) : Cl 72 #[.agg #[iv a0.Op,iv a0.Rd,iv a0.Rs,iv a0.Rt,iv a0.Imm]] w (RU w (.tuple #[iv r.1,.bool r.2])):=by
 unfold bX at h
 refine ay Tryz.func72 z z ?_
 have hS:=Sep.start w
 refine .g (.c (.box hS z z ?_))
 intro g1 W hS
 refine .q z (.qn z (.seq (.g (.s (ld T.t51 hS z z z z z) z ?_))))
 have ⟨y1,hy1,h⟩:=bnd h
 refine .c (.cO hS Tryz.func103 (pB hy1) z z ?_)
 intro W hS
 refine .q z (.nil ?_)
 refine .cs z h ?_ ?_ <;> intro h
 ·cases h
  exact .g (.q z (.qn z (.ret (ab (vs:=[_,_]) () (rt z (rt z rn)) z (hS.to [])))))
 refine .skip (.g (.s (fa T.f51_0 z z z) z (.s (ld T.t3 hS z z z z z) z (.q z ?_))))
 have ⟨x1,hx1,h⟩:=bnd h
 refine .s (ixt hx1 z T.u115 T.t114 z z z) z (.s (ldt (hG.at hS (fun _ _ h=>h)).2 hx1 T.t114 z z z z z) z (.c (.alloc T.t114 hS ?_)))
 intro g2 W hS
 refine .c (.st T.t114 hS z z z ?_)
 intro W hS
 refine .nil (.g (.s (fa T.f51_4 z z z) z (.s (ld T.t3 hS.p1 z z z z z) z ?_)))
 have ⟨y2,hy2,h⟩:=bnd h
 refine .c (.cO hS Tryz.func55 (iL hy2) z z ?_)
 intro W hS
 refine .c (.alloc T.t3 hS ?_)
 intro g3 W hS
 refine .c (.st T.t3 hS z z z ?_)
 intro W hS
 refine .nil (.g (.s (mf z z) z (.qn z (.g (.s (fa T.f51_3 z z z) z (.s (ld T.t3 hS.p2 z z z z z) z (.q z (.s (fa T.f51_2 z z z) z (.s (ld T.t3 hS.p2 z z z z z) z (.q z (.q z (.s (fa T.f114_2 z z z) z (.s (ld T.t3 hS.p1 z z z z z) z (.q z (.q z (.s (fa T.f114_1 z z z) z (.s (ld T.t3 hS.p1 z z z z z) z (.q z (.qn z (.seq (.g (.s (fa T.f51_0 z z z) z (.s (ld T.t3 hS.p2 z z z z z) z ?_)))))))))))))))))))))))
 have ⟨y3,hy3,h⟩:=bnd h
 refine .c (.cO hS Tryz.func106 (iM hy3) z z ?_)
 intro W hS
 refine .nil (.block (.g (.q z (.q z (.nil ?_)))))
 refine .cs z h ?_ ?_ <;> intro h
 ·cases h
  exact .g (.s (fa T.f114_3 z z z) z (.s (ld T.t3 hS.p1 z z z z z) z (.q z (.q z (.q z (.s (fa T.f51_1 z z z) z (.s (ld T.t3 hS.p2 z z z z z) z (.q z (.q z (.q z (.qn z (.ret (ab (vs:=[_,_]) () (rt z (rt z rn)) z (hS.to []))))))))))))))
 refine .g (.q z (.q z (.nil ?_)))
 refine .cs z h ?_ ?_ <;> intro h
 ·refine .seq (.rk 10 hS [0,0,0] T.mix ?_)
  intro W hS
  have hT:=hS.to [0,0,0]
  refine .tp' 0 z z hT (.tp' 2 z z hT (.ts' 4 z (fun W hT=>fa T.f51_1 z z z) hT z (.ts' 5 z (fun W hT=>ld T.t3 hT.p2 z z z z z) hT z (.tp' 6 z z hT ?_))))
  have ⟨y4,hy4,h⟩:=bnd h
  refine .by1 1 z (.callv (vs:=[iv 0,iv 12,iv 20]) (cap:=#[pt g3]) hS ⟨_,Tryz.func104,z,by kernel_rfl⟩ (bn hy4 hS.boxB) z z z ?_)
  rintro ⟨⟩ W hS
  have hT:=hS.to [0,0,0]
  refine ⟨fun _=>hT,?_⟩
  cases h
  exact .tp' 3 z z hT (.tp' 7 z z hT (.tp' 8 z z hT (.tp' 9 z z hT (.done (.ret (ab (vs:=[_,_]) () (rt z (rt z rn)) z (hS.to [])))))))
 refine .g (.q z (.q z (.nil ?_)))
 refine .cs z h ?_ ?_ <;> intro h
 ·refine .g (.q z ?_)
  have ⟨y5,hy5,h⟩:=bnd h
  refine .c (.callv (vs:=[iv 5,iv 7,iv 25]) (cap:=#[pt g3]) hS ⟨_,Tryz.func104,z,by kernel_rfl⟩ (bn hy5 hS.boxB) z z z ?_)
  rintro ⟨⟩ W hS
  refine .q z (.q z (.q z ?_))
  have ⟨y6,hy6,h⟩:=bnd h
  refine .c (.callv (vs:=[iv 0,iv 5,iv 7]) (cap:=#[pt g3]) hS ⟨_,Tryz.func104,z,by kernel_rfl⟩ (bn hy6 hS.boxB) z z z ?_)
  rintro ⟨⟩ W hS
  cases h
  exact .q z (.q z (.qn z (.ret (ab (vs:=[_,_]) () (rt z (rt z rn)) z (hS.to [])))))
 refine .g (.q z (.q z (.nil ?_)))
 refine .cs z h ?_ ?_ <;> intro h
 ·refine .g (.q z ?_)
  have ⟨y7,hy7,h⟩:=bnd h
  refine .c (.callv (vs:=[iv 12,iv 1,iv 31]) (cap:=#[pt g3]) hS ⟨_,Tryz.func104,z,by kernel_rfl⟩ (bn hy7 hS.boxB) z z z ?_)
  rintro ⟨⟩ W hS
  refine .q z ?_
  have ⟨y8,hy8,h⟩:=bnd h
  refine .c (.callv (vs:=[iv 5,iv 6,iv 25]) (cap:=#[pt g3]) hS ⟨_,Tryz.func104,z,by kernel_rfl⟩ (bn hy8 hS.boxB) z z z ?_)
  rintro ⟨⟩ W hS
  refine .q z (.q z (.q z (.q z ?_)))
  have ⟨y9,hy9,h⟩:=bnd h
  refine .c (.callv (vs:=[iv 1,iv 4,iv 8]) (cap:=#[pt g3]) hS ⟨_,Tryz.func104,z,by kernel_rfl⟩ (bn hy9 hS.boxB) z z z ?_)
  rintro ⟨⟩ W hS
  refine .q z (.q z ?_)
  have ⟨y10,hy10,h⟩:=bnd h
  refine .c (.callv (vs:=[iv 11,iv 1,iv 7]) (cap:=#[pt g3]) hS ⟨_,Tryz.func104,z,by kernel_rfl⟩ (bn hy10 hS.boxB) z z z ?_)
  rintro ⟨⟩ W hS
  cases h
  exact .q z (.q z (.qn z (.ret (ab (vs:=[_,_]) () (rt z (rt z rn)) z (hS.to [])))))
 refine .g (.q z (.q z (.nil ?_)))
 refine .cs z h ?_ ?_ <;> intro h
 ·refine .seq (.rk 11 hS [0,0,0] T.mix ?_)
  intro W hS
  have hT:=hS.to [0,0,0]
  refine .tp' 0 z z hT (.ts' 2 z (fun W hT=>fa T.f51_1 z z z) hT z (.ts' 3 z (fun W hT=>ld T.t3 hT.p2 z z z z z) hT z (.tp' 4 z z hT (.ts' 6 z (fun W hT=>fa T.f114_1 z z z) hT z (.ts' 7 z (fun W hT=>ld T.t3 hT.p1 z z z z z) hT z ?_)))))
  have ⟨y11,hy11,h⟩:=bnd h
  refine .by1 1 z (.callv (vs:=[iv 0,iv 20,iv 12]) (cap:=#[pt g3]) hS ⟨_,Tryz.func104,z,by kernel_rfl⟩ (bn hy11 hS.boxB) z z z ?_)
  rintro ⟨⟩ W hS
  have hT:=hS.to [0,0,0]
  refine ⟨fun _=>hT,?_⟩
  cases h
  exact .tp' 5 z z hT (.tp' 8 z z hT (.tp' 9 z z hT (.tp' 10 z z hT (.done (.ret (ab (vs:=[_,_]) () (rt z (rt z rn)) z (hS.to [])))))))
 refine .g (.q z (.q z (.nil ?_)))
 refine .cs z h ?_ ?_ <;> intro h
 ·refine .seq (.rk 20 hS [0,0,0] T.mix ?_)
  intro W hS
  have hT:=hS.to [0,0,0]
  refine .tp' 0 z z hT (.tp' 2 z z hT (.tp' 5 z z hT (.tp' 8 z z hT (.ts' 11 z (fun W hT=>fa T.f51_1 z z z) hT z (.ts' 12 z (fun W hT=>ld T.t3 hT.p2 z z z z z) hT z (.tp' 13 z z hT (.ts' 15 z (fun W hT=>fa T.f114_1 z z z) hT z (.ts' 16 z (fun W hT=>ld T.t3 hT.p1 z z z z z) hT z ?_))))))))
  have ⟨y12,hy12,h⟩:=bnd h
  refine .by1 1 z (.callv (vs:=[iv 20,iv 1,iv 31]) (cap:=#[pt g3]) hS ⟨_,Tryz.func104,z,by kernel_rfl⟩ (bn hy12 hS.boxB) z z z ?_)
  rintro ⟨⟩ W hS
  have hT:=hS.to [0,0,0]
  refine ⟨fun _=>hT,?_⟩
  have ⟨y13,hy13,h⟩:=bnd h
  refine .by1 3 z (.callv (vs:=[iv 1,iv 10,iv 21]) (cap:=#[pt g3]) hS ⟨_,Tryz.func104,z,by kernel_rfl⟩ (bn hy13 hS.boxB) z z z ?_)
  rintro ⟨⟩ W hS
  have hT:=hS.to [0,0,0]
  refine ⟨fun _=>hT,.tp' 4 z z hT ?_⟩
  have ⟨y14,hy14,h⟩:=bnd h
  refine .by1 6 z (.callv (vs:=[iv 11,iv 1,iv 20]) (cap:=#[pt g3]) hS ⟨_,Tryz.func104,z,by kernel_rfl⟩ (bn hy14 hS.boxB) z z z ?_)
  rintro ⟨⟩ W hS
  have hT:=hS.to [0,0,0]
  refine ⟨fun _=>hT,.tp' 7 z z hT ?_⟩
  have ⟨y15,hy15,h⟩:=bnd h
  refine .by1 9 z (.callv (vs:=[iv 12,iv 8,iv 12]) (cap:=#[pt g3]) hS ⟨_,Tryz.func104,z,by kernel_rfl⟩ (bn hy15 hS.boxB) z z z ?_)
  rintro ⟨⟩ W hS
  have hT:=hS.to [0,0,0]
  refine ⟨fun _=>hT,?_⟩
  cases h
  exact .tp' 10 z z hT (.tp' 14 z z hT (.tp' 17 z z hT (.tp' 18 z z hT (.tp' 19 z z hT (.done (.ret (ab (vs:=[_,_]) () (rt z (rt z rn)) z (hS.to []))))))))
 cases h
 exact .skip (.g (.s (fa T.f114_1 z z z) z (.s (ld T.t3 hS.p1 z z z z z) z (.q z (.qn z (.ret (ab (vs:=[_,_]) () (rt z (rt z rn)) z (hS.to []))))))))
end

end Go.Proofs.YtcljimkjmklkmaaGreatDoor.N
