/- Printed by a program of mine: that the program's functions compute it. -/
import Derived.Test.YtcljimkjmklkmaaGreatDoorK6
set_option linter.unusedVariables false
set_option linter.unusedSimpArgs false
set_option maxRecDepth 100000
set_option maxHeartbeats 4000000
namespace Go.Proofs.YtcljimkjmklkmaaGreatDoor.N
open Go.Proofs.YtcljimkjmklkmaaGreatDoor.X
noncomputable section
def sA (w : World) (r : Bool) : Env → World → Prop:=Fin Tryz.prog Tryz.f22 No w (fun s : Unit=>.bool r) (fun s=>[]) .ret
theorem rz {a0 : List Int} {v_0 : Hd} {w : World} {r : Bool} (h : fh a0 = some r) (q_0 : RO w v_0 3 1 (D.int .i64) a0) : Cl 22 #[(sv v_0)] w (RU w (.bool r)):=by
 unfold fh at h
 refine ay Tryz.func22 z z ?_
 have hS:=Sep.start w
 refine .g (.qn z (.seq (.g (.qn z (.block ?_)))))
 have ⟨y1,hy1,h⟩:=bnd h
 refine .via (.iter (fun s1 E' W'=>aK E' [(0,(sv v_0)),(3,iv s1)] ∧ Sep No w W' []) (fun y2 x E' W'=>(match y2 with | .inl o1=>x = .ret ∧ sA w o1 E' W' | .inr o2=>x = .exit 0 ∧ aK E' [(0,(sv v_0))] ∧ Sep No w W' [])) hy1 ⟨sb rfl,hS.to [] rfl⟩ ?_) ?_
 ·intro s1 y3 E W h hI
  obtain ⟨hE,hS⟩:=hI
  refine CW.sub hE ?_
  unfold cR at h
  refine .seq (.g (.q z (.q z (.s (bq (hS.keep q_0) T.u23 z z) z (.q z (.nil ?_))))))
  refine .cs z h ?_ ?_ <;> intro h
  ·refine .skip (.seq (.block (.g (.q z (.q z ?_)))))
   have ⟨x1,hx1,h⟩:=bnd h
   refine .s (ixv (hS.keep q_0) hx1 T.u23 T.t3 z z z) z (.s (lde (RV.flat (hS.keep q_0) hx1 z) T.t3 z z z z z) z ?_)
   have ⟨y4,hy4,h⟩:=bnd h
   refine .c (.cO hS Tryz.func23 (aM hy4) z z ?_)
   intro W hS
   refine .q z (.nil ?_)
   refine .cs z h ?_ ?_ <;> intro h
   ·refine .g (.qn z (.ret ?_))
    cases h
    exact ⟨by simp,z,ab (vs:=[_]) () (rt z rn) z (hS.to [])⟩
   refine .skip (.region (.q z (.q z (.q z (.nil ?_)))))
   cases h
   exact ⟨z,sb z,hS.to []⟩
  refine .exit ?_
  cases h
  exact ⟨by simp,z,sb z,hS.to []⟩
 intro x E W hJ
 rcases y1 with o3 | o4
 ·obtain ⟨rfl,hF⟩:=hJ
  refine ⟨_,fun _ _ h=>h,?_⟩
  cases h
  exact hF
 obtain ⟨rfl,hE,hS⟩:=hJ
 refine ⟨_,hE.sub,?_⟩
 cases h
 exact .g (.q z (.s (bq (hS.keep q_0) T.u23 z z) z (.q z (.qn z (.ret (ab (vs:=[_]) () (rt z rn) z (hS.to [])))))))
theorem rC {a0 : List Int} {v_0 : Hd} {w : World} {r : (List Box)} (h : jl a0 = some r) (q_0 : RO w v_0 3 1 (D.int .i64) a0) : Cl 24 #[(sv v_0)] w (Ret No w (fun s : Hd=>(sv s)) (fun s=>[ae (sv s) 44 2 a6 r])):=by
 unfold jl at h
 refine ay Tryz.func24 z z ?_
 have hS:=Sep.start w
 refine .g (.qn z (.g (.c (.lg (L1:=[]) [] a6 T.u28 T.t44 (hS.to []) z z z (.nil) ?_ z (fun _=>z)))))
 intro v1 W hS
 refine .qn z (.seq (.g (.qn z (.block ?_))))
 have ⟨y1,hy1,h⟩:=bnd h
 refine .via (.iter (fun s1 E' W'=>∃ (v4 : Hd),aK E' [(0,(sv v_0)),(3,(sv v4)),(4,iv s1.2)] ∧ Sep No w W' [ae (sv v4) 44 2 a6 s1.1]) (fun y2 x E' W'=>x = .exit 0 ∧ ∃ (v5 : Hd),aK E' [(3,(sv v5))] ∧ Sep No w W' [ae (sv v5) 44 2 a6 y2]) hy1 ⟨v1,sb z,hS.to [0]⟩ ?_) ?_
 ·intro s1 y3 E W h hI
  obtain ⟨v3,hE,hS⟩:=hI
  refine CW.sub hE ?_
  unfold iE at h
  refine .seq (.g (.q z (.q z (.s (bq (hS.keep q_0) T.u23 z z) z (.q z (.nil ?_))))))
  refine .cs z h ?_ ?_ <;> intro h
  ·refine .skip (.seq (.block (.region (.q z (.q z (.q z ?_))))))
   have ⟨x1,hx1,h⟩:=bnd h
   refine .s (ixv (hS.keep q_0) hx1 T.u23 T.t3 z z z) z (.s (lde (RV.flat (hS.keep q_0) hx1 z) T.t3 z z z z z) z (.c (.liv [] (D.int .i64) T.u23 T.t3 hS z z z z ?_ z (fun _=>z))))
   intro v6 W hS
   refine .s (bs T.s44 z z) z (.c (.lg (L1:=[ae (sv v6) 3 1 (D.int .i64) []]) [(Box.mk x1 [])] a6 T.u28 T.t44 (hS.to [0,0]) z z z (.agg (.flat (c1:=[iv x1]) z (.row .nil))) ?_ z (fun _=>z)))
   intro v7 W hS
   have ⟨r1,hr1,h⟩:=bnd h
   refine .c (.appv hr1 (hS.to [1,0]) T.u28 T.t44 z z z ?_)
   intro v8 W hS
   refine .qn z (.region (.q z (.q z (.q z (.nil ?_)))))
   cases h
   exact ⟨z,v8,sb z,hS.to [0]⟩
  refine .exit ?_
  cases h
  exact ⟨by simp,z,v3,sb z,hS.to [0]⟩
 intro x E W hJ
 obtain ⟨rfl,v9,hE,hS⟩:=hJ
 refine ⟨_,hE.sub,?_⟩
 obtain rfl:=o9 h
 exact .g (.q z (.qn z (.ret (ab (vs:=[_]) v9 (rt z rn) z (hS.to [0])))))
theorem d8 {a0 : Instr} {a1 : Int} {a2 : Int} {a3 : Int} {w : World} {r : Bool} (h : dx a0 a1 a2 a3 = some r) : Cl 130 #[.agg #[iv a0.Op,iv a0.Rd,iv a0.Rs,iv a0.Rt,iv a0.Imm],iv a1,iv a2,iv a3] w (RU w (.bool r)):=by
 unfold dx at h
 refine ay Tryz.func130 z z ?_
 have hS:=Sep.start w
 refine .g (.c (.box hS z z ?_))
 intro g1 W hS
 refine .qn z (.g (.s (fa T.f51_1 z z z) z (.s (ld T.t3 hS z z z z z) z (.q z (.q z ?_)))))
 have ⟨y1,hy1,h⟩:=bnd h
 refine .c (.cO hS Tryz.func23 (aM hy1) z z ?_)
 intro W hS
 refine .q z ?_
 have ⟨b1,hb1,h⟩:=bnd h
 refine .cu 6 20 (b1) hS ?_ ?_
 ·refine .both (y1) (fun hb=>?_) (fun hb=>?_)
  ·have hg1:=hb
   have h:=aI hb hb1
   refine .g hg1 (.s (fa T.f51_2 z z z) z (.g hg1 (.s (ld T.t3 hS z z z z z) z (.g hg1 (.q z (.g hg1 (.q z ?_)))))))
   have ⟨y2,hy2,h⟩:=bnd h
   refine .g hg1 (.c (.cO hS Tryz.func23 (aM hy2) z z ?_))
   intro W hS
   refine .s (pkt hg1 z z z) z ?_
   cases h
   exact .nil (ck 6 hS)
  refine .xx hb z (.xx hb z (.xx hb z (.xx hb z (.xx hb z ?_))))
  cases aJ hb hb1
  exact .s (pkf hb z z z) z (.nil (ck 6 hS))
 intro W hS
 refine .q z ?_
 have ⟨b2,hb2,h⟩:=bnd h
 refine .cu 6 27 (b2) hS ?_ ?_
 ·refine .both (b1) (fun hb=>?_) (fun hb=>?_)
  ·have hg2:=hb
   have h:=aI hb hb2
   refine .g hg2 (.s (fa T.f51_3 z z z) z (.g hg2 (.s (ld T.t3 hS z z z z z) z (.g hg2 (.q z (.g hg2 (.q z ?_)))))))
   have ⟨y3,hy3,h⟩:=bnd h
   refine .g hg2 (.c (.cO hS Tryz.func23 (aM hy3) z z ?_))
   intro W hS
   refine .s (pkt hg2 z z z) z ?_
   cases h
   exact .nil (ck 6 hS)
  refine .xx hb z (.xx hb z (.xx hb z (.xx hb z (.xx hb z ?_))))
  cases aJ hb hb2
  exact .s (pkf hb z z z) z (.nil (ck 6 hS))
 intro W hS
 obtain rfl:=o9 h
 exact .qn z (.ret (ab (vs:=[_]) () (rt z rn) z (hS.to [])))
theorem nN {a0 : Int} {a1 : Int} {a2 : Int} {w : World} {r : Bool} (h : iG a0 a1 a2 = some r) : Cl 131 #[iv a0,iv a1,iv a2] w (RU w (.bool r)):=by
 unfold iG at h
 refine ay Tryz.func131 z z ?_
 have hS:=Sep.start w
 refine .g (.qn z (.g (.q z (.q z (.q z ?_)))))
 have ⟨y1,hy1,h⟩:=bnd h
 refine .c (.cO hS Tryz.func23 (aM hy1) z z ?_)
 intro W hS
 refine .q z (.cu 4 15 (y1 && ((Int.tmod a0 2) == 0)) hS ?_ ?_)
 ·refine .both (y1) (fun hb=>?_) (fun hb=>?_)
  ·have hg1:=hb
   exact .g hg1 (.q z (.g hg1 (.q z (.g hg1 (.q z (.s (pkt hg1 z z z) z (.nil (ck 4 hS z (bH hg1)))))))))
  exact .xx hb z (.xx hb z (.xx hb z (.s (pkf hb z z z) z (.nil (ck 4 hS z (bI hb))))))
 intro W hS
 cases h
 exact .qn z (.ret (ab (vs:=[_]) () (rt z rn) z (hS.to [])))
theorem pC {a0 : Instr} {w : World} {r : Bool} (h : dZ a0 = some r) : Cl 107 #[.agg #[iv a0.Op,iv a0.Rd,iv a0.Rs,iv a0.Rt,iv a0.Imm]] w (RU w (.bool r)):=by
 unfold dZ at h
 refine ay Tryz.func107 z z ?_
 have hS:=Sep.start w
 refine .g (.c (.box hS z z ?_))
 intro g1 W hS
 refine .qn z (.seq (.block (.g (.s (fa T.f51_0 z z z) z (.s (ld T.t3 hS z z z z z) z ?_)))))
 have ⟨y1,hy1,h⟩:=bnd h
 refine .c (.cO hS Tryz.func23 (aM hy1) z z ?_)
 intro W hS
 refine .q z (.nil ?_)
 refine .cs z h ?_ ?_ <;> intro h
 ·refine .g (.s (ld T.t51 hS z z z z z) z ?_)
  have ⟨y2,hy2,h⟩:=bnd h
  refine .c (.cO hS Tryz.func130 (d8 hy2) z z ?_)
  intro W hS
  refine .q z (.cu 4 13 (y2 && (a0.Imm == 0)) hS ?_ ?_)
  ·refine .both (y2) (fun hb=>?_) (fun hb=>?_)
   ·have hg1:=hb
    exact .g hg1 (.s (fa T.f51_4 z z z) z (.g hg1 (.s (ld T.t3 hS z z z z z) z (.g hg1 (.q z (.s (pkt hg1 z z z) z (.nil (ck 4 hS z (bH hg1)))))))))
   exact .xx hb z (.xx hb z (.xx hb z (.s (pkf hb z z z) z (.nil (ck 4 hS z (bI hb))))))
  intro W hS
  cases h
  exact .qn z (.ret (ab (vs:=[_]) () (rt z rn) z (hS.to [])))
 refine .g (.s (fa T.f51_0 z z z) z (.s (ld T.t3 hS z z z z z) z ?_))
 have ⟨y3,hy3,h⟩:=bnd h
 refine .c (.cO hS Tryz.func23 (aM hy3) z z ?_)
 intro W hS
 refine .q z (.nil ?_)
 refine .cs z h ?_ ?_ <;> intro h
 ·refine .g (.s (ld T.t51 hS z z z z z) z ?_)
  have ⟨y4,hy4,h⟩:=bnd h
  refine .c (.cO hS Tryz.func130 (d8 hy4) z z ?_)
  intro W hS
  refine .q z ?_
  have ⟨b1,hb1,h⟩:=bnd h
  refine .cu 4 24 (b1) hS ?_ ?_
  ·refine .both (y4) (fun hb=>?_) (fun hb=>?_)
   ·have hg2:=hb
    have h:=aI hb hb1
    refine .g hg2 (.s (fa T.f51_4 z z z) z (.g hg2 (.s (ld T.t3 hS z z z z z) z ?_)))
    have ⟨y5,hy5,h⟩:=bnd h
    refine .g hg2 (.c (.cO hS Tryz.func23 (aM hy5) z z ?_))
    intro W hS
    refine .s (pkt hg2 z z z) z ?_
    cases h
    exact .nil (ck 4 hS)
   refine .xx hb z (.xx hb z (.xx hb z ?_))
   cases aJ hb hb1
   exact .s (pkf hb z z z) z (.nil (ck 4 hS))
  intro W hS
  obtain rfl:=o9 h
  exact .qn z (.ret (ab (vs:=[_]) () (rt z rn) z (hS.to [])))
 refine .g (.s (fa T.f51_0 z z z) z (.s (ld T.t3 hS z z z z z) z (.q z (.q z (.nil ?_)))))
 refine .cs z h ?_ ?_ <;> intro h
 ·refine .g (.s (ld T.t51 hS z z z z z) z ?_)
  have ⟨y6,hy6,h⟩:=bnd h
  refine .c (.cO hS Tryz.func130 (d8 hy6) z z ?_)
  intro W hS
  refine .q z ?_
  have ⟨b2,hb2,h⟩:=bnd h
  refine .cu 4 35 (b2) hS ?_ ?_
  ·refine .both (y6) (fun hb=>?_) (fun hb=>?_)
   ·have hg3:=hb
    have h:=aI hb hb2
    refine .g hg3 (.s (fa T.f51_4 z z z) z (.g hg3 (.s (ld T.t3 hS z z z z z) z ?_)))
    have ⟨y7,hy7,h⟩:=bnd h
    refine .g hg3 (.c (.cO hS Tryz.func23 (aM hy7) z z ?_))
    intro W hS
    refine .s (pkt hg3 z z z) z ?_
    cases h
    exact .nil (ck 4 hS)
   refine .xx hb z (.xx hb z (.xx hb z ?_))
   cases aJ hb hb2
   exact .s (pkf hb z z z) z (.nil (ck 4 hS))
  intro W hS
  obtain rfl:=o9 h
  exact .qn z (.ret (ab (vs:=[_]) () (rt z rn) z (hS.to [])))
 refine .g (.s (fa T.f51_0 z z z) z (.s (ld T.t3 hS z z z z z) z (.q z (.q z (.cu 4 44 ((a0.Op == 17) || (a0.Op == 18)) hS ?_ ?_)))))
 ·refine .both (a0.Op == 17) (fun hb=>?_) (fun hb=>?_)
  ·exact .xx hb z (.xx hb z (.xx hb z (.s (pkt hb z z z) z (.nil (ck 4 hS z (ig hb))))))
  have hg4:=hb
  exact .g hg4 (.s (fa T.f51_0 z z z) z (.g hg4 (.s (ld T.t3 hS z z z z z) z (.g hg4 (.q z (.s (pkf hg4 z z z) z (.nil (ck 4 hS z (ij hg4)))))))))
 intro W hS
 refine .q z (.nil ?_)
 refine .cs z h ?_ ?_ <;> intro h
 ·refine .g (.s (ld T.t51 hS z z z z z) z ?_)
  have ⟨y8,hy8,h⟩:=bnd h
  refine .c (.cO hS Tryz.func130 (d8 hy8) z z ?_)
  intro W hS
  refine .q z ?_
  have ⟨b3,hb3,h⟩:=bnd h
  refine .cu 4 51 (b3) hS ?_ ?_
  ·refine .both (y8) (fun hb=>?_) (fun hb=>?_)
   ·have hg5:=hb
    have h:=aI hb hb3
    refine .g hg5 (.s (fa T.f51_4 z z z) z (.g hg5 (.s (ld T.t3 hS z z z z z) z ?_)))
    have ⟨y9,hy9,h⟩:=bnd h
    refine .g hg5 (.c (.cO hS Tryz.func131 (nN hy9) z z ?_))
    intro W hS
    refine .s (pkt hg5 z z z) z ?_
    cases h
    exact .nil (ck 4 hS)
   refine .xx hb z (.xx hb z (.xx hb z ?_))
   cases aJ hb hb3
   exact .s (pkf hb z z z) z (.nil (ck 4 hS))
  intro W hS
  obtain rfl:=o9 h
  exact .qn z (.ret (ab (vs:=[_]) () (rt z rn) z (hS.to [])))
 refine .g (.s (fa T.f51_0 z z z) z (.s (ld T.t3 hS z z z z z) z (.q z (.q z (.nil ?_)))))
 refine .cs z h ?_ ?_ <;> intro h
 ·refine .g (.s (ld T.t51 hS z z z z z) z ?_)
  have ⟨y10,hy10,h⟩:=bnd h
  refine .c (.cO hS Tryz.func130 (d8 hy10) z z ?_)
  intro W hS
  refine .q z ?_
  have ⟨b4,hb4,h⟩:=bnd h
  refine .cu 4 62 (b4) hS ?_ ?_
  ·refine .both (y10) (fun hb=>?_) (fun hb=>?_)
   ·have hg6:=hb
    have h:=aI hb hb4
    refine .g hg6 (.s (fa T.f51_4 z z z) z (.g hg6 (.s (ld T.t3 hS z z z z z) z ?_)))
    have ⟨y11,hy11,h⟩:=bnd h
    refine .g hg6 (.c (.cO hS Tryz.func23 (aM hy11) z z ?_))
    intro W hS
    refine .s (pkt hg6 z z z) z ?_
    cases h
    exact .nil (ck 4 hS)
   refine .xx hb z (.xx hb z (.xx hb z ?_))
   cases aJ hb hb4
   exact .s (pkf hb z z z) z (.nil (ck 4 hS))
  intro W hS
  obtain rfl:=o9 h
  exact .qn z (.ret (ab (vs:=[_]) () (rt z rn) z (hS.to [])))
 refine .g (.s (fa T.f51_0 z z z) z (.s (ld T.t3 hS z z z z z) z (.q z (.q z (.nil ?_)))))
 refine .cs z h ?_ ?_ <;> intro h
 ·refine .g (.s (ld T.t51 hS z z z z z) z ?_)
  have ⟨y12,hy12,h⟩:=bnd h
  refine .c (.cO hS Tryz.func130 (d8 hy12) z z ?_)
  intro W hS
  refine .q z ?_
  have ⟨b5,hb5,h⟩:=bnd h
  refine .cu 4 73 (b5) hS ?_ ?_
  ·refine .both (y12) (fun hb=>?_) (fun hb=>?_)
   ·have hg7:=hb
    have h:=aI hb hb5
    refine .g hg7 (.s (fa T.f51_4 z z z) z (.g hg7 (.s (ld T.t3 hS z z z z z) z ?_)))
    have ⟨y13,hy13,h⟩:=bnd h
    refine .g hg7 (.c (.cO hS Tryz.func131 (nN hy13) z z ?_))
    intro W hS
    refine .s (pkt hg7 z z z) z ?_
    cases h
    exact .nil (ck 4 hS)
   refine .xx hb z (.xx hb z (.xx hb z ?_))
   cases aJ hb hb5
   exact .s (pkf hb z z z) z (.nil (ck 4 hS))
  intro W hS
  obtain rfl:=o9 h
  exact .qn z (.ret (ab (vs:=[_]) () (rt z rn) z (hS.to [])))
 refine .skip (.g (.s (fa T.f51_0 z z z) z (.s (ld T.t3 hS z z z z z) z (.q z (.q z ?_)))))
 have ⟨b6,hb6,h⟩:=bnd h
 refine .cu 3 80 (b6) hS ?_ ?_
 ·refine .both (a0.Op == 21) (fun hb=>?_) (fun hb=>?_)
  ·have hg8:=hb
   have h:=aI hb hb6
   refine .g hg8 (.s (ld T.t51 hS z z z z z) z ?_)
   have ⟨y14,hy14,h⟩:=bnd h
   refine .g hg8 (.c (.cO hS Tryz.func130 (d8 hy14) z z ?_))
   intro W hS
   refine .s (pkt hg8 z z z) z ?_
   cases h
   exact .nil (ck 3 hS)
  refine .xx hb z (.xx hb z ?_)
  cases aJ hb hb6
  exact .s (pkf hb z z z) z (.nil (ck 3 hS))
 intro W hS
 refine .q z (.cu 4 85 (b6 && (a0.Imm == 0)) hS ?_ ?_)
 ·refine .both (b6) (fun hb=>?_) (fun hb=>?_)
  ·have hg9:=hb
   exact .g hg9 (.s (fa T.f51_4 z z z) z (.g hg9 (.s (ld T.t3 hS z z z z z) z (.g hg9 (.q z (.s (pkt hg9 z z z) z (.nil (ck 4 hS z (bH hg9)))))))))
  exact .xx hb z (.xx hb z (.xx hb z (.s (pkf hb z z z) z (.nil (ck 4 hS z (bI hb))))))
 intro W hS
 cases h
 exact .qn z (.ret (ab (vs:=[_]) () (rt z rn) z (hS.to [])))
theorem kv {a0 : Int} {a1 : Int} {w : World} {r : Int} (h : fU a0 a1 = some r) : Cl 133 #[iv a0,iv a1] w (RU w (.int .i64 r)):=by
 unfold fU at h
 refine ay Tryz.func133 z z ?_
 have hS:=Sep.start w
 refine .g (.qn z (.seq (.g (.q z (.q z (.nil ?_))))))
 refine .cs z h ?_ ?_ <;> intro h
 ·cases h
  exact .g (.q z (.q z (.q z (.qn z (.ret (ab (vs:=[_]) () (rt z rn) z (hS.to [])))))))
 obtain rfl:=o9 h
 exact .skip (.g (.q z (.qn z (.ret (ab (vs:=[_]) () (rt z rn) z (hS.to []))))))
theorem bc {a0 : Int} {a1 : Int} {w : World} {r : Int} (h : bp a0 a1 = some r) : Cl 134 #[iv a0,iv a1] w (RU w (.int .i64 r)):=by
 unfold bp at h
 refine ay Tryz.func134 z z ?_
 have hS:=Sep.start w
 refine .g (.qn z (.g (.q z (.q z ?_))))
 have ⟨y1,hy1,h⟩:=bnd h
 refine .c (.cO hS Tryz.func153 (eM hy1) z z ?_)
 intro W hS
 cases h
 exact .q z (.qn z (.ret (ab (vs:=[_]) () (rt z rn) z (hS.to []))))
theorem nc {a0 : Int} {w : World} {r : Int} (h : gw a0 = some r) : Cl 139 #[iv a0] w (RU w (.int .i64 r)):=by
 unfold gw at h
 refine ay Tryz.func139 z z ?_
 have hS:=Sep.start w
 refine .g (.qn z (.g (.c (.liv [0,0,0,4,6,7,6,4,1,5,2,0,3,2,0,2,0,1,0,0,0] (D.int .i64) T.u23 T.t3 hS z z z z ?_ z (fun _=>z)))))
 intro v1 W hS
 refine .q z (.q z ?_)
 have ⟨x1,hx1,h⟩:=bnd h
 obtain rfl:=o9 h
 exact .s (ixv hS.lv hx1 T.u23 T.t3 z z z) z (.s (lde (RV.flat hS.lv hx1 z) T.t3 z z z z z) z (.qn z (.ret (ab (vs:=[_]) () (rt z rn) z (hS.to [])))))
theorem kw {a0 : Instr} {a1 : Int} {w : World} {r : Int} (h : fV a0 a1 = some r) : Cl 135 #[.agg #[iv a0.Op,iv a0.Rd,iv a0.Rs,iv a0.Rt,iv a0.Imm],iv a1] w (RU w (.int .i64 r)):=by
 unfold fV at h
 refine ay Tryz.func135 z z ?_
 have hS:=Sep.start w
 refine .g (.c (.box hS z z ?_))
 intro g1 W hS
 refine .qn z (.seq (.rk 11 hS [0] T.mix ?_))
 intro W hS
 have hT:=hS.to [0]
 refine .ts' 0 z (fun W hT=>fa T.f51_2 z z z) hT z (.ts' 1 z (fun W hT=>ld T.t3 hT z z z z z) hT z (.ts' 3 z (fun W hT=>fa T.f51_0 z z z) hT z (.ts' 4 z (fun W hT=>ld T.t3 hT z z z z z) hT z (.tp' 8 z z hT ?_))))
 have ⟨y1,hy1,h⟩:=bnd h
 refine .by1 2 z (.cO hS Tryz.func134 (bc hy1) z z ?_)
 intro W hS
 have hT:=hS.to [0]
 refine ⟨fun _=>hT,?_⟩
 have ⟨y2,hy2,h⟩:=bnd h
 refine .by1 5 z (.cO hS Tryz.func139 (nc hy2) z z ?_)
 intro W hS
 have hT:=hS.to [0]
 refine ⟨fun _=>hT,?_⟩
 have ⟨y3,hy3,h⟩:=bnd h
 refine .by1 6 z (.cO hS Tryz.func134 (bc hy3) z z ?_)
 intro W hS
 have hT:=hS.to [0]
 refine ⟨fun _=>hT,?_⟩
 cases h
 exact .tp' 7 z z hT (.tp' 9 z z hT (.tp' 10 z z hT (.done (.ret (ab (vs:=[_]) () (rt z rn) z (hS.to []))))))
theorem mr {a0 : Instr} {a1 : Int} {w : World} {r : Int} (h : gY a0 a1 = some r) : Cl 132 #[.agg #[iv a0.Op,iv a0.Rd,iv a0.Rs,iv a0.Rt,iv a0.Imm],iv a1] w (RU w (.int .i64 r)):=by
 unfold gY at h
 refine ay Tryz.func132 z z ?_
 have hS:=Sep.start w
 refine .g (.c (.box hS z z ?_))
 intro g1 W hS
 refine .qn z (.seq (.rk 13 hS [0] T.mix ?_))
 intro W hS
 have hT:=hS.to [0]
 refine .ts' 0 z (fun W hT=>fa T.f51_4 z z z) hT z (.ts' 1 z (fun W hT=>ld T.t3 hT z z z z z) hT z (.ts' 4 z (fun W hT=>ld T.t51 hT z z z z z) hT z (.tp' 5 z z hT (.ts' 8 z (fun W hT=>fa T.f51_1 z z z) hT z (.ts' 9 z (fun W hT=>ld T.t3 hT z z z z z) hT z ?_)))))
 have ⟨y1,hy1,h⟩:=bnd h
 refine .by1 2 z (.cO hS Tryz.func133 (kv hy1) z z ?_)
 intro W hS
 have hT:=hS.to [0]
 refine ⟨fun _=>hT,?_⟩
 have ⟨y2,hy2,h⟩:=bnd h
 refine .by1 3 z (.cO hS Tryz.func134 (bc hy2) z z ?_)
 intro W hS
 have hT:=hS.to [0]
 refine ⟨fun _=>hT,?_⟩
 have ⟨y3,hy3,h⟩:=bnd h
 refine .by1 6 z (.cO hS Tryz.func135 (kw hy3) z z ?_)
 intro W hS
 have hT:=hS.to [0]
 refine ⟨fun _=>hT,.tp' 7 z z hT ?_⟩
 have ⟨y4,hy4,h⟩:=bnd h
 refine .by1 10 z (.cO hS Tryz.func134 (bc hy4) z z ?_)
 intro W hS
 have hT:=hS.to [0]
 refine ⟨fun _=>hT,?_⟩
 cases h
 exact .tp' 11 z z hT (.tp' 12 z z hT (.done (.ret (ab (vs:=[_]) () (rt z rn) z (hS.to [])))))
theorem qm {a0 : Instr} {w : World} {r : Int} (h : gZ a0 = some r) : Cl 136 #[.agg #[iv a0.Op,iv a0.Rd,iv a0.Rs,iv a0.Rt,iv a0.Imm]] w (RU w (.int .i64 r)):=by
 unfold gZ at h
 refine ay Tryz.func136 z z ?_
 have hS:=Sep.start w
 refine .g (.c (.box hS z z ?_))
 intro g1 W hS
 refine .qn z (.g (.s (fa T.f51_4 z z z) z (.s (ld T.t3 hS z z z z z) z ?_)))
 have ⟨y1,hy1,h⟩:=bnd h
 refine .c (.cO hS Tryz.func133 (kv hy1) z z ?_)
 intro W hS
 refine .qn z (.seq (.rk 12 hS [0] T.mix ?_))
 intro W hS
 have hT:=hS.to [0]
 refine .tp' 0 z z hT (.tp' 3 z z hT (.ts' 7 z (fun W hT=>fa T.f51_3 z z z) hT z (.ts' 8 z (fun W hT=>ld T.t3 hT z z z z z) hT z ?_)))
 have ⟨y2,hy2,h⟩:=bnd h
 refine .by1 1 z (.cO hS Tryz.func127 (aY hy2) z z ?_)
 intro W hS
 have hT:=hS.to [0]
 refine ⟨fun _=>hT,?_⟩
 have ⟨y3,hy3,h⟩:=bnd h
 refine .by1 2 z (.cO hS Tryz.func134 (bc hy3) z z ?_)
 intro W hS
 have hT:=hS.to [0]
 refine ⟨fun _=>hT,?_⟩
 have ⟨y4,hy4,h⟩:=bnd h
 refine .by1 4 z (.cO hS Tryz.func127 (aY hy4) z z ?_)
 intro W hS
 have hT:=hS.to [0]
 refine ⟨fun _=>hT,?_⟩
 have ⟨y5,hy5,h⟩:=bnd h
 refine .by1 5 z (.cO hS Tryz.func134 (bc hy5) z z ?_)
 intro W hS
 have hT:=hS.to [0]
 refine ⟨fun _=>hT,.tp' 6 z z hT ?_⟩
 have ⟨y6,hy6,h⟩:=bnd h
 refine .by1 9 z (.cO hS Tryz.func134 (bc hy6) z z ?_)
 intro W hS
 have hT:=hS.to [0]
 refine ⟨fun _=>hT,.tp' 10 z z hT (.tp' 11 z z hT (.done (.g (.q z (.s (ld T.t51 hS z z z z z) z ?_)))))⟩
 have ⟨y7,hy7,h⟩:=bnd h
 refine .c (.cO hS Tryz.func135 (kw hy7) z z ?_)
 intro W hS
 refine .q z (.q z ?_)
 have ⟨y8,hy8,h⟩:=bnd h
 refine .c (.cO hS Tryz.func127 (aY hy8) z z ?_)
 intro W hS
 have ⟨y9,hy9,h⟩:=bnd h
 refine .c (.cO hS Tryz.func134 (bc hy9) z z ?_)
 intro W hS
 refine .q z (.q z ?_)
 have ⟨y10,hy10,h⟩:=bnd h
 refine .c (.cO hS Tryz.func127 (aY hy10) z z ?_)
 intro W hS
 have ⟨y11,hy11,h⟩:=bnd h
 refine .c (.cO hS Tryz.func134 (bc hy11) z z ?_)
 intro W hS
 cases h
 exact .q z (.qn z (.ret (ab (vs:=[_]) () (rt z rn) z (hS.to []))))
theorem sB {a0 : Instr} {w : World} {r : Int} (h : kd a0 = some r) : Cl 137 #[.agg #[iv a0.Op,iv a0.Rd,iv a0.Rs,iv a0.Rt,iv a0.Imm]] w (RU w (.int .i64 r)):=by
 unfold kd at h
 refine ay Tryz.func137 z z ?_
 have hS:=Sep.start w
 refine .g (.c (.box hS z z ?_))
 intro g1 W hS
 refine .qn z (.g (.s (fa T.f51_4 z z z) z (.s (ld T.t3 hS z z z z z) z ?_)))
 have ⟨y1,hy1,h⟩:=bnd h
 refine .c (.cO hS Tryz.func133 (kv hy1) z z ?_)
 intro W hS
 refine .qn z (.g (.q z ?_))
 have ⟨y2,hy2,h⟩:=bnd h
 refine .c (.cO hS Tryz.func127 (aY hy2) z z ?_)
 intro W hS
 have ⟨y3,hy3,h⟩:=bnd h
 refine .c (.cO hS Tryz.func134 (bc hy3) z z ?_)
 intro W hS
 refine .q z ?_
 have ⟨y4,hy4,h⟩:=bnd h
 refine .c (.cO hS Tryz.func127 (aY hy4) z z ?_)
 intro W hS
 have ⟨y5,hy5,h⟩:=bnd h
 refine .c (.cO hS Tryz.func134 (bc hy5) z z ?_)
 intro W hS
 refine .q z (.q z ?_)
 have ⟨y6,hy6,h⟩:=bnd h
 refine .c (.cO hS Tryz.func127 (aY hy6) z z ?_)
 intro W hS
 have ⟨y7,hy7,h⟩:=bnd h
 refine .c (.cO hS Tryz.func134 (bc hy7) z z ?_)
 intro W hS
 refine .q z (.qn z (.seq (.rk 11 hS [0] T.mix ?_)))
 intro W hS
 have hT:=hS.to [0]
 refine .tp' 0 z z hT (.tp' 1 z z hT (.ts' 5 z (fun W hT=>fa T.f51_1 z z z) hT z (.ts' 6 z (fun W hT=>ld T.t3 hT z z z z z) hT z ?_)))
 have ⟨y8,hy8,h⟩:=bnd h
 refine .by1 2 z (.cO hS Tryz.func127 (aY hy8) z z ?_)
 intro W hS
 have hT:=hS.to [0]
 refine ⟨fun _=>hT,?_⟩
 have ⟨y9,hy9,h⟩:=bnd h
 refine .by1 3 z (.cO hS Tryz.func134 (bc hy9) z z ?_)
 intro W hS
 have hT:=hS.to [0]
 refine ⟨fun _=>hT,.tp' 4 z z hT ?_⟩
 have ⟨y10,hy10,h⟩:=bnd h
 refine .by1 7 z (.cO hS Tryz.func134 (bc hy10) z z ?_)
 intro W hS
 have hT:=hS.to [0]
 refine ⟨fun _=>hT,?_⟩
 cases h
 exact .tp' 8 z z hT (.tp' 9 z z hT (.tp' 10 z z hT (.done (.ret (ab (vs:=[_]) () (rt z rn) z (hS.to []))))))
theorem nd {a0 : Int} {w : World} {r : Int} (h : gx a0 = some r) : Cl 138 #[iv a0] w (RU w (.int .i64 r)):=by
 unfold gx at h
 refine ay Tryz.func138 z z ?_
 have hS:=Sep.start w
 refine .g (.qn z (.g (.c (.liv [0,32,1,1,1,0,0,0,0,32,0] (D.int .i64) T.u23 T.t3 hS z z z z ?_ z (fun _=>z)))))
 intro v1 W hS
 refine .q z (.q z ?_)
 have ⟨x1,hx1,h⟩:=bnd h
 obtain rfl:=o9 h
 exact .s (ixv hS.lv hx1 T.u23 T.t3 z z z) z (.s (lde (RV.flat hS.lv hx1 z) T.t3 z z z z z) z (.qn z (.ret (ab (vs:=[_]) () (rt z rn) z (hS.to [])))))
theorem mH {a0 : Instr} {w : World} {r : Int} (h : bS a0 = some r) : Cl 108 #[.agg #[iv a0.Op,iv a0.Rd,iv a0.Rs,iv a0.Rt,iv a0.Imm]] w (RU w (.int .i64 r)):=by
 unfold bS at h
 refine ay Tryz.func108 z z ?_
 have hS:=Sep.start w
 refine .g (.c (.box hS z z ?_))
 intro g1 W hS
 refine .qn z (.seq (.g (.s (fa T.f51_0 z z z) z (.s (ld T.t3 hS z z z z z) z (.nil (.block ?_))))))
 have ⟨y1,hy1,h⟩:=bnd h
 refine .seq (CW.via (R':=fun x E' W'=>x = .normal ∧ aK E' [(1,pt g1),(5,iv a0.Op),(6,.bool y1)] ∧ Sep No w W' [.box g1 51 [iv a0.Op,iv a0.Rd,iv a0.Rs,iv a0.Rt,iv a0.Imm]]) ?_ ?_)
 ·have h:=hy1
  refine .g (.q z (.q z (.nil ?_)))
  refine .cs z h ?_ ?_ <;> intro h
  ·refine .skip ?_
   cases h
   exact ⟨z,sb z,hS.to [0]⟩
  refine .region (.q z (.q z (.nil ?_)))
  cases h
  exact ⟨z,sb z,hS.to [0]⟩
 intro x E W hJ
 obtain ⟨rfl,hE,hS⟩:=hJ
 refine ⟨_,hE.sub,?_⟩
 refine .cs z h ?_ ?_ <;> intro h
 ·refine .g (.s (ld T.t51 hS z z z z z) z ?_)
  have ⟨y2,hy2,h⟩:=bnd h
  refine .c (.cO hS Tryz.func132 (mr hy2) z z ?_)
  intro W hS
  obtain rfl:=o9 h
  exact .qn z (.ret (ab (vs:=[_]) () (rt z rn) z (hS.to [])))
 refine .g (.q z (.q z (.nil ?_)))
 refine .cs z h ?_ ?_ <;> intro h
 ·refine .g (.s (ld T.t51 hS z z z z z) z ?_)
  have ⟨y3,hy3,h⟩:=bnd h
  refine .c (.cO hS Tryz.func132 (mr hy3) z z ?_)
  intro W hS
  obtain rfl:=o9 h
  exact .qn z (.ret (ab (vs:=[_]) () (rt z rn) z (hS.to [])))
 refine .g (.q z (.q z (.nil ?_)))
 refine .cs z h ?_ ?_ <;> intro h
 ·refine .g (.s (ld T.t51 hS z z z z z) z ?_)
  have ⟨y4,hy4,h⟩:=bnd h
  refine .c (.cO hS Tryz.func132 (mr hy4) z z ?_)
  intro W hS
  obtain rfl:=o9 h
  exact .qn z (.ret (ab (vs:=[_]) () (rt z rn) z (hS.to [])))
 refine .g (.q z (.q z (.nil ?_)))
 refine .cs z h ?_ ?_ <;> intro h
 ·refine .g (.s (fa T.f51_4 z z z) z (.s (ld T.t3 hS z z z z z) z ?_))
  have ⟨y5,hy5,h⟩:=bnd h
  refine .c (.cO hS Tryz.func133 (kv hy5) z z ?_)
  intro W hS
  refine .qn z (.seq (.rk 15 hS [0] T.mix ?_))
  intro W hS
  have hT:=hS.to [0]
  refine .tp' 0 z z hT (.ts' 3 z (fun W hT=>fa T.f51_3 z z z) hT z (.ts' 4 z (fun W hT=>ld T.t3 hT z z z z z) hT z (.ts' 7 z (fun W hT=>ld T.t51 hT z z z z z) hT z (.tp' 10 z z hT ?_))))
  have ⟨y6,hy6,h⟩:=bnd h
  refine .by1 1 z (.cO hS Tryz.func127 (aY hy6) z z ?_)
  intro W hS
  have hT:=hS.to [0]
  refine ⟨fun _=>hT,?_⟩
  have ⟨y7,hy7,h⟩:=bnd h
  refine .by1 2 z (.cO hS Tryz.func134 (bc hy7) z z ?_)
  intro W hS
  have hT:=hS.to [0]
  refine ⟨fun _=>hT,?_⟩
  have ⟨y8,hy8,h⟩:=bnd h
  refine .by1 5 z (.cO hS Tryz.func134 (bc hy8) z z ?_)
  intro W hS
  have hT:=hS.to [0]
  refine ⟨fun _=>hT,.tp' 6 z z hT ?_⟩
  have ⟨y9,hy9,h⟩:=bnd h
  refine .by1 8 z (.cO hS Tryz.func135 (kw hy9) z z ?_)
  intro W hS
  have hT:=hS.to [0]
  refine ⟨fun _=>hT,.tp' 9 z z hT ?_⟩
  have ⟨y10,hy10,h⟩:=bnd h
  refine .by1 11 z (.cO hS Tryz.func127 (aY hy10) z z ?_)
  intro W hS
  have hT:=hS.to [0]
  refine ⟨fun _=>hT,?_⟩
  have ⟨y11,hy11,h⟩:=bnd h
  refine .by1 12 z (.cO hS Tryz.func134 (bc hy11) z z ?_)
  intro W hS
  have hT:=hS.to [0]
  refine ⟨fun _=>hT,?_⟩
  cases h
  exact .tp' 13 z z hT (.tp' 14 z z hT (.done (.ret (ab (vs:=[_]) () (rt z rn) z (hS.to [])))))
 have ⟨y12,hy12,h⟩:=bnd h
 refine .seq (CW.via (R':=fun x E' W'=>x = .normal ∧ aK E' [(1,pt g1),(5,iv a0.Op),(38,.bool y12)] ∧ Sep No w W' [.box g1 51 [iv a0.Op,iv a0.Rd,iv a0.Rs,iv a0.Rt,iv a0.Imm]]) ?_ ?_)
 ·have h:=hy12
  refine .g (.q z (.q z (.nil ?_)))
  refine .cs z h ?_ ?_ <;> intro h
  ·refine .skip ?_
   cases h
   exact ⟨z,sb z,hS.to [0]⟩
  refine .region (.q z (.q z (.nil ?_)))
  cases h
  exact ⟨z,sb z,hS.to [0]⟩
 intro x E W hJ
 obtain ⟨rfl,hE,hS⟩:=hJ
 refine ⟨_,hE.sub,?_⟩
 refine .cs z h ?_ ?_ <;> intro h
 ·refine .g (.s (ld T.t51 hS z z z z z) z ?_)
  have ⟨y13,hy13,h⟩:=bnd h
  refine .c (.cO hS Tryz.func136 (qm hy13) z z ?_)
  intro W hS
  obtain rfl:=o9 h
  exact .qn z (.ret (ab (vs:=[_]) () (rt z rn) z (hS.to [])))
 refine .g (.q z (.q z (.nil ?_)))
 refine .cs z h ?_ ?_ <;> intro h
 ·refine .seq (.rk 9 hS [0] T.mix ?_)
  intro W hS
  have hT:=hS.to [0]
  refine .ts' 0 z (fun W hT=>fa T.f51_4 z z z) hT z (.ts' 1 z (fun W hT=>ld T.t3 hT z z z z z) hT z (.ts' 3 z (fun W hT=>fa T.f51_1 z z z) hT z (.ts' 4 z (fun W hT=>ld T.t3 hT z z z z z) hT z ?_)))
  have ⟨y14,hy14,h⟩:=bnd h
  refine .by1 2 z (.cO hS Tryz.func134 (bc hy14) z z ?_)
  intro W hS
  have hT:=hS.to [0]
  refine ⟨fun _=>hT,?_⟩
  have ⟨y15,hy15,h⟩:=bnd h
  refine .by1 5 z (.cO hS Tryz.func134 (bc hy15) z z ?_)
  intro W hS
  have hT:=hS.to [0]
  refine ⟨fun _=>hT,?_⟩
  cases h
  exact .tp' 6 z z hT (.tp' 7 z z hT (.tp' 8 z z hT (.done (.ret (ab (vs:=[_]) () (rt z rn) z (hS.to []))))))
 refine .g (.q z (.q z (.nil ?_)))
 refine .cs z h ?_ ?_ <;> intro h
 ·refine .g (.s (ld T.t51 hS z z z z z) z ?_)
  have ⟨y16,hy16,h⟩:=bnd h
  refine .c (.cO hS Tryz.func137 (sB hy16) z z ?_)
  intro W hS
  obtain rfl:=o9 h
  exact .qn z (.ret (ab (vs:=[_]) () (rt z rn) z (hS.to [])))
 refine .g (.q z (.q z (.nil ?_)))
 refine .cs z h ?_ ?_ <;> intro h
 ·cases h
  exact .g (.qn z (.ret (ab (vs:=[_]) () (rt z rn) z (hS.to []))))
 refine .skip (.seq (.rk 16 hS [0] T.mix ?_))
 intro W hS
 have hT:=hS.to [0]
 refine .ts' 0 z (fun W hT=>fa T.f51_0 z z z) hT z (.ts' 1 z (fun W hT=>ld T.t3 hT z z z z z) hT z (.ts' 4 z (fun W hT=>fa T.f51_3 z z z) hT z (.ts' 5 z (fun W hT=>ld T.t3 hT z z z z z) hT z (.ts' 8 z (fun W hT=>ld T.t51 hT z z z z z) hT z (.ts' 11 z (fun W hT=>fa T.f51_1 z z z) hT z (.ts' 12 z (fun W hT=>ld T.t3 hT z z z z z) hT z ?_))))))
 have ⟨y17,hy17,h⟩:=bnd h
 refine .by1 2 z (.cO hS Tryz.func138 (nd hy17) z z ?_)
 intro W hS
 have hT:=hS.to [0]
 refine ⟨fun _=>hT,?_⟩
 have ⟨y18,hy18,h⟩:=bnd h
 refine .by1 3 z (.cO hS Tryz.func134 (bc hy18) z z ?_)
 intro W hS
 have hT:=hS.to [0]
 refine ⟨fun _=>hT,?_⟩
 have ⟨y19,hy19,h⟩:=bnd h
 refine .by1 6 z (.cO hS Tryz.func134 (bc hy19) z z ?_)
 intro W hS
 have hT:=hS.to [0]
 refine ⟨fun _=>hT,.tp' 7 z z hT ?_⟩
 have ⟨y20,hy20,h⟩:=bnd h
 refine .by1 9 z (.cO hS Tryz.func135 (kw hy20) z z ?_)
 intro W hS
 have hT:=hS.to [0]
 refine ⟨fun _=>hT,.tp' 10 z z hT ?_⟩
 have ⟨y21,hy21,h⟩:=bnd h
 refine .by1 13 z (.cO hS Tryz.func134 (bc hy21) z z ?_)
 intro W hS
 have hT:=hS.to [0]
 refine ⟨fun _=>hT,?_⟩
 cases h
 exact .tp' 14 z z hT (.tp' 15 z z hT (.done (.ret (ab (vs:=[_]) () (rt z rn) z (hS.to [])))))
theorem oT {a0 : Instr} {w : World} {r : Int × Bool} (h : du a0 = some r) : Cl 73 #[.agg #[iv a0.Op,iv a0.Rd,iv a0.Rs,iv a0.Rt,iv a0.Imm]] w (RU w (.tuple #[iv r.1,.bool r.2])):=by
 unfold du at h
 refine ay Tryz.func73 z z ?_
 have hS:=Sep.start w
 refine .g (.c (.box hS z z ?_))
 intro g1 W hS
 refine .q z (.qn z (.seq (.g (.s (ld T.t51 hS z z z z z) z ?_))))
 have ⟨y1,hy1,h⟩:=bnd h
 refine .c (.cO hS Tryz.func107 (pC hy1) z z ?_)
 intro W hS
 refine .q z (.nil ?_)
 refine .cs z h ?_ ?_ <;> intro h
 ·cases h
  exact .g (.q z (.qn z (.ret (ab (vs:=[_,_]) () (rt z (rt z rn)) z (hS.to [])))))
 refine .skip (.g (.s (ld T.t51 hS z z z z z) z ?_))
 have ⟨y2,hy2,h⟩:=bnd h
 refine .c (.cO hS Tryz.func108 (mH hy2) z z ?_)
 intro W hS
 cases h
 exact .q z (.qn z (.ret (ab (vs:=[_,_]) () (rt z (rt z rn)) z (hS.to []))))
def ug (w : World) (S : Nat → Prop) (v_0 : Hd) (v_1 : Hd) (a0 : List Int) (a1 : List Instr) (r : (List Int) × Bool) : Env → World → Prop:=Fin Tryz.prog Tryz.f43 S w (fun s : Hd=>.tuple #[(sv s),.bool r.2]) (fun s=>[ae (sv s) 3 1 (D.int .i64) r.1]) .ret
theorem sC {a0 : List Int} {a1 : List Instr} {v_0 : Hd} {v_1 : Hd} {S : Nat → Prop} {w : World} {r : (List Int) × Bool} (h : ke a0 a1 = some r) (q_1 : RV w (Old S w) (sv v_1) 51 5 br a1) (hO : bG w [ae (sv v_0) 3 1 (D.int .i64) a0] S) (hlt : ∀ b,S b → b < w.heap.size) : Cl 43 #[(sv v_0),(sv v_1)] w (Ret S w (fun s : Hd=>.tuple #[(sv s),.bool r.2]) (fun s=>[ae (sv s) 3 1 (D.int .i64) r.1])):=by
 unfold ke at h
 refine ay Tryz.func43 z z ?_
 have hS:=Sep.sm hO hlt
 refine .g (.q z (.qn z (.seq (.g (.qn z (.block ?_))))))
 have ⟨y1,hy1,h⟩:=bnd h
 refine .via (.iter (fun s1 E' W'=>∃ (v3 : Hd),aK E' [(0,(sv v3)),(1,(sv v_1)),(6,iv s1.2)] ∧ Sep S w W' [ae (sv v3) 3 1 (D.int .i64) s1.1]) (fun y2 x E' W'=>(match y2 with | .inl o1=>x = .ret ∧ ug w S v_0 v_1 a0 a1 o1 E' W' | .inr o2=>x = .exit 0 ∧ ∃ (v4 : Hd),aK E' [(0,(sv v4))] ∧ Sep S w W' [ae (sv v4) 3 1 (D.int .i64) o2])) hy1 ⟨v_0,sb rfl,hS.to [0] rfl⟩ ?_) ?_
 ·intro s1 y3 E W h hI
  obtain ⟨v2,hE,hS⟩:=hI
  refine CW.sub hE ?_
  unfold eJ at h
  refine .seq (.g (.q z (.q z (.s (bq (hS.keep q_1) T.u35 z z) z (.q z (.nil ?_))))))
  refine .cs z h ?_ ?_ <;> intro h
  ·refine .skip (.seq (.block (.g (.q z (.q z ?_)))))
   have ⟨x1,hx1,h⟩:=bnd h
   refine .s (ixv (hS.keep q_1) hx1 T.u35 T.t51 z z z) z (.s (lde (RV.flat (hS.keep q_1) hx1 z) T.t51 z z z z z) z ?_)
   have ⟨y4,hy4,h⟩:=bnd h
   refine .c (.cO hS Tryz.func73 (oT hy4) z z ?_)
   intro W hS
   refine .q z (.q z (.q z (.q z (.qn z (.seq (.g (.q z (.q z (.nil ?_)))))))))
   refine .cs z h ?_ ?_ <;> intro h
   ·refine .g (.q z (.q z (.qn z (.ret ?_))))
    cases h
    exact ⟨by simp,z,ab (vs:=[_,_]) v2 (rt z (rt z rn)) z (hS.to [0])⟩
   refine .skip (.region (.q z (.q z ?_)))
   have ⟨y5,hy5,h⟩:=bnd h
   refine .c (.cO hS Tryz.func74 (cC hy5) z z ?_)
   intro W hS
   refine .c (.liv [y5] (D.int .i64) T.u23 T.t3 hS z z z z ?_ z (fun _=>z))
   intro v5 W hS
   have ⟨r1,hr1,h⟩:=bnd h
   have hT0:=hS.p1
   refine .c (.av hr1 hT0 hT0.p1.lv (fun _=>z) T.u23 T.t3 z z z ?_)
   intro v6 W hS
   refine .qn z (.region (.q z (.q z (.q z (.nil ?_)))))
   cases h
   exact ⟨z,v6,sb z,hS.to [0]⟩
  refine .exit ?_
  cases h
  exact ⟨by simp,z,v2,sb z,hS.to [0]⟩
 intro x E W hJ
 rcases y1 with o3 | o4
 ·obtain ⟨rfl,hF⟩:=hJ
  refine ⟨_,fun _ _ h=>h,?_⟩
  cases h
  exact hF
 obtain ⟨rfl,v7,hE,hS⟩:=hJ
 refine ⟨_,hE.sub,?_⟩
 cases h
 exact .g (.q z (.q z (.qn z (.ret (ab (vs:=[_,_]) v7 (rt z (rt z rn)) z (hS.to [0]))))))
theorem sD {a0 : List Instr} {v_0 : Hd} {w : World} {r : ah × Bool} (h : eg a0 = some r) (q_0 : RO w v_0 51 5 br a0) : Cl 25 #[(sv v_0)] w (Ret No w (fun s : Hd × Hd=>.tuple #[.agg #[(sv s.1),iv r.1.Pc,(sv s.2)],.bool r.2]) (fun s=>[ae (sv s.1) 3 1 (D.int .i64) r.1.Regs,ae (sv s.2) 3 1 (D.int .i64) r.1.Mem])):=by
 unfold eg at h
 refine ay Tryz.func25 z z ?_
 have hS:=Sep.start w
 refine .g (.c (.alloc T.t38 hS ?_))
 intro g1 W hS
 refine .qn z (.seq (.g (.q z (.s (bq (hS.keep q_0) T.u35 z z) z (.qn z (.cond z (fun hb=>?_) (fun hb=>?_)))))))
 ·have h:=aI hb h
  refine .g (.s (bs T.s38 z z) z (.c (.st T.t38 hS z z z ?_)))
  intro W hS
  refine .qn z (.ret ?_)
  have hS:=hS.nilv 3 1 (D.int .i64)
  have hS:=hS.nilv 3 1 (D.int .i64)
  cases h
  exact ab (vs:=[_,_]) (aP,aP) (rc hS.p2 T.t38 z (rt z rn) z z) z (hS.to [1,0])
 have h:=aJ hb h
 refine .skip (.g (.c (.liv [0] (D.int .i64) T.u23 T.t3 hS z z z z ?_ z (fun _=>z))))
 intro v1 W hS
 refine .q z ?_
 have ⟨y1,hy1,h⟩:=bnd h
 refine .c (.cS (L0:=[ae (sv v1) 3 1 (D.int .i64) [0]]) hS Tryz.func43 (fun S h1 h2 h3=>(sC hy1 (hS.ks q_0 h1) h2 (zz h1))) z z ?_)
 rintro v2 W hS
 refine .q z (.q z (.q z (.q z (.qn z (.seq (.g (.q z (.q z (.nil ?_)))))))))
 refine .cs z h ?_ ?_ <;> intro h
 ·refine .g (.s (bs T.s38 z z) z (.c (.st T.t38 hS.p1 z z z ?_)))
  intro W hS
  refine .qn z (.ret ?_)
  have hS:=hS.nilv 3 1 (D.int .i64)
  have hS:=hS.nilv 3 1 (D.int .i64)
  cases h
  exact ab (vs:=[_,_]) (aP,aP) (rc hS.p2 T.t38 z (rt z rn) z z) z (hS.to [1,0])
 refine .skip (.seq (.region ?_))
 have ⟨r1,hr1,h⟩:=bnd h
 refine .c (.mkv 0 (D.int .i64) hr1 T.u23 T.t3 hS z z z z z (fun _=>z) ?_)
 intro v3 W hS
 refine .s (bs T.s38 z z) z (.c (.alloc T.t38 hS ?_))
 intro g2 W hS
 refine .c (.st T.t38 hS z z z ?_)
 intro W hS
 refine .nil (.g (.s (fa T.f38_0 z z z) z (.s (ld T.t23 hS z z z z z) z (.q z (.s (bq hS.p2.lv T.u23 z z) z (.q z ?_))))))
 have ⟨x1,hx1,h⟩:=bnd h
 refine .s (ixv hS.p1.lv hx1 T.u23 T.t3 z z z) z ?_
 have ⟨r2,hr2,h⟩:=bnd h
 refine .c (.sev hr2 hx1 hS.p1 T.t3 z z z z z z ?_)
 intro W hS
 refine .nil (.g (.q z ?_))
 have ⟨r3,hr3,h⟩:=bnd h
 refine .c (.appz 0 hr3 hS.p2 T.u23 T.u3 T.t3 z z z z ?_ (fun _=>z))
 intro v4 W hS
 refine .s (fa T.f38_2 z z z) z (.c (.st T.t23 hS.p2 z z z ?_))
 intro W hS
 refine .nil (.g (.s (ld T.t38 hS z z z z z) z (.c (.st T.t38 hS.p3 z z z ?_))))
 intro W hS
 cases h
 exact .qn z (.ret (ab (vs:=[_,_]) (v3,v4) (rc hS T.t38 z (rt z rn) z z) z (hS.to [3,2])))
def sE (w : World) (r : aH × Bool) : Env → World → Prop:=Fin Tryz.prog Tryz.f8 No w (fun s : Hd × Hd × Hd=>.tuple #[.agg #[(sv s.1),(sv s.2.1),iv r.1.Turn,iv r.1.Idle,(sv s.2.2)],.bool r.2]) (fun s=>[ae (sv s.1) 38 3 aq r.1.Harts,ae (sv s.2.1) 44 2 a6 r.1.Boxes,ae (sv s.2.2) 3 1 (D.int .i64) r.1.Out]) .ret
theorem rE {a0 : List Int} {a1 : List (List Instr)} {v_0 : Hd} {v_1 : Hd} {w : World} {r : aH × Bool} (h : jm a0 a1 = some r) (q_0 : RO w v_0 3 1 (D.int .i64) a0) (q_1 : RO w v_1 35 1 (fun (l : List Instr)=>D.row 51 5 (l.map br)) a1) : Cl 8 #[(sv v_0),(sv v_1)] w (Ret No w (fun s : Hd × Hd × Hd=>.tuple #[.agg #[(sv s.1),(sv s.2.1),iv r.1.Turn,iv r.1.Idle,(sv s.2.2)],.bool r.2]) (fun s=>[ae (sv s.1) 38 3 aq r.1.Harts,ae (sv s.2.1) 44 2 a6 r.1.Boxes,ae (sv s.2.2) 3 1 (D.int .i64) r.1.Out])):=by
 unfold jm at h
 refine ay Tryz.func8 z z ?_
 have hS:=Sep.start w
 refine .g (.c (.alloc T.t30 hS ?_))
 intro g1 W hS
 refine .qn z (.seq (.g (.q z ?_)))
 have ⟨y1,hy1,h⟩:=bnd h
 refine .c (.cO hS Tryz.func22 (rz hy1 (hS.keep q_0)) z z ?_)
 intro W hS
 refine .q z (.q z ?_)
 have ⟨b1,hb1,h⟩:=bnd h
 refine .cu 5 18 (b1) hS ?_ ?_
 ·refine .both (!y1) (fun hb=>?_) (fun hb=>?_)
  ·refine .xx hb z (.xx hb z (.xx hb z (.xx hb z ?_)))
   cases aI hb hb1
   exact .s (pkt hb z z z) z (.nil (ck 5 hS))
  have hg1:=hb
  have h:=aJ hb hb1
  refine .g hg1 (.q z (.g hg1 (.s (bq (hS.keep q_1) T.u24 z z) z ?_)))
  have ⟨y2,hy2,h⟩:=bnd h
  refine .g hg1 (.c (.cO hS Tryz.func23 (aM hy2) z z ?_))
  intro W hS
  refine .g hg1 (.q z (.s (pkf hg1 z z z) z ?_))
  cases h
  exact .nil (ck 5 hS)
 intro W hS
 refine .nil ?_
 refine .cs z h ?_ ?_ <;> intro h
 ·refine .g (.s (bs T.s30 z z) z (.c (.st T.t30 hS z z z ?_)))
  intro W hS
  refine .qn z (.ret ?_)
  have hS:=hS.nilv 38 3 aq
  have hS:=hS.nilv 44 2 a6
  have hS:=hS.nilv 3 1 (D.int .i64)
  cases h
  exact ab (vs:=[_,_]) (aP,aP,aP) (rc hS.p3 T.t30 z (rt z rn) z z) z (hS.to [2,1,0])
 refine .skip (.g (.c (.lg (L1:=[]) [] aq T.u27 T.t38 (hS.to [0]) z z z (.nil) ?_ z (fun _=>z))))
 intro v1 W hS
 refine .q z ?_
 have ⟨y3,hy3,h⟩:=bnd h
 refine .c (.cV hS Tryz.func24 (rC hy3 (hS.keep q_0)) z z ?_)
 intro v2 W hS
 refine .c (.liv [] (D.int .i64) T.u23 T.t3 hS z z z z ?_ z (fun _=>z))
 intro v3 W hS
 refine .s (bs T.s30 z z) z (.c (.alloc T.t30 hS ?_))
 intro g2 W hS
 refine .c (.st T.t30 hS z z z ?_)
 intro W hS
 refine .nil (.seq (.g (.qn z (.block ?_))))
 have ⟨y4,hy4,h⟩:=bnd h
 refine .via (.iter (fun s1 E' W'=>∃ (v6 : Hd),aK E' [(1,(sv v_1)),(4,pt g1),(6,pt g2),(7,iv s1.1)] ∧ Sep No w W' [.box g2 30 [(sv v6),(sv v2),iv 0,iv 0,(sv v3)],ae (sv v3) 3 1 (D.int .i64) [],ae (sv v2) 44 2 a6 y3,.box g1 30 [(sv aP),(sv aP),iv 0,iv 0,(sv aP)],ae (sv v6) 38 3 aq s1.2]) (fun y5 x E' W'=>(match y5 with | .inl o1=>x = .ret ∧ sE w o1 E' W' | .inr o2=>x = .exit 0 ∧ ∃ (v7 : Hd),aK E' [(4,pt g1),(6,pt g2)] ∧ Sep No w W' [.box g2 30 [(sv v7),(sv v2),iv 0,iv 0,(sv v3)],ae (sv v3) 3 1 (D.int .i64) [],ae (sv v2) 44 2 a6 y3,.box g1 30 [(sv aP),(sv aP),iv 0,iv 0,(sv aP)],ae (sv v7) 38 3 aq o2])) hy4 ⟨v1,sb rfl,hS.to [0,0,0,1,0] rfl⟩ ?_) ?_
 ·intro s1 y6 E W h hI
  obtain ⟨v5,hE,hS⟩:=hI
  refine CW.sub hE ?_
  unfold fE at h
  refine .seq (.g (.q z (.q z (.s (bq (hS.keep q_1) T.u24 z z) z (.q z (.nil ?_))))))
  refine .cs z h ?_ ?_ <;> intro h
  ·refine .skip (.seq (.block (.g (.q z (.q z ?_)))))
   have ⟨x1,hx1,h⟩:=bnd h
   obtain ⟨k1,hd,hck1⟩:=RV.el2 q_1 hx1
   obtain ⟨v8,k1,rfl,q5,hd1⟩:=dF q_1 hd
   obtain rfl:=lZ q_1 hd1
   refine .s (ixv (hS.keep q_1) hx1 T.u24 T.t35 z z z) z (.s (lde (hck1 _ hS.agree) T.t35 z z z z z) z ?_)
   have ⟨y7,hy7,h⟩:=bnd h
   refine .c (.call hS Tryz.func25 (sD hy7 (hS.keep (q5 _ q_1))) z z ?_)
   rintro ⟨v9,v10⟩ W hS
   refine .q z (.q z (.q z (.c (.alloc T.t38 hS ?_))))
   intro g3 W hS
   refine .c (.st T.t38 hS z z z ?_)
   intro W hS
   refine .qn z (.seq (.g (.q z (.q z (.nil ?_)))))
   refine .cs z h ?_ ?_ <;> intro h
   ·refine .g (.s (bs T.s30 z z) z (.c (.st T.t30 hS.p6 z z z ?_)))
    intro W hS
    refine .qn z (.ret ?_)
    have hS:=hS.nilv 38 3 aq
    have hS:=hS.nilv 44 2 a6
    have hS:=hS.nilv 3 1 (D.int .i64)
    cases h
    exact ⟨by simp,z,ab (vs:=[_,_]) (aP,aP,aP) (rc hS.p3 T.t30 z (rt z rn) z z) z (hS.to [2,1,0])⟩
   refine .skip (.region (.s (fa T.f30_0 z z z) z (.s (ld T.t27 hS.p3 z z z z z) z (.s (ld T.t38 hS z z z z z) z (.c (.lg (L1:=[ae (sv v9) 3 1 (D.int .i64) y7.1.Regs,ae (sv v10) 3 1 (D.int .i64) y7.1.Mem]) [(ah.mk y7.1.Regs y7.1.Pc y7.1.Mem)] aq T.u27 T.t38 (hS.to [1,1,0,0,0,0,0,0]) z z z (.agg (.row (.flat (c1:=[iv y7.1.Pc]) z (.row .nil)))) ?_ z (fun _=>z)))))))
   intro v11 W hS
   have ⟨r1,hr1,h⟩:=bnd h
   refine .c (.appv hr1 (hS.to [6,0,0,0,0,0,0]) T.u27 T.t38 z z z ?_)
   intro v12 W hS
   refine .s (fa T.f30_0 z z z) z (.c (.st T.t27 hS.p2 z z z ?_))
   intro W hS
   refine .nil (.region (.q z (.q z (.q z (.nil ?_)))))
   cases h
   exact ⟨z,v12,sb z,hS.to [0,2,2,2,0]⟩
  refine .exit ?_
  cases h
  exact ⟨by simp,z,v5,sb z,hS.to [0,0,0,0,0]⟩
 intro x E W hJ
 rcases y4 with o3 | o4
 ·obtain ⟨rfl,hF⟩:=hJ
  refine ⟨_,fun _ _ h=>h,?_⟩
  cases h
  exact hF
 obtain ⟨rfl,v13,hE,hS⟩:=hJ
 refine ⟨_,hE.sub,?_⟩
 refine .g (.s (ld T.t30 hS z z z z z) z (.c (.st T.t30 hS.p3 z z z ?_)))
 intro W hS
 cases h
 exact .qn z (.ret (ab (vs:=[_,_]) (v13,v2,v3) (rc hS T.t30 z (rt z rn) z z) z (hS.to [4,3,2])))
def sF (w : World) (r : Bool) : Env → World → Prop:=Fin Tryz.prog Tryz.f11 No w (fun s : Unit=>.bool r) (fun s=>[]) .ret
theorem fR {a0 : List Int} {a1 : List Int} {v_0 : Hd} {v_1 : Hd} {w : World} {r : Bool} (h : dN a0 a1 = some r) (q_0 : RO w v_0 3 1 (D.int .i64) a0) (q_1 : RO w v_1 3 1 (D.int .i64) a1) : Cl 11 #[(sv v_0),(sv v_1)] w (RU w (.bool r)):=by
 unfold dN at h
 refine ay Tryz.func11 z z ?_
 have hS:=Sep.start w
 refine .g (.qn z (.seq (.g (.q z (.s (bq (hS.keep q_0) T.u23 z z) z (.q z (.s (bq (hS.keep q_1) T.u23 z z) z (.q z (.nil ?_)))))))))
 refine .cs z h ?_ ?_ <;> intro h
 ·obtain rfl:=o9 h
  exact .g (.qn z (.ret (ab (vs:=[_]) () (rt z rn) z (hS.to []))))
 refine .skip (.seq (.g (.qn z (.block ?_))))
 have ⟨y1,hy1,h⟩:=bnd h
 refine .via (.iter (fun s1 E' W'=>aK E' [(0,(sv v_0)),(1,(sv v_1)),(5,iv s1)] ∧ Sep No w W' []) (fun y2 x E' W'=>(match y2 with | .inl o1=>x = .ret ∧ sF w o1 E' W' | .inr o2=>x = .exit 0 ∧ aK E' [] ∧ Sep No w W' [])) hy1 ⟨sb rfl,hS.to [] rfl⟩ ?_) ?_
 ·intro s1 y3 E W h hI
  obtain ⟨hE,hS⟩:=hI
  refine CW.sub hE ?_
  unfold fF at h
  refine .seq (.g (.q z (.q z (.s (bq (hS.keep q_0) T.u23 z z) z (.q z (.nil ?_))))))
  refine .cs z h ?_ ?_ <;> intro h
  ·refine .skip (.seq (.block (.seq (.rk 9 hS [] T.mix ?_))))
   intro W hS
   have hT:=hS.to []
   refine .tp' 0 z z hT (.tp' 1 z z hT ?_)
   have ⟨x1,hx1,h⟩:=bnd h
   refine .ts' 2 z (fun W hT=>ixv (hS.keep q_0) hx1 T.u23 T.t3 z z z) hT z (.ts' 3 z (fun W hT=>lde (RV.flat (hT.keep q_0) hx1 z) T.t3 z z z z z) hT z (.tp' 4 z z hT (.tp' 5 z z hT ?_)))
   have ⟨x2,hx2,h⟩:=bnd h
   refine .ts' 6 z (fun W hT=>ixv (hS.keep q_1) hx2 T.u23 T.t3 z z z) hT z (.ts' 7 z (fun W hT=>lde (RV.flat (hT.keep q_1) hx2 z) T.t3 z z z z z) hT z (.tp' 8 z z hT (.done ?_)))
   refine .cs z h ?_ ?_ <;> intro h
   ·refine .g (.qn z (.ret ?_))
    cases h
    exact ⟨by simp,z,ab (vs:=[_]) () (rt z rn) z (hS.to [])⟩
   refine .skip (.region (.q z (.q z (.q z (.nil ?_)))))
   cases h
   exact ⟨z,sb z,hS.to []⟩
  refine .exit ?_
  cases h
  exact ⟨by simp,z,sb z,hS.to []⟩
 intro x E W hJ
 rcases y1 with o3 | o4
 ·obtain ⟨rfl,hF⟩:=hJ
  refine ⟨_,fun _ _ h=>h,?_⟩
  cases h
  exact hF
 obtain ⟨rfl,hE,hS⟩:=hJ
 refine ⟨_,hE.sub,?_⟩
 obtain rfl:=o9 h
 exact .g (.qn z (.ret (ab (vs:=[_]) () (rt z rn) z (hS.to []))))
theorem oU {a0 : ah} {a1 : ah} {ai : Hd} {au : Hd} {ww : Hd} {xN : Hd} {w : World} {r : Bool} (h : fG a0 a1 = some r) (cI : RO w ai 3 1 (D.int .i64) a0.Regs) (cJ : RO w au 3 1 (D.int .i64) a0.Mem) (zZ : RO w ww 3 1 (D.int .i64) a1.Regs) (AZ : RO w xN 3 1 (D.int .i64) a1.Mem) : Cl 26 #[.agg #[(sv ai),iv a0.Pc,(sv au)],.agg #[(sv ww),iv a1.Pc,(sv xN)]] w (RU w (.bool r)):=by
 unfold fG at h
 refine ay Tryz.func26 z z ?_
 have hS:=Sep.start w
 refine .g (.c (.box hS z z ?_))
 intro g1 W hS
 refine .c (.box hS z z ?_)
 intro g2 W hS
 refine .qn z (.g (.s (fa T.f38_1 z z z) z (.s (ld T.t3 hS.p1 z z z z z) z (.s (fa T.f38_1 z z z) z (.s (ld T.t3 hS z z z z z) z (.q z (.q z ?_)))))))
 have ⟨b1,hb1,h⟩:=bnd h
 refine .cu 6 16 (b1) hS ?_ ?_
 ·refine .both (a0.Pc == a1.Pc) (fun hb=>?_) (fun hb=>?_)
  ·have hg1:=hb
   have h:=aI hb hb1
   refine .g hg1 (.s (fa T.f38_0 z z z) z (.g hg1 (.s (ld T.t23 hS.p1 z z z z z) z (.g hg1 (.s (fa T.f38_0 z z z) z (.g hg1 (.s (ld T.t23 hS z z z z z) z ?_)))))))
   have ⟨y1,hy1,h⟩:=bnd h
   refine .g hg1 (.c (.cO hS Tryz.func11 (fR hy1 (hS.keep cI) (hS.keep zZ)) z z ?_))
   intro W hS
   refine .s (pkt hg1 z z z) z ?_
   cases h
   exact .nil (ck 6 hS)
  refine .xx hb z (.xx hb z (.xx hb z (.xx hb z (.xx hb z ?_))))
  cases aJ hb hb1
  exact .s (pkf hb z z z) z (.nil (ck 6 hS))
 intro W hS
 refine .q z ?_
 have ⟨b2,hb2,h⟩:=bnd h
 refine .cu 6 23 (b2) hS ?_ ?_
 ·refine .both (b1) (fun hb=>?_) (fun hb=>?_)
  ·have hg2:=hb
   have h:=aI hb hb2
   refine .g hg2 (.s (fa T.f38_2 z z z) z (.g hg2 (.s (ld T.t23 hS.p1 z z z z z) z (.g hg2 (.s (fa T.f38_2 z z z) z (.g hg2 (.s (ld T.t23 hS z z z z z) z ?_)))))))
   have ⟨y2,hy2,h⟩:=bnd h
   refine .g hg2 (.c (.cO hS Tryz.func11 (fR hy2 (hS.keep cJ) (hS.keep AZ)) z z ?_))
   intro W hS
   refine .s (pkt hg2 z z z) z ?_
   cases h
   exact .nil (ck 6 hS)
  refine .xx hb z (.xx hb z (.xx hb z (.xx hb z (.xx hb z ?_))))
  cases aJ hb hb2
  exact .s (pkf hb z z z) z (.nil (ck 6 hS))
 intro W hS
 obtain rfl:=o9 h
 exact .qn z (.ret (ab (vs:=[_]) () (rt z rn) z (hS.to [])))
theorem sG {a0 : Box} {a1 : Box} {cn : Hd} {uQ : Hd} {w : World} {r : Bool} (h : kf a0 a1 = some r) (cF : RO w cn 3 1 (D.int .i64) a0.Items) (yy : RO w uQ 3 1 (D.int .i64) a1.Items) : Cl 44 #[.agg #[iv a0.Room,(sv cn)],.agg #[iv a1.Room,(sv uQ)]] w (RU w (.bool r)):=by
 unfold kf at h
 refine ay Tryz.func44 z z ?_
 have hS:=Sep.start w
 refine .g (.c (.box hS z z ?_))
 intro g1 W hS
 refine .c (.box hS z z ?_)
 intro g2 W hS
 refine .qn z (.g (.s (fa T.f44_0 z z z) z (.s (ld T.t3 hS.p1 z z z z z) z (.s (fa T.f44_0 z z z) z (.s (ld T.t3 hS z z z z z) z (.q z (.q z ?_)))))))
 have ⟨b1,hb1,h⟩:=bnd h
 refine .cu 6 16 (b1) hS ?_ ?_
 ·refine .both (a0.Room == a1.Room) (fun hb=>?_) (fun hb=>?_)
  ·have hg1:=hb
   have h:=aI hb hb1
   refine .g hg1 (.s (fa T.f44_1 z z z) z (.g hg1 (.s (ld T.t23 hS.p1 z z z z z) z (.g hg1 (.s (fa T.f44_1 z z z) z (.g hg1 (.s (ld T.t23 hS z z z z z) z ?_)))))))
   have ⟨y1,hy1,h⟩:=bnd h
   refine .g hg1 (.c (.cO hS Tryz.func11 (fR hy1 (hS.keep cF) (hS.keep yy)) z z ?_))
   intro W hS
   refine .s (pkt hg1 z z z) z ?_
   cases h
   exact .nil (ck 6 hS)
  refine .xx hb z (.xx hb z (.xx hb z (.xx hb z (.xx hb z ?_))))
  cases aJ hb hb1
  exact .s (pkf hb z z z) z (.nil (ck 6 hS))
 intro W hS
 obtain rfl:=o9 h
 exact .qn z (.ret (ab (vs:=[_]) () (rt z rn) z (hS.to [])))
def rF (w : World) (r : Bool) : Env → World → Prop:=Fin Tryz.prog Tryz.f27 No w (fun s : Unit=>.bool r) (fun s=>[]) .ret
theorem qo {a0 : List Box} {a1 : List Box} {v_0 : Hd} {v_1 : Hd} {w : World} {r : Bool} (h : hH a0 a1 = some r) (q_0 : RO w v_0 44 2 a6 a0) (q_1 : RO w v_1 44 2 a6 a1) : Cl 27 #[(sv v_0),(sv v_1)] w (RU w (.bool r)):=by
 unfold hH at h
 refine ay Tryz.func27 z z ?_
 have hS:=Sep.start w
 refine .g (.qn z (.seq (.g (.q z (.s (bq (hS.keep q_0) T.u28 z z) z (.q z (.s (bq (hS.keep q_1) T.u28 z z) z (.q z (.nil ?_)))))))))
 refine .cs z h ?_ ?_ <;> intro h
 ·obtain rfl:=o9 h
  exact .g (.qn z (.ret (ab (vs:=[_]) () (rt z rn) z (hS.to []))))
 refine .skip (.seq (.g (.qn z (.block ?_))))
 have ⟨y1,hy1,h⟩:=bnd h
 refine .via (.iter (fun s1 E' W'=>aK E' [(0,(sv v_0)),(1,(sv v_1)),(5,iv s1)] ∧ Sep No w W' []) (fun y2 x E' W'=>(match y2 with | .inl o1=>x = .ret ∧ rF w o1 E' W' | .inr o2=>x = .exit 0 ∧ aK E' [] ∧ Sep No w W' [])) hy1 ⟨sb rfl,hS.to [] rfl⟩ ?_) ?_
 ·intro s1 y3 E W h hI
  obtain ⟨hE,hS⟩:=hI
  refine CW.sub hE ?_
  unfold eY at h
  refine .seq (.g (.q z (.q z (.s (bq (hS.keep q_0) T.u28 z z) z (.q z (.nil ?_))))))
  refine .cs z h ?_ ?_ <;> intro h
  ·refine .skip (.seq (.block (.seq (.rk 10 hS [] T.mix ?_))))
   intro W hS
   have hT:=hS.to []
   refine .tp' 0 z z hT (.tp' 1 z z hT ?_)
   have ⟨x1,hx1,h⟩:=bnd h
   obtain ⟨k1,hd,hck1⟩:=RV.el2 q_0 hx1
   have hd1:=pS hd
   obtain ⟨k1,rfl,hd2⟩:=dt q_0 z hd1
   obtain ⟨v1,k1,rfl,q1,hd3⟩:=dF q_0 hd2
   obtain rfl:=lZ q_0 hd3
   refine .ts' 2 z (fun W hT=>ixv (hS.keep q_0) hx1 T.u28 T.t44 z z z) hT z (.ts' 3 z (fun W hT=>lde (hck1 _ hT.agree) T.t44 z z z z z) hT z (.tp' 4 z z hT (.tp' 5 z z hT ?_)))
   have ⟨x2,hx2,h⟩:=bnd h
   obtain ⟨k2,hd,hck2⟩:=RV.el2 q_1 hx2
   have hd1:=pS hd
   obtain ⟨k2,rfl,hd2⟩:=dt q_1 z hd1
   obtain ⟨v2,k2,rfl,q2,hd3⟩:=dF q_1 hd2
   obtain rfl:=lZ q_1 hd3
   refine .ts' 6 z (fun W hT=>ixv (hS.keep q_1) hx2 T.u28 T.t44 z z z) hT z (.ts' 7 z (fun W hT=>lde (hck2 _ hT.agree) T.t44 z z z z z) hT z ?_)
   have ⟨y4,hy4,h⟩:=bnd h
   refine .by1 8 z (.cO hS Tryz.func44 (sG hy4 (hS.keep (q1 _ q_0)) (hS.keep (q2 _ q_1))) z z ?_)
   intro W hS
   have hT:=hS.to []
   refine ⟨fun _=>hT,.tp' 9 z z hT (.done ?_)⟩
   refine .cs z h ?_ ?_ <;> intro h
   ·refine .g (.qn z (.ret ?_))
    cases h
    exact ⟨by simp,z,ab (vs:=[_]) () (rt z rn) z (hS.to [])⟩
   refine .skip (.region (.q z (.q z (.q z (.nil ?_)))))
   cases h
   exact ⟨z,sb z,hS.to []⟩
  refine .exit ?_
  cases h
  exact ⟨by simp,z,sb z,hS.to []⟩
 intro x E W hJ
 rcases y1 with o3 | o4
 ·obtain ⟨rfl,hF⟩:=hJ
  refine ⟨_,fun _ _ h=>h,?_⟩
  cases h
  exact hF
 obtain ⟨rfl,hE,hS⟩:=hJ
 refine ⟨_,hE.sub,?_⟩
 obtain rfl:=o9 h
 exact .g (.qn z (.ret (ab (vs:=[_]) () (rt z rn) z (hS.to []))))
def rG (w : World) (r : Bool) : Env → World → Prop:=Fin Tryz.prog Tryz.f9 No w (fun s : Unit=>.bool r) (fun s=>[]) .ret
theorem mI {a0 : aH} {a1 : aH} {aD : Hd} {aC : Hd} {aO : Hd} {cW : Hd} {da : Hd} {gb : Hd} {w : World} {r : Bool} (h : dU a0 a1 = some r) (aw : RO w aD 38 3 aq a0.Harts) (aA : RO w aC 44 2 a6 a0.Boxes) (aR : RO w aO 3 1 (D.int .i64) a0.Out) (iO : RO w cW 38 3 aq a1.Harts) (yz : RO w da 44 2 a6 a1.Boxes) (A1 : RO w gb 3 1 (D.int .i64) a1.Out) : Cl 9 #[.agg #[(sv aD),(sv aC),iv a0.Turn,iv a0.Idle,(sv aO)],.agg #[(sv cW),(sv da),iv a1.Turn,iv a1.Idle,(sv gb)]] w (RU w (.bool r)):=by
 unfold dU at h
 refine ay Tryz.func9 z z ?_
 have hS:=Sep.start w
 refine .g (.c (.box hS z z ?_))
 intro g1 W hS
 refine .c (.box hS z z ?_)
 intro g2 W hS
 refine .qn z (.seq (.g (.s (fa T.f30_0 z z z) z (.s (ld T.t27 hS.p1 z z z z z) z (.s (bq (hS.keep aw) T.u27 z z) z (.s (fa T.f30_0 z z z) z (.s (ld T.t27 hS z z z z z) z (.s (bq (hS.keep iO) T.u27 z z) z (.q z (.q z (.cu 6 19 (((a0.Harts.length : Int) != (a1.Harts.length : Int)) || (a0.Turn != a1.Turn)) hS ?_ ?_)))))))))))
 ·refine .both ((a0.Harts.length : Int) != (a1.Harts.length : Int)) (fun hb=>?_) (fun hb=>?_)
  ·exact .xx hb z (.xx hb z (.xx hb z (.xx hb z (.xx hb z (.s (pkt hb z z z) z (.nil (ck 6 hS z (ig hb))))))))
  have hg1:=hb
  exact .g hg1 (.s (fa T.f30_2 z z z) z (.g hg1 (.s (ld T.t3 hS.p1 z z z z z) z (.g hg1 (.s (fa T.f30_2 z z z) z (.g hg1 (.s (ld T.t3 hS z z z z z) z (.g hg1 (.q z (.s (pkf hg1 z z z) z (.nil (ck 6 hS z (ij hg1)))))))))))))
 intro W hS
 refine .q z (.cu 6 26 ((((a0.Harts.length : Int) != (a1.Harts.length : Int)) || (a0.Turn != a1.Turn)) || (a0.Idle != a1.Idle)) hS ?_ ?_)
 ·refine .both (((a0.Harts.length : Int) != (a1.Harts.length : Int)) || (a0.Turn != a1.Turn)) (fun hb=>?_) (fun hb=>?_)
  ·exact .xx hb z (.xx hb z (.xx hb z (.xx hb z (.xx hb z (.s (pkt hb z z z) z (.nil (ck 6 hS z (ig hb))))))))
  have hg2:=hb
  exact .g hg2 (.s (fa T.f30_3 z z z) z (.g hg2 (.s (ld T.t3 hS.p1 z z z z z) z (.g hg2 (.s (fa T.f30_3 z z z) z (.g hg2 (.s (ld T.t3 hS z z z z z) z (.g hg2 (.q z (.s (pkf hg2 z z z) z (.nil (ck 6 hS z (ij hg2)))))))))))))
 intro W hS
 refine .nil ?_
 refine .cs z h ?_ ?_ <;> intro h
 ·obtain rfl:=o9 h
  exact .g (.qn z (.ret (ab (vs:=[_]) () (rt z rn) z (hS.to []))))
 refine .skip (.seq (.g (.qn z (.block ?_))))
 have ⟨y1,hy1,h⟩:=bnd h
 refine .via (.iter (fun s1 E' W'=>aK E' [(2,pt g1),(3,pt g2),(5,iv s1)] ∧ Sep No w W' [.box g2 30 [(sv cW),(sv da),iv a1.Turn,iv a1.Idle,(sv gb)],.box g1 30 [(sv aD),(sv aC),iv a0.Turn,iv a0.Idle,(sv aO)]]) (fun y2 x E' W'=>(match y2 with | .inl o1=>x = .ret ∧ rG w o1 E' W' | .inr o2=>x = .exit 0 ∧ aK E' [(2,pt g1),(3,pt g2)] ∧ Sep No w W' [.box g2 30 [(sv cW),(sv da),iv a1.Turn,iv a1.Idle,(sv gb)],.box g1 30 [(sv aD),(sv aC),iv a0.Turn,iv a0.Idle,(sv aO)]])) hy1 ⟨sb rfl,hS.to [0,0] rfl⟩ ?_) ?_
 ·intro s1 y3 E W h hI
  obtain ⟨hE,hS⟩:=hI
  refine CW.sub hE ?_
  unfold eZ at h
  refine .seq (.g (.q z (.s (fa T.f30_0 z z z) z (.s (ld T.t27 hS.p1 z z z z z) z (.s (bq (hS.keep aw) T.u27 z z) z (.q z (.nil ?_)))))))
  refine .cs z h ?_ ?_ <;> intro h
  ·refine .skip (.seq (.block (.seq (.rk 12 hS [0,0] T.mix ?_))))
   intro W hS
   have hT:=hS.to [0,0]
   refine .ts' 0 z (fun W hT=>fa T.f30_0 z z z) hT z (.ts' 1 z (fun W hT=>ld T.t27 hT.p1 z z z z z) hT z (.tp' 2 z z hT ?_))
   have ⟨x1,hx1,h⟩:=bnd h
   obtain ⟨k1,hd,hck1⟩:=RV.el2 aw hx1
   have hd1:=pS hd
   obtain ⟨v1,k1,rfl,q1,hd2⟩:=dF aw hd1
   obtain ⟨k1,rfl,hd3⟩:=dt aw z hd2
   obtain ⟨v2,k1,rfl,q2,hd4⟩:=dF aw hd3
   obtain rfl:=lZ aw hd4
   refine .ts' 3 z (fun W hT=>ixv (hS.keep aw) hx1 T.u27 T.t38 z z z) hT z (.ts' 4 z (fun W hT=>lde (hck1 _ hT.agree) T.t38 z z z z z) hT z (.ts' 5 z (fun W hT=>fa T.f30_0 z z z) hT z (.ts' 6 z (fun W hT=>ld T.t27 hT z z z z z) hT z (.tp' 7 z z hT ?_))))
   have ⟨x2,hx2,h⟩:=bnd h
   obtain ⟨k2,hd,hck2⟩:=RV.el2 iO hx2
   have hd1:=pS hd
   obtain ⟨v3,k2,rfl,q3,hd2⟩:=dF iO hd1
   obtain ⟨k2,rfl,hd3⟩:=dt iO z hd2
   obtain ⟨v4,k2,rfl,q4,hd4⟩:=dF iO hd3
   obtain rfl:=lZ iO hd4
   refine .ts' 8 z (fun W hT=>ixv (hS.keep iO) hx2 T.u27 T.t38 z z z) hT z (.ts' 9 z (fun W hT=>lde (hck2 _ hT.agree) T.t38 z z z z z) hT z ?_)
   have ⟨y4,hy4,h⟩:=bnd h
   refine .by1 10 z (.cO hS Tryz.func26 (oU hy4 (hS.keep (q1 _ aw)) (hS.keep (q2 _ aw)) (hS.keep (q3 _ iO)) (hS.keep (q4 _ iO))) z z ?_)
   intro W hS
   have hT:=hS.to [0,0]
   refine ⟨fun _=>hT,.tp' 11 z z hT (.done ?_)⟩
   refine .cs z h ?_ ?_ <;> intro h
   ·refine .g (.qn z (.ret ?_))
    cases h
    exact ⟨by simp,z,ab (vs:=[_]) () (rt z rn) z (hS.to [])⟩
   refine .skip (.region (.q z (.q z (.q z (.nil ?_)))))
   cases h
   exact ⟨z,sb z,hS.to [0,0]⟩
  refine .exit ?_
  cases h
  exact ⟨by simp,z,sb z,hS.to [0,0]⟩
 intro x E W hJ
 rcases y1 with o3 | o4
 ·obtain ⟨rfl,hF⟩:=hJ
  refine ⟨_,fun _ _ h=>h,?_⟩
  cases h
  exact hF
 obtain ⟨rfl,hE,hS⟩:=hJ
 refine ⟨_,hE.sub,?_⟩
 refine .g (.s (fa T.f30_1 z z z) z (.s (ld T.t28 hS.p1 z z z z z) z (.s (fa T.f30_1 z z z) z (.s (ld T.t28 hS z z z z z) z ?_))))
 have ⟨y5,hy5,h⟩:=bnd h
 refine .c (.cO hS Tryz.func27 (qo hy5 (hS.keep aA) (hS.keep yz)) z z ?_)
 intro W hS
 refine .q z ?_
 have ⟨b1,hb1,h⟩:=bnd h
 refine .cu 6 57 (b1) hS ?_ ?_
 ·refine .both (y5) (fun hb=>?_) (fun hb=>?_)
  ·have hg3:=hb
   have h:=aI hb hb1
   refine .g hg3 (.s (fa T.f30_4 z z z) z (.g hg3 (.s (ld T.t23 hS.p1 z z z z z) z (.g hg3 (.s (fa T.f30_4 z z z) z (.g hg3 (.s (ld T.t23 hS z z z z z) z ?_)))))))
   have ⟨y6,hy6,h⟩:=bnd h
   refine .g hg3 (.c (.cO hS Tryz.func11 (fR hy6 (hS.keep aR) (hS.keep A1)) z z ?_))
   intro W hS
   refine .s (pkt hg3 z z z) z ?_
   cases h
   exact .nil (ck 6 hS)
  refine .xx hb z (.xx hb z (.xx hb z (.xx hb z (.xx hb z ?_))))
  cases aJ hb hb1
  exact .s (pkf hb z z z) z (.nil (ck 6 hS))
 intro W hS
 obtain rfl:=o9 h
 exact .qn z (.ret (ab (vs:=[_]) () (rt z rn) z (hS.to [])))
def sH (w : World) (r : Bool) : Env → World → Prop:=Fin Tryz.prog Tryz.f75 No w (fun s : Unit=>.bool r) (fun s=>[]) .ret
theorem iP {a0 : List Int} {v_0 : Hd} {w : World} {r : Bool} (h : df a0 = some r) (q_0 : RO w v_0 3 1 (D.int .i64) a0) : Cl 75 #[(sv v_0)] w (RU w (.bool r)):=by
 unfold df at h
 refine ay Tryz.func75 z z ?_
 have hS:=Sep.start w
 refine .g (.qn z (.seq (.g (.q z (.s (bq (hS.keep q_0) T.u23 z z) z (.qn z (.block ?_)))))))
 have ⟨y1,hy1,h⟩:=bnd h
 refine .via (.iter (fun s1 E' W'=>aK E' [(5,(sv v_0)),(6,iv (a0.length : Int)),(7,iv s1)] ∧ Sep No w W' []) (fun y2 x E' W'=>(match y2 with | .inl o1=>x = .ret ∧ sH w o1 E' W' | .inr o2=>x = .exit 0 ∧ aK E' [] ∧ Sep No w W' [])) hy1 ⟨sb rfl,hS.to [] rfl⟩ ?_) ?_
 ·intro s1 y3 E W h hI
  obtain ⟨hE,hS⟩:=hI
  refine CW.sub hE ?_
  unfold fH at h
  refine .g (.qn z (.seq ?_))
  refine .cs z h ?_ ?_ <;> intro h
  ·refine .skip (.seq (.block (.seq (.region ?_))))
   have ⟨x1,hx1,h⟩:=bnd h
   refine .s (ixv (hS.keep q_0) hx1 T.u23 T.t3 z z z) z (.s (lde (RV.flat (hS.keep q_0) hx1 z) T.t3 z z z z z) z (.qn z (.g (.q z ?_))))
   have ⟨y4,hy4,h⟩:=bnd h
   refine .c (.cO hS Tryz.func78 (ku hy4) z z ?_)
   intro W hS
   refine .q z (.nil ?_)
   refine .cs z h ?_ ?_ <;> intro h
   ·refine .g (.qn z (.ret ?_))
    cases h
    exact ⟨by simp,z,ab (vs:=[_]) () (rt z rn) z (hS.to [])⟩
   refine .skip (.region (.q z (.q z (.nil ?_))))
   cases h
   exact ⟨z,sb z,hS.to []⟩
  refine .exit ?_
  cases h
  exact ⟨by simp,z,sb z,hS.to []⟩
 intro x E W hJ
 rcases y1 with o3 | o4
 ·obtain ⟨rfl,hF⟩:=hJ
  refine ⟨_,fun _ _ h=>h,?_⟩
  cases h
  exact hF
 obtain ⟨rfl,hE,hS⟩:=hJ
 refine ⟨_,hE.sub,?_⟩
 obtain rfl:=o9 h
 exact .g (.qn z (.ret (ab (vs:=[_]) () (rt z rn) z (hS.to []))))
theorem pD {a0 : Int} {a1 : Int} {a2 : Int} {a3 : List Int} {v_3 : Hd} {w : World} {r : Bool} (h : jt a0 a1 a2 a3 = some r) (q_3 : RO w v_3 3 1 (D.int .i64) a3) : Cl 45 #[iv a0,iv a1,iv a2,(sv v_3)] w (RU w (.bool r)):=by
 unfold jt at h
 refine ay Tryz.func45 z z ?_
 have hS:=Sep.start w
 refine .g (.qn z (.g (.q z (.q z (.q z (.cu 3 14 ((decide (a0 ≥ 1)) && (decide (a0 ≤ 3))) hS ?_ ?_))))))
 ·refine .both (decide (a0 ≥ 1)) (fun hb=>?_) (fun hb=>?_)
  ·have hg1:=hb
   exact .g hg1 (.q z (.g hg1 (.q z (.s (pkt hg1 z z z) z (.nil (ck 3 hS z (bH hg1)))))))
  exact .xx hb z (.xx hb z (.s (pkf hb z z z) z (.nil (ck 3 hS z (bI hb)))))
 intro W hS
 refine .q z (.cu 3 18 (((decide (a0 ≥ 1)) && (decide (a0 ≤ 3))) && (decide (a1 ≥ 0))) hS ?_ ?_)
 ·refine .both ((decide (a0 ≥ 1)) && (decide (a0 ≤ 3))) (fun hb=>?_) (fun hb=>?_)
  ·have hg2:=hb
   exact .g hg2 (.q z (.g hg2 (.q z (.s (pkt hg2 z z z) z (.nil (ck 3 hS z (bH hg2)))))))
  exact .xx hb z (.xx hb z (.s (pkf hb z z z) z (.nil (ck 3 hS z (bI hb)))))
 intro W hS
 refine .q z (.cu 4 23 ((((decide (a0 ≥ 1)) && (decide (a0 ≤ 3))) && (decide (a1 ≥ 0))) && (decide (a1 < a0))) hS ?_ ?_)
 ·refine .both (((decide (a0 ≥ 1)) && (decide (a0 ≤ 3))) && (decide (a1 ≥ 0))) (fun hb=>?_) (fun hb=>?_)
  ·have hg3:=hb
   exact .g hg3 (.q z (.g hg3 (.q z (.g hg3 (.q z (.s (pkt hg3 z z z) z (.nil (ck 4 hS z (bH hg3)))))))))
  exact .xx hb z (.xx hb z (.xx hb z (.s (pkf hb z z z) z (.nil (ck 4 hS z (bI hb))))))
 intro W hS
 refine .q z (.cu 3 27 (((((decide (a0 ≥ 1)) && (decide (a0 ≤ 3))) && (decide (a1 ≥ 0))) && (decide (a1 < a0))) && (decide (a2 ≥ 0))) hS ?_ ?_)
 ·refine .both ((((decide (a0 ≥ 1)) && (decide (a0 ≤ 3))) && (decide (a1 ≥ 0))) && (decide (a1 < a0))) (fun hb=>?_) (fun hb=>?_)
  ·have hg4:=hb
   exact .g hg4 (.q z (.g hg4 (.q z (.s (pkt hg4 z z z) z (.nil (ck 3 hS z (bH hg4)))))))
  exact .xx hb z (.xx hb z (.s (pkf hb z z z) z (.nil (ck 3 hS z (bI hb)))))
 intro W hS
 refine .q z (.cu 4 32 ((((((decide (a0 ≥ 1)) && (decide (a0 ≤ 3))) && (decide (a1 ≥ 0))) && (decide (a1 < a0))) && (decide (a2 ≥ 0))) && (decide (a2 ≤ a0))) hS ?_ ?_)
 ·refine .both (((((decide (a0 ≥ 1)) && (decide (a0 ≤ 3))) && (decide (a1 ≥ 0))) && (decide (a1 < a0))) && (decide (a2 ≥ 0))) (fun hb=>?_) (fun hb=>?_)
  ·have hg5:=hb
   exact .g hg5 (.q z (.g hg5 (.q z (.g hg5 (.q z (.s (pkt hg5 z z z) z (.nil (ck 4 hS z (bH hg5)))))))))
  exact .xx hb z (.xx hb z (.xx hb z (.s (pkf hb z z z) z (.nil (ck 4 hS z (bI hb))))))
 intro W hS
 refine .q z ?_
 have ⟨b1,hb1,h⟩:=bnd h
 refine .cu 3 36 (b1) hS ?_ ?_
 ·refine .both ((((((decide (a0 ≥ 1)) && (decide (a0 ≤ 3))) && (decide (a1 ≥ 0))) && (decide (a1 < a0))) && (decide (a2 ≥ 0))) && (decide (a2 ≤ a0))) (fun hb=>?_) (fun hb=>?_)
  ·have hg6:=hb
   have h:=aI hb hb1
   refine .g hg6 (.q z ?_)
   have ⟨y1,hy1,h⟩:=bnd h
   refine .g hg6 (.c (.cO hS Tryz.func75 (iP hy1 (hS.keep q_3)) z z ?_))
   intro W hS
   refine .s (pkt hg6 z z z) z ?_
   cases h
   exact .nil (ck 3 hS)
  refine .xx hb z (.xx hb z ?_)
  cases aJ hb hb1
  exact .s (pkf hb z z z) z (.nil (ck 3 hS))
 intro W hS
 obtain rfl:=o9 h
 exact .qn z (.ret (ab (vs:=[_]) () (rt z rn) z (hS.to [])))
theorem rH {a0 : Box} {cn : Hd} {w : World} {r : Bool} (h : jn a0 = some r) (cF : RO w cn 3 1 (D.int .i64) a0.Items) : Cl 76 #[.agg #[iv a0.Room,(sv cn)]] w (RU w (.bool r)):=by
 unfold jn at h
 refine ay Tryz.func76 z z ?_
 have hS:=Sep.start w
 refine .g (.c (.box hS z z ?_))
 intro g1 W hS
 refine .qn z (.g (.s (fa T.f44_0 z z z) z (.s (ld T.t3 hS z z z z z) z (.q z (.q z (.cu 4 10 ((decide (a0.Room ≥ 1)) && (decide (a0.Room ≤ 4))) hS ?_ ?_))))))
 ·refine .both (decide (a0.Room ≥ 1)) (fun hb=>?_) (fun hb=>?_)
  ·have hg1:=hb
   exact .g hg1 (.s (fa T.f44_0 z z z) z (.g hg1 (.s (ld T.t3 hS z z z z z) z (.g hg1 (.q z (.s (pkt hg1 z z z) z (.nil (ck 4 hS z (bH hg1)))))))))
  exact .xx hb z (.xx hb z (.xx hb z (.s (pkf hb z z z) z (.nil (ck 4 hS z (bI hb))))))
 intro W hS
 refine .q z (.cu 7 18 (((decide (a0.Room ≥ 1)) && (decide (a0.Room ≤ 4))) && (decide ((a0.Items.length : Int) ≤ a0.Room))) hS ?_ ?_)
 ·refine .both ((decide (a0.Room ≥ 1)) && (decide (a0.Room ≤ 4))) (fun hb=>?_) (fun hb=>?_)
  ·have hg2:=hb
   exact .g hg2 (.s (fa T.f44_1 z z z) z (.g hg2 (.s (ld T.t23 hS z z z z z) z (.g hg2 (.s (bq (hS.keep cF) T.u23 z z) z (.g hg2 (.s (fa T.f44_0 z z z) z (.g hg2 (.s (ld T.t3 hS z z z z z) z (.g hg2 (.q z (.s (pkt hg2 z z z) z (.nil (ck 7 hS z (bH hg2)))))))))))))))
  exact .xx hb z (.xx hb z (.xx hb z (.xx hb z (.xx hb z (.xx hb z (.s (pkf hb z z z) z (.nil (ck 7 hS z (bI hb)))))))))
 intro W hS
 refine .q z ?_
 have ⟨b1,hb1,h⟩:=bnd h
 refine .cu 4 23 (b1) hS ?_ ?_
 ·refine .both (((decide (a0.Room ≥ 1)) && (decide (a0.Room ≤ 4))) && (decide ((a0.Items.length : Int) ≤ a0.Room))) (fun hb=>?_) (fun hb=>?_)
  ·have hg3:=hb
   have h:=aI hb hb1
   refine .g hg3 (.s (fa T.f44_1 z z z) z (.g hg3 (.s (ld T.t23 hS z z z z z) z ?_)))
   have ⟨y1,hy1,h⟩:=bnd h
   refine .g hg3 (.c (.cO hS Tryz.func75 (iP hy1 (hS.keep cF)) z z ?_))
   intro W hS
   refine .s (pkt hg3 z z z) z ?_
   cases h
   exact .nil (ck 4 hS)
  refine .xx hb z (.xx hb z (.xx hb z ?_))
  cases aJ hb hb1
  exact .s (pkf hb z z z) z (.nil (ck 4 hS))
 intro W hS
 obtain rfl:=o9 h
 exact .qn z (.ret (ab (vs:=[_]) () (rt z rn) z (hS.to [])))
def qp (w : World) (r : Bool) : Env → World → Prop:=Fin Tryz.prog Tryz.f46 No w (fun s : Unit=>.bool r) (fun s=>[]) .ret
theorem pE {a0 : List Box} {v_0 : Hd} {w : World} {r : Bool} (h : gk a0 = some r) (q_0 : RO w v_0 44 2 a6 a0) : Cl 46 #[(sv v_0)] w (RU w (.bool r)):=by
 unfold gk at h
 refine ay Tryz.func46 z z ?_
 have hS:=Sep.start w
 refine .g (.qn z (.seq (.g (.q z (.s (bq (hS.keep q_0) T.u28 z z) z (.qn z (.block ?_)))))))
 have ⟨y1,hy1,h⟩:=bnd h
 refine .via (.iter (fun s1 E' W'=>aK E' [(0,(sv v_0)),(5,(sv v_0)),(6,iv (a0.length : Int)),(7,iv s1)] ∧ Sep No w W' []) (fun y2 x E' W'=>(match y2 with | .inl o1=>x = .ret ∧ qp w o1 E' W' | .inr o2=>x = .exit 0 ∧ aK E' [(0,(sv v_0))] ∧ Sep No w W' [])) hy1 ⟨sb rfl,hS.to [] rfl⟩ ?_) ?_
 ·intro s1 y3 E W h hI
  obtain ⟨hE,hS⟩:=hI
  refine CW.sub hE ?_
  unfold ez at h
  refine .g (.qn z (.seq ?_))
  refine .cs z h ?_ ?_ <;> intro h
  ·refine .skip (.seq (.block (.seq (.region ?_))))
   have ⟨x1,hx1,h⟩:=bnd h
   obtain ⟨k1,hd,hck1⟩:=RV.el2 q_0 hx1
   have hd1:=pS hd
   obtain ⟨k1,rfl,hd2⟩:=dt q_0 z hd1
   obtain ⟨v1,k1,rfl,q1,hd3⟩:=dF q_0 hd2
   obtain rfl:=lZ q_0 hd3
   refine .s (ixv (hS.keep q_0) hx1 T.u28 T.t44 z z z) z (.s (lde (hck1 _ hS.agree) T.t44 z z z z z) z (.c (.alloc T.t44 hS ?_)))
   intro g1 W hS
   refine .c (.st T.t44 hS z z z ?_)
   intro W hS
   refine .nil (.g (.s (ld T.t44 hS z z z z z) z ?_))
   have ⟨y4,hy4,h⟩:=bnd h
   refine .c (.cO hS Tryz.func76 (rH hy4 (hS.keep (q1 _ q_0))) z z ?_)
   intro W hS
   refine .q z (.nil ?_)
   refine .cs z h ?_ ?_ <;> intro h
   ·refine .g (.qn z (.ret ?_))
    cases h
    exact ⟨by simp,z,ab (vs:=[_]) () (rt z rn) z (hS.to [])⟩
   refine .skip (.region (.q z (.q z (.nil ?_))))
   cases h
   exact ⟨z,sb z,hS.to []⟩
  refine .exit ?_
  cases h
  exact ⟨by simp,z,sb z,hS.to []⟩
 intro x E W hJ
 rcases y1 with o3 | o4
 ·obtain ⟨rfl,hF⟩:=hJ
  refine ⟨_,fun _ _ h=>h,?_⟩
  cases h
  exact hF
 obtain ⟨rfl,hE,hS⟩:=hJ
 refine ⟨_,hE.sub,?_⟩
 cases h
 exact .g (.q z (.s (bq (hS.keep q_0) T.u28 z z) z (.q z (.qn z (.ret (ab (vs:=[_]) () (rt z rn) z (hS.to [])))))))
theorem oo {a0 : ah} {ai : Hd} {au : Hd} {w : World} {r : Bool} (h : dy a0 = some r) (cI : RO w ai 3 1 (D.int .i64) a0.Regs) (cJ : RO w au 3 1 (D.int .i64) a0.Mem) : Cl 49 #[.agg #[(sv ai),iv a0.Pc,(sv au)]] w (RU w (.bool r)):=by
 unfold dy at h
 refine ay Tryz.func49 z z ?_
 have hS:=Sep.start w
 refine .g (.c (.box hS z z ?_))
 intro g1 W hS
 refine .qn z (.g (.s (fa T.f38_0 z z z) z (.s (ld T.t23 hS z z z z z) z (.s (bq (hS.keep cI) T.u23 z z) z (.q z (.q z ?_))))))
 have ⟨b1,hb1,h⟩:=bnd h
 refine .cu 4 11 (b1) hS ?_ ?_
 ·refine .both ((a0.Regs.length : Int) == 32) (fun hb=>?_) (fun hb=>?_)
  ·have hg1:=hb
   have h:=aI hb hb1
   refine .g hg1 (.s (fa T.f38_0 z z z) z (.g hg1 (.s (ld T.t23 hS z z z z z) z ?_)))
   have ⟨y1,hy1,h⟩:=bnd h
   refine .g hg1 (.c (.cO hS Tryz.func75 (iP hy1 (hS.keep cI)) z z ?_))
   intro W hS
   refine .s (pkt hg1 z z z) z ?_
   cases h
   exact .nil (ck 4 hS)
  refine .xx hb z (.xx hb z (.xx hb z ?_))
  cases aJ hb hb1
  exact .s (pkf hb z z z) z (.nil (ck 4 hS))
 intro W hS
 refine .q z ?_
 have ⟨b2,hb2,h⟩:=bnd h
 refine .cu 6 18 (b2) hS ?_ ?_
 ·refine .both (b1) (fun hb=>?_) (fun hb=>?_)
  ·have hg2:=hb
   have h:=aI hb hb2
   refine .g hg2 (.s (fa T.f38_0 z z z) z (.g hg2 (.s (ld T.t23 hS z z z z z) z ?_)))
   have ⟨x1,hx1,h⟩:=bnd h
   refine .g hg2 (.s (ixv (hS.keep cI) hx1 T.u23 T.t3 z z z) z (.g hg2 (.s (lde (RV.flat (hS.keep cI) hx1 z) T.t3 z z z z z) z (.g hg2 (.q z (.s (pkt hg2 z z z) z ?_))))))
   cases h
   exact .nil (ck 6 hS)
  refine .xx hb z (.xx hb z (.xx hb z (.xx hb z (.xx hb z ?_))))
  cases aJ hb hb2
  exact .s (pkf hb z z z) z (.nil (ck 6 hS))
 intro W hS
 refine .q z ?_
 have ⟨b3,hb3,h⟩:=bnd h
 refine .cu 4 23 (b3) hS ?_ ?_
 ·refine .both (b2) (fun hb=>?_) (fun hb=>?_)
  ·have hg3:=hb
   have h:=aI hb hb3
   refine .g hg3 (.s (fa T.f38_1 z z z) z (.g hg3 (.s (ld T.t3 hS z z z z z) z ?_)))
   have ⟨y2,hy2,h⟩:=bnd h
   refine .g hg3 (.c (.cO hS Tryz.func78 (ku hy2) z z ?_))
   intro W hS
   refine .s (pkt hg3 z z z) z ?_
   cases h
   exact .nil (ck 4 hS)
  refine .xx hb z (.xx hb z (.xx hb z ?_))
  cases aJ hb hb3
  exact .s (pkf hb z z z) z (.nil (ck 4 hS))
 intro W hS
 refine .q z (.cu 5 29 (b3 && (decide ((a0.Mem.length : Int) ≤ 10000))) hS ?_ ?_)
 ·refine .both (b3) (fun hb=>?_) (fun hb=>?_)
  ·have hg4:=hb
   exact .g hg4 (.s (fa T.f38_2 z z z) z (.g hg4 (.s (ld T.t23 hS z z z z z) z (.g hg4 (.s (bq (hS.keep cJ) T.u23 z z) z (.g hg4 (.q z (.s (pkt hg4 z z z) z (.nil (ck 5 hS z (bH hg4)))))))))))
  exact .xx hb z (.xx hb z (.xx hb z (.xx hb z (.s (pkf hb z z z) z (.nil (ck 5 hS z (bI hb)))))))
 intro W hS
 refine .q z ?_
 have ⟨b4,hb4,h⟩:=bnd h
 refine .cu 4 34 (b4) hS ?_ ?_
 ·refine .both (b3 && (decide ((a0.Mem.length : Int) ≤ 10000))) (fun hb=>?_) (fun hb=>?_)
  ·have hg5:=hb
   have h:=aI hb hb4
   refine .g hg5 (.s (fa T.f38_2 z z z) z (.g hg5 (.s (ld T.t23 hS z z z z z) z ?_)))
   have ⟨y3,hy3,h⟩:=bnd h
   refine .g hg5 (.c (.cO hS Tryz.func75 (iP hy3 (hS.keep cJ)) z z ?_))
   intro W hS
   refine .s (pkt hg5 z z z) z ?_
   cases h
   exact .nil (ck 4 hS)
  refine .xx hb z (.xx hb z (.xx hb z ?_))
  cases aJ hb hb4
  exact .s (pkf hb z z z) z (.nil (ck 4 hS))
 intro W hS
 obtain rfl:=o9 h
 exact .qn z (.ret (ab (vs:=[_]) () (rt z rn) z (hS.to [])))
theorem oq {a0 : ah} {ai : Hd} {au : Hd} {w : World} {r : Bool} (h : gz a0 = some r) (cI : RO w ai 3 1 (D.int .i64) a0.Regs) (cJ : RO w au 3 1 (D.int .i64) a0.Mem) : Cl 48 #[.agg #[(sv ai),iv a0.Pc,(sv au)]] w (RU w (.bool r)):=by
 unfold gz at h
 refine ay Tryz.func48 z z ?_
 have hS:=Sep.start w
 refine .g (.c (.box hS z z ?_))
 intro g1 W hS
 refine .qn z (.g (.s (ld T.t38 hS z z z z z) z ?_))
 have ⟨y1,hy1,h⟩:=bnd h
 refine .c (.cO hS Tryz.func49 (oo hy1 (hS.keep cI) (hS.keep cJ)) z z ?_)
 intro W hS
 cases h
 exact .q z (.qn z (.ret (ab (vs:=[_]) () (rt z rn) z (hS.to []))))
def eF (w : World) (r : Int) : Env → World → Prop:=Fin Tryz.prog Tryz.f77 No w (fun s : Unit=>.int .i64 r) (fun s=>[]) .ret
theorem eu {a0 : List ah} {v_0 : Hd} {w : World} {r : Int} (h : bw a0 = some r) (q_0 : RO w v_0 38 3 aq a0) : Cl 77 #[(sv v_0),.func (.func 48) #[] #[]] w (RU w (.int .i64 r)):=by
 unfold bw at h
 refine ay Tryz.func77 z z ?_
 have hS:=Sep.start w
 refine .g (.qn z (.seq (.g (.q z (.s (bq (hS.keep q_0) T.u27 z z) z (.qn z (.block ?_)))))))
 have ⟨y1,hy1,h⟩:=bnd h
 refine .via (.iter (fun s1 E' W'=>aK E' [(0,(sv v_0)),(1,.func (.func 48) #[] #[]),(7,iv (a0.length : Int)),(8,iv s1)] ∧ Sep No w W' []) (fun y2 x E' W'=>(match y2 with | .inl o1=>x = .ret ∧ eF w o1 E' W' | .inr o2=>x = .exit 0 ∧ aK E' [] ∧ Sep No w W' [])) hy1 ⟨sb rfl,hS.to [] rfl⟩ ?_) ?_
 ·intro s1 y3 E W h hI
  obtain ⟨hE,hS⟩:=hI
  refine CW.sub hE ?_
  unfold aW at h
  refine .g (.qn z (.seq ?_))
  refine .cs z h ?_ ?_ <;> intro h
  ·refine .skip (.seq (.block (.g (.q z (.qn z (.g (.q z (.q z (.q z ?_)))))))))
   have ⟨x1,hx1,h⟩:=bnd h
   obtain ⟨k1,hd,hck1⟩:=RV.el2 q_0 hx1
   have hd1:=pS hd
   obtain ⟨v1,k1,rfl,q1,hd2⟩:=dF q_0 hd1
   obtain ⟨k1,rfl,hd3⟩:=dt q_0 z hd2
   obtain ⟨v2,k1,rfl,q2,hd4⟩:=dF q_0 hd3
   obtain rfl:=lZ q_0 hd4
   refine .s (ixv (hS.keep q_0) hx1 T.u27 T.t38 z z z) z (.s (lde (hck1 _ hS.agree) T.t38 z z z z z) z ?_)
   have ⟨y4,hy4,h⟩:=bnd h
   refine .c (.callv (vs:=[.agg #[(sv v1),iv x1.Pc,(sv v2)]]) (cap:=#[]) hS ⟨_,Tryz.func48,z,by kernel_rfl⟩ (oq hy4 (hS.keep (q1 _ q_0)) (hS.keep (q2 _ q_0))) z z z ?_)
   rintro ⟨⟩ W hS
   refine .nil ?_
   refine .cs z h ?_ ?_ <;> intro h
   ·refine .g (.q z (.qn z (.ret ?_)))
    cases h
    exact ⟨by simp,z,ab (vs:=[_]) () (rt z rn) z (hS.to [])⟩
   refine .skip (.region (.q z (.q z (.nil ?_))))
   cases h
   exact ⟨z,sb z,hS.to []⟩
  refine .exit ?_
  cases h
  exact ⟨by simp,z,sb z,hS.to []⟩
 intro x E W hJ
 rcases y1 with o3 | o4
 ·obtain ⟨rfl,hF⟩:=hJ
  refine ⟨_,fun _ _ h=>h,?_⟩
  cases h
  exact hF
 obtain ⟨rfl,hE,hS⟩:=hJ
 refine ⟨_,hE.sub,?_⟩
 cases h
 exact .g (.qn z (.ret (ab (vs:=[_]) () (rt z rn) z (hS.to []))))
theorem d9 {a0 : List ah} {v_0 : Hd} {w : World} {r : Bool} (h : a9 a0 = some r) (q_0 : RO w v_0 38 3 aq a0) : Cl 47 #[(sv v_0),.func (.func 48) #[] #[]] w (RU w (.bool r)):=by
 unfold a9 at h
 refine ay Tryz.func47 z z ?_
 have hS:=Sep.start w
 refine .g (.qn z (.g (.q z (.q z ?_))))
 have ⟨y1,hy1,h⟩:=bnd h
 refine .c (.cO hS Tryz.func77 (eu hy1 (hS.keep q_0)) z z ?_)
 intro W hS
 cases h
 exact .q z (.qn z (.ret (ab (vs:=[_]) () (rt z rn) z (hS.to []))))
theorem pF {a0 : aH} {aD : Hd} {aC : Hd} {aO : Hd} {w : World} {r : Bool} (h : gl a0 = some r) (aw : RO w aD 38 3 aq a0.Harts) (aA : RO w aC 44 2 a6 a0.Boxes) (aR : RO w aO 3 1 (D.int .i64) a0.Out) : Cl 29 #[.agg #[(sv aD),(sv aC),iv a0.Turn,iv a0.Idle,(sv aO)]] w (RU w (.bool r)):=by
 unfold gl at h
 refine ay Tryz.func29 z z ?_
 have hS:=Sep.start w
 refine .g (.c (.box hS z z ?_))
 intro g1 W hS
 refine .qn z (.g (.s (fa T.f30_0 z z z) z (.s (ld T.t27 hS z z z z z) z (.s (bq (hS.keep aw) T.u27 z z) z (.s (fa T.f30_2 z z z) z (.s (ld T.t3 hS z z z z z) z (.s (fa T.f30_3 z z z) z (.s (ld T.t3 hS z z z z z) z (.s (fa T.f30_4 z z z) z (.s (ld T.t23 hS z z z z z) z ?_))))))))))
 have ⟨y1,hy1,h⟩:=bnd h
 refine .c (.cO hS Tryz.func45 (pD hy1 (hS.keep aR)) z z ?_)
 intro W hS
 refine .q z ?_
 have ⟨b1,hb1,h⟩:=bnd h
 refine .cu 4 17 (b1) hS ?_ ?_
 ·refine .both (y1) (fun hb=>?_) (fun hb=>?_)
  ·have hg1:=hb
   have h:=aI hb hb1
   refine .g hg1 (.s (fa T.f30_1 z z z) z (.g hg1 (.s (ld T.t28 hS z z z z z) z ?_)))
   have ⟨y2,hy2,h⟩:=bnd h
   refine .g hg1 (.c (.cO hS Tryz.func46 (pE hy2 (hS.keep aA)) z z ?_))
   intro W hS
   refine .s (pkt hg1 z z z) z ?_
   cases h
   exact .nil (ck 4 hS)
  refine .xx hb z (.xx hb z (.xx hb z ?_))
  cases aJ hb hb1
  exact .s (pkf hb z z z) z (.nil (ck 4 hS))
 intro W hS
 refine .q z ?_
 have ⟨b2,hb2,h⟩:=bnd h
 refine .cu 5 23 (b2) hS ?_ ?_
 ·refine .both (b1) (fun hb=>?_) (fun hb=>?_)
  ·have hg2:=hb
   have h:=aI hb hb2
   refine .g hg2 (.s (fa T.f30_0 z z z) z (.g hg2 (.s (ld T.t27 hS z z z z z) z ?_)))
   have ⟨y3,hy3,h⟩:=bnd h
   refine .g hg2 (.c (.cO hS Tryz.func47 (d9 hy3 (hS.keep aw)) z z ?_))
   intro W hS
   refine .g hg2 (.q z (.s (pkt hg2 z z z) z ?_))
   cases h
   exact .nil (ck 5 hS)
  refine .xx hb z (.xx hb z (.xx hb z (.xx hb z ?_)))
  cases aJ hb hb2
  exact .s (pkf hb z z z) z (.nil (ck 5 hS))
 intro W hS
 obtain rfl:=o9 h
 exact .qn z (.ret (ab (vs:=[_]) () (rt z rn) z (hS.to [])))
theorem cy {a0 : List Int} {v_0 : Hd} {w : World} {r : (List Int)} (h : bM a0 = some r) (q_0 : RO w v_0 3 1 (D.int .i64) a0) : Cl 31 #[(sv v_0)] w (Ret No w (fun s : Hd=>(sv s)) (fun s=>[ae (sv s) 3 1 (D.int .i64) r])):=by
 unfold bM at h
 refine ay Tryz.func31 z z ?_
 have hS:=Sep.start w
 refine .g (.qn z (.seq (.g (.q z (.s (Cr T.u23 z z) z (.nil (.cond z (fun hb=>?_) (fun hb=>?_))))))))
 ·have hl:=RV.isnil q_0 hb
  subst hl
  refine .g (.qn z (.ret ?_))
  have hS:=hS.nilv 3 1 (D.int .i64)
  have h : some [] = some r:=h
  cases h
  exact ab (vs:=[_]) aP (rt z rn) z (hS.to [0])
 refine .skip (.g (.c (.liv [] (D.int .i64) T.u23 T.t3 hS z z z z ?_ z (fun _=>z))))
 intro v1 W hS
 refine .q z ?_
 have ⟨r1,hr1,h⟩:=bnd h
 refine .c (.av hr1 hS (hS.keep q_0) (fun _=>z) T.u23 T.t3 z z z ?_)
 intro v2 W hS
 obtain rfl:=o9 h
 exact .qn z (.ret (ab (vs:=[_]) v2 (rt z rn) z (hS.to [0])))
end
noncomputable section
theorem mJ {a0 : List Box} {v_0 : Hd} {w : World} {r : (List Box)} (h : hP a0 = some r) (q_0 : RO w v_0 44 2 a6 a0) : Cl 30 #[(sv v_0)] w (Ret No w (fun s : Hd=>(sv s)) (fun s=>[ae (sv s) 44 2 a6 r])):=by
 unfold hP at h
 refine ay Tryz.func30 z z ?_
 have hS:=Sep.start w
 refine .g (.qn z (.g (.qn z (.seq (.g (.q z (.s (bq (hS.keep q_0) T.u28 z z) z (.qn z (.block ?_)))))))))
 have hS:=hS.nilv 44 2 a6
 have ⟨y1,hy1,h⟩:=bnd h
 refine .via (.iter (fun s1 E' W'=>∃ (v3 : Hd),aK E' [(3,(sv v3)),(6,(sv v_0)),(7,iv (a0.length : Int)),(8,iv s1.2)] ∧ Sep No w W' [ae (sv v3) 44 2 a6 s1.1]) (fun y2 x E' W'=>x = .exit 0 ∧ ∃ (v4 : Hd),aK E' [(3,(sv v4))] ∧ Sep No w W' [ae (sv v4) 44 2 a6 y2]) hy1 ⟨aP,sb z,hS.to [0]⟩ ?_) ?_
 ·intro s1 y3 E W h hI
  obtain ⟨v2,hE,hS⟩:=hI
  refine CW.sub hE ?_
  unfold fb at h
  refine .g (.qn z (.seq ?_))
  refine .cs z h ?_ ?_ <;> intro h
  ·refine .skip (.seq (.block (.seq (.region ?_))))
   have ⟨x1,hx1,h⟩:=bnd h
   obtain ⟨k1,hd,hck1⟩:=RV.el2 q_0 hx1
   have hd1:=pS hd
   obtain ⟨k1,rfl,hd2⟩:=dt q_0 z hd1
   obtain ⟨v5,k1,rfl,q5,hd3⟩:=dF q_0 hd2
   obtain rfl:=lZ q_0 hd3
   refine .s (ixv (hS.keep q_0) hx1 T.u28 T.t44 z z z) z (.s (lde (hck1 _ hS.agree) T.t44 z z z z z) z (.c (.alloc T.t44 hS ?_)))
   intro g1 W hS
   refine .c (.st T.t44 hS z z z ?_)
   intro W hS
   refine .nil (.rk 10 hS [0] T.mix ?_)
   intro W hS
   have hT:=hS.to [0]
   refine .tp' 0 z z hT (.ts' 1 z (fun W hT=>fa T.f44_0 z z z) hT z (.ts' 2 z (fun W hT=>ld T.t3 hT z z z z z) hT z (.ts' 3 z (fun W hT=>fa T.f44_1 z z z) hT z (.ts' 4 z (fun W hT=>ld T.t23 hT z z z z z) hT z ?_))))
   have ⟨y4,hy4,h⟩:=bnd h
   refine .by1 5 z (.cV hS Tryz.func31 (cy hy4 (hS.keep (q5 _ q_0))) z z ?_)
   intro v6 W hS
   have hT:=hS.to [1]
   refine ⟨fun _=>hT,.ts' 6 z (fun W hT=>bs T.s44 z z) hT z (.by1 7 z (.lg (L1:=[ae (sv v6) 3 1 (D.int .i64) y4]) [(Box.mk x1.Room y4)] a6 T.u28 T.t44 (hS.to [0,0,0]) z z z (.agg (.flat (c1:=[iv x1.Room]) z (.row .nil))) ?_ z (fun _=>z)))⟩
   intro v7 W hS
   have hT:=hS.to [1]
   refine ⟨fun _=>hT,?_⟩
   have ⟨r1,hr1,h⟩:=bnd h
   refine .by1 8 z (.appv hr1 (hS.to [2,0,0]) T.u28 T.t44 z z z ?_)
   intro v8 W hS
   have hT:=hS.to [1]
   refine ⟨fun _=>hT,.tp' 9 z z hT (.done (.region (.q z (.q z (.nil ?_)))))⟩
   cases h
   exact ⟨z,v8,sb z,hS.to [0]⟩
  refine .exit ?_
  cases h
  exact ⟨by simp,z,v2,sb z,hS.to [0]⟩
 intro x E W hJ
 obtain ⟨rfl,v9,hE,hS⟩:=hJ
 refine ⟨_,hE.sub,?_⟩
 obtain rfl:=o9 h
 exact .g (.q z (.qn z (.ret (ab (vs:=[_]) v9 (rt z rn) z (hS.to [0])))))
theorem oV {a0 : ah} {ai : Hd} {au : Hd} {w : World} {r : ah} (h : fI a0 = some r) (cI : RO w ai 3 1 (D.int .i64) a0.Regs) (cJ : RO w au 3 1 (D.int .i64) a0.Mem) : Cl 32 #[.agg #[(sv ai),iv a0.Pc,(sv au)]] w (Ret No w (fun s : Hd × Hd=>.agg #[(sv s.1),iv r.Pc,(sv s.2)]) (fun s=>[ae (sv s.1) 3 1 (D.int .i64) r.Regs,ae (sv s.2) 3 1 (D.int .i64) r.Mem])):=by
 unfold fI at h
 refine ay Tryz.func32 z z ?_
 have hS:=Sep.start w
 refine .g (.c (.box hS z z ?_))
 intro g1 W hS
 refine .c (.alloc T.t38 hS ?_)
 intro g2 W hS
 refine .nil (.seq (.rk 9 hS [0,0] T.mix ?_))
 intro W hS
 have hT:=hS.to [0,0]
 refine .ts' 0 z (fun W hT=>fa T.f38_0 z z z) hT z (.ts' 1 z (fun W hT=>ld T.t23 hT.p1 z z z z z) hT z (.ts' 3 z (fun W hT=>fa T.f38_1 z z z) hT z (.ts' 4 z (fun W hT=>ld T.t3 hT.p1 z z z z z) hT z (.ts' 5 z (fun W hT=>fa T.f38_2 z z z) hT z (.ts' 6 z (fun W hT=>ld T.t23 hT.p1 z z z z z) hT z ?_)))))
 have ⟨y1,hy1,h⟩:=bnd h
 refine .by1 2 z (.cV hS Tryz.func31 (cy hy1 (hS.keep cI)) z z ?_)
 intro v1 W hS
 have hT:=hS.to [1,1]
 refine ⟨fun _=>hT,?_⟩
 have ⟨y2,hy2,h⟩:=bnd h
 refine .by1 7 z (.cV hS Tryz.func31 (cy hy2 (hS.keep cJ)) z z ?_)
 intro v2 W hS
 have hT:=hS.to [2,2]
 refine ⟨fun _=>hT,.ts' 8 z (fun W hT=>bs T.s38 z z) hT z (.by1 9 z (.st T.t38 hS.p2 z z z ?_))⟩
 intro W hS
 refine ⟨fun h=>absurd z h,?_⟩
 cases h
 exact .done (.ret (ab (vs:=[_]) (v1,v2) (rc hS T.t38 z rn z z) z (hS.to [2,1])))
theorem rI {a0 : Int} {a1 : Int} {a2 : Int} {a3 : Int} {w : World} {r : Int × Int × Bool} (h : dP a0 a1 a2 a3 = some r) : Cl 50 #[iv a0,iv a1,iv a2,iv a3] w (RU w (.tuple #[iv r.1,iv r.2.1,.bool r.2.2])):=by
 unfold dP at h
 refine ay Tryz.func50 z z ?_
 have hS:=Sep.start w
 refine .g (.q z (.q z (.qn z (.seq (.g (.q z (.q z (.q z (.cu 3 16 ((decide (a0 < 1)) || (decide (a0 > 3))) hS ?_ ?_)))))))))
 ·refine .both (decide (a0 < 1)) (fun hb=>?_) (fun hb=>?_)
  ·exact .xx hb z (.xx hb z (.s (pkt hb z z z) z (.nil (ck 3 hS z (ig hb)))))
  have hg1:=hb
  exact .g hg1 (.q z (.g hg1 (.q z (.s (pkf hg1 z z z) z (.nil (ck 3 hS z (ij hg1)))))))
 intro W hS
 refine .q z (.cu 3 20 (((decide (a0 < 1)) || (decide (a0 > 3))) || (decide (a1 < 0))) hS ?_ ?_)
 ·refine .both ((decide (a0 < 1)) || (decide (a0 > 3))) (fun hb=>?_) (fun hb=>?_)
  ·exact .xx hb z (.xx hb z (.s (pkt hb z z z) z (.nil (ck 3 hS z (ig hb)))))
  have hg2:=hb
  exact .g hg2 (.q z (.g hg2 (.q z (.s (pkf hg2 z z z) z (.nil (ck 3 hS z (ij hg2)))))))
 intro W hS
 refine .q z (.cu 4 25 ((((decide (a0 < 1)) || (decide (a0 > 3))) || (decide (a1 < 0))) || (decide (a1 ≥ a0))) hS ?_ ?_)
 ·refine .both (((decide (a0 < 1)) || (decide (a0 > 3))) || (decide (a1 < 0))) (fun hb=>?_) (fun hb=>?_)
  ·exact .xx hb z (.xx hb z (.xx hb z (.s (pkt hb z z z) z (.nil (ck 4 hS z (ig hb))))))
  have hg3:=hb
  exact .g hg3 (.q z (.g hg3 (.q z (.g hg3 (.q z (.s (pkf hg3 z z z) z (.nil (ck 4 hS z (ij hg3)))))))))
 intro W hS
 refine .q z (.cu 3 29 (((((decide (a0 < 1)) || (decide (a0 > 3))) || (decide (a1 < 0))) || (decide (a1 ≥ a0))) || (decide (a2 < 0))) hS ?_ ?_)
 ·refine .both ((((decide (a0 < 1)) || (decide (a0 > 3))) || (decide (a1 < 0))) || (decide (a1 ≥ a0))) (fun hb=>?_) (fun hb=>?_)
  ·exact .xx hb z (.xx hb z (.s (pkt hb z z z) z (.nil (ck 3 hS z (ig hb)))))
  have hg4:=hb
  exact .g hg4 (.q z (.g hg4 (.q z (.s (pkf hg4 z z z) z (.nil (ck 3 hS z (ij hg4)))))))
 intro W hS
 refine .q z (.cu 4 34 ((((((decide (a0 < 1)) || (decide (a0 > 3))) || (decide (a1 < 0))) || (decide (a1 ≥ a0))) || (decide (a2 < 0))) || (decide (a2 ≥ a0))) hS ?_ ?_)
 ·refine .both (((((decide (a0 < 1)) || (decide (a0 > 3))) || (decide (a1 < 0))) || (decide (a1 ≥ a0))) || (decide (a2 < 0))) (fun hb=>?_) (fun hb=>?_)
  ·exact .xx hb z (.xx hb z (.xx hb z (.s (pkt hb z z z) z (.nil (ck 4 hS z (ig hb))))))
  have hg5:=hb
  exact .g hg5 (.q z (.g hg5 (.q z (.g hg5 (.q z (.s (pkf hg5 z z z) z (.nil (ck 4 hS z (ij hg5)))))))))
 intro W hS
 refine .nil ?_
 refine .cs z h ?_ ?_ <;> intro h
 ·cases h
  exact .g (.q z (.q z (.qn z (.ret (ab (vs:=[_,_,_]) () (rt z (rt z (rt z rn))) z (hS.to []))))))
 refine .skip (.seq (.g (.qn z (.block (.g (.q z (.q z (.nil ?_))))))))
 refine .cs z h ?_ ?_ <;> intro h
 ·cases h
  exact .g (.q z (.q z (.q z (.qn z (.ret (ab (vs:=[_,_,_]) () (rt z (rt z (rt z rn))) z (hS.to [])))))))
 refine .g (.q z (.q z (.nil ?_)))
 refine .cs z h ?_ ?_ <;> intro h
 ·refine .g (.q z (.q z (.q z ?_)))
  have ⟨d1,hd1,h⟩:=bnd h
  cases h
  exact .s (dr hd1 z z z) z (.q z (.q z (.qn z (.ret (ab (vs:=[_,_,_]) () (rt z (rt z (rt z rn))) z (hS.to []))))))
 have ⟨y1,hy1,h⟩:=bnd h
 refine .seq (CW.via (R':=fun x E' W'=>x = .normal ∧ aK E' [(0,iv a0),(1,iv a1),(2,iv a2),(45,.bool y1)] ∧ Sep No w W' []) ?_ ?_)
 ·have h:=hy1
  refine .g (.q z (.q z (.nil ?_)))
  refine .cs z h ?_ ?_ <;> intro h
  ·refine .skip ?_
   cases h
   exact ⟨z,sb z,hS.to []⟩
  refine .region (.q z (.q z (.nil ?_)))
  cases h
  exact ⟨z,sb z,hS.to []⟩
 intro x E W hJ
 obtain ⟨rfl,hE,hS⟩:=hJ
 refine ⟨_,hE.sub,?_⟩
 refine .cs z h ?_ ?_ <;> intro h
 ·refine .g (.q z (.q z (.q z ?_)))
  have ⟨d2,hd2,h⟩:=bnd h
  cases h
  exact .s (dr hd2 z z z) z (.q z (.q z (.q z (.q z (.qn z (.ret (ab (vs:=[_,_,_]) () (rt z (rt z (rt z rn))) z (hS.to []))))))))
 cases h
 exact .skip (.g (.q z (.q z (.qn z (.ret (ab (vs:=[_,_,_]) () (rt z (rt z (rt z rn))) z (hS.to [])))))))
theorem pG {a0 : Box} {a1 : Int} {cn : Hd} {h_0 : Hd} {A_0 : Type} {e_0 : A_0 → D} {l_0 : List A_0} {k_0 : Nat} {S : Nat → Prop} {w : World} {r : Bool × (List Int)} (h : fX a0 a1 = some r) (hO : bG w [ae (sv cn) 3 1 (D.int .i64) a0.Items,be (sv h_0) 44 2 e_0 l_0 k_0 [iv a0.Room,(sv cn)]] S) (hlt : ∀ b,S b → b < w.heap.size) : Cl 51 #[.pointer (some (bU (adr (sv h_0)) (k_0 * 2 + 0))),iv a1] w (Ret S w (fun s : Hd=>.bool r.1) (fun s=>[be (sv h_0) 44 2 e_0 l_0 k_0 [iv a0.Room,(sv s)],ae (sv s) 3 1 (D.int .i64) r.2])):=by
 unfold fX at h
 refine ay Tryz.func51 z z ?_
 have hS:=Sep.sm hO hlt
 refine .g (.qn z (.seq (.seq (.rk 10 hS [0,0] T.mix ?_))))
 intro W hS
 have hT:=hS.to [0,0]
 refine .tp' 0 z z hT (.tp' 1 z z hT (.ts' 2 z (fun W hT=>fe T.f44_1 z z z) hT z (.ts' 3 z (fun W hT=>lde (hT.p1.hcellsv) T.t23 z z z z z) hT z (.ts' 4 z (fun W hT=>bq hS.lv T.u23 z z) hT z (.tp' 5 z z hT (.tp' 6 z z hT (.ts' 7 z (fun W hT=>fe T.f44_0 z z z) hT z (.ts' 8 z (fun W hT=>lde (hT.p1.hcellsv) T.t3 z z z z z) hT z (.tp' 9 z z hT (.done ?_))))))))))
 refine .cs z h ?_ ?_ <;> intro h
 ·cases h
  exact .g (.qn z (.ret (ab (vs:=[_]) cn (rt z rn) z (hS.to [1,0]))))
 refine .skip (.g (.q z (.q z (.q z (.s (fe T.f44_1 z z z) z (.s (lde (hS.p1.hcellsv) T.t23 z z z z z) z (.q z (.c (.liv [a1] (D.int .i64) T.u23 T.t3 hS z z z z ?_ z (fun _=>z))))))))))
 intro v1 W hS
 have ⟨r1,hr1,h⟩:=bnd h
 have hT0:=hS.p1
 refine .c (.av hr1 hT0 hT0.p1.lv (fun _=>z) T.u23 T.t3 z z z ?_)
 intro v2 W hS
 refine .q z (.s (fe T.f44_1 z z z) z (.c (.sthv hS.p2 T.t23 z z z ?_)))
 intro W hS
 cases h
 exact .nil (.g (.qn z (.ret (ab (vs:=[_]) v2 (rt z rn) z (hS.to [0,0])))))
theorem oW {a0 : Box} {cn : Hd} {h_0 : Hd} {A_0 : Type} {e_0 : A_0 → D} {l_0 : List A_0} {k_0 : Nat} {S : Nat → Prop} {w : World} {r : Int × Bool × (List Int)} (h : fi a0 = some r) (hO : bG w [ae (sv cn) 3 1 (D.int .i64) a0.Items,be (sv h_0) 44 2 e_0 l_0 k_0 [iv a0.Room,(sv cn)]] S) (hlt : ∀ b,S b → b < w.heap.size) : Cl 52 #[.pointer (some (bU (adr (sv h_0)) (k_0 * 2 + 0)))] w (Ret S w (fun s : Hd=>.tuple #[iv r.1,.bool r.2.1]) (fun s=>[be (sv h_0) 44 2 e_0 l_0 k_0 [iv a0.Room,(sv s)],ae (sv s) 3 1 (D.int .i64) r.2.2])):=by
 unfold fi at h
 refine ay Tryz.func52 z z ?_
 have hS:=Sep.sm hO hlt
 refine .g (.q z (.qn z (.seq (.g (.q z (.q z (.s (fe T.f44_1 z z z) z (.s (lde (hS.p1.hcellsv) T.t23 z z z z z) z (.s (bq hS.lv T.u23 z z) z (.q z (.nil ?_)))))))))))
 refine .cs z h ?_ ?_ <;> intro h
 ·cases h
  exact .g (.q z (.qn z (.ret (ab (vs:=[_,_]) cn (rt z (rt z rn)) z (hS.to [1,0])))))
 refine .skip (.g (.q z (.q z (.s (fe T.f44_1 z z z) z (.s (lde (hS.p1.hcellsv) T.t23 z z z z z) z ?_)))))
 have ⟨x1,hx1,h⟩:=bnd h
 refine .s (ixv hS.lv hx1 T.u23 T.t3 z z z) z (.s (lde (RV.flat hS.lv hx1 z) T.t3 z z z z z) z (.qn z (.seq ?_)))
 have ⟨r1,hr1,h⟩:=bnd h
 have ⟨r2,hr2,h⟩:=bnd h
 refine .rm 11 (fun W=>Sep S w W [be (sv h_0) 44 2 e_0 l_0 k_0 [iv a0.Room,(sv cn)]]) hS T.mix ?_
 intro W hS
 have hT:=hS.to [1]
 have hq:=hS.lv
 refine .tp 0 z (fun W=>pr z) hT (.tp 1 z (fun W=>pr z) hT (.tp 2 z (fun W=>pr z) hT (.tp 3 z (fun W=>fe T.f44_1 z z z) hT (.t1 4 5 z (fun W hT=>lde (hT.hcellsv) T.t23 z z z z z) hT (.tp 6 z (fun W=>pr z) hT (.tp 7 z (fun W=>pr z) hT (.tp 8 z (fun W=>fe T.f44_1 z z z) hT (.t1 9 10 z (fun W hT=>lde (hT.hcellsv) T.t23 z z z z z) hT (.tp 5 z (fun W=>slv yL hq T.u23 T.t3 z z z z) hT (.tp 10 z (fun W=>slv hr1 hq T.u23 T.t3 z z z z) hT (.byd 11 z (.tak hr1 hr2 hS (fun _=>z) T.u23 T.t3 z z z ?_)) (by kernel_rfl) z z) (by kernel_rfl) z z) (by kernel_rfl) z z) (by kernel_rfl) z z) (by kernel_rfl) z z) (by kernel_rfl) z z) (by kernel_rfl) z z) (by kernel_rfl) z z) (by kernel_rfl) z z) (by kernel_rfl) z z) (by kernel_rfl) z z
 intro v1 W hS
 refine .byd 12 z (.runs (pr z) z z (.byd 13 z (.runs (fe T.f44_1 z z z) z z (.byd 14 z (.sthv hS.p1 T.t23 z z z ?_)))))
 intro W hS
 cases h
 exact .done (.g (.q z (.q z (.qn z (.ret (ab (vs:=[_,_]) v1 (rt z (rt z rn)) z (hS.to [0,0])))))))
theorem mN {a0 : ll} {a1 : Int} {a2 : Int} {w : World} {r : Bool} (h : bP a0 a1 a2 = some r) : Cl 80 #[.agg #[.string a0.name,iv a0.opcode,iv a0.funct3,iv a0.funct7],iv a1,iv a2] w (RU w (.bool r)):=by
 unfold bP at h
 refine ay Tryz.func80 z z ?_
 have hS:=Sep.start w
 refine .g (.c (.box hS z z ?_))
 intro g1 W hS
 refine .qn z (.seq (.g (.s (fa T.f114_1 z z z) z (.s (ld T.t3 hS z z z z z) z (.q z (.q z (.q z (.nil ?_))))))))
 refine .cs z h ?_ ?_ <;> intro h
 ·obtain rfl:=o9 h
  exact .g (.qn z (.ret (ab (vs:=[_]) () (rt z rn) z (hS.to []))))
 refine .skip (.seq (.g (.q z ?_)))
 have ⟨y1,hy1,h⟩:=bnd h
 refine .c (.cO hS Tryz.func106 (iM hy1) z z ?_)
 intro W hS
 refine .nil (.block (.g (.q z (.q z (.nil ?_)))))
 refine .cs z h ?_ ?_ <;> intro h
 ·refine .seq ?_
  have ⟨y2,hy2,h⟩:=bnd h
  have ⟨b1,hb1,h⟩:=bnd h
  refine .via (R':=fun x E' W'=>x = .normal ∧ aK E' [(6,.bool b1)] ∧ Sep No w W' [.box g1 114 [.string a0.name,iv a0.opcode,iv a0.funct3,iv a0.funct7]]) ?_ ?_
  ·refine .rk 13 hS [0] T.mix ?_
   intro W hS
   have hT:=hS.to [0]
   refine .ts' 0 z (fun W hT=>fa T.f114_2 z z z) hT z (.ts' 1 z (fun W hT=>ld T.t3 hT z z z z z) hT z (.tp' 2 z z hT (.by1 3 z (.cO hS Tryz.func105 (cd hy2) z z ?_))))
   intro W hS
   have hT:=hS.to [0]
   refine ⟨fun _=>hT,.tp' 4 z z hT (.tp' 5 z z hT (.both (a0.funct3 == y2) (fun hb=>?_) (fun hb=>?_)))⟩
   ·have hg1:=hb
    have h_b1:=aI hb hb1
    refine .t1g 6 z hg1 (fun W hT=>fa T.f114_3 z z z) hT (.t1g 7 z hg1 (fun W hT=>ld T.t3 hT z z z z z) hT (.t1g 8 z hg1 (fun W hT=>pr z) hT ?_ (by kernel_rfl) z z) (by kernel_rfl) z z) (by kernel_rfl) z z
    have ⟨y3,hy3,h_b1⟩:=bnd h_b1
    refine .by1 9 z (.gd hg1 (.cO hS Tryz.func105 (cd hy3) z z ?_))
    intro W hS
    have hT:=hS.to [0]
    refine ⟨fun _=>hT,?_⟩
    exact .t1g 10 z hg1 (fun W hT=>pr z) hT (.ts' 11 z (fun W hT=>pkt hg1 z z z) hT z (.eqv 27 z (sR h_b1) (.tp' 12 z z hT (.done (⟨z,sb z,hS.to [0]⟩))))) (by kernel_rfl) z z
   exact .off 6 z hb hT (.off 7 z hb hT (.off 8 z hb hT (.off 9 z hb hT (.off 10 z hb hT (.ts' 11 z (fun W hT=>pkf hb z z z) hT z (.eqv 27 z (sR (aJ hb hb1)) (.tp' 12 z z hT (.done (⟨z,sb z,hS.to [0]⟩))))) (by kernel_rfl) z z) (by kernel_rfl) z z) (by kernel_rfl) z z) (by kernel_rfl) z z) (by kernel_rfl) z z
  intro x E W hJ
  obtain ⟨rfl,hE,hS⟩:=hJ
  refine ⟨_,hE.sub,?_⟩
  obtain rfl:=o9 h
  exact .ret (ab (vs:=[_]) () (rt z rn) z (hS.to []))
 have ⟨y4,hy4,h⟩:=bnd h
 refine .seq (CW.via (R':=fun x E' W'=>x = .normal ∧ aK E' [(2,iv a2),(3,pt g1),(28,.bool y4)] ∧ Sep No w W' [.box g1 114 [.string a0.name,iv a0.opcode,iv a0.funct3,iv a0.funct7]]) ?_ ?_)
 ·have h:=hy4
  refine .g (.q z (.q z (.nil ?_)))
  refine .cs z h ?_ ?_ <;> intro h
  ·refine .skip ?_
   cases h
   exact ⟨z,sb z,hS.to [0]⟩
  refine .g (.q z (.q z (.nil ?_)))
  refine .cs z h ?_ ?_ <;> intro h
  ·refine .skip ?_
   cases h
   exact ⟨z,sb z,hS.to [0]⟩
  refine .region (.q z (.q z (.nil ?_)))
  cases h
  exact ⟨z,sb z,hS.to [0]⟩
 intro x E W hJ
 obtain ⟨rfl,hE,hS⟩:=hJ
 refine ⟨_,hE.sub,?_⟩
 refine .cs z h ?_ ?_ <;> intro h
 ·refine .seq (.rk 6 hS [0] T.mix ?_)
  intro W hS
  have hT:=hS.to [0]
  refine .ts' 0 z (fun W hT=>fa T.f114_2 z z z) hT z (.ts' 1 z (fun W hT=>ld T.t3 hT z z z z z) hT z (.tp' 2 z z hT ?_))
  have ⟨y5,hy5,h⟩:=bnd h
  refine .by1 3 z (.cO hS Tryz.func105 (cd hy5) z z ?_)
  intro W hS
  have hT:=hS.to [0]
  refine ⟨fun _=>hT,?_⟩
  cases h
  exact .tp' 4 z z hT (.tp' 5 z z hT (.done (.ret (ab (vs:=[_]) () (rt z rn) z (hS.to [])))))
 obtain rfl:=o9 h
 exact .skip (.g (.qn z (.ret (ab (vs:=[_]) () (rt z rn) z (hS.to [])))))
theorem gc {a0 : Int} {a1 : Int} {w : World} {r : Int} (h : cL a0 a1 = some r) : Cl 109 #[iv a0,iv a1] w (RU w (.int .i64 r)):=by
 unfold cL at h
 refine ay Tryz.func109 z z ?_
 have hS:=Sep.start w
 refine .g (.qn z (.seq (.g (.q z (.q z (.q z (.cu 3 10 ((decide (a1 < 1)) || (decide (a1 > 32))) hS ?_ ?_)))))))
 ·refine .both (decide (a1 < 1)) (fun hb=>?_) (fun hb=>?_)
  ·exact .xx hb z (.xx hb z (.s (pkt hb z z z) z (.nil (ck 3 hS z (ig hb)))))
  have hg1:=hb
  exact .g hg1 (.q z (.g hg1 (.q z (.s (pkf hg1 z z z) z (.nil (ck 3 hS z (ij hg1)))))))
 intro W hS
 refine .q z (.cu 3 14 (((decide (a1 < 1)) || (decide (a1 > 32))) || (decide (a0 < 0))) hS ?_ ?_)
 ·refine .both ((decide (a1 < 1)) || (decide (a1 > 32))) (fun hb=>?_) (fun hb=>?_)
  ·exact .xx hb z (.xx hb z (.s (pkt hb z z z) z (.nil (ck 3 hS z (ig hb)))))
  have hg2:=hb
  exact .g hg2 (.q z (.g hg2 (.q z (.s (pkf hg2 z z z) z (.nil (ck 3 hS z (ij hg2)))))))
 intro W hS
 refine .q z ?_
 have ⟨b1,hb1,h⟩:=bnd h
 refine .cu 5 20 (b1) hS ?_ ?_
 ·refine .both (((decide (a1 < 1)) || (decide (a1 > 32))) || (decide (a0 < 0))) (fun hb=>?_) (fun hb=>?_)
  ·refine .xx hb z (.xx hb z (.xx hb z (.xx hb z ?_)))
   cases aI hb hb1
   exact .s (pkt hb z z z) z (.nil (ck 5 hS))
  have hg3:=hb
  have h:=aJ hb hb1
  refine .g hg3 (.q z (.g hg3 (.q z ?_)))
  have ⟨d1,hd1,h⟩:=bnd h
  refine .g hg3 (.s (la hd1 z z z) z (.g hg3 (.q z (.s (pkf hg3 z z z) z ?_))))
  cases h
  exact .nil (ck 5 hS)
 intro W hS
 refine .nil ?_
 refine .cs z h ?_ ?_ <;> intro h
 ·cases h
  exact .g (.qn z (.ret (ab (vs:=[_]) () (rt z rn) z (hS.to []))))
 refine .skip (.seq (.g (.q z (.q z (.q z ?_)))))
 have ⟨d2,hd2,h⟩:=bnd h
 refine .s (la hd2 z z z) z (.q z (.nil ?_))
 refine .cs z h ?_ ?_ <;> intro h
 ·refine .g (.q z (.q z ?_))
  have ⟨d3,hd3,h⟩:=bnd h
  cases h
  exact .s (la hd3 z z z) z (.q z (.qn z (.ret (ab (vs:=[_]) () (rt z rn) z (hS.to [])))))
 obtain rfl:=o9 h
 exact .skip (.g (.q z (.qn z (.ret (ab (vs:=[_]) () (rt z rn) z (hS.to []))))))
theorem rJ {a0 : Int} {a1 : Int} {w : World} {r : Instr} (h : cM a0 a1 = some r) : Cl 81 #[iv a0,iv a1] w (RU w (.agg #[iv r.Op,iv r.Rd,iv r.Rs,iv r.Rt,iv r.Imm])):=by
 unfold cM at h
 refine ay Tryz.func81 z z ?_
 have hS:=Sep.start w
 refine .g (.c (.alloc T.t51 hS ?_))
 intro g1 W hS
 refine .nil (.g (.q z ?_))
 have ⟨y1,hy1,h⟩:=bnd h
 refine .c (.cO hS Tryz.func105 (cd hy1) z z ?_)
 intro W hS
 refine .q z ?_
 have ⟨y2,hy2,h⟩:=bnd h
 refine .c (.cO hS Tryz.func105 (cd hy2) z z ?_)
 intro W hS
 refine .q z ?_
 have ⟨y3,hy3,h⟩:=bnd h
 refine .c (.cO hS Tryz.func105 (cd hy3) z z ?_)
 intro W hS
 refine .q z (.q z (.qn z (.seq (.g (.q z ?_)))))
 have ⟨y4,hy4,h⟩:=bnd h
 refine .c (.cO hS Tryz.func106 (iM hy4) z z ?_)
 intro W hS
 refine .nil (.block (.g (.q z (.q z (.nil ?_)))))
 refine .cs z h ?_ ?_ <;> intro h
 ·refine .g (.q z (.q z (.q z (.q z (.s (bs T.s51 z z) z (.c (.st T.t51 hS z z z ?_)))))))
  intro W hS
  cases h
  exact .nil (.ret (ab (vs:=[_]) () (rc hS T.t51 z rn z z) z (hS.to [])))
 refine .g (.q z (.q z (.nil ?_)))
 refine .cs z h ?_ ?_ <;> intro h
 ·refine .g (.q z (.q z (.q z (.q z ?_))))
  have ⟨y5,hy5,h⟩:=bnd h
  refine .c (.cO hS Tryz.func105 (cd hy5) z z ?_)
  intro W hS
  have ⟨y6,hy6,h⟩:=bnd h
  refine .c (.cO hS Tryz.func109 (gc hy6) z z ?_)
  intro W hS
  refine .s (bs T.s51 z z) z (.c (.st T.t51 hS z z z ?_))
  intro W hS
  cases h
  exact .nil (.ret (ab (vs:=[_]) () (rc hS T.t51 z rn z z) z (hS.to [])))
 refine .g (.q z (.q z (.nil ?_)))
 refine .cs z h ?_ ?_ <;> intro h
 ·refine .g (.q z (.q z (.q z (.q z ?_))))
  have ⟨y7,hy7,h⟩:=bnd h
  refine .c (.cO hS Tryz.func105 (cd hy7) z z ?_)
  intro W hS
  refine .q z (.q z (.q z ?_))
  have ⟨y8,hy8,h⟩:=bnd h
  refine .c (.cO hS Tryz.func109 (gc hy8) z z ?_)
  intro W hS
  refine .s (bs T.s51 z z) z (.c (.st T.t51 hS z z z ?_))
  intro W hS
  cases h
  exact .nil (.ret (ab (vs:=[_]) () (rc hS T.t51 z rn z z) z (hS.to [])))
 refine .g (.q z (.q z (.nil ?_)))
 refine .cs z h ?_ ?_ <;> intro h
 ·refine .g (.q z ?_)
  have ⟨y9,hy9,h⟩:=bnd h
  refine .c (.cO hS Tryz.func105 (cd hy9) z z ?_)
  intro W hS
  refine .q z (.q z ?_)
  have ⟨y10,hy10,h⟩:=bnd h
  refine .c (.cO hS Tryz.func105 (cd hy10) z z ?_)
  intro W hS
  refine .q z (.q z (.q z ?_))
  have ⟨y11,hy11,h⟩:=bnd h
  refine .c (.cO hS Tryz.func105 (cd hy11) z z ?_)
  intro W hS
  refine .q z (.q z (.q z ?_))
  have ⟨y12,hy12,h⟩:=bnd h
  refine .c (.cO hS Tryz.func105 (cd hy12) z z ?_)
  intro W hS
  refine .q z (.q z (.qn z (.g (.q z (.q z (.q z (.q z ?_)))))))
  have ⟨y13,hy13,h⟩:=bnd h
  refine .c (.cO hS Tryz.func109 (gc hy13) z z ?_)
  intro W hS
  refine .s (bs T.s51 z z) z (.c (.st T.t51 hS z z z ?_))
  intro W hS
  cases h
  exact .nil (.ret (ab (vs:=[_]) () (rc hS T.t51 z rn z z) z (hS.to [])))
 refine .g (.q z (.q z (.nil ?_)))
 refine .cs z h ?_ ?_ <;> intro h
 ·refine .g (.q z (.q z (.q z ?_)))
  have ⟨y14,hy14,h⟩:=bnd h
  refine .c (.cO hS Tryz.func105 (cd hy14) z z ?_)
  intro W hS
  refine .s (bs T.s51 z z) z (.c (.st T.t51 hS z z z ?_))
  intro W hS
  cases h
  exact .nil (.ret (ab (vs:=[_]) () (rc hS T.t51 z rn z z) z (hS.to [])))
 refine .g (.q z (.q z (.nil ?_)))
 refine .cs z h ?_ ?_ <;> intro h
 ·refine .g (.q z ?_)
  have ⟨y15,hy15,h⟩:=bnd h
  refine .c (.cO hS Tryz.func105 (cd hy15) z z ?_)
  intro W hS
  refine .q z (.q z ?_)
  have ⟨y16,hy16,h⟩:=bnd h
  refine .c (.cO hS Tryz.func105 (cd hy16) z z ?_)
  intro W hS
  refine .q z (.q z (.q z ?_))
  have ⟨y17,hy17,h⟩:=bnd h
  refine .c (.cO hS Tryz.func105 (cd hy17) z z ?_)
  intro W hS
  refine .q z (.q z (.q z ?_))
  have ⟨y18,hy18,h⟩:=bnd h
  refine .c (.cO hS Tryz.func105 (cd hy18) z z ?_)
  intro W hS
  refine .q z (.q z (.qn z (.g (.q z (.q z (.q z ?_))))))
  have ⟨y19,hy19,h⟩:=bnd h
  refine .c (.cO hS Tryz.func109 (gc hy19) z z ?_)
  intro W hS
  refine .s (bs T.s51 z z) z (.c (.st T.t51 hS z z z ?_))
  intro W hS
  cases h
  exact .nil (.ret (ab (vs:=[_]) () (rc hS T.t51 z rn z z) z (hS.to [])))
 refine .skip (.g (.q z (.s (bs T.s51 z z) z (.c (.st T.t51 hS z z z ?_)))))
 intro W hS
 cases h
 exact .nil (.ret (ab (vs:=[_]) () (rc hS T.t51 z rn z z) z (hS.to [])))
def mt (w : World) (r : Instr × Bool) : Env → World → Prop:=Fin Tryz.prog Tryz.f54 No w (fun s : Unit=>.tuple #[.agg #[iv r.1.Op,iv r.1.Rd,iv r.1.Rs,iv r.1.Rt,iv r.1.Imm],.bool r.2]) (fun s=>[]) .ret
theorem oX {a0 : Int} {w : World} {r : Instr × Bool} (h : cT a0 = some r) (hG : Gl w) : Cl 54 #[iv a0] w (RU w (.tuple #[.agg #[iv r.1.Op,iv r.1.Rd,iv r.1.Rs,iv r.1.Rt,iv r.1.Imm],.bool r.2])):=by
 unfold cT at h
 refine ay Tryz.func54 z z ?_
 have hS:=Sep.start w
 refine .g (.c (.alloc T.t51 hS ?_))
 intro g1 W hS
 refine .qn z (.seq (.g (.q z ?_)))
 have ⟨y1,hy1,h⟩:=bnd h
 refine .c (.cO hS Tryz.func79 (mq hy1) z z ?_)
 intro W hS
 refine .q z (.nil ?_)
 refine .cs z h ?_ ?_ <;> intro h
 ·refine .g (.s (bs T.s51 z z) z (.c (.st T.t51 hS z z z ?_)))
  intro W hS
  cases h
  exact .qn z (.ret (ab (vs:=[_,_]) () (rc hS T.t51 z (rt z rn) z z) z (hS.to [])))
 refine .skip (.seq (.g (.qn z (.block ?_))))
 have ⟨y2,hy2,h⟩:=bnd h
 refine .via (.iter (fun s1 E' W'=>aK E' [(0,iv a0),(2,pt g1),(4,iv s1)] ∧ Sep No w W' [.box g1 51 [iv 0,iv 0,iv 0,iv 0,iv 0]]) (fun y3 x E' W'=>(match y3 with | .inl o1=>x = .ret ∧ mt w o1 E' W' | .inr o2=>x = .exit 0 ∧ aK E' [(2,pt g1)] ∧ Sep No w W' [.box g1 51 [iv 0,iv 0,iv 0,iv 0,iv 0]])) hy2 ⟨sb rfl,hS.to [0] rfl⟩ ?_) ?_
 ·intro s1 y4 E W h hI
  obtain ⟨hE,hS⟩:=hI
  refine CW.sub hE ?_
  unfold dD at h
  refine .seq (.g (.q z (.q z (.nil ?_))))
  refine .cs z h ?_ ?_ <;> intro h
  ·refine .skip ?_
   have ⟨y5,hy5,h⟩:=bnd h
   refine .seq (CW.via (R':=fun x E' W'=>(match y5 with | .inl o3=>x = .normal ∧ aK E' [(0,iv a0),(2,pt g1),(4,iv s1)] ∧ Sep No w W' [.box g1 51 [iv 0,iv 0,iv 0,iv 0,iv 0]] | .inr o4=>x = .ret ∧ mt w o4 E' W')) ?_ ?_)
   ·have h:=hy5
    refine .block (.seq (.g (.q z (.q z ?_))))
    have ⟨x1,hx1,h⟩:=bnd h
    refine .s (ixt hx1 z T.u115 T.t114 z z z) z (.s (ldt (hG.at hS (fun _ _ h=>h)).2 hx1 T.t114 z z z z z) z (.q z (.q z ?_)))
    have ⟨y6,hy6,h⟩:=bnd h
    refine .c (.cO hS Tryz.func80 (mN hy6) z z ?_)
    intro W hS
    refine .q z (.nil ?_)
    refine .cs z h ?_ ?_ <;> intro h
    ·refine .exit ?_
     cases h
     exact ⟨z,sb z,hS.to [0]⟩
    refine .skip (.g (.q z (.q z ?_)))
    have ⟨y7,hy7,h⟩:=bnd h
    refine .c (.cO hS Tryz.func81 (rJ hy7) z z ?_)
    intro W hS
    refine .c (.alloc T.t51 hS ?_)
    intro g2 W hS
    refine .c (.st T.t51 hS z z z ?_)
    intro W hS
    refine .nil (.g (.s (ld T.t51 hS z z z z z) z ?_))
    have ⟨y8,hy8,h⟩:=bnd h
    refine .c (.cO hS Tryz.func72 (oS hy8 (hG.at hS (fun _ _ h=>h))) z z ?_)
    intro W hS
    refine .q z (.q z (.q z (.q z (.qn z (.g (.q z (.q z (.cu 4 37 (y8.2 && (y8.1 == a0)) hS ?_ ?_))))))))
    ·refine .both (y8.2) (fun hb=>?_) (fun hb=>?_)
     ·have hg1:=hb
      exact .g hg1 (.q z (.g hg1 (.q z (.g hg1 (.q z (.s (pkt hg1 z z z) z (.nil (ck 4 hS z (bH hg1)))))))))
     exact .xx hb z (.xx hb z (.xx hb z (.s (pkf hb z z z) z (.nil (ck 4 hS z (bI hb))))))
    intro W hS
    refine .nil ?_
    refine .cs z h ?_ ?_ <;> intro h
    ·refine .g (.s (ld T.t51 hS z z z z z) z (.c (.st T.t51 hS.p1 z z z ?_)))
     intro W hS
     refine .qn z (.ret ?_)
     cases h
     exact ⟨z,ab (vs:=[_,_]) () (rc hS T.t51 z (rt z rn) z z) z (hS.to [])⟩
    refine .skip ?_
    cases h
    exact ⟨z,sb z,hS.to [1]⟩
   intro x E W hJ
   rcases y5 with o5 | o6
   ·obtain ⟨rfl,hE,hS⟩:=hJ
    refine ⟨_,hE.sub,?_⟩
    refine .region (.q z (.q z (.q z (.nil ?_))))
    cases h
    exact ⟨z,sb z,hS.to [0]⟩
   obtain ⟨rfl,hF⟩:=hJ
   refine ⟨_,fun _ _ h=>h,?_⟩
   cases h
   exact ⟨by simp,z,hF⟩
  refine .exit ?_
  cases h
  exact ⟨by simp,z,sb z,hS.to [0]⟩
 intro x E W hJ
 rcases y2 with o7 | o8
 ·obtain ⟨rfl,hF⟩:=hJ
  refine ⟨_,fun _ _ h=>h,?_⟩
  cases h
  exact hF
 obtain ⟨rfl,hE,hS⟩:=hJ
 refine ⟨_,hE.sub,?_⟩
 refine .g (.s (bs T.s51 z z) z (.c (.st T.t51 hS z z z ?_)))
 intro W hS
 cases h
 exact .qn z (.ret (ab (vs:=[_,_]) () (rc hS T.t51 z (rt z rn) z z) z (hS.to [])))
theorem mO {a0 : Bool} {w : World} {r : Int} (h : jF a0 = some r) : Cl 58 #[.bool a0] w (RU w (.int .i64 r)):=by
 unfold jF at h
 refine ay Tryz.func58 z z ?_
 have hS:=Sep.start w
 refine .g (.qn z (.seq (.g (.q z (.nil ?_)))))
 refine .cs z h ?_ ?_ <;> intro h
 ·cases h
  exact .g (.qn z (.ret (ab (vs:=[_]) () (rt z rn) z (hS.to []))))
 cases h
 exact .skip (.g (.qn z (.ret (ab (vs:=[_]) () (rt z rn) z (hS.to [])))))
theorem us {a0 : Int} {a1 : Int} {a2 : Int} {w : World} {r : Int} (h : mh a0 a1 a2 = some r) : Cl 59 #[iv a0,iv a1,iv a2] w (RU w (.int .i64 r)):=by
 unfold mh at h
 refine ay Tryz.func59 z z ?_
 have hS:=Sep.start w
 refine .g (.qn z (.seq (.g (.qn z (.block (.g (.q z (.q z (.nil ?_)))))))))
 refine .cs z h ?_ ?_ <;> intro h
 ·cases h
  exact .g (.q z (.q z (.q z (.qn z (.ret (ab (vs:=[_]) () (rt z rn) z (hS.to [])))))))
 refine .g (.q z (.q z (.nil ?_)))
 refine .cs z h ?_ ?_ <;> intro h
 ·cases h
  exact .g (.q z (.q z (.q z (.qn z (.ret (ab (vs:=[_]) () (rt z rn) z (hS.to [])))))))
 refine .g (.q z (.q z (.nil ?_)))
 refine .cs z h ?_ ?_ <;> intro h
 ·cases h
  exact .g (.q z (.q z (.q z (.qn z (.ret (ab (vs:=[_]) () (rt z rn) z (hS.to [])))))))
 refine .g (.q z (.q z (.nil ?_)))
 refine .cs z h ?_ ?_ <;> intro h
 ·refine .g (.q z (.q z (.q z ?_)))
  have ⟨y1,hy1,h⟩:=bnd h
  refine .c (.cO hS Tryz.func58 (mO hy1) z z ?_)
  intro W hS
  obtain rfl:=o9 h
  exact .qn z (.ret (ab (vs:=[_]) () (rt z rn) z (hS.to [])))
 refine .g (.q z (.q z (.nil ?_)))
 refine .cs z h ?_ ?_ <;> intro h
 ·refine .g (.q z (.q z (.q z ?_)))
  have ⟨y2,hy2,h⟩:=bnd h
  refine .c (.cO hS Tryz.func58 (mO hy2) z z ?_)
  intro W hS
  obtain rfl:=o9 h
  exact .qn z (.ret (ab (vs:=[_]) () (rt z rn) z (hS.to [])))
 refine .g (.q z (.q z (.nil ?_)))
 refine .cs z h ?_ ?_ <;> intro h
 ·refine .g (.q z (.q z (.q z ?_)))
  have ⟨d1,hd1,h⟩:=bnd h
  refine .s (la hd1 z z z) z ?_
  have ⟨y3,hy3,h⟩:=bnd h
  refine .c (.cO hS Tryz.func56 (dn hy3) z z ?_)
  intro W hS
  obtain rfl:=o9 h
  exact .qn z (.ret (ab (vs:=[_]) () (rt z rn) z (hS.to [])))
 refine .g (.q z (.q z (.nil ?_)))
 refine .cs z h ?_ ?_ <;> intro h
 ·refine .g (.q z (.q z (.q z ?_)))
  have ⟨d2,hd2,h⟩:=bnd h
  obtain rfl:=o9 h
  exact .s (la hd2 z z z) z (.qn z (.ret (ab (vs:=[_]) () (rt z rn) z (hS.to []))))
 refine .g (.q z (.q z (.nil ?_)))
 refine .cs z h ?_ ?_ <;> intro h
 ·refine .g (.q z (.q z (.q z ?_)))
  have ⟨y4,hy4,h⟩:=bnd h
  refine .c (.cO hS Tryz.func56 (dn hy4) z z ?_)
  intro W hS
  obtain rfl:=o9 h
  exact .qn z (.ret (ab (vs:=[_]) () (rt z rn) z (hS.to [])))
 refine .g (.q z (.q z (.nil ?_)))
 refine .cs z h ?_ ?_ <;> intro h
 ·refine .g (.q z (.q z (.q z ?_)))
  have ⟨y5,hy5,h⟩:=bnd h
  refine .c (.cO hS Tryz.func56 (dn hy5) z z ?_)
  intro W hS
  obtain rfl:=o9 h
  exact .qn z (.ret (ab (vs:=[_]) () (rt z rn) z (hS.to [])))
 refine .g (.q z (.q z (.nil ?_)))
 refine .cs z h ?_ ?_ <;> intro h
 ·refine .g (.q z (.q z (.q z ?_)))
  have ⟨y6,hy6,h⟩:=bnd h
  refine .c (.cO hS Tryz.func56 (dn hy6) z z ?_)
  intro W hS
  obtain rfl:=o9 h
  exact .qn z (.ret (ab (vs:=[_]) () (rt z rn) z (hS.to [])))
 refine .g (.q z (.q z (.nil ?_)))
 refine .cs z h ?_ ?_ <;> intro h
 ·refine .seq (.g (.q z (.q z (.nil ?_))))
  refine .cs z h ?_ ?_ <;> intro h
  ·cases h
   exact .g (.qn z (.ret (ab (vs:=[_]) () (rt z rn) z (hS.to []))))
  refine .skip (.g (.q z (.q z ?_)))
  have ⟨d3,hd3,h⟩:=bnd h
  refine .s (dq hd3 z z z) z ?_
  have ⟨y7,hy7,h⟩:=bnd h
  refine .c (.cO hS Tryz.func56 (dn hy7) z z ?_)
  intro W hS
  obtain rfl:=o9 h
  exact .qn z (.ret (ab (vs:=[_]) () (rt z rn) z (hS.to [])))
 refine .skip (.seq (.g (.q z (.q z (.nil ?_)))))
 refine .cs z h ?_ ?_ <;> intro h
 ·obtain rfl:=o9 h
  exact .g (.q z (.qn z (.ret (ab (vs:=[_]) () (rt z rn) z (hS.to [])))))
 refine .skip (.g (.q z (.q z ?_)))
 have ⟨d4,hd4,h⟩:=bnd h
 obtain rfl:=o9 h
 exact .s (dr hd4 z z z) z (.qn z (.ret (ab (vs:=[_]) () (rt z rn) z (hS.to []))))
end
noncomputable section
def nA (w : World) (S : Nat → Prop) (ai : Hd) (au : Hd) (h_0 : Hd) (A_0 : Type) (e_0 : A_0 → D) (l_0 : List A_0) (k_0 : Nat) (v_1 : Hd) (v_2 : Hd) (g_2 : Nat) (o_2_0 : Value) (o_2_1 : Value) (o_2_2 : Value) (o_2_3 : Value) (a0 : ah) (a1 : List Box) (a2 : List Int) (r : Int × (List Int) × Int × (List Int) × (List Box)) : Env → World → Prop:=Fin Tryz.prog Tryz.f35 S w (fun s : Hd × Hd=>.int .i64 r.1) (fun s=>[be (sv h_0) 38 3 e_0 l_0 k_0 [(sv s.1),iv r.2.2.1,(sv au)],ae (sv v_1) 44 2 a6 r.2.2.2.2,.box g_2 30 [o_2_0,o_2_1,o_2_2,o_2_3,(sv s.2)],ae (sv s.1) 3 1 (D.int .i64) r.2.1,ae (sv s.2) 3 1 (D.int .i64) r.2.2.2.1]) .ret
theorem nf {a0 : ah} {a1 : List Box} {a2 : List Int} {ai : Hd} {au : Hd} {h_0 : Hd} {A_0 : Type} {e_0 : A_0 → D} {l_0 : List A_0} {k_0 : Nat} {v_1 : Hd} {v_2 : Hd} {g_2 : Nat} {o_2_0 o_2_1 o_2_2 o_2_3 : Value} {S : Nat → Prop} {w : World} {r : Int × (List Int) × Int × (List Int) × (List Box)} (h : bC a0 a1 a2 = some r) (cJ : RV w (Old S w) (sv au) 3 1 (D.int .i64) a0.Mem) (hO : bG w [ae (sv ai) 3 1 (D.int .i64) a0.Regs,be (sv h_0) 38 3 e_0 l_0 k_0 [(sv ai),iv a0.Pc,(sv au)],ae (sv v_1) 44 2 a6 a1,ae (sv v_2) 3 1 (D.int .i64) a2,.box g_2 30 [o_2_0,o_2_1,o_2_2,o_2_3,(sv v_2)]] S) (hlt : ∀ b,S b → b < w.heap.size) : Cl 35 #[.pointer (some (bU (adr (sv h_0)) (k_0 * 3 + 0))),(sv v_1),.pointer (some ⟨g_2,4,none⟩)] w (Ret S w (fun s : Hd × Hd=>.int .i64 r.1) (fun s=>[be (sv h_0) 38 3 e_0 l_0 k_0 [(sv s.1),iv r.2.2.1,(sv au)],ae (sv v_1) 44 2 a6 r.2.2.2.2,.box g_2 30 [o_2_0,o_2_1,o_2_2,o_2_3,(sv s.2)],ae (sv s.1) 3 1 (D.int .i64) r.2.1,ae (sv s.2) 3 1 (D.int .i64) r.2.2.2.1])):=by
 unfold bC at h
 refine ay Tryz.func35 z z ?_
 have hS:=Sep.sm hO hlt
 refine .g (.qn z (.seq (.rk 14 hS [0,0,0,0,0] T.mix ?_)))
 intro W hS
 have hT:=hS.to [0,0,0,0,0]
 refine .tp' 0 z z hT (.tp' 1 z z hT (.ts' 2 z (fun W hT=>fe T.f38_0 z z z) hT z (.ts' 3 z (fun W hT=>lde (hT.p1.hcellsv) T.t23 z z z z z) hT z ?_)))
 have ⟨x1,hx1,h⟩:=bnd h
 refine .ts' 4 z (fun W hT=>ixv hS.lv hx1 T.u23 T.t3 z z z) hT z (.ts' 5 z (fun W hT=>lde (RV.flat hT.lv hx1 z) T.t3 z z z z z) hT z (.tp' 6 z z hT (.tp' 7 z z hT (.ts' 8 z (fun W hT=>fe T.f38_0 z z z) hT z (.ts' 9 z (fun W hT=>lde (hT.p1.hcellsv) T.t23 z z z z z) hT z ?_)))))
 have ⟨x2,hx2,h⟩:=bnd h
 refine .ts' 10 z (fun W hT=>ixv hS.lv hx2 T.u23 T.t3 z z z) hT z (.ts' 11 z (fun W hT=>lde (RV.flat hT.lv hx2 z) T.t3 z z z z z) hT z (.tp' 12 z z hT (.tp' 13 z z hT (.done (.seq (.g (.q z (.q z (.s (fe T.f38_1 z z z) z (.s (lde (hS.p1.hcellsv) T.t3 z z z z z) z (.q z (.q z (.cu 17 46 ((a0.Pc != 0) || (((x1 == 1) || (x1 == 2)) && ((decide (x2 < 0)) || (decide (x2 ≥ (a1.length : Int)))))) hS ?_ ?_)))))))))))))
 ·refine .both (a0.Pc != 0) (fun hb=>?_) (fun hb=>?_)
  ·exact .xx hb z (.xx hb z (.xx hb z (.xu (.xu (.xx hb z (.xx hb z (.xu (.xu (.xu (.xu (.xu (.xu (.xu (.xu (.xx hb z (.s (pkt hb z z z) z (.nil (ck 17 hS z (ig hb)))))))))))))))))))
  have hg1:=hb
  refine .g hg1 (.q z (.g hg1 (.q z (.g hg1 (.q z (.cu 3 35 ((x1 == 1) || (x1 == 2)) hS ?_ ?_))))))
  ·refine .both (x1 == 1) (fun hb=>?_) (fun hb=>?_)
   ·exact .xx hb z (.xx hb z (.g hg1 (.s (pkt hb z z z) z (.nil (ck 3 hS z (ig hb))))))
   have hg2:=hb
   exact .g hg2 (.q z (.g hg2 (.q z (.g hg1 (.s (pkf hg2 z z z) z (.nil (ck 3 hS z (ij hg2))))))))
  intro W hS
  refine .g hg1 (.q z (.cu 9 45 (((x1 == 1) || (x1 == 2)) && ((decide (x2 < 0)) || (decide (x2 ≥ (a1.length : Int))))) hS ?_ ?_))
  ·refine .both ((x1 == 1) || (x1 == 2)) (fun hb=>?_) (fun hb=>?_)
   ·have hg3:=hb
    refine .g hg3 (.q z (.g hg3 (.q z (.g hg3 (.q z (.cu 5 44 ((decide (x2 < 0)) || (decide (x2 ≥ (a1.length : Int)))) hS ?_ ?_))))))
    ·refine .both (decide (x2 < 0)) (fun hb=>?_) (fun hb=>?_)
     ·exact .xx hb z (.xx hb z (.xx hb z (.xx hb z (.g hg3 (.s (pkt hb z z z) z (.nil (ck 5 hS z (ig hb))))))))
     have hg4:=hb
     exact .g hg4 (.q z (.g hg4 (.q z (.g hg4 (.s (bq hS.p2.lv T.u28 z z) z (.g hg4 (.q z (.g hg3 (.s (pkf hg4 z z z) z (.nil (ck 5 hS z (ij hg4))))))))))))
    intro W hS
    exact .g hg1 (.s (pkt hg3 z z z) z (.nil (ck 5 hS z (bH hg3))))
   exact .xx hb z (.xx hb z (.xx hb z (.xu (.xu (.xu (.xu (.xx hb z (.g hg1 (.s (pkf hb z z z) z (.nil (ck 9 hS z (bI hb))))))))))))
  intro W hS
  exact .s (pkf hg1 z z z) z (.nil (ck 7 hS z (ij hg1)))
 intro W hS
 refine .nil ?_
 refine .cs z h ?_ ?_ <;> intro h
 ·cases h
  exact .g (.qn z (.ret (ab (vs:=[_]) (ai,v_2) (rt z rn) z (hS.to [1,1,2,0,0]))))
 refine .skip (.g (.q z (.nil ?_)))
 have ⟨y1,hy1,h⟩:=bnd h
 refine .seq (CW.via (R':=fun x E' W'=>(match y1 with | .inl o1=>x = .normal ∧ ∃ (v1 : Hd),aK E' [(0,.pointer (some (bU (adr (sv h_0)) (k_0 * 3 + 0)))),(9,iv o1.1)] ∧ Sep S w W' [ae (sv ai) 3 1 (D.int .i64) o1.2.2.1,be (sv h_0) 38 3 e_0 l_0 k_0 [(sv ai),iv a0.Pc,(sv au)],ae (sv v_1) 44 2 a6 o1.2.2.2,.box g_2 30 [o_2_0,o_2_1,o_2_2,o_2_3,(sv v1)],ae (sv v1) 3 1 (D.int .i64) o1.2.1] | .inr o2=>x = .ret ∧ nA w S ai au h_0 A_0 e_0 l_0 k_0 v_1 v_2 g_2 o_2_0 o_2_1 o_2_2 o_2_3 a0 a1 a2 o2 E' W')) ?_ ?_)
 ·have h:=hy1
  refine .g (.qn z (.block (.g (.q z (.qn z (.cond z (fun hb=>?_) (fun hb=>?_)))))))
  ·have h:=aI hb h
   refine .seq (.rk 11 hS [0,0,1,1] T.mix ?_)
   intro W hS
   have hT:=hS.to [0,0,1,1]
   refine .tp' 0 z z hT (.tp' 1 z z hT ?_)
   have ⟨x3,hx3,h⟩:=bnd h
   refine .ts' 2 z (fun W hT=>ixv hS.p2.lv hx3 T.u28 T.t44 z z z) hT z (.tp' 3 z z hT (.tp' 4 z z hT (.ts' 5 z (fun W hT=>fe T.f38_0 z z z) hT z (.ts' 6 z (fun W hT=>lde (hT.p1.hcellsv) T.t23 z z z z z) hT z ?_))))
   have ⟨x4,hx4,h⟩:=bnd h
   refine .ts' 7 z (fun W hT=>ixv hS.lv hx4 T.u23 T.t3 z z z) hT z (.ts' 8 z (fun W hT=>lde (RV.flat hT.lv hx4 z) T.t3 z z z z z) hT z ?_)
   obtain ⟨k1,hS⟩:=Sep.ov hS.p2 hx3
   have hS:=hS.oa
   obtain ⟨k1,rfl,hS⟩:=Sep.oF z hS
   obtain ⟨v2,k1,rfl,hS⟩:=hS.ow
   obtain ⟨rfl,hS⟩:=hS.oN
   have ⟨y2,hy2,h⟩:=bnd h
   have hS:=hS.p1
   have hS:=hS.p1
   refine .by1 9 z (.cS (L0:=[ae (sv v2) 3 1 (D.int .i64) x3.Items,be (sv v_1) 44 2 a6 a1 (Int.toNat x2) [iv x3.Room,(sv v2)]]) hS Tryz.func51 (fun S h1 h2 h3=>(pG hy2 h2 (zz h1))) z z ?_)
   rintro v3 W hS
   have hT:=hS.to [2,2,2,2]
   refine ⟨fun _=>hT,.tp' 10 z z hT (.done ?_)⟩
   refine .cs z h ?_ ?_ <;> intro h
   ·refine .g (.qn z (.ret ?_))
    have hS:=Sep.gat (ds:=[a6 (Box.mk x3.Room y2.2)]) (cs:=[iv x3.Room,(sv v3)]) (L1:=[ae (sv v3) 3 1 (D.int .i64) y2.2]) (.agg (.flat (c1:=[iv x3.Room]) z (.row .nil))) (hS.to [1,0,0,0,0,0])
    have hS : Sep _ _ _ [ae (sv v_1) 44 2 a6 (a1.set (Int.toNat x2) (Box.mk x3.Room y2.2)),ae (sv ai) 3 1 (D.int .i64) a0.Regs,be (sv h_0) 38 3 e_0 l_0 k_0 [(sv ai),iv a0.Pc,(sv au)],ae (sv v_2) 3 1 (D.int .i64) a2,.box g_2 30 [o_2_0,o_2_1,o_2_2,o_2_3,(sv v_2)]]:=hS.bv
    cases h
    exact ⟨z,ab (vs:=[_]) (ai,v_2) (rt z rn) z (hS.to [2,0,2,0,0])⟩
   refine .skip ?_
   have hS:=Sep.gat (ds:=[a6 (Box.mk x3.Room y2.2)]) (cs:=[iv x3.Room,(sv v3)]) (L1:=[ae (sv v3) 3 1 (D.int .i64) y2.2]) (.agg (.flat (c1:=[iv x3.Room]) z (.row .nil))) (hS.to [1,0,0,0,0,0])
   have hS : Sep _ _ _ [ae (sv v_1) 44 2 a6 (a1.set (Int.toNat x2) (Box.mk x3.Room y2.2)),ae (sv ai) 3 1 (D.int .i64) a0.Regs,be (sv h_0) 38 3 e_0 l_0 k_0 [(sv ai),iv a0.Pc,(sv au)],ae (sv v_2) 3 1 (D.int .i64) a2,.box g_2 30 [o_2_0,o_2_1,o_2_2,o_2_3,(sv v_2)]]:=hS.bv
   cases h
   exact ⟨z,v_2,sb z,hS.to [1,1,0,1,0]⟩
  have h:=aJ hb h
  refine .g (.q z (.qn z (.cond z (fun hb=>?_) (fun hb=>?_))))
  ·have h:=aI hb h
   refine .g (.q z (.q z ?_))
   have ⟨x5,hx5,h⟩:=bnd h
   refine .s (ixv hS.p2.lv hx5 T.u28 T.t44 z z z) z ?_
   obtain ⟨k2,hS⟩:=Sep.ov hS.p2 hx5
   have hS:=hS.oa
   obtain ⟨k2,rfl,hS⟩:=Sep.oF z hS
   obtain ⟨v4,k2,rfl,hS⟩:=hS.ow
   obtain ⟨rfl,hS⟩:=hS.oN
   have ⟨y3,hy3,h⟩:=bnd h
   have hS:=hS.p1
   have hS:=hS.p1
   refine .c (.cS (L0:=[ae (sv v4) 3 1 (D.int .i64) x5.Items,be (sv v_1) 44 2 a6 a1 (Int.toNat x2) [iv x5.Room,(sv v4)]]) hS Tryz.func52 (fun S h1 h2 h3=>(oW hy3 h2 (zz h1))) z z ?_)
   rintro v5 W hS
   refine .q z (.q z (.q z (.q z (.qn z (.seq (.g (.q z (.q z (.nil ?_)))))))))
   refine .cs z h ?_ ?_ <;> intro h
   ·refine .g (.qn z (.ret ?_))
    have hS:=Sep.gat (ds:=[a6 (Box.mk x5.Room y3.2.2)]) (cs:=[iv x5.Room,(sv v5)]) (L1:=[ae (sv v5) 3 1 (D.int .i64) y3.2.2]) (.agg (.flat (c1:=[iv x5.Room]) z (.row .nil))) (hS.to [1,0,0,0,0,0])
    have hS : Sep _ _ _ [ae (sv v_1) 44 2 a6 (a1.set (Int.toNat x2) (Box.mk x5.Room y3.2.2)),ae (sv ai) 3 1 (D.int .i64) a0.Regs,be (sv h_0) 38 3 e_0 l_0 k_0 [(sv ai),iv a0.Pc,(sv au)],ae (sv v_2) 3 1 (D.int .i64) a2,.box g_2 30 [o_2_0,o_2_1,o_2_2,o_2_3,(sv v_2)]]:=hS.bv
    cases h
    exact ⟨z,ab (vs:=[_]) (ai,v_2) (rt z rn) z (hS.to [2,0,2,0,0])⟩
   refine .skip (.region (.q z (.q z (.s (fe T.f38_0 z z z) z (.s (lde (hS.p3.hcellsv) T.t23 z z z z z) z (.q z ?_))))))
   have ⟨x6,hx6,h⟩:=bnd h
   refine .s (ixv hS.p2.lv hx6 T.u23 T.t3 z z z) z ?_
   have ⟨r1,hr1,h⟩:=bnd h
   refine .c (.sev hr1 hx6 hS.p2 T.t3 z z z z z z ?_)
   intro W hS
   refine .nil ?_
   have hS:=Sep.gat (ds:=[a6 (Box.mk x5.Room y3.2.2)]) (cs:=[iv x5.Room,(sv v5)]) (L1:=[ae (sv v5) 3 1 (D.int .i64) y3.2.2]) (.agg (.flat (c1:=[iv x5.Room]) z (.row .nil))) (hS.to [2,1,0,0,0,0])
   have hS : Sep _ _ _ [ae (sv v_1) 44 2 a6 (a1.set (Int.toNat x2) (Box.mk x5.Room y3.2.2)),ae (sv ai) 3 1 (D.int .i64) r1,be (sv h_0) 38 3 e_0 l_0 k_0 [(sv ai),iv a0.Pc,(sv au)],ae (sv v_2) 3 1 (D.int .i64) a2,.box g_2 30 [o_2_0,o_2_1,o_2_2,o_2_3,(sv v_2)]]:=hS.bv
   cases h
   exact ⟨z,v_2,sb z,hS.to [1,1,0,1,0]⟩
  have h:=aJ hb h
  refine .g (.q z (.q z (.nil ?_)))
  refine .cs z h ?_ ?_ <;> intro h
  ·refine .region (.q z (.nil ?_))
   cases h
   exact ⟨z,v_2,sb z,hS.to [0,0,0,1,0]⟩
  refine .g (.q z (.q z (.nil ?_)))
  refine .cs z h ?_ ?_ <;> intro h
  ·refine .rk 13 hS [0,0,0,1] T.mix ?_
   intro W hS
   have hT:=hS.to [0,0,0,1]
   refine .tp' 0 z z hT (.tp' 1 z z hT (.tp' 2 z z hT (.ts' 3 z (fun W hT=>ld T.t23 hT.p3 z z z z z) hT z (.tp' 4 z z hT (.tp' 5 z z hT (.ts' 6 z (fun W hT=>fe T.f38_0 z z z) hT z (.ts' 7 z (fun W hT=>lde (hT.p1.hcellsv) T.t23 z z z z z) hT z ?_)))))))
   have ⟨x7,hx7,h⟩:=bnd h
   refine .ts' 8 z (fun W hT=>ixv hS.lv hx7 T.u23 T.t3 z z z) hT z (.ts' 9 z (fun W hT=>lde (RV.flat hT.lv hx7 z) T.t3 z z z z z) hT z (.by1 10 z (.liv [x7] (D.int .i64) T.u23 T.t3 hS z z z z ?_ z (fun _=>z))))
   intro v6 W hS
   have hT:=hS.to [1,1,1,2]
   refine ⟨fun _=>hT,?_⟩
   have ⟨r2,hr2,h⟩:=bnd h
   have hT0:=hS.p4
   refine .by1 11 z (.av hr2 hT0 hT0.p1.lv (fun _=>z) T.u23 T.t3 z z z ?_)
   intro v7 W hS
   have hT:=hS.to [2,2,2,2]
   refine ⟨fun _=>hT,.tp' 12 z z hT (.by1 13 z (.st T.t23 hS.p5 z z z ?_))⟩
   intro W hS
   refine ⟨fun h=>absurd z h,?_⟩
   refine .done ?_
   cases h
   exact ⟨z,v7,sb z,hS.to [3,3,3,0,0]⟩
  refine .g (.q z (.q z (.nil ?_)))
  refine .cs z h ?_ ?_ <;> intro h
  ·refine .g (.qn z (.ret ?_))
   cases h
   exact ⟨z,ab (vs:=[_]) (ai,v_2) (rt z rn) z (hS.to [1,1,2,0,0])⟩
  refine .g (.qn z (.ret ?_))
  cases h
  exact ⟨z,ab (vs:=[_]) (ai,v_2) (rt z rn) z (hS.to [1,1,2,0,0])⟩
 intro x E W hJ
 rcases y1 with o3 | o4
 ·obtain ⟨rfl,v8,hE,hS⟩:=hJ
  refine ⟨_,hE.sub,?_⟩
  refine .g (.q z (.q z (.q z (.s (fe T.f38_0 z z z) z (.s (lde (hS.p1.hcellsv) T.t23 z z z z z) z ?_)))))
  have ⟨x8,hx8,h⟩:=bnd h
  refine .s (ixv hS.lv hx8 T.u23 T.t3 z z z) z (.s (lde (RV.flat hS.lv hx8 z) T.t3 z z z z z) z (.q z (.s (fe T.f38_1 z z z) z (.c (.sthv hS.p1 T.t3 z z z ?_)))))
  intro W hS
  cases h
  exact .nil (.g (.q z (.qn z (.ret (ab (vs:=[_]) (ai,v8) (rt z rn) z (hS.to [0,1,1,0,0]))))))
 obtain ⟨rfl,hF⟩:=hJ
 refine ⟨_,fun _ _ h=>h,?_⟩
 cases h
 exact hF
theorem jK {a0 : ah} {a1 : Int} {ai : Hd} {au : Hd} {h_0 : Hd} {A_0 : Type} {e_0 : A_0 → D} {l_0 : List A_0} {k_0 : Nat} {S : Nat → Prop} {w : World} {r : Int} (h : c7 a0 a1 = some r) (cI : RV w (Old S w) (sv ai) 3 1 (D.int .i64) a0.Regs) (cJ : RV w (Old S w) (sv au) 3 1 (D.int .i64) a0.Mem) (hO : bG w [be (sv h_0) 38 3 e_0 l_0 k_0 [(sv ai),iv a0.Pc,(sv au)]] S) (hlt : ∀ b,S b → b < w.heap.size) : Cl 53 #[.pointer (some (bU (adr (sv h_0)) (k_0 * 3 + 0))),iv a1] w (Ret S w (fun s : Unit=>yK (sv au) 1 r) (fun s=>[be (sv h_0) 38 3 e_0 l_0 k_0 [(sv ai),iv a0.Pc,(sv au)]])):=by
 unfold c7 at h
 refine ay Tryz.func53 z z ?_
 have hS:=Sep.sm hO hlt
 refine .g (.qn z (.seq (.g (.q z (.q z (.q z (.cu 4 11 ((decide (a1 < 0)) || ((Int.tmod a1 4) != 0)) hS ?_ ?_)))))))
 ·refine .both (decide (a1 < 0)) (fun hb=>?_) (fun hb=>?_)
  ·exact .xx hb z (.xx hb z (.xx hb z (.s (pkt hb z z z) z (.nil (ck 4 hS z (ig hb))))))
  have hg1:=hb
  exact .g hg1 (.q z (.g hg1 (.q z (.g hg1 (.q z (.s (pkf hg1 z z z) z (.nil (ck 4 hS z (ij hg1)))))))))
 intro W hS
 refine .q z (.cu 9 21 (((decide (a1 < 0)) || ((Int.tmod a1 4) != 0)) || (decide ((w64 (Int.tdiv a1 4)) ≥ (a0.Mem.length : Int)))) hS ?_ ?_)
 ·refine .both ((decide (a1 < 0)) || ((Int.tmod a1 4) != 0)) (fun hb=>?_) (fun hb=>?_)
  ·exact .xx hb z (.xx hb z (.xx hb z (.xx hb z (.xx hb z (.xx hb z (.xx hb z (.xx hb z (.s (pkt hb z z z) z (.nil (ck 9 hS z (ig hb)))))))))))
  have hg2:=hb
  exact .g hg2 (.q z (.g hg2 (.q z (.g hg2 (.q z (.g hg2 (.q z (.g hg2 (.s (fe T.f38_2 z z z) z (.g hg2 (.s (lde (hS.hcellsv) T.t23 z z z z z) z (.g hg2 (.s (bq (hS.keep cJ) T.u23 z z) z (.g hg2 (.q z (.s (pkf hg2 z z z) z (.nil (ck 9 hS z (ij hg2)))))))))))))))))))
 intro W hS
 refine .nil ?_
 refine .cs z h ?_ ?_ <;> intro h
 ·cases h
  exact .g (.qn z (.ret (ab (vs:=[_]) () (rt z rn) z (hS.to [0]))))
 refine .skip (.g (.q z (.q z (.s (fe T.f38_2 z z z) z (.s (lde (hS.hcellsv) T.t23 z z z z z) z (.q z (.q z ?_)))))))
 have ⟨x1,hx1,h⟩:=bnd h
 cases h
 exact .s (ixv (hS.keep cJ) hx1 T.u23 T.t3 z z z) z (.qn z (.ret (ab (vs:=[_]) () (rt z rn) (uV hx1).symm (hS.to [0]))))
theorem cD {a0 : ah} {a1 : Int} {a2 : Int} {ai : Hd} {au : Hd} {h_0 : Hd} {A_0 : Type} {e_0 : A_0 → D} {l_0 : List A_0} {k_0 : Nat} {S : Nat → Prop} {w : World} {r : (List Int)} (h : ba a0 a1 a2 = some r) (cJ : RV w (Old S w) (sv au) 3 1 (D.int .i64) a0.Mem) (hO : bG w [ae (sv ai) 3 1 (D.int .i64) a0.Regs,be (sv h_0) 38 3 e_0 l_0 k_0 [(sv ai),iv a0.Pc,(sv au)]] S) (hlt : ∀ b,S b → b < w.heap.size) : Cl 57 #[.pointer (some (bU (adr (sv h_0)) (k_0 * 3 + 0))),iv a1,iv a2] w (Ret S w (fun s : Hd=>.tuple #[]) (fun s=>[be (sv h_0) 38 3 e_0 l_0 k_0 [(sv s),iv a0.Pc,(sv au)],ae (sv s) 3 1 (D.int .i64) r])):=by
 unfold ba at h
 refine ay Tryz.func57 z z ?_
 have hS:=Sep.sm hO hlt
 refine .g (.q z (.q z (.nil ?_)))
 refine .cs z h ?_ ?_ <;> intro h
 ·refine .region (.q z (.q z (.s (fe T.f38_0 z z z) z (.s (lde (hS.p1.hcellsv) T.t23 z z z z z) z (.q z (.q z ?_))))))
  have ⟨x1,hx1,h⟩:=bnd h
  refine .s (ixv hS.lv hx1 T.u23 T.t3 z z z) z ?_
  have ⟨r1,hr1,h⟩:=bnd h
  refine .c (.sev hr1 hx1 hS T.t3 z z z z z z ?_)
  intro W hS
  obtain rfl:=o9 h
  exact .nil (ab (vs:=[]) ai (rn) z (hS.to [1,0]))
 cases h
 exact .skip (ab (vs:=[]) ai (rn) z (hS.to [1,0]))
def nB (w : World) (S : Nat → Prop) (ai : Hd) (au : Hd) (h_0 : Hd) (A_0 : Type) (e_0 : A_0 → D) (l_0 : List A_0) (k_0 : Nat) (a0 : ah) (r : Int × (List Int) × Int × (List Int)) : Env → World → Prop:=Fin Tryz.prog Tryz.f36 S w (fun s : Hd × Hd=>.int .i64 r.1) (fun s=>[be (sv h_0) 38 3 e_0 l_0 k_0 [(sv s.1),iv r.2.2.1,(sv s.2)],ae (sv s.1) 3 1 (D.int .i64) r.2.1,ae (sv s.2) 3 1 (D.int .i64) r.2.2.2]) .ret
theorem ng {a0 : ah} {ai : Hd} {au : Hd} {h_0 : Hd} {A_0 : Type} {e_0 : A_0 → D} {l_0 : List A_0} {k_0 : Nat} {S : Nat → Prop} {w : World} {r : Int × (List Int) × Int × (List Int)} (h : c9 a0 = some r) (hO : bG w [ae (sv ai) 3 1 (D.int .i64) a0.Regs,ae (sv au) 3 1 (D.int .i64) a0.Mem,be (sv h_0) 38 3 e_0 l_0 k_0 [(sv ai),iv a0.Pc,(sv au)]] S) (hlt : ∀ b,S b → b < w.heap.size) (hG : Gl w) (hM : ∀ g,g < NGl → ¬ S g) : Cl 36 #[.pointer (some (bU (adr (sv h_0)) (k_0 * 3 + 0)))] w (Ret S w (fun s : Hd × Hd=>.int .i64 r.1) (fun s=>[be (sv h_0) 38 3 e_0 l_0 k_0 [(sv s.1),iv r.2.2.1,(sv s.2)],ae (sv s.1) 3 1 (D.int .i64) r.2.1,ae (sv s.2) 3 1 (D.int .i64) r.2.2.2])):=by
 unfold c9 at h
 refine ay Tryz.func36 z z ?_
 have hS:=Sep.sm hO hlt
 refine .g (.qn z (.g (.q z (.q z (.q z (.s (fe T.f38_1 z z z) z (.s (lde (hS.p2.hcellsv) T.t3 z z z z z) z ?_)))))))
 have ⟨y1,hy1,h⟩:=bnd h
 have hS:=hS.p2
 refine .c (.cS (L0:=[be (sv h_0) 38 3 e_0 l_0 k_0 [(sv ai),iv a0.Pc,(sv au)]]) hS Tryz.func53 (fun S h1 h2 h3=>(jK hy1 (h3.rdv (k:=0) z) (h3.rdv (k:=1) z) h2 (zz h1))) z z ?_)
 rintro ⟨⟩ W hS
 refine .qn z (.seq (.g (.q z (.s (B1 T.u91 z z) z (.nil ?_)))))
 refine .cs z h ?_ ?_ <;> intro h
 ·cases h
  exact .g (.qn z (.ret (ab (vs:=[_]) (ai,au) (rt z rn) z (hS.to [0,0,0]))))
 refine .skip (.g (.q z ?_))
 have ⟨x1,hx1,h⟩:=bnd h
 refine .eqv 19 z (uV hx1) (.s (pr z) z (.s (lde (RV.flat hS.p2.lv hx1 z) T.t3 z z z z z) z ?_))
 have ⟨y2,hy2,h⟩:=bnd h
 refine .c (.cO hS Tryz.func55 (iL hy2) z z ?_)
 intro W hS
 have ⟨y3,hy3,h⟩:=bnd h
 refine .c (.cO hS Tryz.func54 (oX hy3 (hG.at hS hM)) z z ?_)
 intro W hS
 refine .q z (.q z (.q z (.c (.alloc T.t51 hS ?_))))
 intro g1 W hS
 refine .c (.st T.t51 hS z z z ?_)
 intro W hS
 refine .qn z (.seq (.g (.q z (.q z (.nil ?_)))))
 refine .cs z h ?_ ?_ <;> intro h
 ·cases h
  exact .g (.qn z (.ret (ab (vs:=[_]) (ai,au) (rt z rn) z (hS.to [1,1,1]))))
 refine .skip (.seq (.rk 18 hS [0,0,0,0] T.mix ?_))
 intro W hS
 have hT:=hS.to [0,0,0,0]
 refine .tp' 0 z z hT (.tp' 1 z z hT (.ts' 2 z (fun W hT=>fe T.f38_0 z z z) hT z (.ts' 3 z (fun W hT=>lde (hT.p1.hcellsv) T.t23 z z z z z) hT z (.ts' 4 z (fun W hT=>fa T.f51_2 z z z) hT z (.ts' 5 z (fun W hT=>ld T.t3 hT z z z z z) hT z ?_)))))
 have ⟨x2,hx2,h⟩:=bnd h
 refine .ts' 6 z (fun W hT=>ixv hS.p2.lv hx2 T.u23 T.t3 z z z) hT z (.ts' 7 z (fun W hT=>lde (RV.flat hT.p2.lv hx2 z) T.t3 z z z z z) hT z (.tp' 8 z z hT (.tp' 9 z z hT (.ts' 10 z (fun W hT=>fe T.f38_0 z z z) hT z (.ts' 11 z (fun W hT=>lde (hT.p1.hcellsv) T.t23 z z z z z) hT z (.ts' 12 z (fun W hT=>fa T.f51_3 z z z) hT z (.ts' 13 z (fun W hT=>ld T.t3 hT z z z z z) hT z ?_)))))))
 have ⟨x3,hx3,h⟩:=bnd h
 refine .ts' 14 z (fun W hT=>ixv hS.p2.lv hx3 T.u23 T.t3 z z z) hT z (.ts' 15 z (fun W hT=>lde (RV.flat hT.p2.lv hx3 z) T.t3 z z z z z) hT z (.tp' 16 z z hT (.tp' 17 z z hT (.done (.g (.q z (.q z (.s (fe T.f38_1 z z z) z (.s (lde (hS.p1.hcellsv) T.t3 z z z z z) z (.q z ?_))))))))))
 have ⟨y4,hy4,h⟩:=bnd h
 refine .c (.cO hS Tryz.func56 (dn hy4) z z ?_)
 intro W hS
 refine .q z (.nil ?_)
 have ⟨y5,hy5,h⟩:=bnd h
 refine .seq (CW.via (R':=fun x E' W'=>(match y5 with | .inl o1=>x = .normal ∧ ∃ (v1 : Hd),aK E' [(0,.pointer (some (bU (adr (sv h_0)) (k_0 * 3 + 0)))),(8,iv o1.1)] ∧ Sep S w W' [.box g1 51 [iv y3.1.Op,iv y3.1.Rd,iv y3.1.Rs,iv y3.1.Rt,iv y3.1.Imm],be (sv h_0) 38 3 e_0 l_0 k_0 [(sv v1),iv a0.Pc,(sv au)],ae (sv au) 3 1 (D.int .i64) o1.2.2,ae (sv v1) 3 1 (D.int .i64) o1.2.1] | .inr o2=>x = .ret ∧ nB w S ai au h_0 A_0 e_0 l_0 k_0 a0 o2 E' W')) ?_ ?_)
 ·have h:=hy5
  refine .g (.s (fa T.f51_0 z z z) z (.s (ld T.t3 hS z z z z z) z (.nil (.block (.g (.q z (.q z (.nil ?_))))))))
  refine .cs z h ?_ ?_ <;> intro h
  ·refine .g (.qn z (.ret ?_))
   cases h
   exact ⟨z,ab (vs:=[_]) (ai,au) (rt z rn) z (hS.to [1,1,1])⟩
  refine .g (.q z (.qn z (.cond z (fun hb=>?_) (fun hb=>?_))))
  ·have h:=aI hb h
   refine .rk 9 hS [0,2] T.mix ?_
   intro W hS
   have hT:=hS.to [0,2]
   refine .tp' 0 z z hT (.ts' 1 z (fun W hT=>fa T.f51_1 z z z) hT z (.ts' 2 z (fun W hT=>ld T.t3 hT z z z z z) hT z (.tp' 3 z z hT (.ts' 4 z (fun W hT=>fa T.f51_4 z z z) hT z (.ts' 5 z (fun W hT=>ld T.t3 hT z z z z z) hT z (.tp' 6 z z hT ?_))))))
   have ⟨y6,hy6,h⟩:=bnd h
   refine .by1 7 z (.cO hS Tryz.func56 (dn hy6) z z ?_)
   intro W hS
   have hT:=hS.to [0,2]
   refine ⟨fun _=>hT,?_⟩
   have ⟨y7,hy7,h⟩:=bnd h
   have hS:=hS.p1
   have hS:=hS.p2
   refine .by1 8 z (.cS (L0:=[ae (sv ai) 3 1 (D.int .i64) a0.Regs,be (sv h_0) 38 3 e_0 l_0 k_0 [(sv ai),iv a0.Pc,(sv au)]]) hS Tryz.func57 (fun S h1 h2 h3=>(cD hy7 (h3.rdv (k:=1) z) h2 (zz h1))) z z ?_)
   rintro v2 W hS
   have hT:=hS.to [2,2]
   refine ⟨fun _=>hT,.done ?_⟩
   cases h
   exact ⟨z,v2,sb z,hS.to [2,0,1,0]⟩
  have h:=aJ hb h
  refine .g (.q z (.qn z (.cond z (fun hb=>?_) (fun hb=>?_))))
  ·have h:=aI hb h
   refine .rk 11 hS [0,2] T.mix ?_
   intro W hS
   have hT:=hS.to [0,2]
   refine .tp' 0 z z hT (.ts' 1 z (fun W hT=>fa T.f51_1 z z z) hT z (.ts' 2 z (fun W hT=>ld T.t3 hT z z z z z) hT z (.tp' 3 z z hT (.ts' 5 z (fun W hT=>fa T.f51_4 z z z) hT z (.ts' 6 z (fun W hT=>ld T.t3 hT z z z z z) hT z ?_)))))
   have ⟨y8,hy8,h⟩:=bnd h
   refine .by1 4 z (.cO hS Tryz.func55 (iL hy8) z z ?_)
   intro W hS
   have hT:=hS.to [0,2]
   refine ⟨fun _=>hT,?_⟩
   have ⟨y9,hy9,h⟩:=bnd h
   refine .by1 7 z (.cO hS Tryz.func55 (iL hy9) z z ?_)
   intro W hS
   have hT:=hS.to [0,2]
   refine ⟨fun _=>hT,.tp' 8 z z hT ?_⟩
   have ⟨y10,hy10,h⟩:=bnd h
   refine .by1 9 z (.cO hS Tryz.func58 (mO hy10) z z ?_)
   intro W hS
   have hT:=hS.to [0,2]
   refine ⟨fun _=>hT,?_⟩
   have ⟨y11,hy11,h⟩:=bnd h
   have hS:=hS.p1
   have hS:=hS.p2
   refine .by1 10 z (.cS (L0:=[ae (sv ai) 3 1 (D.int .i64) a0.Regs,be (sv h_0) 38 3 e_0 l_0 k_0 [(sv ai),iv a0.Pc,(sv au)]]) hS Tryz.func57 (fun S h1 h2 h3=>(cD hy11 (h3.rdv (k:=1) z) h2 (zz h1))) z z ?_)
   rintro v3 W hS
   have hT:=hS.to [2,2]
   refine ⟨fun _=>hT,.done ?_⟩
   cases h
   exact ⟨z,v3,sb z,hS.to [2,0,1,0]⟩
  have h:=aJ hb h
  have ⟨y12,hy12,h⟩:=bnd h
  refine .seq (CW.via (R':=fun x E' W'=>x = .normal ∧ aK E' [(0,.pointer (some (bU (adr (sv h_0)) (k_0 * 3 + 0)))),(4,pt g1),(6,iv x2),(7,iv x3),(8,iv y4),(51,iv y3.1.Op),(90,.bool y12)] ∧ Sep S w W' [.box g1 51 [iv y3.1.Op,iv y3.1.Rd,iv y3.1.Rs,iv y3.1.Rt,iv y3.1.Imm],be (sv h_0) 38 3 e_0 l_0 k_0 [(sv ai),iv a0.Pc,(sv au)],ae (sv ai) 3 1 (D.int .i64) a0.Regs,ae (sv au) 3 1 (D.int .i64) a0.Mem]) ?_ ?_)
  ·have h:=hy12
   refine .g (.q z (.q z (.nil ?_)))
   refine .cs z h ?_ ?_ <;> intro h
   ·refine .skip ?_
    cases h
    exact ⟨z,sb z,hS.to [0,0,0,0]⟩
   refine .region (.q z (.q z (.nil ?_)))
   cases h
   exact ⟨z,sb z,hS.to [0,0,0,0]⟩
  intro x E W hJ
  obtain ⟨rfl,hE,hS⟩:=hJ
  refine ⟨_,hE.sub,?_⟩
  refine .cond z (fun hb=>?_) (fun hb=>?_)
  ·have h:=aI hb h
   refine .g (.q z (.q z (.s (fa T.f51_4 z z z) z (.s (ld T.t3 hS z z z z z) z (.q z ?_)))))
   have ⟨y13,hy13,h⟩:=bnd h
   refine .c (.cO hS Tryz.func56 (dn hy13) z z ?_)
   intro W hS
   have ⟨y14,hy14,h⟩:=bnd h
   have hS:=hS.p1
   refine .c (.cS (L0:=[be (sv h_0) 38 3 e_0 l_0 k_0 [(sv ai),iv a0.Pc,(sv au)]]) hS Tryz.func53 (fun S h1 h2 h3=>(jK hy14 (h3.rdv (k:=1) z) (h3.rdv (k:=2) z) h2 (zz h1))) z z ?_)
   rintro ⟨⟩ W hS
   refine .qn z (.seq (.g (.q z (.s (B1 T.u91 z z) z (.nil ?_)))))
   refine .cs z h ?_ ?_ <;> intro h
   ·refine .g (.qn z (.ret ?_))
    cases h
    exact ⟨z,ab (vs:=[_]) (ai,au) (rt z rn) z (hS.to [0,1,1])⟩
   refine .skip (.g (.s (fa T.f51_0 z z z) z (.s (ld T.t3 hS.p1 z z z z z) z (.qn z (.cond z (fun hb=>?_) (fun hb=>?_))))))
   ·have h:=aI hb h
    refine .region (.q z (.q z ?_))
    have ⟨x4,hx4,h⟩:=bnd h
    refine .eqv 105 z (uV hx4) (.s (pr z) z ?_)
    have ⟨r1,hr1,h⟩:=bnd h
    refine .c (.sev hr1 hx4 hS.p3 T.t3 z z z z z z ?_)
    intro W hS
    refine .nil ?_
    cases h
    exact ⟨z,ai,sb z,hS.to [2,1,0,0]⟩
   have h:=aJ hb h
   have ⟨x5,hx5,h⟩:=bnd h
   refine .eqv 9 z (uV hx5) (.rk 7 hS [1,2] T.mix ?_)
   intro W hS
   have hT:=hS.to [1,2]
   refine .tp' 0 z z hT (.ts' 1 z (fun W hT=>fa T.f51_1 z z z) hT z (.ts' 2 z (fun W hT=>ld T.t3 hT z z z z z) hT z (.tp' 3 z z hT (.tp' 4 z z hT (.ts' 5 z (fun W hT=>lde (RV.flat hT.p1.lv hx5 z) T.t3 z z z z z) hT z ?_)))))
   have ⟨y15,hy15,h⟩:=bnd h
   have hS:=hS.p2
   refine .by1 6 z (.cS (L0:=[ae (sv ai) 3 1 (D.int .i64) a0.Regs,be (sv h_0) 38 3 e_0 l_0 k_0 [(sv ai),iv a0.Pc,(sv au)]]) hS Tryz.func57 (fun S h1 h2 h3=>(cD hy15 (h3.rdv (k:=1) z) h2 (zz h1))) z z ?_)
   rintro v4 W hS
   have hT:=hS.to [2,2]
   refine ⟨fun _=>hT,.done ?_⟩
   cases h
   exact ⟨z,v4,sb z,hS.to [2,0,1,0]⟩
  have h:=aJ hb h
  refine .g (.q z (.qn z (.cond z (fun hb=>?_) (fun hb=>?_))))
  ·have h:=aI hb h
   refine .g (.q z (.s (fa T.f51_1 z z z) z (.s (ld T.t3 hS z z z z z) z (.q z ?_))))
   have ⟨y16,hy16,h⟩:=bnd h
   have hS:=hS.p1
   have hS:=hS.p2
   refine .c (.cS (L0:=[ae (sv ai) 3 1 (D.int .i64) a0.Regs,be (sv h_0) 38 3 e_0 l_0 k_0 [(sv ai),iv a0.Pc,(sv au)]]) hS Tryz.func57 (fun S h1 h2 h3=>(cD hy16 (h3.rdv (k:=1) z) h2 (zz h1))) z z ?_)
   rintro v5 W hS
   refine .nil (.region (.q z (.s (fa T.f51_4 z z z) z (.s (ld T.t3 hS.p2 z z z z z) z (.q z ?_)))))
   have ⟨y17,hy17,h⟩:=bnd h
   refine .c (.cO hS Tryz.func56 (dn hy17) z z ?_)
   intro W hS
   refine .q z (.q z (.nil ?_))
   cases h
   exact ⟨z,v5,sb z,hS.to [2,0,1,0]⟩
  have h:=aJ hb h
  have ⟨y18,hy18,h⟩:=bnd h
  refine .seq (CW.via (R':=fun x E' W'=>x = .normal ∧ aK E' [(0,.pointer (some (bU (adr (sv h_0)) (k_0 * 3 + 0)))),(4,pt g1),(6,iv x2),(7,iv x3),(8,iv y4),(51,iv y3.1.Op),(128,.bool y18)] ∧ Sep S w W' [.box g1 51 [iv y3.1.Op,iv y3.1.Rd,iv y3.1.Rs,iv y3.1.Rt,iv y3.1.Imm],be (sv h_0) 38 3 e_0 l_0 k_0 [(sv ai),iv a0.Pc,(sv au)],ae (sv ai) 3 1 (D.int .i64) a0.Regs,ae (sv au) 3 1 (D.int .i64) a0.Mem]) ?_ ?_)
  ·have h:=hy18
   refine .g (.q z (.q z (.nil ?_)))
   refine .cs z h ?_ ?_ <;> intro h
   ·refine .skip ?_
    cases h
    exact ⟨z,sb z,hS.to [0,0,0,0]⟩
   refine .region (.q z (.q z (.nil ?_)))
   cases h
   exact ⟨z,sb z,hS.to [0,0,0,0]⟩
  intro x E W hJ
  obtain ⟨rfl,hE,hS⟩:=hJ
  refine ⟨_,hE.sub,?_⟩
  refine .cs z h ?_ ?_ <;> intro h
  ·refine .g (.q z (.q z (.q z (.s (fa T.f51_0 z z z) z (.s (ld T.t3 hS z z z z z) z (.q z (.s (eqb T.u4 z z z) z (.nil ?_))))))))
   refine .cs z h ?_ ?_ <;> intro h
   ·refine .rk 9 hS [0,0,0,0] T.mix ?_
    intro W hS
    have hT:=hS.to [0,0,0,0]
    refine .tp' 0 z z hT (.tp' 1 z z hT (.ts' 2 z (fun W hT=>fe T.f38_1 z z z) hT z (.ts' 3 z (fun W hT=>lde (hT.p1.hcellsv) T.t3 z z z z z) hT z (.ts' 4 z (fun W hT=>fa T.f51_4 z z z) hT z (.ts' 5 z (fun W hT=>ld T.t3 hT z z z z z) hT z (.tp' 6 z z hT ?_))))))
    have ⟨y19,hy19,h⟩:=bnd h
    refine .by1 7 z (.cO hS Tryz.func56 (dn hy19) z z ?_)
    intro W hS
    have hT:=hS.to [0,0,0,0]
    refine ⟨fun _=>hT,.tp' 8 z z hT (.done ?_)⟩
    cases h
    exact ⟨z,ai,sb z,hS.to [0,0,1,0]⟩
   refine .skip ?_
   cases h
   exact ⟨z,ai,sb z,hS.to [0,0,1,0]⟩
  refine .g (.q z (.qn z (.cond z (fun hb=>?_) (fun hb=>?_))))
  ·have h:=aI hb h
   refine .rk 8 hS [0,2] T.mix ?_
   intro W hS
   have hT:=hS.to [0,2]
   refine .tp' 0 z z hT (.ts' 1 z (fun W hT=>fa T.f51_1 z z z) hT z (.ts' 2 z (fun W hT=>ld T.t3 hT z z z z z) hT z (.ts' 3 z (fun W hT=>fa T.f51_4 z z z) hT z (.ts' 4 z (fun W hT=>ld T.t3 hT z z z z z) hT z (.tp' 5 z z hT ?_)))))
   have ⟨y20,hy20,h⟩:=bnd h
   refine .by1 6 z (.cO hS Tryz.func56 (dn hy20) z z ?_)
   intro W hS
   have hT:=hS.to [0,2]
   refine ⟨fun _=>hT,?_⟩
   have ⟨y21,hy21,h⟩:=bnd h
   have hS:=hS.p1
   have hS:=hS.p2
   refine .by1 7 z (.cS (L0:=[ae (sv ai) 3 1 (D.int .i64) a0.Regs,be (sv h_0) 38 3 e_0 l_0 k_0 [(sv ai),iv a0.Pc,(sv au)]]) hS Tryz.func57 (fun S h1 h2 h3=>(cD hy21 (h3.rdv (k:=1) z) h2 (zz h1))) z z ?_)
   rintro v6 W hS
   have hT:=hS.to [2,2]
   refine ⟨fun _=>hT,.done ?_⟩
   cases h
   exact ⟨z,v6,sb z,hS.to [2,0,1,0]⟩
  have h:=aJ hb h
  refine .g (.q z (.qn z (.cond z (fun hb=>?_) (fun hb=>?_))))
  ·have h:=aI hb h
   refine .g (.q z (.s (fa T.f51_1 z z z) z (.s (ld T.t3 hS z z z z z) z (.q z ?_))))
   have ⟨y22,hy22,h⟩:=bnd h
   have hS:=hS.p1
   have hS:=hS.p2
   refine .c (.cS (L0:=[ae (sv ai) 3 1 (D.int .i64) a0.Regs,be (sv h_0) 38 3 e_0 l_0 k_0 [(sv ai),iv a0.Pc,(sv au)]]) hS Tryz.func57 (fun S h1 h2 h3=>(cD hy22 (h3.rdv (k:=1) z) h2 (zz h1))) z z ?_)
   rintro v7 W hS
   refine .nil (.rk 9 hS [0,0,0,0] T.mix ?_)
   intro W hS
   have hT:=hS.to [0,0,0,0]
   refine .tp' 0 z z hT (.tp' 1 z z hT (.ts' 2 z (fun W hT=>fe T.f38_1 z z z) hT z (.ts' 3 z (fun W hT=>lde (hT.hcellsv) T.t3 z z z z z) hT z (.ts' 4 z (fun W hT=>fa T.f51_4 z z z) hT z (.ts' 5 z (fun W hT=>ld T.t3 hT.p2 z z z z z) hT z (.tp' 6 z z hT ?_))))))
   have ⟨y23,hy23,h⟩:=bnd h
   refine .by1 7 z (.cO hS Tryz.func56 (dn hy23) z z ?_)
   intro W hS
   have hT:=hS.to [0,0,0,0]
   refine ⟨fun _=>hT,.tp' 8 z z hT (.done ?_)⟩
   cases h
   exact ⟨z,v7,sb z,hS.to [2,0,1,0]⟩
  have h:=aJ hb h
  refine .rk 12 hS [0,2] T.mix ?_
  intro W hS
  have hT:=hS.to [0,2]
  refine .tp' 0 z z hT (.ts' 1 z (fun W hT=>fa T.f51_1 z z z) hT z (.ts' 2 z (fun W hT=>ld T.t3 hT z z z z z) hT z (.ts' 3 z (fun W hT=>fa T.f51_0 z z z) hT z (.ts' 4 z (fun W hT=>ld T.t3 hT z z z z z) hT z (.tp' 5 z z hT ?_)))))
  have ⟨x6,hx6,h⟩:=bnd h
  refine .ts' 6 z (fun W hT=>ixt hx6 z T.u98 T.t3 z z z) hT z (.ts' 7 z (fun W hT=>ldt (hG.at hT hM).1 hx6 T.t3 z z z z z) hT z (.tp' 8 z z hT (.tp' 9 z z hT ?_)))
  have ⟨y24,hy24,h⟩:=bnd h
  refine .by1 10 z (.cO hS Tryz.func59 (us hy24) z z ?_)
  intro W hS
  have hT:=hS.to [0,2]
  refine ⟨fun _=>hT,?_⟩
  have ⟨y25,hy25,h⟩:=bnd h
  have hS:=hS.p1
  have hS:=hS.p2
  refine .by1 11 z (.cS (L0:=[ae (sv ai) 3 1 (D.int .i64) a0.Regs,be (sv h_0) 38 3 e_0 l_0 k_0 [(sv ai),iv a0.Pc,(sv au)]]) hS Tryz.func57 (fun S h1 h2 h3=>(cD hy25 (h3.rdv (k:=1) z) h2 (zz h1))) z z ?_)
  rintro v8 W hS
  have hT:=hS.to [2,2]
  refine ⟨fun _=>hT,.done ?_⟩
  cases h
  exact ⟨z,v8,sb z,hS.to [2,0,1,0]⟩
 intro x E W hJ
 rcases y5 with o3 | o4
 ·obtain ⟨rfl,v9,hE,hS⟩:=hJ
  refine ⟨_,hE.sub,?_⟩
  refine .g (.q z (.q z (.q z (.s (fe T.f38_1 z z z) z (.c (.sthv hS.p1 T.t3 z z z ?_))))))
  intro W hS
  cases h
  exact .nil (.g (.qn z (.ret (ab (vs:=[_]) (v9,au) (rt z rn) z (hS.to [0,2,1])))))
 obtain ⟨rfl,hF⟩:=hJ
 refine ⟨_,fun _ _ h=>h,?_⟩
 cases h
 exact hF
theorem pH {a0 : Int} {a1 : aH} {cW : Hd} {da : Hd} {gb : Hd} {g_1 : Nat} {S : Nat → Prop} {w : World} {r : Int × (List ah) × (List Box) × (List Int)} (h : dj a0 a1 = some r) (hO : bG w [ae (sv cW) 38 3 aq a1.Harts,ae (sv da) 44 2 a6 a1.Boxes,ae (sv gb) 3 1 (D.int .i64) a1.Out,.box g_1 30 [(sv cW),(sv da),iv a1.Turn,iv a1.Idle,(sv gb)]] S) (hlt : ∀ b,S b → b < w.heap.size) (hG : Gl w) (hM : ∀ g,g < NGl → ¬ S g) : Cl 34 #[iv a0,pt g_1] w (Ret S w (fun s : Hd × Hd × Hd=>.int .i64 r.1) (fun s=>[.box g_1 30 [(sv s.1),(sv s.2.1),iv a1.Turn,iv a1.Idle,(sv s.2.2)],ae (sv s.1) 38 3 aq r.2.1,ae (sv s.2.1) 44 2 a6 r.2.2.1,ae (sv s.2.2) 3 1 (D.int .i64) r.2.2.2])):=by
 unfold dj at h
 refine ay Tryz.func34 z z ?_
 have hS:=Sep.sm hO hlt
 refine .g (.qn z (.g (.s (fa T.f30_0 z z z) z (.s (ld T.t27 hS.p3 z z z z z) z (.q z ?_)))))
 have ⟨x1,hx1,h⟩:=bnd h
 refine .s (ixv hS.lv hx1 T.u27 T.t38 z z z) z (.qn z (.seq (.block (.g (.q z (.q z (.s (fe T.f38_1 z z z) z ?_)))))))
 obtain ⟨k1,hS⟩:=Sep.ov hS hx1
 have hS:=hS.oa
 obtain ⟨v1,k1,rfl,hS⟩:=hS.ow
 obtain ⟨k1,rfl,hS⟩:=Sep.oF z hS
 obtain ⟨v2,k1,rfl,hS⟩:=hS.ow
 obtain ⟨rfl,hS⟩:=hS.oN
 refine .s (lde (hS.p2.hcellsv) T.t3 z z z z z) z (.q z (.qn z (.cond z (fun hb=>?_) (fun hb=>?_))))
 ·have h:=aI hb h
  refine .g (.q z (.s (fa T.f30_1 z z z) z (.s (ld T.t28 hS.p5 z z z z z) z (.s (fa T.f30_4 z z z) z ?_))))
  have ⟨y1,hy1,h⟩:=bnd h
  have hS:=hS.p5
  have hS:=hS.p5
  have hS:=hS.p5
  have hS:=hS.p5
  have hS:=hS.p5
  refine .c (.cS (L0:=[ae (sv v1) 3 1 (D.int .i64) x1.Regs,be (sv cW) 38 3 aq a1.Harts (Int.toNat a0) [(sv v1),iv x1.Pc,(sv v2)],ae (sv da) 44 2 a6 a1.Boxes,ae (sv gb) 3 1 (D.int .i64) a1.Out,.box g_1 30 [(sv cW),(sv da),iv a1.Turn,iv a1.Idle,(sv gb)]]) hS Tryz.func35 (fun S h1 h2 h3=>(nf hy1 (h3.rdv (k:=0) z) h2 (zz h1))) z z ?_)
  rintro ⟨v3,v4⟩ W hS
  refine .qn z (.ret ?_)
  have hS:=Sep.gat (ds:=[aq (ah.mk y1.2.1 y1.2.2.1 x1.Mem)]) (cs:=[(sv v3),iv y1.2.2.1,(sv v2)]) (L1:=[ae (sv v3) 3 1 (D.int .i64) y1.2.1,ae (sv v2) 3 1 (D.int .i64) x1.Mem]) (.agg (.row (.flat (c1:=[iv y1.2.2.1]) z (.row .nil)))) (hS.to [3,4,0,0,0,0])
  have hS : Sep _ _ _ [ae (sv cW) 38 3 aq (a1.Harts.set (Int.toNat a0) (ah.mk y1.2.1 y1.2.2.1 x1.Mem)),ae (sv da) 44 2 a6 y1.2.2.2.2,.box g_1 30 [(sv cW),(sv da),iv a1.Turn,iv a1.Idle,(sv v4)],ae (sv v4) 3 1 (D.int .i64) y1.2.2.2.1]:=hS.bv
  cases h
  exact ab (vs:=[_]) (cW,da,v4) (rt z rn) z (hS.to [2,0,0,0])
 have h:=aJ hb h
 refine .g (.q z ?_)
 have ⟨y2,hy2,h⟩:=bnd h
 have hS:=hS.p2
 have hS:=hS.p1
 have hS:=hS.p2
 refine .c (.cS (L0:=[ae (sv v1) 3 1 (D.int .i64) x1.Regs,ae (sv v2) 3 1 (D.int .i64) x1.Mem,be (sv cW) 38 3 aq a1.Harts (Int.toNat a0) [(sv v1),iv x1.Pc,(sv v2)]]) hS Tryz.func36 (fun S h1 h2 h3=>(ng hy2 h2 (zz h1) (hG.at hS hM) (hG.noS hM h1))) z z ?_)
 rintro ⟨v5,v6⟩ W hS
 refine .q z (.q z (.nil ?_))
 refine .cs z h ?_ ?_ <;> intro h
 ·refine .g (.qn z (.ret ?_))
  have hS:=Sep.gat (ds:=[aq (ah.mk y2.2.1 y2.2.2.1 y2.2.2.2)]) (cs:=[(sv v5),iv y2.2.2.1,(sv v6)]) (L1:=[ae (sv v5) 3 1 (D.int .i64) y2.2.1,ae (sv v6) 3 1 (D.int .i64) y2.2.2.2]) (.agg (.row (.flat (c1:=[iv y2.2.2.1]) z (.row .nil)))) (hS.to [1,1,0,0,0,0])
  have hS : Sep _ _ _ [ae (sv cW) 38 3 aq (a1.Harts.set (Int.toNat a0) (ah.mk y2.2.1 y2.2.2.1 y2.2.2.2)),ae (sv da) 44 2 a6 a1.Boxes,ae (sv gb) 3 1 (D.int .i64) a1.Out,.box g_1 30 [(sv cW),(sv da),iv a1.Turn,iv a1.Idle,(sv gb)]]:=hS.bv
  cases h
  exact ab (vs:=[_]) (cW,da,gb) (rt z rn) z (hS.to [3,0,0,0])
 refine .skip (.g (.qn z (.ret ?_)))
 have hS:=Sep.gat (ds:=[aq (ah.mk y2.2.1 y2.2.2.1 y2.2.2.2)]) (cs:=[(sv v5),iv y2.2.2.1,(sv v6)]) (L1:=[ae (sv v5) 3 1 (D.int .i64) y2.2.1,ae (sv v6) 3 1 (D.int .i64) y2.2.2.2]) (.agg (.row (.flat (c1:=[iv y2.2.2.1]) z (.row .nil)))) (hS.to [1,1,0,0,0,0])
 have hS : Sep _ _ _ [ae (sv cW) 38 3 aq (a1.Harts.set (Int.toNat a0) (ah.mk y2.2.1 y2.2.2.1 y2.2.2.2)),ae (sv da) 44 2 a6 a1.Boxes,ae (sv gb) 3 1 (D.int .i64) a1.Out,.box g_1 30 [(sv cW),(sv da),iv a1.Turn,iv a1.Idle,(sv gb)]]:=hS.bv
 cases h
 exact ab (vs:=[_]) (cW,da,gb) (rt z rn) z (hS.to [3,0,0,0])
def oY (w : World) (S : Nat → Prop) (nh : Hd) (ni : Hd) (qq : Hd) (g_4 : Nat) (a0 : Int) (a1 : Int) (a2 : Int) (a3 : Int) (a4 : aH) (r : Int × Int × Bool × (List ah) × (List Box) × (List Int)) : Env → World → Prop:=Fin Tryz.prog Tryz.f33 S w (fun s : Hd × Hd × Hd=>.tuple #[iv r.1,iv r.2.1,.bool r.2.2.1]) (fun s=>[.box g_4 30 [(sv s.1),(sv s.2.1),iv a4.Turn,iv a4.Idle,(sv s.2.2)],ae (sv s.1) 38 3 aq r.2.2.2.1,ae (sv s.2.1) 44 2 a6 r.2.2.2.2.1,ae (sv s.2.2) 3 1 (D.int .i64) r.2.2.2.2.2]) .ret
theorem ot {a0 : Int} {a1 : Int} {a2 : Int} {a3 : Int} {a4 : aH} {nh : Hd} {ni : Hd} {qq : Hd} {g_4 : Nat} {S : Nat → Prop} {w : World} {r : Int × Int × Bool × (List ah) × (List Box) × (List Int)} (h : gA a0 a1 a2 a3 a4 = some r) (hO : bG w [ae (sv nh) 38 3 aq a4.Harts,ae (sv ni) 44 2 a6 a4.Boxes,ae (sv qq) 3 1 (D.int .i64) a4.Out,.box g_4 30 [(sv nh),(sv ni),iv a4.Turn,iv a4.Idle,(sv qq)]] S) (hlt : ∀ b,S b → b < w.heap.size) (hG : Gl w) (hM : ∀ g,g < NGl → ¬ S g) : Cl 33 #[iv a0,iv a1,iv a2,iv a3,.func (.func 34) #[] #[pt g_4]] w (Ret S w (fun s : Hd × Hd × Hd=>.tuple #[iv r.1,iv r.2.1,.bool r.2.2.1]) (fun s=>[.box g_4 30 [(sv s.1),(sv s.2.1),iv a4.Turn,iv a4.Idle,(sv s.2.2)],ae (sv s.1) 38 3 aq r.2.2.2.1,ae (sv s.2.1) 44 2 a6 r.2.2.2.2.1,ae (sv s.2.2) 3 1 (D.int .i64) r.2.2.2.2.2])):=by
 unfold gA at h
 refine ay Tryz.func33 z z ?_
 have hS:=Sep.sm hO hlt
 refine .g (.q z (.q z (.qn z (.seq (.block ?_)))))
 have ⟨y1,hy1,h⟩:=bnd h
 refine .via (.iter (fun s1 E' W'=>∃ (v7 : Hd) (v8 : Hd) (v9 : Hd),aK E' [(0,iv s1.1),(1,iv a1),(2,iv s1.2.1),(3,iv s1.2.2.1),(4,.func (.func 34) #[] #[pt g_4])] ∧ Sep S w W' [.box g_4 30 [(sv v7),(sv v8),iv a4.Turn,iv a4.Idle,(sv v9)],ae (sv v7) 38 3 aq s1.2.2.2.1,ae (sv v8) 44 2 a6 s1.2.2.2.2.1,ae (sv v9) 3 1 (D.int .i64) s1.2.2.2.2.2]) (fun y2 x E' W'=>(match y2 with | .inl o1=>x = .ret ∧ oY w S nh ni qq g_4 a0 a1 a2 a3 a4 o1 E' W' | .inr o2=>x = .exit 0 ∧ ∃ (v10 : Hd) (v11 : Hd) (v12 : Hd),aK E' [(2,iv o2.1),(3,iv o2.2.1)] ∧ Sep S w W' [.box g_4 30 [(sv v10),(sv v11),iv a4.Turn,iv a4.Idle,(sv v12)],ae (sv v10) 38 3 aq o2.2.2.1,ae (sv v11) 44 2 a6 o2.2.2.2.1,ae (sv v12) 3 1 (D.int .i64) o2.2.2.2.2])) hy1 ⟨nh,ni,qq,sb rfl,hS.to [3,0,0,0] rfl⟩ ?_) ?_
 ·intro s1 y3 E W h hI
  obtain ⟨v4,v5,v6,hE,hS⟩:=hI
  refine CW.sub hE ?_
  unfold bf at h
  refine .seq (.g (.q z (.q z (.q z (.cu 4 22 ((decide (s1.1 > 0)) && (decide (s1.2.2.1 < a1))) hS ?_ ?_)))))
  ·refine .both (decide (s1.1 > 0)) (fun hb=>?_) (fun hb=>?_)
   ·have hg1:=hb
    exact .g hg1 (.q z (.g hg1 (.q z (.g hg1 (.q z (.s (pkt hg1 z z z) z (.nil (ck 4 hS z (bH hg1)))))))))
   exact .xx hb z (.xx hb z (.xx hb z (.s (pkf hb z z z) z (.nil (ck 4 hS z (bI hb))))))
  intro W hS
  refine .nil (.cond z (fun hb=>?_) (fun hb=>?_))
  ·have h:=aI hb h
   refine .skip (.seq (.block (.g (.q z (.q z (.q z (.q z (.q z ?_))))))))
   have ⟨y4,hy4,h⟩:=bnd h
   have hS:=hS.p3
   have hS:=hS.p3
   have hS:=hS.p3
   refine .c (.callC (L0:=[ae (sv v4) 38 3 aq s1.2.2.2.1,ae (sv v5) 44 2 a6 s1.2.2.2.2.1,ae (sv v6) 3 1 (D.int .i64) s1.2.2.2.2.2,.box g_4 30 [(sv v4),(sv v5),iv a4.Turn,iv a4.Idle,(sv v6)]]) (vs:=[iv s1.2.1]) (cap:=[pt g_4]) hS Tryz.func34 (fun S h1 h2 h3=>(pH hy4 h2 (zz h1) (hG.at hS hM) (hG.noS hM h1))) z z z ?_)
   rintro ⟨v13,v14,v15⟩ W hS
   have ⟨y5,hy5,h⟩:=bnd h
   refine .c (.cO hS Tryz.func50 (rI hy5) z z ?_)
   intro W hS
   refine .q z (.q z (.q z (.q z (.q z (.q z (.qn z (.seq (.g (.q z (.q z (.nil ?_)))))))))))
   refine .cs z h ?_ ?_ <;> intro h
   ·refine .g (.q z (.q z (.qn z (.ret ?_))))
    cases h
    exact ⟨by simp,z,ab (vs:=[_,_,_]) (v13,v14,v15) (rt z (rt z (rt z rn))) z (hS.to [0,0,0,0])⟩
   refine .skip (.region (.q z (.q z (.q z (.qn z (.region (.q z (.q z (.q z (.nil ?_))))))))))
   cases h
   exact ⟨z,v13,v14,v15,sb z,hS.to [0,0,0,0]⟩
  have h:=aJ hb h
  refine .exit ?_
  cases h
  exact ⟨by simp,z,v4,v5,v6,sb z,hS.to [0,0,0,0]⟩
 intro x E W hJ
 rcases y1 with o3 | o4
 ·obtain ⟨rfl,hF⟩:=hJ
  refine ⟨_,fun _ _ h=>h,?_⟩
  cases h
  exact hF
 obtain ⟨rfl,v16,v17,v18,hE,hS⟩:=hJ
 refine ⟨_,hE.sub,?_⟩
 cases h
 exact .g (.q z (.q z (.q z (.q z (.qn z (.ret (ab (vs:=[_,_,_]) (v16,v17,v18) (rt z (rt z (rt z rn))) z (hS.to [0,0,0,0]))))))))
theorem rK {a0 : aH} {a1 : Int} {aD : Hd} {aC : Hd} {aO : Hd} {w : World} {r : aH × Bool} (h : gy a0 a1 = some r) (aw : RO w aD 38 3 aq a0.Harts) (aA : RO w aC 44 2 a6 a0.Boxes) (aR : RO w aO 3 1 (D.int .i64) a0.Out) (hG : Gl w) : Cl 13 #[.agg #[(sv aD),(sv aC),iv a0.Turn,iv a0.Idle,(sv aO)],iv a1] w (Ret No w (fun s : Hd × Hd × Hd=>.tuple #[.agg #[(sv s.1),(sv s.2.1),iv r.1.Turn,iv r.1.Idle,(sv s.2.2)],.bool r.2]) (fun s=>[ae (sv s.1) 38 3 aq r.1.Harts,ae (sv s.2.1) 44 2 a6 r.1.Boxes,ae (sv s.2.2) 3 1 (D.int .i64) r.1.Out])):=by
 unfold gy at h
 refine ay Tryz.func13 z z ?_
 have hS:=Sep.start w
 refine .g (.c (.box hS z z ?_))
 intro g1 W hS
 refine .c (.alloc T.t30 hS ?_)
 intro g2 W hS
 refine .qn z (.seq (.g (.s (ld T.t30 hS.p1 z z z z z) z ?_)))
 have ⟨y1,hy1,h⟩:=bnd h
 refine .c (.cO hS Tryz.func29 (pF hy1 (hS.keep aw) (hS.keep aA) (hS.keep aR)) z z ?_)
 intro W hS
 refine .q z (.q z (.cu 3 18 ((!y1) || (decide (a1 < 0))) hS ?_ ?_))
 ·refine .both (!y1) (fun hb=>?_) (fun hb=>?_)
  ·exact .xx hb z (.xx hb z (.s (pkt hb z z z) z (.nil (ck 3 hS z (ig hb)))))
  have hg1:=hb
  exact .g hg1 (.q z (.g hg1 (.q z (.s (pkf hg1 z z z) z (.nil (ck 3 hS z (ij hg1)))))))
 intro W hS
 refine .q z (.cu 3 22 (((!y1) || (decide (a1 < 0))) || (decide (a1 > 1000000))) hS ?_ ?_)
 ·refine .both ((!y1) || (decide (a1 < 0))) (fun hb=>?_) (fun hb=>?_)
  ·exact .xx hb z (.xx hb z (.s (pkt hb z z z) z (.nil (ck 3 hS z (ig hb)))))
  have hg2:=hb
  exact .g hg2 (.q z (.g hg2 (.q z (.s (pkf hg2 z z z) z (.nil (ck 3 hS z (ij hg2)))))))
 intro W hS
 refine .nil (.cond z (fun hb=>?_) (fun hb=>?_))
 ·have h:=aI hb h
  refine .g (.s (bs T.s30 z z) z (.c (.st T.t30 hS z z z ?_)))
  intro W hS
  refine .qn z (.ret ?_)
  have hS:=hS.nilv 38 3 aq
  have hS:=hS.nilv 44 2 a6
  have hS:=hS.nilv 3 1 (D.int .i64)
  cases h
  exact ab (vs:=[_,_]) (aP,aP,aP) (rc hS.p3 T.t30 z (rt z rn) z z) z (hS.to [2,1,0])
 have h:=aJ hb h
 refine .skip (.seq ?_)
 have ⟨y2,hy2,h⟩:=bnd h
 have ⟨y3,hy3,h⟩:=bnd h
 refine .via (R':=fun x E' W'=>x = .normal ∧ ∃ (g3 : Nat) (v1 : Hd) (v2 : Hd) (v3 : Hd),aK E' [(1,iv a1),(2,pt g1),(4,pt g2),(6,pt g3)] ∧ Sep No w W' [.box g2 30 [(sv aP),(sv aP),iv 0,iv 0,(sv aP)],.box g1 30 [(sv aD),(sv aC),iv a0.Turn,iv a0.Idle,(sv aO)],.box g3 30 [(sv v1),(sv v2),iv 0,iv 0,(sv v3)],ae (sv v1) 38 3 aq [],ae (sv v2) 44 2 a6 y2,ae (sv v3) 3 1 (D.int .i64) y3]) ?_ ?_
 ·refine .rk 8 hS [0,0] T.mix ?_
  intro W hS
  have hT:=hS.to [0,0]
  refine .ts' 0 z (fun W hT=>fa T.f30_1 z z z) hT z (.ts' 1 z (fun W hT=>ld T.t28 hT.p1 z z z z z) hT z (.ts' 3 z (fun W hT=>fa T.f30_4 z z z) hT z (.ts' 4 z (fun W hT=>ld T.t23 hT.p1 z z z z z) hT z (.by [2,7] ⟨⟨_,z,?_⟩,⟨_,z,?_⟩,trivial⟩))))
  ·refine (.cV hS Tryz.func30 (mJ hy2 (hS.keep aA)) z z ?_)
   intro v4 W hS
   have hT:=hS.to [1,1]
   refine ⟨fun _=>hT,.by [5,7] ⟨⟨_,z,?_⟩,⟨_,z,?_⟩,trivial⟩⟩
   ·refine (.cV hS Tryz.func31 (cy hy3 (hS.keep aR)) z z ?_)
    intro v5 W hS
    have hT:=hS.to [2,2]
    refine ⟨fun _=>hT,.ts' 6 z (fun W hT=>bs T.s30 z z) hT z (.by1 7 z (.alloc T.t30 hS ?_))⟩
    intro g4 W hS
    have hT:=hS.to [3,3]
    refine ⟨fun _=>hT,.by1 8 z (.st T.t30 hS z z z ?_)⟩
    intro W hS
    refine ⟨fun h=>absurd z h,?_⟩
    refine .done ?_
    have hS:=hS.nilv 38 3 aq
    exact ⟨z,g4,aP,v4,v5,sb z,hS.to [4,4,1,0,1,0]⟩
   refine (.alloc T.t30 hS ?_)
   intro g5 W hS
   have hT:=hS.to [2,2]
   refine ⟨fun _=>hT,.by1 5 z (.cV hS Tryz.func31 (cy hy3 (hS.keep aR)) z z ?_)⟩
   intro v6 W hS
   have hT:=hS.to [3,3]
   refine ⟨fun _=>hT,.ts' 6 z (fun W hT=>bs T.s30 z z) hT z (.by1 8 z (.st T.t30 hS.p1 z z z ?_))⟩
   intro W hS
   refine ⟨fun h=>absurd z h,?_⟩
   refine .done ?_
   have hS:=hS.nilv 38 3 aq
   exact ⟨z,g5,aP,v4,v6,sb z,hS.to [4,4,1,0,1,0]⟩
  refine (.alloc T.t30 hS ?_)
  intro g6 W hS
  have hT:=hS.to [1,1]
  refine ⟨fun _=>hT,.by1 2 z (.cV hS Tryz.func30 (mJ hy2 (hS.keep aA)) z z ?_)⟩
  intro v7 W hS
  have hT:=hS.to [2,2]
  refine ⟨fun _=>hT,.by1 5 z (.cV hS Tryz.func31 (cy hy3 (hS.keep aR)) z z ?_)⟩
  intro v8 W hS
  have hT:=hS.to [3,3]
  refine ⟨fun _=>hT,.ts' 6 z (fun W hT=>bs T.s30 z z) hT z (.by1 8 z (.st T.t30 hS.p2 z z z ?_))⟩
  intro W hS
  refine ⟨fun h=>absurd z h,?_⟩
  refine .done ?_
  have hS:=hS.nilv 38 3 aq
  exact ⟨z,g6,aP,v7,v8,sb z,hS.to [4,4,1,0,1,0]⟩
 intro x E W hJ
 obtain ⟨rfl,g7,v9,v10,v11,hE,hS⟩:=hJ
 refine ⟨_,hE.sub,?_⟩
 refine .seq (.g (.s (fa T.f30_0 z z z) z (.s (ld T.t27 hS.p1 z z z z z) z (.s (bq (hS.keep aw) T.u27 z z) z (.qn z (.block ?_))))))
 have ⟨y4,hy4,h⟩:=bnd h
 refine .via (.iter (fun s1 E' W'=>∃ (v14 : Hd),aK E' [(1,iv a1),(2,pt g1),(4,pt g2),(6,pt g7),(32,(sv aD)),(33,iv (a0.Harts.length : Int)),(34,iv s1.1)] ∧ Sep No w W' [.box g2 30 [(sv aP),(sv aP),iv 0,iv 0,(sv aP)],.box g1 30 [(sv aD),(sv aC),iv a0.Turn,iv a0.Idle,(sv aO)],.box g7 30 [(sv v14),(sv v10),iv 0,iv 0,(sv v11)],ae (sv v10) 44 2 a6 y2,ae (sv v11) 3 1 (D.int .i64) y3,ae (sv v14) 38 3 aq s1.2]) (fun y5 x E' W'=>x = .exit 0 ∧ ∃ (v15 : Hd),aK E' [(1,iv a1),(2,pt g1),(4,pt g2),(6,pt g7)] ∧ Sep No w W' [.box g2 30 [(sv aP),(sv aP),iv 0,iv 0,(sv aP)],.box g1 30 [(sv aD),(sv aC),iv a0.Turn,iv a0.Idle,(sv aO)],.box g7 30 [(sv v15),(sv v10),iv 0,iv 0,(sv v11)],ae (sv v10) 44 2 a6 y2,ae (sv v11) 3 1 (D.int .i64) y3,ae (sv v15) 38 3 aq y5]) hy4 ⟨v9,sb z,hS.to [0,0,0,1,1,0]⟩ ?_) ?_
 ·intro s1 y6 E W h hI
  obtain ⟨v13,hE,hS⟩:=hI
  refine CW.sub hE ?_
  unfold ep at h
  refine .g (.qn z (.seq ?_))
  refine .cs z h ?_ ?_ <;> intro h
  ·refine .skip (.seq (.block (.seq (.region ?_))))
   have ⟨x1,hx1,h⟩:=bnd h
   obtain ⟨k1,hd,hck1⟩:=RV.el2 aw hx1
   have hd1:=pS hd
   obtain ⟨v16,k1,rfl,q13,hd2⟩:=dF aw hd1
   obtain ⟨k1,rfl,hd3⟩:=dt aw z hd2
   obtain ⟨v17,k1,rfl,q14,hd4⟩:=dF aw hd3
   obtain rfl:=lZ aw hd4
   refine .s (ixv (hS.keep aw) hx1 T.u27 T.t38 z z z) z (.s (lde (hck1 _ hS.agree) T.t38 z z z z z) z (.c (.alloc T.t38 hS ?_)))
   intro g8 W hS
   refine .c (.st T.t38 hS z z z ?_)
   intro W hS
   refine .nil (.rk 7 hS [0,0,0,0,0,0] T.mix ?_)
   intro W hS
   have hT:=hS.to [0,0,0,0,0,0]
   refine .ts' 0 z (fun W hT=>fa T.f30_0 z z z) hT z (.ts' 1 z (fun W hT=>ld T.t27 hT.p3 z z z z z) hT z (.ts' 2 z (fun W hT=>ld T.t38 hT z z z z z) hT z ?_))
   have ⟨y7,hy7,h⟩:=bnd h
   refine .by1 3 z (.call hS Tryz.func32 (oV hy7 (hS.keep (q13 _ aw)) (hS.keep (q14 _ aw))) z z ?_)
   rintro ⟨v18,v19⟩ W hS
   have hT:=hS.to [2,2,2,2,2,2]
   refine ⟨fun _=>hT,.by1 4 z (.lg (L1:=[ae (sv v18) 3 1 (D.int .i64) y7.Regs,ae (sv v19) 3 1 (D.int .i64) y7.Mem]) [(ah.mk y7.Regs y7.Pc y7.Mem)] aq T.u27 T.t38 (hS.to [0,0,0,0,0,0,0,0,0]) z z z (.agg (.row (.flat (c1:=[iv y7.Pc]) z (.row .nil)))) ?_ z (fun _=>z))⟩
   intro v20 W hS
   have hT:=hS.to [1,1,1,1,1,1]
   refine ⟨fun _=>hT,?_⟩
   have ⟨r1,hr1,h⟩:=bnd h
   refine .by1 5 z (.appv hr1 (hS.to [7,0,0,0,0,0,0,0]) T.u27 T.t38 z z z ?_)
   intro v21 W hS
   have hT:=hS.to [1,1,1,1,1,1]
   refine ⟨fun _=>hT,.ts' 6 z (fun W hT=>fa T.f30_0 z z z) hT z (.by1 7 z (.st T.t27 hS.p4 z z z ?_))⟩
   intro W hS
   refine ⟨fun h=>absurd z h,?_⟩
   refine .done (.region (.q z (.q z (.nil ?_))))
   cases h
   exact ⟨z,v21,sb z,hS.to [3,3,0,2,2,0]⟩
  refine .exit ?_
  cases h
  exact ⟨by simp,z,v13,sb z,hS.to [0,0,0,0,0,0]⟩
 intro x E W hJ
 obtain ⟨rfl,v22,hE,hS⟩:=hJ
 refine ⟨_,hE.sub,?_⟩
 refine .g (.q z (.s (fa T.f30_0 z z z) z (.s (ld T.t27 hS.p2 z z z z z) z (.s (bq hS.p5.lv T.u27 z z) z (.s (fa T.f30_2 z z z) z (.s (ld T.t3 hS.p1 z z z z z) z (.s (fa T.f30_3 z z z) z (.s (ld T.t3 hS.p1 z z z z z) z (.s (mf z z) z ?_)))))))))
 have ⟨y8,hy8,h⟩:=bnd h
 have hS:=hS.p2
 have hS:=hS.p4
 have hS:=hS.p4
 have hS:=hS.p5
 refine .c (.cS (L0:=[ae (sv v22) 38 3 aq y4,ae (sv v10) 44 2 a6 y2,ae (sv v11) 3 1 (D.int .i64) y3,.box g7 30 [(sv v22),(sv v10),iv 0,iv 0,(sv v11)]]) hS Tryz.func33 (fun S h1 h2 h3=>(ot hy8 h2 (zz h1) (hG.at hS (fun _ _ h=>h)) (hG.noS (fun _ _ h=>h) h1))) z z ?_)
 rintro ⟨v23,v24,v25⟩ W hS
 refine .q z (.q z (.q z (.q z (.q z (.q z (.qn z (.seq (.g (.q z (.q z (.nil ?_)))))))))))
 refine .cs z h ?_ ?_ <;> intro h
 ·refine .g (.s (bs T.s30 z z) z (.c (.st T.t30 hS.p4 z z z ?_)))
  intro W hS
  refine .qn z (.ret ?_)
  have hS:=hS.nilv 38 3 aq
  have hS:=hS.nilv 44 2 a6
  have hS:=hS.nilv 3 1 (D.int .i64)
  cases h
  exact ab (vs:=[_,_]) (aP,aP,aP) (rc hS.p3 T.t30 z (rt z rn) z z) z (hS.to [2,1,0])
 refine .skip (.g (.q z (.q z (.s (fa T.f30_2 z z z) z (.c (.st T.t3 hS z z z ?_))))))
 intro W hS
 refine .s (fa T.f30_3 z z z) z (.c (.st T.t3 hS z z z ?_))
 intro W hS
 refine .nil (.g (.s (ld T.t30 hS z z z z z) z (.c (.st T.t30 hS.p4 z z z ?_))))
 intro W hS
 cases h
 exact .qn z (.ret (ab (vs:=[_,_]) (v23,v24,v25) (rc hS T.t30 z (rt z rn) z z) z (hS.to [2,2,2])))
end
noncomputable section
def uh (w : World) (r : Bool) : Env → World → Prop:=Fin Tryz.prog Tryz.f62 No w (fun s : Unit=>.bool r) (fun s=>[]) .ret
theorem jE {a0 : List Int} {a1 : Int} {v_0 : Hd} {w : World} {r : Bool} (h : dz a0 a1 = some r) (q_0 : RO w v_0 3 1 (D.int .i64) a0) : Cl 62 #[(sv v_0),iv a1] w (RU w (.bool r)):=by
 unfold dz at h
 refine ay Tryz.func62 z z ?_
 have hS:=Sep.start w
 refine .g (.qn z (.seq (.g (.q z (.s (bq (hS.keep q_0) T.u23 z z) z (.q z (.q z (.nil ?_))))))))
 refine .cs z h ?_ ?_ <;> intro h
 ·obtain rfl:=o9 h
  exact .g (.qn z (.ret (ab (vs:=[_]) () (rt z rn) z (hS.to []))))
 refine .skip (.seq (.g (.qn z (.block ?_))))
 have ⟨y1,hy1,h⟩:=bnd h
 refine .via (.iter (fun s1 E' W'=>aK E' [(0,(sv v_0)),(5,iv s1)] ∧ Sep No w W' []) (fun y2 x E' W'=>(match y2 with | .inl o1=>x = .ret ∧ uh w o1 E' W' | .inr o2=>x = .exit 0 ∧ aK E' [] ∧ Sep No w W' [])) hy1 ⟨sb rfl,hS.to [] rfl⟩ ?_) ?_
 ·intro s1 y3 E W h hI
  obtain ⟨hE,hS⟩:=hI
  refine CW.sub hE ?_
  unfold gm at h
  refine .seq (.g (.q z (.q z (.s (bq (hS.keep q_0) T.u23 z z) z (.q z (.nil ?_))))))
  refine .cs z h ?_ ?_ <;> intro h
  ·refine .skip (.seq (.block (.g (.q z (.q z ?_)))))
   have ⟨x1,hx1,h⟩:=bnd h
   refine .s (ixv (hS.keep q_0) hx1 T.u23 T.t3 z z z) z (.s (lde (RV.flat (hS.keep q_0) hx1 z) T.t3 z z z z z) z ?_)
   have ⟨y4,hy4,h⟩:=bnd h
   refine .c (.cO hS Tryz.func83 (dB hy4) z z ?_)
   intro W hS
   refine .q z (.nil ?_)
   refine .cs z h ?_ ?_ <;> intro h
   ·refine .g (.qn z (.ret ?_))
    cases h
    exact ⟨by simp,z,ab (vs:=[_]) () (rt z rn) z (hS.to [])⟩
   refine .skip (.region (.q z (.q z (.q z (.nil ?_)))))
   cases h
   exact ⟨z,sb z,hS.to []⟩
  refine .exit ?_
  cases h
  exact ⟨by simp,z,sb z,hS.to []⟩
 intro x E W hJ
 rcases y1 with o3 | o4
 ·obtain ⟨rfl,hF⟩:=hJ
  refine ⟨_,fun _ _ h=>h,?_⟩
  cases h
  exact hF
 obtain ⟨rfl,hE,hS⟩:=hJ
 refine ⟨_,hE.sub,?_⟩
 obtain rfl:=o9 h
 exact .g (.qn z (.ret (ab (vs:=[_]) () (rt z rn) z (hS.to []))))
theorem k8 {a0 : Box} {cn : Hd} {w : World} {r : Bool} (h : fj a0 = some r) (cF : RO w cn 3 1 (D.int .i64) a0.Items) : Cl 82 #[.agg #[iv a0.Room,(sv cn)]] w (RU w (.bool r)):=by
 unfold fj at h
 refine ay Tryz.func82 z z ?_
 have hS:=Sep.start w
 refine .g (.c (.box hS z z ?_))
 intro g1 W hS
 refine .qn z (.g (.s (fa T.f44_0 z z z) z (.s (ld T.t3 hS z z z z z) z ?_)))
 have ⟨y1,hy1,h⟩:=bnd h
 refine .c (.cO hS Tryz.func23 (aM hy1) z z ?_)
 intro W hS
 refine .q z (.cu 7 13 (y1 && (decide ((a0.Items.length : Int) ≤ a0.Room))) hS ?_ ?_)
 ·refine .both (y1) (fun hb=>?_) (fun hb=>?_)
  ·have hg1:=hb
   exact .g hg1 (.s (fa T.f44_1 z z z) z (.g hg1 (.s (ld T.t23 hS z z z z z) z (.g hg1 (.s (bq (hS.keep cF) T.u23 z z) z (.g hg1 (.s (fa T.f44_0 z z z) z (.g hg1 (.s (ld T.t3 hS z z z z z) z (.g hg1 (.q z (.s (pkt hg1 z z z) z (.nil (ck 7 hS z (bH hg1)))))))))))))))
  exact .xx hb z (.xx hb z (.xx hb z (.xx hb z (.xx hb z (.xx hb z (.s (pkf hb z z z) z (.nil (ck 7 hS z (bI hb)))))))))
 intro W hS
 refine .q z ?_
 have ⟨b1,hb1,h⟩:=bnd h
 refine .cu 7 21 (b1) hS ?_ ?_
 ·refine .both (y1 && (decide ((a0.Items.length : Int) ≤ a0.Room))) (fun hb=>?_) (fun hb=>?_)
  ·have hg2:=hb
   have h:=aI hb hb1
   refine .g hg2 (.s (fa T.f44_1 z z z) z (.g hg2 (.s (ld T.t23 hS z z z z z) z (.g hg2 (.s (fa T.f44_1 z z z) z (.g hg2 (.s (ld T.t23 hS z z z z z) z (.g hg2 (.s (bq (hS.keep cF) T.u23 z z) z ?_)))))))))
   have ⟨y2,hy2,h⟩:=bnd h
   refine .g hg2 (.c (.cO hS Tryz.func62 (jE hy2 (hS.keep cF)) z z ?_))
   intro W hS
   refine .s (pkt hg2 z z z) z ?_
   cases h
   exact .nil (ck 7 hS)
  refine .xx hb z (.xx hb z (.xx hb z (.xx hb z (.xx hb z (.xx hb z ?_)))))
  cases aJ hb hb1
  exact .s (pkf hb z z z) z (.nil (ck 7 hS))
 intro W hS
 obtain rfl:=o9 h
 exact .qn z (.ret (ab (vs:=[_]) () (rt z rn) z (hS.to [])))
def sI (w : World) (r : Bool) : Env → World → Prop:=Fin Tryz.prog Tryz.f60 No w (fun s : Unit=>.bool r) (fun s=>[]) .ret
theorem rL {a0 : List Box} {v_0 : Hd} {w : World} {r : Bool} (h : jo a0 = some r) (q_0 : RO w v_0 44 2 a6 a0) : Cl 60 #[(sv v_0)] w (RU w (.bool r)):=by
 unfold jo at h
 refine ay Tryz.func60 z z ?_
 have hS:=Sep.start w
 refine .g (.qn z (.seq (.g (.qn z (.block ?_)))))
 have ⟨y1,hy1,h⟩:=bnd h
 refine .via (.iter (fun s1 E' W'=>aK E' [(0,(sv v_0)),(3,iv s1)] ∧ Sep No w W' []) (fun y2 x E' W'=>(match y2 with | .inl o1=>x = .ret ∧ sI w o1 E' W' | .inr o2=>x = .exit 0 ∧ aK E' [(0,(sv v_0))] ∧ Sep No w W' [])) hy1 ⟨sb rfl,hS.to [] rfl⟩ ?_) ?_
 ·intro s1 y3 E W h hI
  obtain ⟨hE,hS⟩:=hI
  refine CW.sub hE ?_
  unfold fJ at h
  refine .seq (.g (.q z (.q z (.s (bq (hS.keep q_0) T.u28 z z) z (.q z (.nil ?_))))))
  refine .cs z h ?_ ?_ <;> intro h
  ·refine .skip (.seq (.block (.g (.q z (.q z ?_)))))
   have ⟨x1,hx1,h⟩:=bnd h
   obtain ⟨k1,hd,hck1⟩:=RV.el2 q_0 hx1
   have hd1:=pS hd
   obtain ⟨k1,rfl,hd2⟩:=dt q_0 z hd1
   obtain ⟨v1,k1,rfl,q1,hd3⟩:=dF q_0 hd2
   obtain rfl:=lZ q_0 hd3
   refine .s (ixv (hS.keep q_0) hx1 T.u28 T.t44 z z z) z (.s (lde (hck1 _ hS.agree) T.t44 z z z z z) z ?_)
   have ⟨y4,hy4,h⟩:=bnd h
   refine .c (.cO hS Tryz.func82 (k8 hy4 (hS.keep (q1 _ q_0))) z z ?_)
   intro W hS
   refine .q z (.nil ?_)
   refine .cs z h ?_ ?_ <;> intro h
   ·refine .g (.qn z (.ret ?_))
    cases h
    exact ⟨by simp,z,ab (vs:=[_]) () (rt z rn) z (hS.to [])⟩
   refine .skip (.region (.q z (.q z (.q z (.nil ?_)))))
   cases h
   exact ⟨z,sb z,hS.to []⟩
  refine .exit ?_
  cases h
  exact ⟨by simp,z,sb z,hS.to []⟩
 intro x E W hJ
 rcases y1 with o3 | o4
 ·obtain ⟨rfl,hF⟩:=hJ
  refine ⟨_,fun _ _ h=>h,?_⟩
  cases h
  exact hF
 obtain ⟨rfl,hE,hS⟩:=hJ
 refine ⟨_,hE.sub,?_⟩
 cases h
 exact .g (.q z (.s (bq (hS.keep q_0) T.u28 z z) z (.q z (.qn z (.ret (ab (vs:=[_]) () (rt z rn) z (hS.to [])))))))
theorem ou {a0 : ah} {ai : Hd} {au : Hd} {w : World} {r : Bool} (h : fc a0 = some r) (cI : RO w ai 3 1 (D.int .i64) a0.Regs) (cJ : RO w au 3 1 (D.int .i64) a0.Mem) : Cl 61 #[.agg #[(sv ai),iv a0.Pc,(sv au)]] w (RU w (.bool r)):=by
 unfold fc at h
 refine ay Tryz.func61 z z ?_
 have hS:=Sep.start w
 refine .g (.c (.box hS z z ?_))
 intro g1 W hS
 refine .qn z (.g (.s (fa T.f38_0 z z z) z (.s (ld T.t23 hS z z z z z) z ?_)))
 have ⟨y1,hy1,h⟩:=bnd h
 refine .c (.cO hS Tryz.func62 (jE hy1 (hS.keep cI)) z z ?_)
 intro W hS
 refine .q z ?_
 have ⟨b1,hb1,h⟩:=bnd h
 refine .cu 6 12 (b1) hS ?_ ?_
 ·refine .both (y1) (fun hb=>?_) (fun hb=>?_)
  ·have hg1:=hb
   have h:=aI hb hb1
   refine .g hg1 (.s (fa T.f38_0 z z z) z (.g hg1 (.s (ld T.t23 hS z z z z z) z ?_)))
   have ⟨x1,hx1,h⟩:=bnd h
   refine .g hg1 (.s (ixv (hS.keep cI) hx1 T.u23 T.t3 z z z) z (.g hg1 (.s (lde (RV.flat (hS.keep cI) hx1 z) T.t3 z z z z z) z (.g hg1 (.q z (.s (pkt hg1 z z z) z ?_))))))
   cases h
   exact .nil (ck 6 hS)
  refine .xx hb z (.xx hb z (.xx hb z (.xx hb z (.xx hb z ?_))))
  cases aJ hb hb1
  exact .s (pkf hb z z z) z (.nil (ck 6 hS))
 intro W hS
 refine .q z ?_
 have ⟨b2,hb2,h⟩:=bnd h
 refine .cu 4 17 (b2) hS ?_ ?_
 ·refine .both (b1) (fun hb=>?_) (fun hb=>?_)
  ·have hg2:=hb
   have h:=aI hb hb2
   refine .g hg2 (.s (fa T.f38_1 z z z) z (.g hg2 (.s (ld T.t3 hS z z z z z) z ?_)))
   have ⟨y2,hy2,h⟩:=bnd h
   refine .g hg2 (.c (.cO hS Tryz.func83 (dB hy2) z z ?_))
   intro W hS
   refine .s (pkt hg2 z z z) z ?_
   cases h
   exact .nil (ck 4 hS)
  refine .xx hb z (.xx hb z (.xx hb z ?_))
  cases aJ hb hb2
  exact .s (pkf hb z z z) z (.nil (ck 4 hS))
 intro W hS
 refine .q z (.cu 5 23 (b2 && (decide ((a0.Mem.length : Int) ≤ 10000))) hS ?_ ?_)
 ·refine .both (b2) (fun hb=>?_) (fun hb=>?_)
  ·have hg3:=hb
   exact .g hg3 (.s (fa T.f38_2 z z z) z (.g hg3 (.s (ld T.t23 hS z z z z z) z (.g hg3 (.s (bq (hS.keep cJ) T.u23 z z) z (.g hg3 (.q z (.s (pkt hg3 z z z) z (.nil (ck 5 hS z (bH hg3)))))))))))
  exact .xx hb z (.xx hb z (.xx hb z (.xx hb z (.s (pkf hb z z z) z (.nil (ck 5 hS z (bI hb)))))))
 intro W hS
 refine .q z ?_
 have ⟨b3,hb3,h⟩:=bnd h
 refine .cu 7 31 (b3) hS ?_ ?_
 ·refine .both (b2 && (decide ((a0.Mem.length : Int) ≤ 10000))) (fun hb=>?_) (fun hb=>?_)
  ·have hg4:=hb
   have h:=aI hb hb3
   refine .g hg4 (.s (fa T.f38_2 z z z) z (.g hg4 (.s (ld T.t23 hS z z z z z) z (.g hg4 (.s (fa T.f38_2 z z z) z (.g hg4 (.s (ld T.t23 hS z z z z z) z (.g hg4 (.s (bq (hS.keep cJ) T.u23 z z) z ?_)))))))))
   have ⟨y3,hy3,h⟩:=bnd h
   refine .g hg4 (.c (.cO hS Tryz.func62 (jE hy3 (hS.keep cJ)) z z ?_))
   intro W hS
   refine .s (pkt hg4 z z z) z ?_
   cases h
   exact .nil (ck 7 hS)
  refine .xx hb z (.xx hb z (.xx hb z (.xx hb z (.xx hb z (.xx hb z ?_)))))
  cases aJ hb hb3
  exact .s (pkf hb z z z) z (.nil (ck 7 hS))
 intro W hS
 obtain rfl:=o9 h
 exact .qn z (.ret (ab (vs:=[_]) () (rt z rn) z (hS.to [])))
def sJ (w : World) (r : Bool) : Env → World → Prop:=Fin Tryz.prog Tryz.f37 No w (fun s : Unit=>.bool r) (fun s=>[]) .ret
theorem rM {a0 : aH} {aD : Hd} {aC : Hd} {aO : Hd} {w : World} {r : Bool} (h : jp a0 = some r) (aw : RO w aD 38 3 aq a0.Harts) (aA : RO w aC 44 2 a6 a0.Boxes) (aR : RO w aO 3 1 (D.int .i64) a0.Out) : Cl 37 #[.agg #[(sv aD),(sv aC),iv a0.Turn,iv a0.Idle,(sv aO)]] w (RU w (.bool r)):=by
 unfold jp at h
 refine ay Tryz.func37 z z ?_
 have hS:=Sep.start w
 refine .g (.c (.box hS z z ?_))
 intro g1 W hS
 refine .qn z (.g (.s (fa T.f30_0 z z z) z (.s (ld T.t27 hS z z z z z) z (.s (bq (hS.keep aw) T.u27 z z) z (.qn z (.seq (.g (.q z ?_))))))))
 have ⟨y1,hy1,h⟩:=bnd h
 refine .c (.cO hS Tryz.func23 (aM hy1) z z ?_)
 intro W hS
 refine .q z (.q z ?_)
 have ⟨b1,hb1,h⟩:=bnd h
 refine .cu 5 16 (b1) hS ?_ ?_
 ·refine .both (!y1) (fun hb=>?_) (fun hb=>?_)
  ·refine .xx hb z (.xx hb z (.xx hb z (.xx hb z ?_)))
   cases aI hb hb1
   exact .s (pkt hb z z z) z (.nil (ck 5 hS))
  have hg1:=hb
  have h:=aJ hb hb1
  refine .g hg1 (.s (fa T.f30_1 z z z) z (.g hg1 (.s (ld T.t28 hS z z z z z) z ?_)))
  have ⟨y2,hy2,h⟩:=bnd h
  refine .g hg1 (.c (.cO hS Tryz.func60 (rL hy2 (hS.keep aA)) z z ?_))
  intro W hS
  refine .g hg1 (.q z (.s (pkf hg1 z z z) z ?_))
  cases h
  exact .nil (ck 5 hS)
 intro W hS
 refine .q z ?_
 have ⟨b2,hb2,h⟩:=bnd h
 refine .cu 7 24 (b2) hS ?_ ?_
 ·refine .both (b1) (fun hb=>?_) (fun hb=>?_)
  ·refine .xx hb z (.xx hb z (.xx hb z (.xx hb z (.xx hb z (.xx hb z ?_)))))
   cases aI hb hb2
   exact .s (pkt hb z z z) z (.nil (ck 7 hS))
  have hg2:=hb
  have h:=aJ hb hb2
  refine .g hg2 (.s (fa T.f30_2 z z z) z (.g hg2 (.s (ld T.t3 hS z z z z z) z (.g hg2 (.q z (.g hg2 (.q z ?_)))))))
  have ⟨y3,hy3,h⟩:=bnd h
  refine .g hg2 (.c (.cO hS Tryz.func23 (aM hy3) z z ?_))
  intro W hS
  refine .g hg2 (.q z (.s (pkf hg2 z z z) z ?_))
  cases h
  exact .nil (ck 7 hS)
 intro W hS
 refine .q z ?_
 have ⟨b3,hb3,h⟩:=bnd h
 refine .cu 6 31 (b3) hS ?_ ?_
 ·refine .both (b2) (fun hb=>?_) (fun hb=>?_)
  ·refine .xx hb z (.xx hb z (.xx hb z (.xx hb z (.xx hb z ?_))))
   cases aI hb hb3
   exact .s (pkt hb z z z) z (.nil (ck 6 hS))
  have hg3:=hb
  have h:=aJ hb hb3
  refine .g hg3 (.s (fa T.f30_3 z z z) z (.g hg3 (.s (ld T.t3 hS z z z z z) z (.g hg3 (.q z ?_)))))
  have ⟨y4,hy4,h⟩:=bnd h
  refine .g hg3 (.c (.cO hS Tryz.func23 (aM hy4) z z ?_))
  intro W hS
  refine .g hg3 (.q z (.s (pkf hg3 z z z) z ?_))
  cases h
  exact .nil (ck 6 hS)
 intro W hS
 refine .nil ?_
 refine .cs z h ?_ ?_ <;> intro h
 ·obtain rfl:=o9 h
  exact .g (.qn z (.ret (ab (vs:=[_]) () (rt z rn) z (hS.to []))))
 refine .skip (.seq (.g (.qn z (.block ?_))))
 have ⟨y5,hy5,h⟩:=bnd h
 refine .via (.iter (fun s1 E' W'=>aK E' [(1,pt g1),(3,iv (a0.Harts.length : Int)),(4,iv s1)] ∧ Sep No w W' [.box g1 30 [(sv aD),(sv aC),iv a0.Turn,iv a0.Idle,(sv aO)]]) (fun y6 x E' W'=>(match y6 with | .inl o1=>x = .ret ∧ sJ w o1 E' W' | .inr o2=>x = .exit 0 ∧ aK E' [(1,pt g1)] ∧ Sep No w W' [.box g1 30 [(sv aD),(sv aC),iv a0.Turn,iv a0.Idle,(sv aO)]])) hy5 ⟨sb rfl,hS.to [0] rfl⟩ ?_) ?_
 ·intro s1 y7 E W h hI
  obtain ⟨hE,hS⟩:=hI
  refine CW.sub hE ?_
  unfold fK at h
  refine .seq (.g (.q z (.q z (.q z (.nil ?_)))))
  refine .cs z h ?_ ?_ <;> intro h
  ·refine .skip (.seq (.block (.g (.s (fa T.f30_0 z z z) z (.s (ld T.t27 hS z z z z z) z (.q z ?_))))))
   have ⟨x1,hx1,h⟩:=bnd h
   obtain ⟨k1,hd,hck1⟩:=RV.el2 aw hx1
   have hd1:=pS hd
   obtain ⟨v1,k1,rfl,q1,hd2⟩:=dF aw hd1
   obtain ⟨k1,rfl,hd3⟩:=dt aw z hd2
   obtain ⟨v2,k1,rfl,q2,hd4⟩:=dF aw hd3
   obtain rfl:=lZ aw hd4
   refine .s (ixv (hS.keep aw) hx1 T.u27 T.t38 z z z) z (.s (lde (hck1 _ hS.agree) T.t38 z z z z z) z ?_)
   have ⟨y8,hy8,h⟩:=bnd h
   refine .c (.cO hS Tryz.func61 (ou hy8 (hS.keep (q1 _ aw)) (hS.keep (q2 _ aw))) z z ?_)
   intro W hS
   refine .q z (.nil ?_)
   refine .cs z h ?_ ?_ <;> intro h
   ·refine .g (.qn z (.ret ?_))
    cases h
    exact ⟨by simp,z,ab (vs:=[_]) () (rt z rn) z (hS.to [])⟩
   refine .skip (.region (.q z (.q z (.q z (.nil ?_)))))
   cases h
   exact ⟨z,sb z,hS.to [0]⟩
  refine .exit ?_
  cases h
  exact ⟨by simp,z,sb z,hS.to [0]⟩
 intro x E W hJ
 rcases y5 with o3 | o4
 ·obtain ⟨rfl,hF⟩:=hJ
  refine ⟨_,fun _ _ h=>h,?_⟩
  cases h
  exact hF
 obtain ⟨rfl,hE,hS⟩:=hJ
 refine ⟨_,hE.sub,?_⟩
 refine .g (.s (fa T.f30_4 z z z) z (.s (ld T.t23 hS z z z z z) z (.s (fa T.f30_4 z z z) z (.s (ld T.t23 hS z z z z z) z (.s (bq (hS.keep aR) T.u23 z z) z ?_)))))
 have ⟨y9,hy9,h⟩:=bnd h
 refine .c (.cO hS Tryz.func62 (jE hy9 (hS.keep aR)) z z ?_)
 intro W hS
 obtain rfl:=o9 h
 exact .qn z (.ret (ab (vs:=[_]) () (rt z rn) z (hS.to [])))
theorem bJ {a0 : List Box} {v_0 : Hd} {w : World} {r : (List Box)} (h : fd a0 = some r) (q_0 : RO w v_0 44 2 a6 a0) : Cl 63 #[(sv v_0)] w (Ret No w (fun s : Hd=>(sv s)) (fun s=>[ae (sv s) 44 2 a6 r])):=by
 unfold fd at h
 refine ay Tryz.func63 z z ?_
 have hS:=Sep.start w
 refine .g (.qn z (.g (.c (.lg (L1:=[]) [] a6 T.u28 T.t44 (hS.to []) z z z (.nil) ?_ z (fun _=>z)))))
 intro v1 W hS
 refine .qn z (.seq (.g (.qn z (.block ?_))))
 have ⟨y1,hy1,h⟩:=bnd h
 refine .via (.iter (fun s1 E' W'=>∃ (v4 : Hd),aK E' [(0,(sv v_0)),(3,(sv v4)),(4,iv s1.2)] ∧ Sep No w W' [ae (sv v4) 44 2 a6 s1.1]) (fun y2 x E' W'=>x = .exit 0 ∧ ∃ (v5 : Hd),aK E' [(3,(sv v5))] ∧ Sep No w W' [ae (sv v5) 44 2 a6 y2]) hy1 ⟨v1,sb z,hS.to [0]⟩ ?_) ?_
 ·intro s1 y3 E W h hI
  obtain ⟨v3,hE,hS⟩:=hI
  refine CW.sub hE ?_
  unfold dV at h
  refine .seq (.g (.q z (.q z (.s (bq (hS.keep q_0) T.u28 z z) z (.q z (.nil ?_))))))
  refine .cs z h ?_ ?_ <;> intro h
  ·refine .skip (.seq (.block (.rk 17 hS [] T.mix ?_)))
   intro W hS
   have hT:=hS.to []
   refine .tp' 0 z z hT (.tp' 1 z z hT (.tp' 2 z z hT ?_))
   have ⟨x1,hx1,h⟩:=bnd h
   obtain ⟨k1,hd,hck1⟩:=RV.el2 q_0 hx1
   have hd1:=pS hd
   obtain ⟨k1,rfl,hd2⟩:=dt q_0 z hd1
   obtain ⟨v6,k1,rfl,q5,hd3⟩:=dF q_0 hd2
   obtain rfl:=lZ q_0 hd3
   refine .ts' 3 z (fun W hT=>ixv (hS.keep q_0) hx1 T.u28 T.t44 z z z) hT z (.ts' 4 z (fun W hT=>fe T.f44_0 z z z) hT z (.ts' 5 z (fun W hT=>lde (hck1 _ hT.agree) T.t3 z z z z z) hT z (.tp' 7 z z hT (.tp' 8 z z hT ?_))))
   have ⟨x2,hx2,h⟩:=bnd h
   obtain ⟨k2,hd,hck2⟩:=RV.el2 q_0 hx2
   have hd1:=pS hd
   obtain ⟨k2,rfl,hd2⟩:=dt q_0 z hd1
   obtain ⟨v7,k2,rfl,q6,hd3⟩:=dF q_0 hd2
   obtain rfl:=lZ q_0 hd3
   refine .ts' 9 z (fun W hT=>ixv (hS.keep q_0) hx2 T.u28 T.t44 z z z) hT z (.ts' 10 z (fun W hT=>fe T.f44_1 z z z) hT z (.ts' 11 z (fun W hT=>lde (hck2 _ hT.agree) T.t23 z z z z z) hT z (.by1 6 z (.liv [] (D.int .i64) T.u23 T.t3 hS z z z z ?_ z (fun _=>z)))))
   intro v8 W hS
   have hT:=hS.to []
   refine ⟨fun _=>hT,?_⟩
   have ⟨r1,hr1,h⟩:=bnd h
   refine .by1 12 z (.av hr1 hS (hS.keep (q6 _ q_0)) (fun _=>z) T.u23 T.t3 z z z ?_)
   intro v9 W hS
   have hT:=hS.to []
   refine ⟨fun _=>hT,.ts' 13 z (fun W hT=>bs T.s44 z z) hT z (.by1 14 z (.lg (L1:=[ae (sv v9) 3 1 (D.int .i64) r1]) [(Box.mk x1.Room r1)] a6 T.u28 T.t44 (hS.to [0,0]) z z z (.agg (.flat (c1:=[iv x1.Room]) z (.row .nil))) ?_ z (fun _=>z)))⟩
   intro v10 W hS
   have hT:=hS.to []
   refine ⟨fun _=>hT,?_⟩
   have ⟨r2,hr2,h⟩:=bnd h
   refine .by1 15 z (.appv hr2 (hS.to [1,0]) T.u28 T.t44 z z z ?_)
   intro v11 W hS
   have hT:=hS.to []
   refine ⟨fun _=>hT,.tp' 16 z z hT (.done (.region (.q z (.q z (.q z (.nil ?_))))))⟩
   cases h
   exact ⟨z,v11,sb z,hS.to [0]⟩
  refine .exit ?_
  cases h
  exact ⟨by simp,z,v3,sb z,hS.to [0]⟩
 intro x E W hJ
 obtain ⟨rfl,v12,hE,hS⟩:=hJ
 refine ⟨_,hE.sub,?_⟩
 obtain rfl:=o9 h
 exact .g (.q z (.qn z (.ret (ab (vs:=[_]) v12 (rt z rn) z (hS.to [0])))))
theorem sK {a0 : ah} {ai : Hd} {au : Hd} {w : World} {r : ah} (h : kg a0 = some r) (cI : RO w ai 3 1 (D.int .i64) a0.Regs) (cJ : RO w au 3 1 (D.int .i64) a0.Mem) : Cl 64 #[.agg #[(sv ai),iv a0.Pc,(sv au)]] w (Ret No w (fun s : Hd × Hd=>.agg #[(sv s.1),iv r.Pc,(sv s.2)]) (fun s=>[ae (sv s.1) 3 1 (D.int .i64) r.Regs,ae (sv s.2) 3 1 (D.int .i64) r.Mem])):=by
 unfold kg at h
 refine ay Tryz.func64 z z ?_
 have hS:=Sep.start w
 refine .g (.c (.box hS z z ?_))
 intro g1 W hS
 refine .c (.alloc T.t38 hS ?_)
 intro g2 W hS
 refine .nil (.seq ?_)
 have ⟨r1,hr1,h⟩:=bnd h
 have ⟨r2,hr2,h⟩:=bnd h
 refine .via (R':=fun x E' W'=>x = .normal ∧ ∃ (v1 : Hd) (v2 : Hd),aK E' [(2,pt g2)] ∧ Sep No w W' [.box g2 38 [(sv v1),iv a0.Pc,(sv v2)],.box g1 38 [(sv ai),iv a0.Pc,(sv au)],ae (sv v1) 3 1 (D.int .i64) r1,ae (sv v2) 3 1 (D.int .i64) r2]) ?_ ?_
 ·refine .rk 11 hS [0,0] T.mix ?_
  intro W hS
  have hT:=hS.to [0,0]
  refine .ts' 1 z (fun W hT=>fa T.f38_0 z z z) hT z (.ts' 2 z (fun W hT=>ld T.t23 hT.p1 z z z z z) hT z (.ts' 4 z (fun W hT=>fa T.f38_1 z z z) hT z (.ts' 5 z (fun W hT=>ld T.t3 hT.p1 z z z z z) hT z (.ts' 7 z (fun W hT=>fa T.f38_2 z z z) hT z (.ts' 8 z (fun W hT=>ld T.t23 hT.p1 z z z z z) hT z (.by [0,6] ⟨⟨_,z,?_⟩,⟨_,z,?_⟩,trivial⟩))))))
  ·refine (.liv [] (D.int .i64) T.u23 T.t3 hS z z z z ?_ z (fun _=>z))
   intro v3 W hS
   have hT:=hS.to [1,1]
   refine ⟨fun _=>hT,.by [3,6] ⟨⟨_,z,?_⟩,⟨_,z,?_⟩,trivial⟩⟩
   ·refine (.av hr1 hS (hS.keep cI) (fun _=>z) T.u23 T.t3 z z z ?_)
    intro v4 W hS
    have hT:=hS.to [1,1]
    refine ⟨fun _=>hT,.by1 6 z (.liv [] (D.int .i64) T.u23 T.t3 hS z z z z ?_ z (fun _=>z))⟩
    intro v5 W hS
    have hT:=hS.to [2,2]
    refine ⟨fun _=>hT,.by1 9 z (.av hr2 hS (hS.keep cJ) (fun _=>z) T.u23 T.t3 z z z ?_)⟩
    intro v6 W hS
    have hT:=hS.to [2,2]
    refine ⟨fun _=>hT,.ts' 10 z (fun W hT=>bs T.s38 z z) hT z (.by1 11 z (.st T.t38 hS.p2 z z z ?_))⟩
    intro W hS
    refine ⟨fun h=>absurd z h,?_⟩
    exact .done (⟨z,v4,v6,sb z,hS.to [0,2,1,0]⟩)
   refine (.liv [] (D.int .i64) T.u23 T.t3 hS z z z z ?_ z (fun _=>z))
   intro v7 W hS
   have hT:=hS.to [2,2]
   refine ⟨fun _=>hT,.by1 3 z (.av hr1 hS.p1 (hS.keep cI) (fun _=>z) T.u23 T.t3 z z z ?_)⟩
   intro v8 W hS
   have hT:=hS.to [2,2]
   refine ⟨fun _=>hT,.by1 9 z (.av hr2 hS.p1 (hS.keep cJ) (fun _=>z) T.u23 T.t3 z z z ?_)⟩
   intro v9 W hS
   have hT:=hS.to [2,2]
   refine ⟨fun _=>hT,.ts' 10 z (fun W hT=>bs T.s38 z z) hT z (.by1 11 z (.st T.t38 hS.p2 z z z ?_))⟩
   intro W hS
   refine ⟨fun h=>absurd z h,?_⟩
   exact .done (⟨z,v8,v9,sb z,hS.to [0,2,1,0]⟩)
  refine (.liv [] (D.int .i64) T.u23 T.t3 hS z z z z ?_ z (fun _=>z))
  intro v10 W hS
  have hT:=hS.to [1,1]
  refine ⟨fun _=>hT,.by1 0 z (.liv [] (D.int .i64) T.u23 T.t3 hS z z z z ?_ z (fun _=>z))⟩
  intro v11 W hS
  have hT:=hS.to [2,2]
  refine ⟨fun _=>hT,.by1 3 z (.av hr1 hS (hS.keep cI) (fun _=>z) T.u23 T.t3 z z z ?_)⟩
  intro v12 W hS
  have hT:=hS.to [2,2]
  refine ⟨fun _=>hT,.by1 9 z (.av hr2 hS.p1 (hS.keep cJ) (fun _=>z) T.u23 T.t3 z z z ?_)⟩
  intro v13 W hS
  have hT:=hS.to [2,2]
  refine ⟨fun _=>hT,.ts' 10 z (fun W hT=>bs T.s38 z z) hT z (.by1 11 z (.st T.t38 hS.p2 z z z ?_))⟩
  intro W hS
  refine ⟨fun h=>absurd z h,?_⟩
  exact .done (⟨z,v12,v13,sb z,hS.to [0,2,1,0]⟩)
 intro x E W hJ
 obtain ⟨rfl,v14,v15,hE,hS⟩:=hJ
 refine ⟨_,hE.sub,?_⟩
 cases h
 exact .ret (ab (vs:=[_]) (v14,v15) (rc hS T.t38 z rn z z) z (hS.to [2,2]))
theorem sL {a0 : aH} {aD : Hd} {aC : Hd} {aO : Hd} {w : World} {r : aH} (h : kh a0 = some r) (aw : RO w aD 38 3 aq a0.Harts) (aA : RO w aC 44 2 a6 a0.Boxes) (aR : RO w aO 3 1 (D.int .i64) a0.Out) : Cl 38 #[.agg #[(sv aD),(sv aC),iv a0.Turn,iv a0.Idle,(sv aO)]] w (Ret No w (fun s : Hd × Hd × Hd=>.agg #[(sv s.1),(sv s.2.1),iv r.Turn,iv r.Idle,(sv s.2.2)]) (fun s=>[ae (sv s.1) 38 3 aq r.Harts,ae (sv s.2.1) 44 2 a6 r.Boxes,ae (sv s.2.2) 3 1 (D.int .i64) r.Out])):=by
 unfold kh at h
 refine ay Tryz.func38 z z ?_
 have hS:=Sep.start w
 refine .g (.c (.box hS z z ?_))
 intro g1 W hS
 refine .c (.alloc T.t30 hS ?_)
 intro g2 W hS
 refine .nil (.seq ?_)
 have ⟨y1,hy1,h⟩:=bnd h
 have ⟨r1,hr1,h⟩:=bnd h
 refine .via (R':=fun x E' W'=>x = .normal ∧ ∃ (g3 : Nat) (v1 : Hd) (v2 : Hd) (v3 : Hd),aK E' [(1,pt g1),(2,pt g2),(3,pt g3)] ∧ Sep No w W' [.box g2 30 [(sv aP),(sv aP),iv 0,iv 0,(sv aP)],.box g1 30 [(sv aD),(sv aC),iv a0.Turn,iv a0.Idle,(sv aO)],.box g3 30 [(sv v1),(sv v2),iv a0.Turn,iv a0.Idle,(sv v3)],ae (sv v1) 38 3 aq [],ae (sv v2) 44 2 a6 y1,ae (sv v3) 3 1 (D.int .i64) r1]) ?_ ?_
 ·refine .rk 14 hS [0,0] T.mix ?_
  intro W hS
  have hT:=hS.to [0,0]
  refine .memo (fun E' W'=>∃ (v7 : Hd) (v8 : Hd) (v9 : Hd),aK E' [(1,pt g1),(2,pt g2),(5,(sv v7)),(8,(sv v8)),(10,iv a0.Turn),(12,iv a0.Idle),(16,(sv v9))] ∧ Sep No w W' [.box g2 30 [(sv aP),(sv aP),iv 0,iv 0,(sv aP)],.box g1 30 [(sv aD),(sv aC),iv a0.Turn,iv a0.Idle,(sv aO)],ae (sv v7) 38 3 aq [],ae (sv v8) 44 2 a6 y1,ae (sv v9) 3 1 (D.int .i64) r1]) 3 (ky 15 [0,1,2,3,4,5,6,7,8,9,10,11]) ?_ ?_
  ·intro E W hJ
   obtain ⟨v10,v11,v12,hE,hS⟩:=hJ
   refine .sub hE ?_
   have hT:=hS.to [0,0]
   refine .ts' 12 z (fun W hT=>bs T.s30 z z) hT z (.by1 13 z (.alloc T.t30 hS ?_))
   intro g4 W hS
   have hT:=hS.to [1,1]
   refine ⟨fun _=>hT,.by1 14 z (.st T.t30 hS z z z ?_)⟩
   intro W hS
   refine ⟨fun h=>absurd z h,?_⟩
   exact .done (⟨z,g4,v10,v11,v12,sb z,hS.to [1,1,0,0,0,0]⟩)
  intro J1
  refine .memo (fun E' W'=>∃ (g6 : Nat) (v15 : Hd) (v16 : Hd),aK E' [(1,pt g1),(2,pt g2),(3,pt g6),(8,(sv v15)),(10,iv a0.Turn),(12,iv a0.Idle),(16,(sv v16))] ∧ Sep No w W' [.box g2 30 [(sv aP),(sv aP),iv 0,iv 0,(sv aP)],.box g1 30 [(sv aD),(sv aC),iv a0.Turn,iv a0.Idle,(sv aO)],.box g6 30 [(sv aP),(sv aP),iv 0,iv 0,(sv aP)],ae (sv v15) 44 2 a6 y1,ae (sv v16) 3 1 (D.int .i64) r1]) 3 (ky 15 [1,2,3,4,5,6,7,8,9,10,11,13]) ?_ ?_
  ·intro E W hJ
   obtain ⟨g7,v17,v18,hE,hS⟩:=hJ
   refine .sub hE ?_
   have hT:=hS.to [0,0]
   refine .by1 0 z (.lg (L1:=[]) [] aq T.u27 T.t38 (hS.to [0,0,0,0,0]) z z z (.nil) ?_ z (fun _=>z))
   intro v19 W hS
   have hT:=hS.to [1,1]
   refine ⟨fun _=>hT,.ts' 12 z (fun W hT=>bs T.s30 z z) hT z (.by1 14 z (.st T.t30 hS.p3 z z z ?_))⟩
   intro W hS
   refine ⟨fun h=>absurd z h,?_⟩
   exact .done (⟨z,g7,v19,v17,v18,sb z,hS.to [2,2,0,0,0,0]⟩)
  intro J2
  refine .memo (fun E' W'=>∃ (v24 : Hd) (v25 : Hd) (v26 : Hd) (v27 : Hd),(∀ (T : Nat → Prop),RV w T (sv aD) 38 3 aq a0.Harts → RV w T (sv aC) 44 2 a6 a0.Boxes → RV w T (sv aO) 3 1 (D.int .i64) a0.Out → RV w T (sv v27) 3 1 (D.int .i64) a0.Out) ∧ aK E' [(1,pt g1),(2,pt g2),(5,(sv v24)),(8,(sv v25)),(10,iv a0.Turn),(12,iv a0.Idle),(13,(sv v26)),(15,(sv v27))] ∧ Sep No w W' [.box g2 30 [(sv aP),(sv aP),iv 0,iv 0,(sv aP)],.box g1 30 [(sv aD),(sv aC),iv a0.Turn,iv a0.Idle,(sv aO)],ae (sv v24) 38 3 aq [],ae (sv v25) 44 2 a6 y1,ae (sv v26) 3 1 (D.int .i64) []]) 4 (ky 15 [0,1,2,3,4,5,6,7,8,9,10]) ?_ ?_
  ·intro E W hJ
   obtain ⟨v28,v29,v30,v31,q34,hE,hS⟩:=hJ
   refine .sub hE ?_
   have hT:=hS.to [0,0]
   refine .by [11,13] ⟨⟨_,z,?_⟩,⟨_,z,?_⟩,trivial⟩
   ·refine (.av hr1 hS.p4 (hS.keep (q34 _ aw aA aR)) (fun _=>z) T.u23 T.t3 z z z ?_)
    intro v32 W hS
    have hT:=hS.to [1,1]
    refine ⟨fun _=>hT,?_⟩
    exact .atl (J1 _ _ ⟨v28,v29,v32,sb z,hS.to [1,1,1,1,0]⟩) (by kernel_rfl)
   refine (.alloc T.t30 hS ?_)
   intro g8 W hS
   have hT:=hS.to [1,1]
   refine ⟨fun _=>hT,.by1 11 z (.av hr1 hS.p5 (hS.keep (q34 _ aw aA aR)) (fun _=>z) T.u23 T.t3 z z z ?_)⟩
   intro v33 W hS
   have hT:=hS.to [2,2]
   refine ⟨fun _=>hT,.ts' 12 z (fun W hT=>bs T.s30 z z) hT z (.by1 14 z (.st T.t30 hS.p1 z z z ?_))⟩
   intro W hS
   refine ⟨fun h=>absurd z h,?_⟩
   exact .done (⟨z,g8,v28,v29,v33,sb z,hS.to [2,2,0,1,1,0]⟩)
  intro J3
  refine .memo (fun E' W'=>∃ (g10 : Nat) (v37 : Hd) (v38 : Hd) (v39 : Hd),(∀ (T : Nat → Prop),RV w T (sv aD) 38 3 aq a0.Harts → RV w T (sv aC) 44 2 a6 a0.Boxes → RV w T (sv aO) 3 1 (D.int .i64) a0.Out → RV w T (sv v39) 3 1 (D.int .i64) a0.Out) ∧ aK E' [(1,pt g1),(2,pt g2),(3,pt g10),(5,(sv v37)),(8,(sv v38)),(10,iv a0.Turn),(12,iv a0.Idle),(15,(sv v39))] ∧ Sep No w W' [.box g2 30 [(sv aP),(sv aP),iv 0,iv 0,(sv aP)],.box g1 30 [(sv aD),(sv aC),iv a0.Turn,iv a0.Idle,(sv aO)],.box g10 30 [(sv aP),(sv aP),iv 0,iv 0,(sv aP)],ae (sv v37) 38 3 aq [],ae (sv v38) 44 2 a6 y1]) 4 (ky 15 [0,1,2,3,4,5,6,7,9,10,13]) ?_ ?_
  ·intro E W hJ
   obtain ⟨g11,v40,v41,v42,q46,hE,hS⟩:=hJ
   refine .sub hE ?_
   have hT:=hS.to [0,0]
   refine .by1 8 z (.liv [] (D.int .i64) T.u23 T.t3 hS z z z z ?_ z (fun _=>z))
   intro v43 W hS
   have hT:=hS.to [1,1]
   refine ⟨fun _=>hT,.by1 11 z (.av hr1 hS (hS.keep (q46 _ aw aA aR)) (fun _=>z) T.u23 T.t3 z z z ?_)⟩
   intro v44 W hS
   have hT:=hS.to [1,1]
   refine ⟨fun _=>hT,.ts' 12 z (fun W hT=>bs T.s30 z z) hT z (.by1 14 z (.st T.t30 hS.p3 z z z ?_))⟩
   intro W hS
   refine ⟨fun h=>absurd z h,?_⟩
   exact .done (⟨z,g11,v40,v41,v44,sb z,hS.to [2,2,0,1,1,0]⟩)
  intro J4
  refine .memo (fun E' W'=>∃ (g13 : Nat) (v49 : Hd) (v50 : Hd) (v51 : Hd) (v52 : Hd),(∀ (T : Nat → Prop),RV w T (sv aD) 38 3 aq a0.Harts → RV w T (sv aC) 44 2 a6 a0.Boxes → RV w T (sv aO) 3 1 (D.int .i64) a0.Out → RV w T (sv v50) 44 2 a6 a0.Boxes) ∧ (∀ (T : Nat → Prop),RV w T (sv aD) 38 3 aq a0.Harts → RV w T (sv aC) 44 2 a6 a0.Boxes → RV w T (sv aO) 3 1 (D.int .i64) a0.Out → RV w T (sv v52) 3 1 (D.int .i64) a0.Out) ∧ aK E' [(1,pt g1),(2,pt g2),(3,pt g13),(5,(sv v49)),(7,(sv v50)),(10,iv a0.Turn),(12,iv a0.Idle),(13,(sv v51)),(15,(sv v52))] ∧ Sep No w W' [.box g2 30 [(sv aP),(sv aP),iv 0,iv 0,(sv aP)],.box g1 30 [(sv aD),(sv aC),iv a0.Turn,iv a0.Idle,(sv aO)],.box g13 30 [(sv aP),(sv aP),iv 0,iv 0,(sv aP)],ae (sv v49) 38 3 aq [],ae (sv v51) 3 1 (D.int .i64) []]) 4 (ky 15 [0,1,2,4,5,6,7,8,9,10,13]) ?_ ?_
  ·intro E W hJ
   obtain ⟨g14,v53,v54,v55,v56,q59,q61,hE,hS⟩:=hJ
   refine .sub hE ?_
   have hT:=hS.to [0,0]
   refine .by1 3 z (.cV hS Tryz.func63 (bJ hy1 (hS.keep (q59 _ aw aA aR))) z z ?_)
   intro v57 W hS
   have hT:=hS.to [1,1]
   refine ⟨fun _=>hT,.by1 11 z (.av hr1 hS.p5 (hS.keep (q61 _ aw aA aR)) (fun _=>z) T.u23 T.t3 z z z ?_)⟩
   intro v58 W hS
   have hT:=hS.to [2,2]
   refine ⟨fun _=>hT,.ts' 12 z (fun W hT=>bs T.s30 z z) hT z (.by1 14 z (.st T.t30 hS.p4 z z z ?_))⟩
   intro W hS
   refine ⟨fun h=>absurd z h,?_⟩
   exact .done (⟨z,g14,v53,v57,v58,sb z,hS.to [3,3,0,2,1,0]⟩)
  intro J5
  refine .memo (fun E' W'=>∃ (g16 : Nat) (v62 : Hd) (v63 : Hd) (v64 : Hd),(∀ (T : Nat → Prop),RV w T (sv aD) 38 3 aq a0.Harts → RV w T (sv aC) 44 2 a6 a0.Boxes → RV w T (sv aO) 3 1 (D.int .i64) a0.Out → RV w T (sv v64) 3 1 (D.int .i64) a0.Out) ∧ aK E' [(1,pt g1),(2,pt g2),(3,pt g16),(8,(sv v62)),(10,iv a0.Turn),(12,iv a0.Idle),(13,(sv v63)),(15,(sv v64))] ∧ Sep No w W' [.box g2 30 [(sv aP),(sv aP),iv 0,iv 0,(sv aP)],.box g1 30 [(sv aD),(sv aC),iv a0.Turn,iv a0.Idle,(sv aO)],.box g16 30 [(sv aP),(sv aP),iv 0,iv 0,(sv aP)],ae (sv v62) 44 2 a6 y1,ae (sv v63) 3 1 (D.int .i64) []]) 4 (ky 15 [1,2,3,4,5,6,7,8,9,10,13]) ?_ ?_
  ·intro E W hJ
   obtain ⟨g17,v65,v66,v67,q73,hE,hS⟩:=hJ
   refine .sub hE ?_
   have hT:=hS.to [0,0]
   refine .by [0,11] ⟨⟨_,z,?_⟩,⟨_,z,?_⟩,trivial⟩
   ·refine (.lg (L1:=[]) [] aq T.u27 T.t38 (hS.to [0,0,0,0,0]) z z z (.nil) ?_ z (fun _=>z))
    intro v68 W hS
    have hT:=hS.to [1,1]
    refine ⟨fun _=>hT,.by1 11 z (.av hr1 hS.p5 (hS.keep (q73 _ aw aA aR)) (fun _=>z) T.u23 T.t3 z z z ?_)⟩
    intro v69 W hS
    have hT:=hS.to [2,2]
    refine ⟨fun _=>hT,.ts' 12 z (fun W hT=>bs T.s30 z z) hT z (.by1 14 z (.st T.t30 hS.p4 z z z ?_))⟩
    intro W hS
    refine ⟨fun h=>absurd z h,?_⟩
    exact .done (⟨z,g17,v68,v65,v69,sb z,hS.to [3,3,0,1,1,0]⟩)
   refine (.av hr1 hS.p4 (hS.keep (q73 _ aw aA aR)) (fun _=>z) T.u23 T.t3 z z z ?_)
   intro v70 W hS
   have hT:=hS.to [1,1]
   refine ⟨fun _=>hT,?_⟩
   exact .atl (J2 _ _ ⟨g17,v65,v70,sb z,hS.to [1,1,1,1,0]⟩) (by kernel_rfl)
  intro J6
  refine .memo (fun E' W'=>∃ (v74 : Hd) (v75 : Hd) (v76 : Hd),(∀ (T : Nat → Prop),RV w T (sv aD) 38 3 aq a0.Harts → RV w T (sv aC) 44 2 a6 a0.Boxes → RV w T (sv aO) 3 1 (D.int .i64) a0.Out → RV w T (sv v76) 3 1 (D.int .i64) a0.Out) ∧ aK E' [(1,pt g1),(2,pt g2),(5,(sv v74)),(8,(sv v75)),(10,iv a0.Turn),(12,iv a0.Idle),(15,(sv v76))] ∧ Sep No w W' [.box g2 30 [(sv aP),(sv aP),iv 0,iv 0,(sv aP)],.box g1 30 [(sv aD),(sv aC),iv a0.Turn,iv a0.Idle,(sv aO)],ae (sv v74) 38 3 aq [],ae (sv v75) 44 2 a6 y1]) 5 (ky 15 [0,1,2,3,4,5,6,7,9,10]) ?_ ?_
  ·intro E W hJ
   obtain ⟨v77,v78,v79,q82,hE,hS⟩:=hJ
   refine .sub hE ?_
   have hT:=hS.to [0,0]
   refine .by [8,13] ⟨⟨_,z,?_⟩,⟨_,z,?_⟩,trivial⟩
   ·refine (.liv [] (D.int .i64) T.u23 T.t3 hS z z z z ?_ z (fun _=>z))
    intro v80 W hS
    have hT:=hS.to [1,1]
    refine ⟨fun _=>hT,?_⟩
    exact .atl (J3 _ _ ⟨v77,v78,v80,v79,fun _ aw aA aR=>(q82 _ aw aA aR),sb z,hS.to [1,1,1,1,0]⟩) (by kernel_rfl)
   refine (.alloc T.t30 hS ?_)
   intro g18 W hS
   have hT:=hS.to [1,1]
   refine ⟨fun _=>hT,?_⟩
   exact .atl (J4 _ _ ⟨g18,v77,v78,v79,fun _ aw aA aR=>(q82 _ aw aA aR),sb z,hS.to [1,1,0,0,0]⟩) (by kernel_rfl)
  intro J7
  refine .memo (fun E' W'=>∃ (v84 : Hd) (v85 : Hd) (v86 : Hd),(∀ (T : Nat → Prop),RV w T (sv aD) 38 3 aq a0.Harts → RV w T (sv aC) 44 2 a6 a0.Boxes → RV w T (sv aO) 3 1 (D.int .i64) a0.Out → RV w T (sv v86) 3 1 (D.int .i64) a0.Out) ∧ aK E' [(1,pt g1),(2,pt g2),(8,(sv v84)),(10,iv a0.Turn),(12,iv a0.Idle),(13,(sv v85)),(15,(sv v86))] ∧ Sep No w W' [.box g2 30 [(sv aP),(sv aP),iv 0,iv 0,(sv aP)],.box g1 30 [(sv aD),(sv aC),iv a0.Turn,iv a0.Idle,(sv aO)],ae (sv v84) 44 2 a6 y1,ae (sv v85) 3 1 (D.int .i64) []]) 5 (ky 15 [1,2,3,4,5,6,7,8,9,10]) ?_ ?_
  ·intro E W hJ
   obtain ⟨v87,v88,v89,q91,hE,hS⟩:=hJ
   refine .sub hE ?_
   have hT:=hS.to [0,0]
   refine .by [0,11,13] ⟨⟨_,z,?_⟩,⟨_,z,?_⟩,⟨_,z,?_⟩,trivial⟩
   ·refine (.lg (L1:=[]) [] aq T.u27 T.t38 (hS.to [0,0,0,0]) z z z (.nil) ?_ z (fun _=>z))
    intro v90 W hS
    have hT:=hS.to [1,1]
    refine ⟨fun _=>hT,?_⟩
    exact .atl (J3 _ _ ⟨v90,v87,v88,v89,fun _ aw aA aR=>(q91 _ aw aA aR),sb z,hS.to [1,1,0,0,0]⟩) (by kernel_rfl)
   ·refine (.av hr1 hS.p3 (hS.keep (q91 _ aw aA aR)) (fun _=>z) T.u23 T.t3 z z z ?_)
    intro v91 W hS
    have hT:=hS.to [1,1]
    refine ⟨fun _=>hT,.by [0,13] ⟨⟨_,z,?_⟩,⟨_,z,?_⟩,trivial⟩⟩
    ·refine (.lg (L1:=[]) [] aq T.u27 T.t38 (hS.to [0,0,0,0]) z z z (.nil) ?_ z (fun _=>z))
     intro v92 W hS
     have hT:=hS.to [2,2]
     refine ⟨fun _=>hT,?_⟩
     exact .atl (J1 _ _ ⟨v92,v87,v91,sb z,hS.to [2,2,0,1,0]⟩) (by kernel_rfl)
    refine (.alloc T.t30 hS ?_)
    intro g19 W hS
    have hT:=hS.to [2,2]
    refine ⟨fun _=>hT,?_⟩
    exact .atl (J2 _ _ ⟨g19,v87,v91,sb z,hS.to [2,2,0,1,0]⟩) (by kernel_rfl)
   refine (.alloc T.t30 hS ?_)
   intro g20 W hS
   have hT:=hS.to [1,1]
   refine ⟨fun _=>hT,?_⟩
   exact .atl (J6 _ _ ⟨g20,v87,v88,v89,fun _ aw aA aR=>(q91 _ aw aA aR),sb z,hS.to [1,1,0,0,0]⟩) (by kernel_rfl)
  intro J8
  refine .memo (fun E' W'=>∃ (g22 : Nat) (v95 : Hd) (v96 : Hd),(∀ (T : Nat → Prop),RV w T (sv aD) 38 3 aq a0.Harts → RV w T (sv aC) 44 2 a6 a0.Boxes → RV w T (sv aO) 3 1 (D.int .i64) a0.Out → RV w T (sv v96) 3 1 (D.int .i64) a0.Out) ∧ aK E' [(1,pt g1),(2,pt g2),(3,pt g22),(8,(sv v95)),(10,iv a0.Turn),(12,iv a0.Idle),(15,(sv v96))] ∧ Sep No w W' [.box g2 30 [(sv aP),(sv aP),iv 0,iv 0,(sv aP)],.box g1 30 [(sv aD),(sv aC),iv a0.Turn,iv a0.Idle,(sv aO)],.box g22 30 [(sv aP),(sv aP),iv 0,iv 0,(sv aP)],ae (sv v95) 44 2 a6 y1]) 5 (ky 15 [1,2,3,4,5,6,7,9,10,13]) ?_ ?_
  ·intro E W hJ
   obtain ⟨g23,v97,v98,q100,hE,hS⟩:=hJ
   refine .sub hE ?_
   have hT:=hS.to [0,0]
   refine .by [0,8] ⟨⟨_,z,?_⟩,⟨_,z,?_⟩,trivial⟩
   ·refine (.lg (L1:=[]) [] aq T.u27 T.t38 (hS.to [0,0,0,0]) z z z (.nil) ?_ z (fun _=>z))
    intro v99 W hS
    have hT:=hS.to [1,1]
    refine ⟨fun _=>hT,?_⟩
    exact .atl (J4 _ _ ⟨g23,v99,v97,v98,fun _ aw aA aR=>(q100 _ aw aA aR),sb z,hS.to [1,1,1,0,0]⟩) (by kernel_rfl)
   refine (.liv [] (D.int .i64) T.u23 T.t3 hS z z z z ?_ z (fun _=>z))
   intro v100 W hS
   have hT:=hS.to [1,1]
   refine ⟨fun _=>hT,?_⟩
   exact .atl (J6 _ _ ⟨g23,v97,v100,v98,fun _ aw aA aR=>(q100 _ aw aA aR),sb z,hS.to [1,1,1,1,0]⟩) (by kernel_rfl)
  intro J9
  refine .ts' 1 z (fun W hT=>fa T.f30_1 z z z) hT z (.ts' 2 z (fun W hT=>ld T.t28 hT.p1 z z z z z) hT z (.ts' 4 z (fun W hT=>fa T.f30_2 z z z) hT z (.ts' 5 z (fun W hT=>ld T.t3 hT.p1 z z z z z) hT z (.ts' 6 z (fun W hT=>fa T.f30_3 z z z) hT z (.ts' 7 z (fun W hT=>ld T.t3 hT.p1 z z z z z) hT z (.ts' 9 z (fun W hT=>fa T.f30_4 z z z) hT z (.ts' 10 z (fun W hT=>ld T.t23 hT.p1 z z z z z) hT z (.by [0,3,8,13] ⟨⟨_,z,?_⟩,⟨_,z,?_⟩,⟨_,z,?_⟩,⟨_,z,?_⟩,trivial⟩))))))))
  ·refine (.lg (L1:=[]) [] aq T.u27 T.t38 (hS.to [0,0]) z z z (.nil) ?_ z (fun _=>z))
   intro v101 W hS
   have hT:=hS.to [1,1]
   refine ⟨fun _=>hT,.by [3,8,13] ⟨⟨_,z,?_⟩,⟨_,z,?_⟩,⟨_,z,?_⟩,trivial⟩⟩
   ·refine (.cV hS Tryz.func63 (bJ hy1 (hS.keep aA)) z z ?_)
    intro v102 W hS
    have hT:=hS.to [2,2]
    refine ⟨fun _=>hT,?_⟩
    exact .atl (J7 _ _ ⟨v101,v102,aO,fun _ aw aA aR=>aR,sb z,hS.to [2,2,1,0]⟩) (by kernel_rfl)
   ·refine (.liv [] (D.int .i64) T.u23 T.t3 hS z z z z ?_ z (fun _=>z))
    intro v103 W hS
    have hT:=hS.to [2,2]
    refine ⟨fun _=>hT,.by [3,13] ⟨⟨_,z,?_⟩,⟨_,z,?_⟩,trivial⟩⟩
    ·refine (.cV hS Tryz.func63 (bJ hy1 (hS.keep aA)) z z ?_)
     intro v104 W hS
     have hT:=hS.to [3,3]
     refine ⟨fun _=>hT,?_⟩
     exact .atl (J3 _ _ ⟨v101,v104,v103,aO,fun _ aw aA aR=>aR,sb z,hS.to [3,3,2,0,0]⟩) (by kernel_rfl)
    refine (.alloc T.t30 hS ?_)
    intro g24 W hS
    have hT:=hS.to [3,3]
    refine ⟨fun _=>hT,?_⟩
    exact .atl (J5 _ _ ⟨g24,v101,aC,v103,aO,fun _ aw aA aR=>aA,fun _ aw aA aR=>aR,sb z,hS.to [3,3,0,1,0]⟩) (by kernel_rfl)
   refine (.alloc T.t30 hS ?_)
   intro g25 W hS
   have hT:=hS.to [2,2]
   refine ⟨fun _=>hT,.by [3,8] ⟨⟨_,z,?_⟩,⟨_,z,?_⟩,trivial⟩⟩
   ·refine (.cV hS Tryz.func63 (bJ hy1 (hS.keep aA)) z z ?_)
    intro v105 W hS
    have hT:=hS.to [3,3]
    refine ⟨fun _=>hT,?_⟩
    exact .atl (J4 _ _ ⟨g25,v101,v105,aO,fun _ aw aA aR=>aR,sb z,hS.to [3,3,1,1,0]⟩) (by kernel_rfl)
   refine (.liv [] (D.int .i64) T.u23 T.t3 hS z z z z ?_ z (fun _=>z))
   intro v106 W hS
   have hT:=hS.to [3,3]
   refine ⟨fun _=>hT,?_⟩
   exact .atl (J5 _ _ ⟨g25,v101,aC,v106,aO,fun _ aw aA aR=>aA,fun _ aw aA aR=>aR,sb z,hS.to [3,3,1,1,0]⟩) (by kernel_rfl)
  ·refine (.cV hS Tryz.func63 (bJ hy1 (hS.keep aA)) z z ?_)
   intro v107 W hS
   have hT:=hS.to [1,1]
   refine ⟨fun _=>hT,.by [0,8,13] ⟨⟨_,z,?_⟩,⟨_,z,?_⟩,⟨_,z,?_⟩,trivial⟩⟩
   ·refine (.lg (L1:=[]) [] aq T.u27 T.t38 (hS.to [0,0,0]) z z z (.nil) ?_ z (fun _=>z))
    intro v108 W hS
    have hT:=hS.to [2,2]
    refine ⟨fun _=>hT,?_⟩
    exact .atl (J7 _ _ ⟨v108,v107,aO,fun _ aw aA aR=>aR,sb z,hS.to [2,2,0,0]⟩) (by kernel_rfl)
   ·refine (.liv [] (D.int .i64) T.u23 T.t3 hS z z z z ?_ z (fun _=>z))
    intro v109 W hS
    have hT:=hS.to [2,2]
    refine ⟨fun _=>hT,?_⟩
    exact .atl (J8 _ _ ⟨v107,v109,aO,fun _ aw aA aR=>aR,sb z,hS.to [2,2,1,0]⟩) (by kernel_rfl)
   refine (.alloc T.t30 hS ?_)
   intro g26 W hS
   have hT:=hS.to [2,2]
   refine ⟨fun _=>hT,?_⟩
   exact .atl (J9 _ _ ⟨g26,v107,aO,fun _ aw aA aR=>aR,sb z,hS.to [2,2,0,0]⟩) (by kernel_rfl)
  ·refine (.liv [] (D.int .i64) T.u23 T.t3 hS z z z z ?_ z (fun _=>z))
   intro v110 W hS
   have hT:=hS.to [1,1]
   refine ⟨fun _=>hT,.by [0,3,13] ⟨⟨_,z,?_⟩,⟨_,z,?_⟩,⟨_,z,?_⟩,trivial⟩⟩
   ·refine (.lg (L1:=[]) [] aq T.u27 T.t38 (hS.to [0,0,0]) z z z (.nil) ?_ z (fun _=>z))
    intro v111 W hS
    have hT:=hS.to [2,2]
    refine ⟨fun _=>hT,.by [3,13] ⟨⟨_,z,?_⟩,⟨_,z,?_⟩,trivial⟩⟩
    ·refine (.cV hS Tryz.func63 (bJ hy1 (hS.keep aA)) z z ?_)
     intro v112 W hS
     have hT:=hS.to [3,3]
     refine ⟨fun _=>hT,?_⟩
     exact .atl (J3 _ _ ⟨v111,v112,v110,aO,fun _ aw aA aR=>aR,sb z,hS.to [3,3,1,0,0]⟩) (by kernel_rfl)
    refine (.alloc T.t30 hS ?_)
    intro g27 W hS
    have hT:=hS.to [3,3]
    refine ⟨fun _=>hT,?_⟩
    exact .atl (J5 _ _ ⟨g27,v111,aC,v110,aO,fun _ aw aA aR=>aA,fun _ aw aA aR=>aR,sb z,hS.to [3,3,0,0,0]⟩) (by kernel_rfl)
   ·refine (.cV hS Tryz.func63 (bJ hy1 (hS.keep aA)) z z ?_)
    intro v113 W hS
    have hT:=hS.to [2,2]
    refine ⟨fun _=>hT,?_⟩
    exact .atl (J8 _ _ ⟨v113,v110,aO,fun _ aw aA aR=>aR,sb z,hS.to [2,2,0,0]⟩) (by kernel_rfl)
   refine (.alloc T.t30 hS ?_)
   intro g28 W hS
   have hT:=hS.to [2,2]
   refine ⟨fun _=>hT,.by [0,3] ⟨⟨_,z,?_⟩,⟨_,z,?_⟩,trivial⟩⟩
   ·refine (.lg (L1:=[]) [] aq T.u27 T.t38 (hS.to [0,0,0,0]) z z z (.nil) ?_ z (fun _=>z))
    intro v114 W hS
    have hT:=hS.to [3,3]
    refine ⟨fun _=>hT,?_⟩
    exact .atl (J5 _ _ ⟨g28,v114,aC,v110,aO,fun _ aw aA aR=>aA,fun _ aw aA aR=>aR,sb z,hS.to [3,3,1,0,0]⟩) (by kernel_rfl)
   refine (.cV hS Tryz.func63 (bJ hy1 (hS.keep aA)) z z ?_)
   intro v115 W hS
   have hT:=hS.to [3,3]
   refine ⟨fun _=>hT,?_⟩
   exact .atl (J6 _ _ ⟨g28,v115,v110,aO,fun _ aw aA aR=>aR,sb z,hS.to [3,3,1,0,0]⟩) (by kernel_rfl)
  refine (.alloc T.t30 hS ?_)
  intro g29 W hS
  have hT:=hS.to [1,1]
  refine ⟨fun _=>hT,.by [0,3,8] ⟨⟨_,z,?_⟩,⟨_,z,?_⟩,⟨_,z,?_⟩,trivial⟩⟩
  ·refine (.lg (L1:=[]) [] aq T.u27 T.t38 (hS.to [0,0,0]) z z z (.nil) ?_ z (fun _=>z))
   intro v116 W hS
   have hT:=hS.to [2,2]
   refine ⟨fun _=>hT,.by [3,8] ⟨⟨_,z,?_⟩,⟨_,z,?_⟩,trivial⟩⟩
   ·refine (.cV hS Tryz.func63 (bJ hy1 (hS.keep aA)) z z ?_)
    intro v117 W hS
    have hT:=hS.to [3,3]
    refine ⟨fun _=>hT,?_⟩
    exact .atl (J4 _ _ ⟨g29,v116,v117,aO,fun _ aw aA aR=>aR,sb z,hS.to [3,3,2,1,0]⟩) (by kernel_rfl)
   refine (.liv [] (D.int .i64) T.u23 T.t3 hS z z z z ?_ z (fun _=>z))
   intro v118 W hS
   have hT:=hS.to [3,3]
   refine ⟨fun _=>hT,?_⟩
   exact .atl (J5 _ _ ⟨g29,v116,aC,v118,aO,fun _ aw aA aR=>aA,fun _ aw aA aR=>aR,sb z,hS.to [3,3,2,1,0]⟩) (by kernel_rfl)
  ·refine (.cV hS Tryz.func63 (bJ hy1 (hS.keep aA)) z z ?_)
   intro v119 W hS
   have hT:=hS.to [2,2]
   refine ⟨fun _=>hT,?_⟩
   exact .atl (J9 _ _ ⟨g29,v119,aO,fun _ aw aA aR=>aR,sb z,hS.to [2,2,1,0]⟩) (by kernel_rfl)
  refine (.liv [] (D.int .i64) T.u23 T.t3 hS z z z z ?_ z (fun _=>z))
  intro v120 W hS
  have hT:=hS.to [2,2]
  refine ⟨fun _=>hT,.by [0,3] ⟨⟨_,z,?_⟩,⟨_,z,?_⟩,trivial⟩⟩
  ·refine (.lg (L1:=[]) [] aq T.u27 T.t38 (hS.to [0,0,0,0]) z z z (.nil) ?_ z (fun _=>z))
   intro v121 W hS
   have hT:=hS.to [3,3]
   refine ⟨fun _=>hT,?_⟩
   exact .atl (J5 _ _ ⟨g29,v121,aC,v120,aO,fun _ aw aA aR=>aA,fun _ aw aA aR=>aR,sb z,hS.to [3,3,2,0,0]⟩) (by kernel_rfl)
  refine (.cV hS Tryz.func63 (bJ hy1 (hS.keep aA)) z z ?_)
  intro v122 W hS
  have hT:=hS.to [3,3]
  refine ⟨fun _=>hT,?_⟩
  exact .atl (J6 _ _ ⟨g29,v122,v120,aO,fun _ aw aA aR=>aR,sb z,hS.to [3,3,2,0,0]⟩) (by kernel_rfl)
 intro x E W hJ
 obtain ⟨rfl,g30,v123,v124,v125,hE,hS⟩:=hJ
 refine ⟨_,hE.sub,?_⟩
 refine .seq (.g (.qn z (.block ?_)))
 have ⟨y2,hy2,h⟩:=bnd h
 refine .via (.iter (fun s1 E' W'=>∃ (v128 : Hd),aK E' [(1,pt g1),(2,pt g2),(3,pt g30),(4,iv s1.1)] ∧ Sep No w W' [.box g2 30 [(sv aP),(sv aP),iv 0,iv 0,(sv aP)],.box g1 30 [(sv aD),(sv aC),iv a0.Turn,iv a0.Idle,(sv aO)],.box g30 30 [(sv v128),(sv v124),iv a0.Turn,iv a0.Idle,(sv v125)],ae (sv v124) 44 2 a6 y1,ae (sv v125) 3 1 (D.int .i64) r1,ae (sv v128) 38 3 aq s1.2]) (fun y3 x E' W'=>x = .exit 0 ∧ ∃ (v129 : Hd),aK E' [(2,pt g2),(3,pt g30)] ∧ Sep No w W' [.box g2 30 [(sv aP),(sv aP),iv 0,iv 0,(sv aP)],.box g1 30 [(sv aD),(sv aC),iv a0.Turn,iv a0.Idle,(sv aO)],.box g30 30 [(sv v129),(sv v124),iv a0.Turn,iv a0.Idle,(sv v125)],ae (sv v124) 44 2 a6 y1,ae (sv v125) 3 1 (D.int .i64) r1,ae (sv v129) 38 3 aq y3]) hy2 ⟨v123,sb z,hS.to [0,0,0,1,1,0]⟩ ?_) ?_
 ·intro s1 y4 E W h hI
  obtain ⟨v127,hE,hS⟩:=hI
  refine CW.sub hE ?_
  unfold gn at h
  refine .seq (.g (.q z (.s (fa T.f30_0 z z z) z (.s (ld T.t27 hS.p1 z z z z z) z (.s (bq (hS.keep aw) T.u27 z z) z (.q z (.nil ?_)))))))
  refine .cs z h ?_ ?_ <;> intro h
  ·refine .skip (.seq (.block (.rk 11 hS [0,0,0,0,0] T.mix ?_)))
   intro W hS
   have hT:=hS.to [0,0,0,0,0]
   refine .ts' 0 z (fun W hT=>fa T.f30_0 z z z) hT z (.ts' 1 z (fun W hT=>ld T.t27 hT.p2 z z z z z) hT z (.ts' 2 z (fun W hT=>fa T.f30_0 z z z) hT z (.ts' 3 z (fun W hT=>ld T.t27 hT.p1 z z z z z) hT z (.tp' 4 z z hT ?_))))
   have ⟨x1,hx1,h⟩:=bnd h
   obtain ⟨k1,hd,hck1⟩:=RV.el2 aw hx1
   have hd1:=pS hd
   obtain ⟨v130,k1,rfl,q109,hd2⟩:=dF aw hd1
   obtain ⟨k1,rfl,hd3⟩:=dt aw z hd2
   obtain ⟨v131,k1,rfl,q110,hd4⟩:=dF aw hd3
   obtain rfl:=lZ aw hd4
   refine .ts' 5 z (fun W hT=>ixv (hS.keep aw) hx1 T.u27 T.t38 z z z) hT z (.ts' 6 z (fun W hT=>lde (hck1 _ hT.agree) T.t38 z z z z z) hT z ?_)
   have ⟨y5,hy5,h⟩:=bnd h
   refine .by1 7 z (.call hS Tryz.func64 (sK hy5 (hS.keep (q109 _ aw)) (hS.keep (q110 _ aw))) z z ?_)
   rintro ⟨v132,v133⟩ W hS
   have hT:=hS.to [2,2,2,2,2]
   refine ⟨fun _=>hT,.by1 8 z (.lg (L1:=[ae (sv v132) 3 1 (D.int .i64) y5.Regs,ae (sv v133) 3 1 (D.int .i64) y5.Mem]) [(ah.mk y5.Regs y5.Pc y5.Mem)] aq T.u27 T.t38 (hS.to [0,0,0,0,0,0,0,0]) z z z (.agg (.row (.flat (c1:=[iv y5.Pc]) z (.row .nil)))) ?_ z (fun _=>z))⟩
   intro v134 W hS
   have hT:=hS.to [1,1,1,1,1]
   refine ⟨fun _=>hT,?_⟩
   have ⟨r2,hr2,h⟩:=bnd h
   refine .by1 9 z (.appv hr2 (hS.to [6,0,0,0,0,0,0]) T.u27 T.t38 z z z ?_)
   intro v135 W hS
   have hT:=hS.to [1,1,1,1,1]
   refine ⟨fun _=>hT,.ts' 10 z (fun W hT=>fa T.f30_0 z z z) hT z (.by1 11 z (.st T.t27 hS.p3 z z z ?_))⟩
   intro W hS
   refine ⟨fun h=>absurd z h,?_⟩
   refine .done (.region (.q z (.q z (.q z (.nil ?_)))))
   cases h
   exact ⟨z,v135,sb z,hS.to [2,2,0,1,1,0]⟩
  refine .exit ?_
  cases h
  exact ⟨by simp,z,v127,sb z,hS.to [0,0,0,0,0,0]⟩
 intro x E W hJ
 obtain ⟨rfl,v136,hE,hS⟩:=hJ
 refine ⟨_,hE.sub,?_⟩
 refine .g (.s (ld T.t30 hS.p2 z z z z z) z (.c (.st T.t30 hS z z z ?_)))
 intro W hS
 cases h
 exact .nil (.ret (ab (vs:=[_]) (v136,v124,v125) (rc hS T.t30 z rn z z) z (hS.to [5,3,3])))
theorem ox {a0 : Box} {a1 : Int} {cn : Hd} {w : World} {r : Box × Bool} (h : hU a0 a1 = some r) (cF : RO w cn 3 1 (D.int .i64) a0.Items) : Cl 110 #[.agg #[iv a0.Room,(sv cn)],iv a1] w (Ret No w (fun s : Hd=>.tuple #[.agg #[iv r.1.Room,(sv s)],.bool r.2]) (fun s=>[ae (sv s) 3 1 (D.int .i64) r.1.Items])):=by
 unfold hU at h
 refine ay Tryz.func110 z z ?_
 have hS:=Sep.start w
 refine .g (.c (.box hS z z ?_))
 intro g1 W hS
 refine .c (.alloc T.t44 hS ?_)
 intro g2 W hS
 refine .qn z (.seq (.g (.s (ld T.t44 hS.p1 z z z z z) z ?_)))
 have ⟨y1,hy1,h⟩:=bnd h
 refine .c (.cO hS Tryz.func82 (k8 hy1 (hS.keep cF)) z z ?_)
 intro W hS
 refine .q z (.q z ?_)
 have ⟨b1,hb1,h⟩:=bnd h
 refine .cu 4 13 (b1) hS ?_ ?_
 ·refine .both (!y1) (fun hb=>?_) (fun hb=>?_)
  ·refine .xx hb z (.xx hb z (.xx hb z ?_))
   cases aI hb hb1
   exact .s (pkt hb z z z) z (.nil (ck 4 hS))
  have hg1:=hb
  have h:=aJ hb hb1
  refine .g hg1 (.q z ?_)
  have ⟨y2,hy2,h⟩:=bnd h
  refine .g hg1 (.c (.cO hS Tryz.func83 (dB hy2) z z ?_))
  intro W hS
  refine .g hg1 (.q z (.s (pkf hg1 z z z) z ?_))
  cases h
  exact .nil (ck 4 hS)
 intro W hS
 refine .q z (.cu 7 21 (b1 || (decide ((a0.Items.length : Int) ≥ a0.Room))) hS ?_ ?_)
 ·refine .both (b1) (fun hb=>?_) (fun hb=>?_)
  ·exact .xx hb z (.xx hb z (.xx hb z (.xx hb z (.xx hb z (.xx hb z (.s (pkt hb z z z) z (.nil (ck 7 hS z (ig hb)))))))))
  have hg2:=hb
  exact .g hg2 (.s (fa T.f44_1 z z z) z (.g hg2 (.s (ld T.t23 hS.p1 z z z z z) z (.g hg2 (.s (bq (hS.keep cF) T.u23 z z) z (.g hg2 (.s (fa T.f44_0 z z z) z (.g hg2 (.s (ld T.t3 hS.p1 z z z z z) z (.g hg2 (.q z (.s (pkf hg2 z z z) z (.nil (ck 7 hS z (ij hg2)))))))))))))))
 intro W hS
 refine .nil ?_
 refine .cs z h ?_ ?_ <;> intro h
 ·refine .g (.s (bs T.s44 z z) z (.c (.st T.t44 hS z z z ?_)))
  intro W hS
  refine .qn z (.ret ?_)
  have hS:=hS.nilv 3 1 (D.int .i64)
  cases h
  exact ab (vs:=[_,_]) aP (rc hS.p1 T.t44 z (rt z rn) z z) z (hS.to [0])
 refine .skip (.seq ?_)
 have ⟨r1,hr1,h⟩:=bnd h
 have ⟨r2,hr2,h⟩:=bnd h
 refine .via (R':=fun x E' W'=>x = .normal ∧ ∃ (v1 : Hd),aK E' [(4,pt g2),(5,.bool true)] ∧ Sep No w W' [.box g2 44 [iv a0.Room,(sv v1)],.box g1 44 [iv a0.Room,(sv cn)],ae (sv v1) 3 1 (D.int .i64) r2]) ?_ ?_
 ·refine .rk 12 hS [1] T.mix ?_
  intro W hS
  have hT:=hS.to [1]
  refine .ts' 0 z (fun W hT=>fa T.f44_0 z z z) hT z (.ts' 1 z (fun W hT=>ld T.t3 hT z z z z z) hT z (.ts' 3 z (fun W hT=>fa T.f44_1 z z z) hT z (.ts' 4 z (fun W hT=>ld T.t23 hT z z z z z) hT z (.tp' 6 z z hT (.by [2,7] ⟨⟨_,z,?_⟩,⟨_,z,?_⟩,trivial⟩)))))
  ·refine (.liv [] (D.int .i64) T.u23 T.t3 hS z z z z ?_ z (fun _=>z))
   intro v2 W hS
   have hT:=hS.to [2]
   refine ⟨fun _=>hT,.by [5,7] ⟨⟨_,z,?_⟩,⟨_,z,?_⟩,trivial⟩⟩
   ·refine (.av hr1 hS (hS.keep cF) (fun _=>z) T.u23 T.t3 z z z ?_)
    intro v3 W hS
    have hT:=hS.to [2]
    refine ⟨fun _=>hT,.by1 7 z (.liv [a1] (D.int .i64) T.u23 T.t3 hS z z z z ?_ z (fun _=>z))⟩
    intro v4 W hS
    have hT:=hS.to [3]
    refine ⟨fun _=>hT,?_⟩
    have hT0:=hS.p1
    refine .by1 8 z (.av hr2 hT0 hT0.p1.lv (fun _=>z) T.u23 T.t3 z z z ?_)
    intro v5 W hS
    have hT:=hS.to [3]
    refine ⟨fun _=>hT,.ts' 9 z (fun W hT=>bs T.s44 z z) hT z (.by1 10 z (.st T.t44 hS.p2 z z z ?_))⟩
    intro W hS
    have hT:=hS.to [3]
    refine ⟨fun _=>hT,?_⟩
    exact .tp' 11 z z hT (.done (⟨z,v5,sb z,hS.to [0,2,0]⟩))
   refine (.liv [a1] (D.int .i64) T.u23 T.t3 hS z z z z ?_ z (fun _=>z))
   intro v6 W hS
   have hT:=hS.to [3]
   refine ⟨fun _=>hT,.by1 5 z (.av hr1 hS.p1 (hS.keep cF) (fun _=>z) T.u23 T.t3 z z z ?_)⟩
   intro v7 W hS
   have hT:=hS.to [3]
   refine ⟨fun _=>hT,?_⟩
   have hT0:=hS
   refine .by1 8 z (.av hr2 hT0 hT0.p1.lv (fun _=>z) T.u23 T.t3 z z z ?_)
   intro v8 W hS
   have hT:=hS.to [3]
   refine ⟨fun _=>hT,.ts' 9 z (fun W hT=>bs T.s44 z z) hT z (.by1 10 z (.st T.t44 hS.p2 z z z ?_))⟩
   intro W hS
   have hT:=hS.to [3]
   refine ⟨fun _=>hT,?_⟩
   exact .tp' 11 z z hT (.done (⟨z,v8,sb z,hS.to [0,2,0]⟩))
  refine (.liv [a1] (D.int .i64) T.u23 T.t3 hS z z z z ?_ z (fun _=>z))
  intro v9 W hS
  have hT:=hS.to [2]
  refine ⟨fun _=>hT,.by1 2 z (.liv [] (D.int .i64) T.u23 T.t3 hS z z z z ?_ z (fun _=>z))⟩
  intro v10 W hS
  have hT:=hS.to [3]
  refine ⟨fun _=>hT,.by1 5 z (.av hr1 hS (hS.keep cF) (fun _=>z) T.u23 T.t3 z z z ?_)⟩
  intro v11 W hS
  have hT:=hS.to [3]
  refine ⟨fun _=>hT,?_⟩
  have hT0:=hS
  refine .by1 8 z (.av hr2 hT0 hT0.p1.lv (fun _=>z) T.u23 T.t3 z z z ?_)
  intro v12 W hS
  have hT:=hS.to [3]
  refine ⟨fun _=>hT,.ts' 9 z (fun W hT=>bs T.s44 z z) hT z (.by1 10 z (.st T.t44 hS.p2 z z z ?_))⟩
  intro W hS
  have hT:=hS.to [3]
  refine ⟨fun _=>hT,?_⟩
  exact .tp' 11 z z hT (.done (⟨z,v12,sb z,hS.to [0,2,0]⟩))
 intro x E W hJ
 obtain ⟨rfl,v13,hE,hS⟩:=hJ
 refine ⟨_,hE.sub,?_⟩
 cases h
 exact .ret (ab (vs:=[_,_]) v13 (rc hS T.t44 z (rt z rn) z z) z (hS.to [2]))
theorem sM {a0 : Box} {cn : Hd} {w : World} {r : Box × Int × Bool} (h : fY a0 = some r) (cF : RO w cn 3 1 (D.int .i64) a0.Items) : Cl 111 #[.agg #[iv a0.Room,(sv cn)]] w (Ret No w (fun s : Hd=>.tuple #[.agg #[iv r.1.Room,(sv s)],iv r.2.1,.bool r.2.2]) (fun s=>[ae (sv s) 3 1 (D.int .i64) r.1.Items])):=by
 unfold fY at h
 refine ay Tryz.func111 z z ?_
 have hS:=Sep.start w
 refine .g (.c (.box hS z z ?_))
 intro g1 W hS
 refine .c (.alloc T.t44 hS ?_)
 intro g2 W hS
 refine .q z (.qn z (.seq (.g (.s (ld T.t44 hS.p1 z z z z z) z ?_))))
 have ⟨y1,hy1,h⟩:=bnd h
 refine .c (.cO hS Tryz.func82 (k8 hy1 (hS.keep cF)) z z ?_)
 intro W hS
 refine .q z (.q z (.cu 5 13 ((!y1) || ((a0.Items.length : Int) == 0)) hS ?_ ?_))
 ·refine .both (!y1) (fun hb=>?_) (fun hb=>?_)
  ·exact .xx hb z (.xx hb z (.xx hb z (.xx hb z (.s (pkt hb z z z) z (.nil (ck 5 hS z (ig hb)))))))
  have hg1:=hb
  exact .g hg1 (.s (fa T.f44_1 z z z) z (.g hg1 (.s (ld T.t23 hS.p1 z z z z z) z (.g hg1 (.s (bq (hS.keep cF) T.u23 z z) z (.g hg1 (.q z (.s (pkf hg1 z z z) z (.nil (ck 5 hS z (ij hg1)))))))))))
 intro W hS
 refine .nil ?_
 refine .cs z h ?_ ?_ <;> intro h
 ·refine .g (.s (bs T.s44 z z) z (.c (.st T.t44 hS z z z ?_)))
  intro W hS
  refine .q z (.qn z (.ret ?_))
  have hS:=hS.nilv 3 1 (D.int .i64)
  cases h
  exact ab (vs:=[_,_,_]) aP (rc hS.p1 T.t44 z (rt z (rt z rn)) z z) z (hS.to [0])
 refine .skip (.seq (.rk 15 hS [1] T.mix ?_))
 intro W hS
 have hT:=hS.to [1]
 refine .ts' 0 z (fun W hT=>fa T.f44_0 z z z) hT z (.ts' 1 z (fun W hT=>ld T.t3 hT z z z z z) hT z (.ts' 3 z (fun W hT=>fa T.f44_1 z z z) hT z (.ts' 4 z (fun W hT=>ld T.t23 hT z z z z z) hT z ?_)))
 have ⟨r1,hr1,h⟩:=bnd h
 refine .ts' 5 z (fun W hT=>slv hr1 cF T.u23 T.t3 z z z z) hT z (.ts' 8 z (fun W hT=>fa T.f44_1 z z z) hT z (.ts' 9 z (fun W hT=>ld T.t23 hT z z z z z) hT z ?_))
 have ⟨x1,hx1,h⟩:=bnd h
 refine .ts' 10 z (fun W hT=>ixv (hS.keep cF) hx1 T.u23 T.t3 z z z) hT z (.ts' 11 z (fun W hT=>lde (RV.flat (hT.keep cF) hx1 z) T.t3 z z z z z) hT z (.by1 2 z (.liv [] (D.int .i64) T.u23 T.t3 hS z z z z ?_ z (fun _=>z))))
 intro v1 W hS
 have hT:=hS.to [2]
 refine ⟨fun _=>hT,?_⟩
 have ⟨r2,hr2,h⟩:=bnd h
 refine .by1 6 z (.av hr2 hS (hS.keep (uU hr1 cF)) (fun _=>z) T.u23 T.t3 z z z ?_)
 intro v2 W hS
 have hT:=hS.to [2]
 refine ⟨fun _=>hT,.ts' 7 z (fun W hT=>bs T.s44 z z) hT z (.by1 12 z (.st T.t44 hS.p1 z z z ?_))⟩
 intro W hS
 have hT:=hS.to [2]
 refine ⟨fun _=>hT,?_⟩
 cases h
 exact .tp' 13 z z hT (.tp' 14 z z hT (.done (.ret (ab (vs:=[_,_,_]) v2 (rc hS T.t44 z (rt z (rt z rn)) z z) z (hS.to [1])))))
end

end Go.Proofs.YtcljimkjmklkmaaGreatDoor.N
