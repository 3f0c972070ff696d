/- Printed by a program of mine: that the program's functions compute it. What a row says of its arguments, in the program logic's words: data types in general. Wh -/
import Derived.Test.YtcljimkjmklkmaaGreatDoorK7
import Derived.RowKit
import Derived.ChangeSlices
import Derived.ChangeArms
import Derived.WideShapes
import Derived.OpenShut
import Derived.LaidMore
import Derived.LaidLaws
import GoSem.ClaimJoined
set_option linter.unusedVariables false
set_option linter.unusedSimpArgs false
set_option maxRecDepth 100000
set_option maxHeartbeats 4000000
namespace Go.Proofs.YtcljimkjmklkmaaGreatDoor.N
open Go.Proofs.YtcljimkjmklkmaaGreatDoor.X
noncomputable section
theorem nP {a0 : List Int} {a1 : Int} {v_0 : Hd} {w : World} {r : Bool} (h : eh a0 a1 = some r) (q_0 : RO w v_0 3 1 (D.int .i64) a0) : Cl 85 #[(sv v_0),iv a1] w (RU w (.bool r)):=by
 unfold eh at h
 refine ay Tryz.func85 z z ?_
 have hS:=Sep.start w
 refine .g (.qn z (.g (.q z (.q z (.q z (.cu 4 11 ((decide (a1 ≥ 0)) && ((Int.tmod a1 4) == 0)) hS ?_ ?_))))))
 ·refine .both (decide (a1 ≥ 0)) (fun hb=>?_) (fun hb=>?_)
  ·have hg1:=hb
   exact .g hg1 (.q z (.g hg1 (.q z (.g hg1 (.q z (.s (pkt hg1 z z z) z (.nil (ck 4 hS z (bH hg1)))))))))
  exact .xx hb z (.xx hb z (.xx hb z (.s (pkf hb z z z) z (.nil (ck 4 hS z (bI hb))))))
 intro W hS
 refine .q z (.cu 6 18 (((decide (a1 ≥ 0)) && ((Int.tmod a1 4) == 0)) && (decide ((w64 (Int.tdiv a1 4)) < (a0.length : Int)))) hS ?_ ?_)
 ·refine .both ((decide (a1 ≥ 0)) && ((Int.tmod a1 4) == 0)) (fun hb=>?_) (fun hb=>?_)
  ·have hg2:=hb
   exact .g hg2 (.q z (.g hg2 (.q z (.g hg2 (.q z (.g hg2 (.s (bq (hS.keep q_0) T.u23 z z) z (.g hg2 (.q z (.s (pkt hg2 z z z) z (.nil (ck 6 hS z (bH hg2)))))))))))))
  exact .xx hb z (.xx hb z (.xx hb z (.xx hb z (.xx hb z (.s (pkf hb z z z) z (.nil (ck 6 hS z (bI hb))))))))
 intro W hS
 cases h
 exact .qn z (.ret (ab (vs:=[_]) () (rt z rn) z (hS.to [])))
def vw (w : World) (r : Int) : Env → World → Prop:=Fin Tryz.prog Tryz.f112 No w (fun s : Unit=>.int .i64 r) (fun s=>[]) .ret
theorem pf {a0 : Int} {w : World} {r : Int} (h : hY a0 = some r) : Cl 112 #[iv a0] w (RU w (.int .i64 r)):=by
 unfold hY at h
 refine ay Tryz.func112 z z ?_
 have hS:=Sep.start w
 refine .g (.qn z (.seq (.g (.q z ?_))))
 have ⟨y1,hy1,h⟩:=bnd h
 refine .c (.cO hS Tryz.func127 (aY hy1) z z ?_)
 intro W hS
 refine .nil (.block (.g (.q z (.q z (.nil ?_)))))
 refine .cs z h ?_ ?_ <;> intro h
 ·refine .seq (.g (.qn z (.block ?_)))
  have ⟨y2,hy2,h⟩:=bnd h
  refine .via (.iter (fun s1 E' W'=>aK E' [(0,iv a0),(3,iv s1)] ∧ Sep No w W' []) (fun y3 x E' W'=>(match y3 with | .inl o1=>x = .ret ∧ vw w o1 E' W' | .inr o2=>x = .exit 1 ∧ aK E' [] ∧ Sep No w W' [])) hy2 ⟨sb rfl,hS.to [] rfl⟩ ?_) ?_
  ·intro s1 y4 E W h hI
   obtain ⟨hE,hS⟩:=hI
   refine CW.sub hE ?_
   unfold jq at h
   refine .seq (.g (.q z (.q z (.nil ?_))))
   refine .cs z h ?_ ?_ <;> intro h
   ·refine .skip (.seq (.block (.g (.q z ?_))))
    have ⟨y5,hy5,h⟩:=bnd h
    refine .c (.cO hS Tryz.func127 (aY hy5) z z ?_)
    intro W hS
    refine .q z ?_
    have ⟨y6,hy6,h⟩:=bnd h
    refine .c (.cO hS Tryz.func139 (nc hy6) z z ?_)
    intro W hS
    refine .q z (.q z ?_)
    have ⟨b1,hb1,h⟩:=bnd h
    refine .cu 6 23 (b1) hS ?_ ?_
    ·refine .both (y5 == y6) (fun hb=>?_) (fun hb=>?_)
     ·have hg1:=hb
      have h:=aI hb hb1
      refine .g hg1 (.q z ?_)
      have ⟨y7,hy7,h⟩:=bnd h
      refine .g hg1 (.c (.cO hS Tryz.func127 (aY hy7) z z ?_))
      intro W hS
      refine .g hg1 (.q z ?_)
      have ⟨y8,hy8,h⟩:=bnd h
      refine .g hg1 (.c (.cO hS Tryz.func138 (nd hy8) z z ?_))
      intro W hS
      refine .g hg1 (.q z (.s (pkt hg1 z z z) z ?_))
      cases h
      exact .nil (ck 6 hS)
     refine .xx hb z (.xx hb z (.xx hb z (.xx hb z (.xx hb z ?_))))
     cases aJ hb hb1
     exact .s (pkf hb z z z) z (.nil (ck 6 hS))
    intro W hS
    refine .nil ?_
    refine .cs z h ?_ ?_ <;> intro h
    ·refine .g (.q z (.qn z (.ret ?_)))
     cases h
     exact ⟨by simp,z,ab (vs:=[_]) () (rt z rn) z (hS.to [])⟩
    refine .skip (.region (.q z (.q z (.q z (.nil ?_)))))
    cases h
    exact ⟨z,sb z,hS.to []⟩
   refine .exit ?_
   cases h
   exact ⟨by simp,z,sb z,hS.to []⟩
  intro x E W hJ
  rcases y2 with o3 | o4
  ·obtain ⟨rfl,hF⟩:=hJ
   refine ⟨_,fun _ _ h=>h,?_⟩
   cases h
   exact hF
  obtain ⟨rfl,hE,hS⟩:=hJ
  refine ⟨_,hE.sub,?_⟩
  cases h
  exact .g (.qn z (.ret (ab (vs:=[_]) () (rt z rn) z (hS.to []))))
 refine .g (.q z (.q z (.nil ?_)))
 refine .cs z h ?_ ?_ <;> intro h
 ·refine .seq (.g (.q z ?_))
  have ⟨y9,hy9,h⟩:=bnd h
  refine .c (.cO hS Tryz.func127 (aY hy9) z z ?_)
  intro W hS
  refine .q z (.nil ?_)
  refine .cs z h ?_ ?_ <;> intro h
  ·cases h
   exact .g (.qn z (.ret (ab (vs:=[_]) () (rt z rn) z (hS.to []))))
  cases h
  exact .skip (.g (.qn z (.ret (ab (vs:=[_]) () (rt z rn) z (hS.to [])))))
 refine .g (.q z (.q z (.nil ?_)))
 refine .cs z h ?_ ?_ <;> intro h
 ·cases h
  exact .g (.qn z (.ret (ab (vs:=[_]) () (rt z rn) z (hS.to []))))
 refine .g (.q z (.q z (.nil ?_)))
 refine .cs z h ?_ ?_ <;> intro h
 ·cases h
  exact .g (.qn z (.ret (ab (vs:=[_]) () (rt z rn) z (hS.to []))))
 refine .g (.q z (.q z (.nil ?_)))
 refine .cs z h ?_ ?_ <;> intro h
 ·cases h
  exact .g (.qn z (.ret (ab (vs:=[_]) () (rt z rn) z (hS.to []))))
 refine .g (.q z (.q z (.nil ?_)))
 refine .cs z h ?_ ?_ <;> intro h
 ·refine .seq (.g (.q z ?_))
  have ⟨y10,hy10,h⟩:=bnd h
  refine .c (.cO hS Tryz.func127 (aY hy10) z z ?_)
  intro W hS
  refine .q z (.nil ?_)
  refine .cs z h ?_ ?_ <;> intro h
  ·cases h
   exact .g (.qn z (.ret (ab (vs:=[_]) () (rt z rn) z (hS.to []))))
  cases h
  exact .skip (.g (.qn z (.ret (ab (vs:=[_]) () (rt z rn) z (hS.to [])))))
 refine .g (.q z (.q z (.nil ?_)))
 refine .cs z h ?_ ?_ <;> intro h
 ·cases h
  exact .g (.qn z (.ret (ab (vs:=[_]) () (rt z rn) z (hS.to []))))
 refine .g (.q z (.q z (.nil ?_)))
 refine .cs z h ?_ ?_ <;> intro h
 ·cases h
  exact .g (.qn z (.ret (ab (vs:=[_]) () (rt z rn) z (hS.to []))))
 refine .g (.q z (.q z (.nil ?_)))
 refine .cs z h ?_ ?_ <;> intro h
 ·cases h
  exact .g (.qn z (.ret (ab (vs:=[_]) () (rt z rn) z (hS.to []))))
 cases h
 exact .skip (.g (.qn z (.ret (ab (vs:=[_]) () (rt z rn) z (hS.to [])))))
theorem qr {a0 : Int} {a1 : Int} {w : World} {r : Instr} (h : a7 a0 a1 = some r) : Cl 113 #[iv a0,iv a1] w (RU w (.agg #[iv r.Op,iv r.Rd,iv r.Rs,iv r.Rt,iv r.Imm])):=by
 unfold a7 at h
 refine ay Tryz.func113 z z ?_
 have hS:=Sep.start w
 refine .g (.c (.alloc T.t51 hS ?_))
 intro g1 W hS
 refine .nil (.g (.q z ?_))
 have ⟨y1,hy1,h⟩:=bnd h
 refine .c (.cO hS Tryz.func127 (aY hy1) z z ?_)
 intro W hS
 refine .qn z (.g (.q z ?_))
 have ⟨y2,hy2,h⟩:=bnd h
 refine .c (.cO hS Tryz.func127 (aY hy2) z z ?_)
 intro W hS
 refine .qn z (.g (.q z ?_))
 have ⟨y3,hy3,h⟩:=bnd h
 refine .c (.cO hS Tryz.func127 (aY hy3) z z ?_)
 intro W hS
 refine .qn z (.seq (.block (.g (.q z (.q z (.q z (.nil ?_)))))))
 refine .cs z h ?_ ?_ <;> intro h
 ·refine .g (.q z (.q z (.q z (.q z (.s (bs T.s51 z z) z (.c (.st T.t51 hS z z z ?_)))))))
  intro W hS
  cases h
  exact .nil (.ret (ab (vs:=[_]) () (rc hS T.t51 z rn z z) z (hS.to [])))
 refine .g (.q z (.q z (.q z (.nil ?_))))
 refine .cs z h ?_ ?_ <;> intro h
 ·refine .g (.q z (.q z (.q z (.q z ?_))))
  have ⟨y4,hy4,h⟩:=bnd h
  refine .c (.cO hS Tryz.func127 (aY hy4) z z ?_)
  intro W hS
  have ⟨y5,hy5,h⟩:=bnd h
  refine .c (.cO hS Tryz.func126 (eE hy5) z z ?_)
  intro W hS
  refine .s (bs T.s51 z z) z (.c (.st T.t51 hS z z z ?_))
  intro W hS
  cases h
  exact .nil (.ret (ab (vs:=[_]) () (rc hS T.t51 z rn z z) z (hS.to [])))
 refine .g (.q z (.q z (.q z (.nil ?_))))
 refine .cs z h ?_ ?_ <;> intro h
 ·refine .g (.q z (.q z (.q z (.q z ?_))))
  have ⟨y6,hy6,h⟩:=bnd h
  refine .c (.cO hS Tryz.func127 (aY hy6) z z ?_)
  intro W hS
  refine .q z (.q z (.q z ?_))
  have ⟨y7,hy7,h⟩:=bnd h
  refine .c (.cO hS Tryz.func126 (eE hy7) z z ?_)
  intro W hS
  refine .s (bs T.s51 z z) z (.c (.st T.t51 hS z z z ?_))
  intro W hS
  cases h
  exact .nil (.ret (ab (vs:=[_]) () (rc hS T.t51 z rn z z) z (hS.to [])))
 refine .g (.q z (.q z (.q z (.cu 3 53 ((a0 == 17) || (a0 == 18)) hS ?_ ?_))))
 ·refine .both (a0 == 17) (fun hb=>?_) (fun hb=>?_)
  ·exact .xx hb z (.xx hb z (.s (pkt hb z z z) z (.nil (ck 3 hS z (ig hb)))))
  have hg1:=hb
  exact .g hg1 (.q z (.g hg1 (.q z (.s (pkf hg1 z z z) z (.nil (ck 3 hS z (ij hg1)))))))
 intro W hS
 refine .q z (.nil ?_)
 refine .cs z h ?_ ?_ <;> intro h
 ·refine .g (.q z ?_)
  have ⟨y8,hy8,h⟩:=bnd h
  refine .c (.cO hS Tryz.func127 (aY hy8) z z ?_)
  intro W hS
  refine .q z (.q z ?_)
  have ⟨y9,hy9,h⟩:=bnd h
  refine .c (.cO hS Tryz.func127 (aY hy9) z z ?_)
  intro W hS
  refine .q z (.q z (.q z ?_))
  have ⟨y10,hy10,h⟩:=bnd h
  refine .c (.cO hS Tryz.func127 (aY hy10) z z ?_)
  intro W hS
  refine .q z (.q z (.q z ?_))
  have ⟨y11,hy11,h⟩:=bnd h
  refine .c (.cO hS Tryz.func127 (aY hy11) z z ?_)
  intro W hS
  refine .q z (.q z (.qn z (.g (.q z (.q z (.q z (.q z ?_)))))))
  have ⟨y12,hy12,h⟩:=bnd h
  refine .c (.cO hS Tryz.func126 (eE hy12) z z ?_)
  intro W hS
  refine .s (bs T.s51 z z) z (.c (.st T.t51 hS z z z ?_))
  intro W hS
  cases h
  exact .nil (.ret (ab (vs:=[_]) () (rc hS T.t51 z rn z z) z (hS.to [])))
 refine .g (.q z (.q z (.q z (.nil ?_))))
 refine .cs z h ?_ ?_ <;> intro h
 ·refine .g (.q z (.q z (.q z ?_)))
  have ⟨y13,hy13,h⟩:=bnd h
  refine .c (.cO hS Tryz.func127 (aY hy13) z z ?_)
  intro W hS
  refine .s (bs T.s51 z z) z (.c (.st T.t51 hS z z z ?_))
  intro W hS
  cases h
  exact .nil (.ret (ab (vs:=[_]) () (rc hS T.t51 z rn z z) z (hS.to [])))
 refine .g (.q z (.q z (.q z (.nil ?_))))
 refine .cs z h ?_ ?_ <;> intro h
 ·refine .g (.q z ?_)
  have ⟨y14,hy14,h⟩:=bnd h
  refine .c (.cO hS Tryz.func127 (aY hy14) z z ?_)
  intro W hS
  refine .q z (.q z ?_)
  have ⟨y15,hy15,h⟩:=bnd h
  refine .c (.cO hS Tryz.func127 (aY hy15) z z ?_)
  intro W hS
  refine .q z (.q z (.q z ?_))
  have ⟨y16,hy16,h⟩:=bnd h
  refine .c (.cO hS Tryz.func127 (aY hy16) z z ?_)
  intro W hS
  refine .q z (.q z (.q z ?_))
  have ⟨y17,hy17,h⟩:=bnd h
  refine .c (.cO hS Tryz.func127 (aY hy17) z z ?_)
  intro W hS
  refine .q z (.q z (.qn z (.g (.q z (.q z (.q z ?_))))))
  have ⟨y18,hy18,h⟩:=bnd h
  refine .c (.cO hS Tryz.func126 (eE hy18) z z ?_)
  intro W hS
  refine .s (bs T.s51 z z) z (.c (.st T.t51 hS z z z ?_))
  intro W hS
  cases h
  exact .nil (.ret (ab (vs:=[_]) () (rc hS T.t51 z rn z z) z (hS.to [])))
 refine .skip (.g (.q z (.s (bs T.s51 z z) z (.c (.st T.t51 hS z z z ?_)))))
 intro W hS
 cases h
 exact .nil (.ret (ab (vs:=[_]) () (rc hS T.t51 z rn z z) z (hS.to [])))
theorem iV {a0 : Int} {w : World} {r : Instr × Bool} (h : cU a0 = some r) : Cl 86 #[iv a0] w (RU w (.tuple #[.agg #[iv r.1.Op,iv r.1.Rd,iv r.1.Rs,iv r.1.Rt,iv r.1.Imm],.bool r.2])):=by
 unfold cU at h
 refine ay Tryz.func86 z z ?_
 have hS:=Sep.start w
 refine .g (.c (.alloc T.t51 hS ?_))
 intro g1 W hS
 refine .qn z (.seq (.g (.q z ?_)))
 have ⟨y1,hy1,h⟩:=bnd h
 refine .c (.cO hS Tryz.func23 (aM hy1) z z ?_)
 intro W hS
 refine .q z (.q z ?_)
 have ⟨b1,hb1,h⟩:=bnd h
 refine .cu 4 12 (b1) hS ?_ ?_
 ·refine .both (!y1) (fun hb=>?_) (fun hb=>?_)
  ·refine .xx hb z (.xx hb z (.xx hb z ?_))
   cases aI hb hb1
   exact .s (pkt hb z z z) z (.nil (ck 4 hS))
  have hg1:=hb
  have h:=aJ hb hb1
  refine .g hg1 (.q z ?_)
  have ⟨y2,hy2,h⟩:=bnd h
  refine .g hg1 (.c (.cO hS Tryz.func112 (pf hy2) z z ?_))
  intro W hS
  refine .g hg1 (.q z (.s (pkf hg1 z z z) z ?_))
  cases h
  exact .nil (ck 4 hS)
 intro W hS
 refine .nil ?_
 refine .cs z h ?_ ?_ <;> intro h
 ·refine .g (.s (bs T.s51 z z) z (.c (.st T.t51 hS z z z ?_)))
  intro W hS
  cases h
  exact .qn z (.ret (ab (vs:=[_,_]) () (rc hS T.t51 z (rt z rn) z z) z (hS.to [])))
 refine .skip (.g (.q z ?_))
 have ⟨y3,hy3,h⟩:=bnd h
 refine .c (.cO hS Tryz.func112 (pf hy3) z z ?_)
 intro W hS
 refine .q z ?_
 have ⟨y4,hy4,h⟩:=bnd h
 refine .c (.cO hS Tryz.func113 (qr hy4) z z ?_)
 intro W hS
 refine .c (.alloc T.t51 hS ?_)
 intro g2 W hS
 refine .c (.st T.t51 hS z z z ?_)
 intro W hS
 refine .nil (.seq (.g (.s (ld T.t51 hS z z z z z) z ?_)))
 have ⟨y5,hy5,h⟩:=bnd h
 refine .c (.cO hS Tryz.func108 (mH hy5) z z ?_)
 intro W hS
 refine .q z (.q z (.nil ?_))
 refine .cs z h ?_ ?_ <;> intro h
 ·refine .g (.s (bs T.s51 z z) z (.c (.st T.t51 hS.p1 z z z ?_)))
  intro W hS
  cases h
  exact .qn z (.ret (ab (vs:=[_,_]) () (rc hS T.t51 z (rt z rn) z z) z (hS.to [])))
 refine .skip (.g (.s (ld T.t51 hS z z z z z) z (.c (.st T.t51 hS.p1 z z z ?_))))
 intro W hS
 cases h
 exact .qn z (.ret (ab (vs:=[_,_]) () (rc hS T.t51 z (rt z rn) z z) z (hS.to [])))
theorem ui {a0 : Int} {a1 : Int} {a2 : Int} {w : World} {r : Int} (h : mB a0 a1 a2 = some r) : Cl 118 #[iv a0,iv a1,iv a2] w (RU w (.int .i64 r)):=by
 unfold mB at h
 refine ay Tryz.func118 z z ?_
 have hS:=Sep.start w
 refine .g (.qn z (.g (.c (.liv [8,9,10,11,12,3,1,2,6,7,5] (D.int .i64) T.u23 T.t3 hS z z z z ?_ z (fun _=>z)))))
 intro v1 W hS
 refine .qn z (.g (.q z (.q z (.q z ?_))))
 have ⟨x1,hx1,h⟩:=bnd h
 refine .s (ixv hS.lv hx1 T.u23 T.t3 z z z) z (.s (lde (RV.flat hS.lv hx1 z) T.t3 z z z z z) z (.q z (.q z ?_)))
 have ⟨y1,hy1,h⟩:=bnd h
 refine .c (.cO hS Tryz.func140 (pe hy1) z z ?_)
 intro W hS
 cases h
 exact .q z (.q z (.q z (.q z (.qn z (.g (.q z (.qn z (.ret (ab (vs:=[_]) () (rt z rn) z (hS.to []))))))))))
theorem rN {a0 : Int} {a1 : Int} {a2 : Int} {a3 : Int} {w : World} {r : Int × Int × Bool} (h : eo a0 a1 a2 a3 = some r) : Cl 68 #[iv a0,iv a1,iv a2,iv a3] w (RU w (.tuple #[iv r.1,iv r.2.1,.bool r.2.2])):=by
 unfold eo at h
 refine ay Tryz.func68 z z ?_
 have hS:=Sep.start w
 refine .g (.q z (.q z (.qn z (.seq (.g (.q z ?_))))))
 have ⟨y1,hy1,h⟩:=bnd h
 refine .c (.cO hS Tryz.func23 (aM hy1) z z ?_)
 intro W hS
 refine .q z (.q z ?_)
 have ⟨b1,hb1,h⟩:=bnd h
 refine .cu 6 20 (b1) hS ?_ ?_
 ·refine .both (!y1) (fun hb=>?_) (fun hb=>?_)
  ·refine .xx hb z (.xx hb z (.xx hb z (.xx hb z (.xx hb z ?_))))
   cases aI hb hb1
   exact .s (pkt hb z z z) z (.nil (ck 6 hS))
  have hg1:=hb
  have h:=aJ hb hb1
  refine .g hg1 (.q z (.g hg1 (.q z (.g hg1 (.q z ?_)))))
  have ⟨y2,hy2,h⟩:=bnd h
  refine .g hg1 (.c (.cO hS Tryz.func23 (aM hy2) z z ?_))
  intro W hS
  refine .g hg1 (.q z (.s (pkf hg1 z z z) z ?_))
  cases h
  exact .nil (ck 6 hS)
 intro W hS
 refine .q z ?_
 have ⟨b2,hb2,h⟩:=bnd h
 refine .cu 6 27 (b2) hS ?_ ?_
 ·refine .both (b1) (fun hb=>?_) (fun hb=>?_)
  ·refine .xx hb z (.xx hb z (.xx hb z (.xx hb z (.xx hb z ?_))))
   cases aI hb hb2
   exact .s (pkt hb z z z) z (.nil (ck 6 hS))
  have hg2:=hb
  have h:=aJ hb hb2
  refine .g hg2 (.q z (.g hg2 (.q z (.g hg2 (.q z ?_)))))
  have ⟨y3,hy3,h⟩:=bnd h
  refine .g hg2 (.c (.cO hS Tryz.func23 (aM hy3) z z ?_))
  intro W hS
  refine .g hg2 (.q z (.s (pkf hg2 z z z) z ?_))
  cases h
  exact .nil (ck 6 hS)
 intro W hS
 refine .nil ?_
 refine .cs z h ?_ ?_ <;> intro h
 ·cases h
  exact .g (.q z (.q z (.qn z (.ret (ab (vs:=[_,_,_]) () (rt z (rt z (rt z rn))) z (hS.to []))))))
 refine .skip (.seq (.g (.qn z (.block (.g (.q z (.q z (.nil ?_))))))))
 refine .cs z h ?_ ?_ <;> intro h
 ·cases h
  exact .g (.q z (.q z (.q z (.qn z (.ret (ab (vs:=[_,_,_]) () (rt z (rt z (rt z rn))) z (hS.to [])))))))
 refine .g (.q z (.q z (.nil ?_)))
 refine .cs z h ?_ ?_ <;> intro h
 ·refine .g (.q z (.q z (.q z ?_)))
  have ⟨d1,hd1,h⟩:=bnd h
  cases h
  exact .s (dr hd1 z z z) z (.q z (.q z (.qn z (.ret (ab (vs:=[_,_,_]) () (rt z (rt z (rt z rn))) z (hS.to []))))))
 have ⟨y4,hy4,h⟩:=bnd h
 refine .seq (CW.via (R':=fun x E' W'=>x = .normal ∧ aK E' [(0,iv a0),(1,iv a1),(2,iv a2),(38,.bool y4)] ∧ Sep No w W' []) ?_ ?_)
 ·have h:=hy4
  refine .g (.q z (.q z (.nil ?_)))
  refine .cs z h ?_ ?_ <;> intro h
  ·refine .skip ?_
   cases h
   exact ⟨z,sb z,hS.to []⟩
  refine .region (.q z (.q z (.nil ?_)))
  cases h
  exact ⟨z,sb z,hS.to []⟩
 intro x E W hJ
 obtain ⟨rfl,hE,hS⟩:=hJ
 refine ⟨_,hE.sub,?_⟩
 refine .cs z h ?_ ?_ <;> intro h
 ·refine .g (.q z (.q z (.q z ?_)))
  have ⟨d2,hd2,h⟩:=bnd h
  cases h
  exact .s (dr hd2 z z z) z (.q z (.q z (.q z (.q z (.qn z (.ret (ab (vs:=[_,_,_]) () (rt z (rt z (rt z rn))) z (hS.to []))))))))
 cases h
 exact .skip (.g (.q z (.q z (.qn z (.ret (ab (vs:=[_,_,_]) () (rt z (rt z (rt z rn))) z (hS.to [])))))))
theorem pI {a0 : ah} {a1 : Int} {ai : Hd} {au : Hd} {h_0 : Hd} {A_0 : Type} {e_0 : A_0 → D} {l_0 : List A_0} {k_0 : Nat} {S : Nat → Prop} {w : World} {r : Bool} (h : cH a0 a1 = some r) (cI : RV w (Old S w) (sv ai) 3 1 (D.int .i64) a0.Regs) (cJ : RV w (Old S w) (sv au) 3 1 (D.int .i64) a0.Mem) (hO : bG w [be (sv h_0) 38 3 e_0 l_0 k_0 [(sv ai),iv a0.Pc,(sv au)]] S) (hlt : ∀ b,S b → b < w.heap.size) : Cl 65 #[.pointer (some (bU (adr (sv h_0)) (k_0 * 3 + 0))),iv a1] w (Ret S w (fun s : Unit=>.bool r) (fun s=>[be (sv h_0) 38 3 e_0 l_0 k_0 [(sv ai),iv a0.Pc,(sv au)]])):=by
 unfold cH at h
 refine ay Tryz.func65 z z ?_
 have hS:=Sep.sm hO hlt
 refine .g (.qn z (.g (.q z (.q z (.s (fe T.f38_0 z z z) z (.s (lde (hS.hcellsv) T.t23 z z z z z) z ?_))))))
 have ⟨x1,hx1,h⟩:=bnd h
 refine .s (ixv (hS.keep cI) hx1 T.u23 T.t3 z z z) z (.s (lde (RV.flat (hS.keep cI) hx1 z) T.t3 z z z z z) z (.qn z (.seq (.g (.q z (.q z (.s (fe T.f38_1 z z z) z (.s (lde (hS.hcellsv) T.t3 z z z z z) z (.q z (.q z ?_))))))))))
 have ⟨b1,hb1,h⟩:=bnd h
 refine .cu 4 21 (b1) hS ?_ ?_
 ·refine .both (a0.Pc != 0) (fun hb=>?_) (fun hb=>?_)
  ·refine .xx hb z (.xx hb z (.xx hb z ?_))
   cases aI hb hb1
   exact .s (pkt hb z z z) z (.nil (ck 4 hS))
  have hg1:=hb
  have h:=aJ hb hb1
  refine .g hg1 (.q z ?_)
  have ⟨y1,hy1,h⟩:=bnd h
  refine .g hg1 (.c (.cO hS Tryz.func23 (aM hy1) z z ?_))
  intro W hS
  refine .g hg1 (.q z (.s (pkf hg1 z z z) z ?_))
  cases h
  exact .nil (ck 4 hS)
 intro W hS
 refine .nil ?_
 refine .cs z h ?_ ?_ <;> intro h
 ·obtain rfl:=o9 h
  exact .g (.qn z (.ret (ab (vs:=[_]) () (rt z rn) z (hS.to [0]))))
 refine .skip (.g (.q z (.q z (.q z (.cu 3 27 ((x1 != 1) && (x1 != 2)) hS ?_ ?_)))))
 ·refine .both (x1 != 1) (fun hb=>?_) (fun hb=>?_)
  ·have hg2:=hb
   exact .g hg2 (.q z (.g hg2 (.q z (.s (pkt hg2 z z z) z (.nil (ck 3 hS z (bH hg2)))))))
  exact .xx hb z (.xx hb z (.s (pkf hb z z z) z (.nil (ck 3 hS z (bI hb)))))
 intro W hS
 refine .q z ?_
 have ⟨b2,hb2,h⟩:=bnd h
 refine .cu 10 38 (b2) hS ?_ ?_
 ·refine .both ((x1 != 1) && (x1 != 2)) (fun hb=>?_) (fun hb=>?_)
  ·refine .xx hb z (.xx hb z (.xx hb z (.xx hb z (.xx hb z (.xx hb z (.xx hb z (.xx hb z (.xx hb z ?_))))))))
   cases aI hb hb2
   exact .s (pkt hb z z z) z (.nil (ck 10 hS))
  have hg3:=hb
  have h:=aJ hb hb2
  refine .g hg3 (.q z (.g hg3 (.q z (.g hg3 (.s (fe T.f38_0 z z z) z (.g hg3 (.s (lde (hS.hcellsv) T.t23 z z z z z) z ?_)))))))
  have ⟨x2,hx2,h⟩:=bnd h
  refine .g hg3 (.s (ixv (hS.keep cI) hx2 T.u23 T.t3 z z z) z (.g hg3 (.s (lde (RV.flat (hS.keep cI) hx2 z) T.t3 z z z z z) z (.g hg3 (.q z (.g hg3 (.q z ?_)))))))
  have ⟨y2,hy2,h⟩:=bnd h
  refine .g hg3 (.c (.cO hS Tryz.func23 (aM hy2) z z ?_))
  intro W hS
  refine .s (pkf hg3 z z z) z ?_
  cases h
  exact .nil (ck 10 hS)
 intro W hS
 obtain rfl:=o9 h
 exact .qn z (.ret (ab (vs:=[_]) () (rt z rn) z (hS.to [0])))
theorem pJ {a0 : ah} {a1 : List Box} {ai : Hd} {au : Hd} {h_0 : Hd} {A_0 : Type} {e_0 : A_0 → D} {l_0 : List A_0} {k_0 : Nat} {v_1 : Hd} {S : Nat → Prop} {w : World} {r : Int × (List Int) × Int × (List Box)} (h : fZ a0 a1 = some r) (cJ : RV w (Old S w) (sv au) 3 1 (D.int .i64) a0.Mem) (hO : bG w [ae (sv ai) 3 1 (D.int .i64) a0.Regs,be (sv h_0) 38 3 e_0 l_0 k_0 [(sv ai),iv a0.Pc,(sv au)],ae (sv v_1) 44 2 a6 a1] S) (hlt : ∀ b,S b → b < w.heap.size) : Cl 84 #[.pointer (some (bU (adr (sv h_0)) (k_0 * 3 + 0))),(sv v_1)] w (Ret S w (fun s : Hd=>.int .i64 r.1) (fun s=>[be (sv h_0) 38 3 e_0 l_0 k_0 [(sv s),iv r.2.2.1,(sv au)],ae (sv v_1) 44 2 a6 r.2.2.2,ae (sv s) 3 1 (D.int .i64) r.2.1])):=by
 unfold fZ at h
 refine ay Tryz.func84 z z ?_
 have hS:=Sep.sm hO hlt
 refine .g (.qn z (.g (.q z (.q z (.s (fe T.f38_0 z z z) z (.s (lde (hS.p1.hcellsv) T.t23 z z z z z) z ?_))))))
 have ⟨x1,hx1,h⟩:=bnd h
 refine .s (ixv hS.lv hx1 T.u23 T.t3 z z z) z (.s (lde (RV.flat hS.lv hx1 z) T.t3 z z z z z) z (.qn z (.seq (.g (.q z (.q z (.s (fe T.f38_0 z z z) z (.s (lde (hS.p1.hcellsv) T.t23 z z z z z) z ?_))))))))
 have ⟨x2,hx2,h⟩:=bnd h
 refine .s (ixv hS.lv hx2 T.u23 T.t3 z z z) z (.s (lde (RV.flat hS.lv hx2 z) T.t3 z z z z z) z (.q z (.nil ?_)))
 refine .cs z h ?_ ?_ <;> intro h
 ·refine .seq ?_
  have ⟨x3,hx3,h⟩:=bnd h
  obtain ⟨k1,hS⟩:=Sep.ov hS.p2 hx3
  have hS:=hS.oa
  obtain ⟨k1,rfl,hS⟩:=Sep.oF z hS
  obtain ⟨v1,k1,rfl,hS⟩:=hS.ow
  obtain ⟨rfl,hS⟩:=hS.oN
  have ⟨x5,hx5,h⟩:=bnd h
  have ⟨y2,hy2,h⟩:=bnd h
  refine .via (R':=fun x E' W'=>x = .normal ∧ ∃ (g2 : Nat) (v3 : Hd),aK E' [(0,.pointer (some (bU (adr (sv h_0)) (k_0 * 3 + 0)))),(1,(sv v_1)),(5,iv x1),(6,pt g2),(7,.bool y2.2)] ∧ Sep S w W' [ae (sv ai) 3 1 (D.int .i64) a0.Regs,be (sv h_0) 38 3 e_0 l_0 k_0 [(sv ai),iv a0.Pc,(sv au)],ae (sv v_1) 44 2 a6 a1,.box g2 44 [iv y2.1.Room,(sv v3)],ae (sv v3) 3 1 (D.int .i64) y2.1.Items]) ?_ ?_
  ·refine .rk 17 hS [0,0,0,0] T.mix ?_
   intro W hS
   have hT:=hS.to [0,0,0,0]
   refine .tp' 0 z z hT (.tp' 1 z z hT (.ts' 2 z (fun W hT=>ixh hT.p1 hx3 T.u28 T.t44 z z z) hT z (.ts' 3 z (fun W hT=>lde (hT.p1.hcellsv) T.t44 z z z z z) hT z (.tp' 4 z z hT (.tp' 5 z z hT (.ts' 6 z (fun W hT=>fe T.f38_0 z z z) hT z (.ts' 7 z (fun W hT=>lde (hT.p3.hcellsv) T.t23 z z z z z) hT z (.ts' 8 z (fun W hT=>ixv hS.p2.lv hx5 T.u23 T.t3 z z z) hT z (.ts' 9 z (fun W hT=>lde (RV.flat hT.p2.lv hx5 z) T.t3 z z z z z) hT z (.by [10,14] ⟨⟨_,z,?_⟩,⟨_,z,?_⟩,trivial⟩))))))))))
   ·refine (.cV hS Tryz.func110 (ox hy2 hS.lv) z z ?_)
    intro v4 W hS
    have hT:=hS.to [1,1,1,1]
    refine ⟨fun _=>hT,.tp' 11 z z hT (.tp' 12 z z hT (.tp' 13 z z hT (.by1 14 z (.alloc T.t44 hS ?_))))⟩
    intro g3 W hS
    have hT:=hS.to [2,2,2,2]
    refine ⟨fun _=>hT,.by1 15 z (.st T.t44 hS z z z ?_)⟩
    intro W hS
    have hT:=hS.to [2,2,2,2]
    refine ⟨fun _=>hT,.tp' 16 z z hT (.done ?_)⟩
    have hS:=Sep.gat (ds:=[a6 x3]) (cs:=[iv x3.Room,(sv v1)]) (L1:=[ae (sv v1) 3 1 (D.int .i64) x3.Items]) (.agg (.flat (c1:=[iv x3.Room]) z (.row .nil))) (hS.to [2,2,0,0,0,0])
    have hS : Sep _ _ _ [ae (sv v_1) 44 2 a6 a1,.box g3 44 [iv y2.1.Room,(sv v4)],ae (sv v4) 3 1 (D.int .i64) y2.1.Items,ae (sv ai) 3 1 (D.int .i64) a0.Regs,be (sv h_0) 38 3 e_0 l_0 k_0 [(sv ai),iv a0.Pc,(sv au)]]:=Sep.back0v hx3 hS
    exact ⟨z,g3,v4,sb z,hS.to [3,3,0,0,0]⟩
   refine (.alloc T.t44 hS ?_)
   intro g4 W hS
   have hT:=hS.to [1,1,1,1]
   refine ⟨fun _=>hT,.by1 10 z (.cV hS Tryz.func110 (ox hy2 hS.p1.lv) z z ?_)⟩
   intro v5 W hS
   have hT:=hS.to [2,2,2,2]
   refine ⟨fun _=>hT,.tp' 11 z z hT (.tp' 12 z z hT (.tp' 13 z z hT (.by1 15 z (.st T.t44 hS.p1 z z z ?_))))⟩
   intro W hS
   have hT:=hS.to [2,2,2,2]
   refine ⟨fun _=>hT,.tp' 16 z z hT (.done ?_)⟩
   have hS:=Sep.gat (ds:=[a6 x3]) (cs:=[iv x3.Room,(sv v1)]) (L1:=[ae (sv v1) 3 1 (D.int .i64) x3.Items]) (.agg (.flat (c1:=[iv x3.Room]) z (.row .nil))) (hS.to [2,2,0,0,0,0])
   have hS : Sep _ _ _ [ae (sv v_1) 44 2 a6 a1,.box g4 44 [iv y2.1.Room,(sv v5)],ae (sv v5) 3 1 (D.int .i64) y2.1.Items,ae (sv ai) 3 1 (D.int .i64) a0.Regs,be (sv h_0) 38 3 e_0 l_0 k_0 [(sv ai),iv a0.Pc,(sv au)]]:=Sep.back0v hx3 hS
   exact ⟨z,g4,v5,sb z,hS.to [3,3,0,0,0]⟩
  intro x E W hJ
  obtain ⟨rfl,g5,v6,hE,hS⟩:=hJ
  refine ⟨_,hE.sub,?_⟩
  refine .seq (.g (.q z (.q z (.nil ?_))))
  refine .cs z h ?_ ?_ <;> intro h
  ·cases h
   exact .g (.qn z (.ret (ab (vs:=[_]) ai (rt z rn) z (hS.to [1,1,0]))))
  refine .skip (.g (.q z (.q z (.s (ld T.t44 hS.p3 z z z z z) z ?_))))
  have ⟨x6,hx6,h⟩:=bnd h
  refine .s (ixv hS.p2.lv hx6 T.u28 T.t44 z z z) z ?_
  obtain ⟨k2,hS⟩:=Sep.ov hS.p2 hx6
  have hS:=hS.oa
  obtain ⟨k2,rfl,hS⟩:=Sep.oF z hS
  obtain ⟨v7,k2,rfl,hS⟩:=hS.ow
  obtain ⟨rfl,hS⟩:=hS.oN
  refine .c (.sthv hS.p1 T.t44 z z z ?_)
  intro W hS
  refine .nil (.g (.q z (.q z (.q z (.s (fe T.f38_0 z z z) z (.s (lde (hS.p3.hcellsv) T.t23 z z z z z) z ?_))))))
  have ⟨x7,hx7,h⟩:=bnd h
  refine .s (ixv hS.p2.lv hx7 T.u23 T.t3 z z z) z (.s (lde (RV.flat hS.p2.lv hx7 z) T.t3 z z z z z) z (.q z (.s (fe T.f38_1 z z z) z (.c (.sthv hS.p3 T.t3 z z z ?_)))))
  intro W hS
  refine .nil (.g (.qn z (.ret ?_)))
  have hS:=Sep.gat (ds:=[a6 (Box.mk y2.1.Room y2.1.Items)]) (cs:=[iv y2.1.Room,(sv v6)]) (L1:=[ae (sv v6) 3 1 (D.int .i64) y2.1.Items]) (.agg (.flat (c1:=[iv y2.1.Room]) z (.row .nil))) (hS.to [5,1,0,0,0,0])
  have hS : Sep _ _ _ [ae (sv v_1) 44 2 a6 (a1.set (Int.toNat x1) (Box.mk y2.1.Room y2.1.Items)),be (sv h_0) 38 3 e_0 l_0 k_0 [(sv ai),iv x7,(sv au)],ae (sv v7) 3 1 (D.int .i64) x6.Items,ae (sv ai) 3 1 (D.int .i64) a0.Regs,.box g5 44 [iv y2.1.Room,(sv v6)]]:=hS.bv
  cases h
  exact ab (vs:=[_]) ai (rt z rn) z (hS.to [1,0,1])
 refine .skip (.g (.q z (.q z ?_)))
 have ⟨x8,hx8,h⟩:=bnd h
 refine .s (ixv hS.p2.lv hx8 T.u28 T.t44 z z z) z ?_
 obtain ⟨k3,hS⟩:=Sep.ov hS.p2 hx8
 have hS:=hS.oa
 obtain ⟨k3,rfl,hS⟩:=Sep.oF z hS
 obtain ⟨v8,k3,rfl,hS⟩:=hS.ow
 obtain ⟨rfl,hS⟩:=hS.oN
 refine .s (lde (hS.p1.hcellsv) T.t44 z z z z z) z ?_
 have ⟨y3,hy3,h⟩:=bnd h
 refine .c (.cV hS Tryz.func111 (sM hy3 hS.lv) z z ?_)
 intro v9 W hS
 refine .q z (.q z (.q z (.q z (.c (.alloc T.t44 hS ?_)))))
 intro g6 W hS
 refine .c (.st T.t44 hS z z z ?_)
 intro W hS
 refine .q z (.qn z (.seq (.g (.q z (.q z (.nil ?_))))))
 refine .cs z h ?_ ?_ <;> intro h
 ·refine .g (.qn z (.ret ?_))
  have hS:=Sep.gat (ds:=[a6 x8]) (cs:=[iv x8.Room,(sv v8)]) (L1:=[ae (sv v8) 3 1 (D.int .i64) x8.Items]) (.agg (.flat (c1:=[iv x8.Room]) z (.row .nil))) (hS.to [2,2,0,0,0,0])
  have hS : Sep _ _ _ [ae (sv v_1) 44 2 a6 a1,.box g6 44 [iv y3.1.Room,(sv v9)],ae (sv v9) 3 1 (D.int .i64) y3.1.Items,ae (sv ai) 3 1 (D.int .i64) a0.Regs,be (sv h_0) 38 3 e_0 l_0 k_0 [(sv ai),iv a0.Pc,(sv au)]]:=Sep.back0v hx8 hS
  cases h
  exact ab (vs:=[_]) ai (rt z rn) z (hS.to [4,0,2])
 refine .skip (.g (.q z (.q z (.s (ld T.t44 hS z z z z z) z (.s (ixh hS.p3 hx8 T.u28 T.t44 z z z) z (.c (.sthv hS.p3 T.t44 z z z ?_)))))))
 intro W hS
 refine .nil (.g (.q z (.q z (.s (fe T.f38_0 z z z) z (.s (lde (hS.p5.hcellsv) T.t23 z z z z z) z (.q z ?_))))))
 have ⟨x9,hx9,h⟩:=bnd h
 refine .s (ixv hS.p4.lv hx9 T.u23 T.t3 z z z) z ?_
 have ⟨r1,hr1,h⟩:=bnd h
 refine .c (.sev hr1 hx9 hS.p4 T.t3 z z z z z z ?_)
 intro W hS
 refine .nil (.g (.q z (.q z (.q z (.s (fe T.f38_0 z z z) z (.s (lde (hS.p5.hcellsv) T.t23 z z z z z) z ?_))))))
 have ⟨x10,hx10,h⟩:=bnd h
 refine .s (ixv hS.lv hx10 T.u23 T.t3 z z z) z (.s (lde (RV.flat hS.lv hx10 z) T.t3 z z z z z) z (.q z (.s (fe T.f38_1 z z z) z (.c (.sthv hS.p5 T.t3 z z z ?_)))))
 intro W hS
 refine .nil (.g (.qn z (.ret ?_)))
 have hS:=Sep.gat (ds:=[a6 (Box.mk y3.1.Room y3.1.Items)]) (cs:=[iv y3.1.Room,(sv v9)]) (L1:=[ae (sv v9) 3 1 (D.int .i64) y3.1.Items]) (.agg (.flat (c1:=[iv y3.1.Room]) z (.row .nil))) (hS.to [4,2,0,0,0,0])
 have hS : Sep _ _ _ [ae (sv v_1) 44 2 a6 (a1.set (Int.toNat x1) (Box.mk y3.1.Room y3.1.Items)),be (sv h_0) 38 3 e_0 l_0 k_0 [(sv ai),iv x10,(sv au)],ae (sv ai) 3 1 (D.int .i64) r1,.box g6 44 [iv y3.1.Room,(sv v9)],ae (sv v8) 3 1 (D.int .i64) x8.Items]:=hS.bv
 cases h
 exact ab (vs:=[_]) ai (rt z rn) z (hS.to [1,0,0])
theorem pK {a0 : ah} {a1 : List Box} {ai : Hd} {au : Hd} {h_0 : Hd} {A_0 : Type} {e_0 : A_0 → D} {l_0 : List A_0} {k_0 : Nat} {v_1 : Hd} {S : Nat → Prop} {w : World} {r : (List Int) × Int × (List Int) × Int × (List Box)} (h : dk a0 a1 = some r) (cJ : RV w (Old S w) (sv au) 3 1 (D.int .i64) a0.Mem) (hO : bG w [ae (sv ai) 3 1 (D.int .i64) a0.Regs,be (sv h_0) 38 3 e_0 l_0 k_0 [(sv ai),iv a0.Pc,(sv au)],ae (sv v_1) 44 2 a6 a1] S) (hlt : ∀ b,S b → b < w.heap.size) : Cl 66 #[.pointer (some (bU (adr (sv h_0)) (k_0 * 3 + 0))),(sv v_1)] w (Ret S w (fun s : Hd × Hd=>.tuple #[(sv s.1),iv r.2.1]) (fun s=>[be (sv h_0) 38 3 e_0 l_0 k_0 [(sv s.2),iv r.2.2.2.1,(sv au)],ae (sv v_1) 44 2 a6 r.2.2.2.2,ae (sv s.1) 3 1 (D.int .i64) r.1,ae (sv s.2) 3 1 (D.int .i64) r.2.2.1])):=by
 unfold dk at h
 refine ay Tryz.func66 z z ?_
 have hS:=Sep.sm hO hlt
 refine .g (.q z (.qn z (.seq (.g (.q z (.q z (.s (fe T.f38_0 z z z) z (.s (lde (hS.p1.hcellsv) T.t23 z z z z z) z ?_))))))))
 have ⟨x1,hx1,h⟩:=bnd h
 refine .s (ixv hS.lv hx1 T.u23 T.t3 z z z) z (.s (lde (RV.flat hS.lv hx1 z) T.t3 z z z z z) z (.nil (.block ?_)))
 have ⟨y1,hy1,h⟩:=bnd h
 refine .seq (CW.via (R':=fun x E' W'=>x = .normal ∧ aK E' [(0,.pointer (some (bU (adr (sv h_0)) (k_0 * 3 + 0)))),(1,(sv v_1)),(11,iv x1),(12,.bool y1)] ∧ Sep S w W' [ae (sv ai) 3 1 (D.int .i64) a0.Regs,be (sv h_0) 38 3 e_0 l_0 k_0 [(sv ai),iv a0.Pc,(sv au)],ae (sv v_1) 44 2 a6 a1]) ?_ ?_)
 ·have h:=hy1
  refine .g (.q z (.q z (.nil ?_)))
  refine .cs z h ?_ ?_ <;> intro h
  ·refine .skip ?_
   cases h
   exact ⟨z,sb z,hS.to [0,0,0]⟩
  refine .region (.q z (.q z (.nil ?_)))
  cases h
  exact ⟨z,sb z,hS.to [0,0,0]⟩
 intro x E W hJ
 obtain ⟨rfl,hE,hS⟩:=hJ
 refine ⟨_,hE.sub,?_⟩
 refine .cond z (fun hb=>?_) (fun hb=>?_)
 ·have h:=aI hb h
  refine .g (.c (.liv [] (D.int .i64) T.u23 T.t3 hS z z z z ?_ z (fun _=>z)))
  intro v1 W hS
  refine .q z (.q z ?_)
  have ⟨y2,hy2,h⟩:=bnd h
  have hS:=hS.p3
  have hS:=hS.p3
  have hS:=hS.p3
  refine .c (.cS (L0:=[ae (sv ai) 3 1 (D.int .i64) a0.Regs,be (sv h_0) 38 3 e_0 l_0 k_0 [(sv ai),iv a0.Pc,(sv au)],ae (sv v_1) 44 2 a6 a1]) hS Tryz.func84 (fun S h1 h2 h3=>(pJ hy2 (hS.ks cJ h1) h2 (zz h1))) z z ?_)
  rintro v2 W hS
  cases h
  exact .q z (.qn z (.ret (ab (vs:=[_,_]) (v1,v2) (rt z (rt z rn)) z (hS.to [0,0,1,0]))))
 have h:=aJ hb h
 refine .g (.q z (.q z (.nil ?_)))
 refine .cs z h ?_ ?_ <;> intro h
 ·refine .g (.c (.liv [] (D.int .i64) T.u23 T.t3 hS z z z z ?_ z (fun _=>z)))
  intro v3 W hS
  cases h
  exact .q z (.qn z (.ret (ab (vs:=[_,_]) (v3,ai) (rt z (rt z rn)) z (hS.to [2,2,0,0]))))
 refine .skip (.g (.q z (.q z (.q z (.s (fe T.f38_0 z z z) z (.s (lde (hS.p1.hcellsv) T.t23 z z z z z) z ?_))))))
 have ⟨x2,hx2,h⟩:=bnd h
 refine .s (ixv hS.lv hx2 T.u23 T.t3 z z z) z (.s (lde (RV.flat hS.lv hx2 z) T.t3 z z z z z) z (.q z (.s (fe T.f38_1 z z z) z (.c (.sthv hS.p1 T.t3 z z z ?_)))))
 intro W hS
 refine .nil (.seq (.g (.q z (.q z (.s (fe T.f38_0 z z z) z (.s (lde (hS.hcellsv) T.t23 z z z z z) z ?_))))))
 have ⟨x3,hx3,h⟩:=bnd h
 refine .s (ixv hS.p1.lv hx3 T.u23 T.t3 z z z) z (.s (lde (RV.flat hS.p1.lv hx3 z) T.t3 z z z z z) z (.q z (.nil ?_)))
 refine .cs z h ?_ ?_ <;> intro h
 ·refine .g (.q z (.q z (.s (fe T.f38_0 z z z) z (.s (lde (hS.hcellsv) T.t23 z z z z z) z ?_))))
  have ⟨x4,hx4,h⟩:=bnd h
  refine .s (ixv hS.p1.lv hx4 T.u23 T.t3 z z z) z (.s (lde (RV.flat hS.p1.lv hx4 z) T.t3 z z z z z) z (.c (.liv [x4] (D.int .i64) T.u23 T.t3 hS z z z z ?_ z (fun _=>z))))
  intro v4 W hS
  cases h
  exact .q z (.qn z (.ret (ab (vs:=[_,_]) (v4,ai) (rt z (rt z rn)) z (hS.to [1,2,0,0]))))
 refine .skip (.g (.c (.liv [] (D.int .i64) T.u23 T.t3 hS z z z z ?_ z (fun _=>z))))
 intro v5 W hS
 cases h
 exact .q z (.qn z (.ret (ab (vs:=[_,_]) (v5,ai) (rt z (rt z rn)) z (hS.to [1,2,0,0]))))
theorem dC {a0 : ah} {a1 : Int} {a2 : Int} {ai : Hd} {au : Hd} {h_0 : Hd} {A_0 : Type} {e_0 : A_0 → D} {l_0 : List A_0} {k_0 : Nat} {S : Nat → Prop} {w : World} {r : (List Int)} (h : dv a0 a1 a2 = some r) (cJ : RV w (Old S w) (sv au) 3 1 (D.int .i64) a0.Mem) (hO : bG w [ae (sv ai) 3 1 (D.int .i64) a0.Regs,be (sv h_0) 38 3 e_0 l_0 k_0 [(sv ai),iv a0.Pc,(sv au)]] S) (hlt : ∀ b,S b → b < w.heap.size) : Cl 116 #[.pointer (some (bU (adr (sv h_0)) (k_0 * 3 + 0))),iv a1,iv a2] w (Ret S w (fun s : Hd=>.tuple #[]) (fun s=>[be (sv h_0) 38 3 e_0 l_0 k_0 [(sv s),iv a0.Pc,(sv au)],ae (sv s) 3 1 (D.int .i64) r])):=by
 unfold dv at h
 refine ay Tryz.func116 z z ?_
 have hS:=Sep.sm hO hlt
 refine .g (.q z (.q z (.nil ?_)))
 refine .cs z h ?_ ?_ <;> intro h
 ·refine .region (.q z (.q z (.s (fe T.f38_0 z z z) z (.s (lde (hS.p1.hcellsv) T.t23 z z z z z) z (.q z (.q z ?_))))))
  have ⟨x1,hx1,h⟩:=bnd h
  refine .s (ixv hS.lv hx1 T.u23 T.t3 z z z) z ?_
  have ⟨r1,hr1,h⟩:=bnd h
  refine .c (.sev hr1 hx1 hS T.t3 z z z z z z ?_)
  intro W hS
  obtain rfl:=o9 h
  exact .nil (ab (vs:=[]) ai (rn) z (hS.to [1,0]))
 cases h
 exact .skip (ab (vs:=[]) ai (rn) z (hS.to [1,0]))
end
noncomputable section
theorem pL {a0 : ah} {a1 : Instr} {ai : Hd} {au : Hd} {h_0 : Hd} {A_0 : Type} {e_0 : A_0 → D} {l_0 : List A_0} {k_0 : Nat} {S : Nat → Prop} {w : World} {r : Bool × (List Int) × Int × (List Int)} (h : nq a0 a1 = some r) (hO : bG w [ae (sv ai) 3 1 (D.int .i64) a0.Regs,ae (sv au) 3 1 (D.int .i64) a0.Mem,be (sv h_0) 38 3 e_0 l_0 k_0 [(sv ai),iv a0.Pc,(sv au)]] S) (hlt : ∀ b,S b → b < w.heap.size) : Cl 114 #[.pointer (some (bU (adr (sv h_0)) (k_0 * 3 + 0))),.agg #[iv a1.Op,iv a1.Rd,iv a1.Rs,iv a1.Rt,iv a1.Imm]] w (Ret S w (fun s : Hd × Hd=>.bool r.1) (fun s=>[be (sv h_0) 38 3 e_0 l_0 k_0 [(sv s.1),iv r.2.2.1,(sv s.2)],ae (sv s.1) 3 1 (D.int .i64) r.2.1,ae (sv s.2) 3 1 (D.int .i64) r.2.2.2])):=by
 unfold nq at h
 refine ay Tryz.func114 z z ?_
 have hS:=Sep.sm hO hlt
 refine .g (.c (.box hS z z ?_))
 intro g1 W hS
 refine .qn z (.seq (.rk 13 hS [0,0,0,0] T.mix ?_))
 intro W hS
 have hT:=hS.to [0,0,0,0]
 refine .tp' 0 z z hT (.tp' 1 z z hT (.ts' 2 z (fun W hT=>fe T.f38_0 z z z) hT z (.ts' 3 z (fun W hT=>lde (hT.p3.hcellsv) T.t23 z z z z z) hT z (.ts' 4 z (fun W hT=>fa T.f51_2 z z z) hT z (.ts' 5 z (fun W hT=>ld T.t3 hT z z z z z) hT z ?_)))))
 have ⟨x1,hx1,h⟩:=bnd h
 refine .ts' 6 z (fun W hT=>ixv hS.p1.lv hx1 T.u23 T.t3 z z z) hT z (.ts' 7 z (fun W hT=>lde (RV.flat hT.p1.lv hx1 z) T.t3 z z z z z) hT z (.ts' 8 z (fun W hT=>fa T.f51_4 z z z) hT z (.ts' 9 z (fun W hT=>ld T.t3 hT z z z z z) hT z (.tp' 10 z z hT ?_))))
 have ⟨y1,hy1,h⟩:=bnd h
 refine .by1 11 z (.cO hS Tryz.func74 (cC hy1) z z ?_)
 intro W hS
 have hT:=hS.to [0,0,0,0]
 refine ⟨fun _=>hT,.tp' 12 z z hT (.done (.seq (.g (.q z (.q z (.s (fe T.f38_2 z z z) z (.s (lde (hS.p3.hcellsv) T.t23 z z z z z) z (.q z ?_))))))))⟩
 have ⟨y2,hy2,h⟩:=bnd h
 refine .c (.cO hS Tryz.func85 (nP hy2 hS.p2.lv) z z ?_)
 intro W hS
 refine .q z (.nil ?_)
 refine .cs z h ?_ ?_ <;> intro h
 ·cases h
  exact .g (.qn z (.ret (ab (vs:=[_]) (ai,au) (rt z rn) z (hS.to [3,1,1]))))
 refine .skip ?_
 have ⟨y3,hy3,h⟩:=bnd h
 refine .seq (CW.via (R':=fun x E' W'=>x = .normal ∧ ∃ (v1 : Hd),aK E' [(0,.pointer (some (bU (adr (sv h_0)) (k_0 * 3 + 0))))] ∧ Sep S w W' [.box g1 51 [iv a1.Op,iv a1.Rd,iv a1.Rs,iv a1.Rt,iv a1.Imm],ae (sv au) 3 1 (D.int .i64) y3.2,be (sv h_0) 38 3 e_0 l_0 k_0 [(sv v1),iv a0.Pc,(sv au)],ae (sv v1) 3 1 (D.int .i64) y3.1]) ?_ ?_)
 ·have h:=hy3
  refine .g (.s (fa T.f51_0 z z z) z (.s (ld T.t3 hS z z z z z) z (.qn z (.cond z (fun hb=>?_) (fun hb=>?_)))))
  ·have h:=aI hb h
   refine .rk 12 hS [0,1] T.mix ?_
   intro W hS
   have hT:=hS.to [0,1]
   refine .tp' 0 z z hT (.ts' 1 z (fun W hT=>fa T.f51_1 z z z) hT z (.ts' 2 z (fun W hT=>ld T.t3 hT z z z z z) hT z (.tp' 3 z z hT (.tp' 4 z z hT (.ts' 5 z (fun W hT=>fe T.f38_2 z z z) hT z (.tp' 7 z z hT (.tp' 8 z z hT (.by1 6 z (.runs (lde (hS.p3.hcellsv) T.t23 z z z z z) z z ?_)))))))))
   have hT:=hS.to [0,1]
   refine ⟨fun _=>hT,?_⟩
   have ⟨x2,hx2,h⟩:=bnd h
   refine .ts' 9 z (fun W hT=>ixv hS.p2.lv hx2 T.u23 T.t3 z z z) hT z (.ts' 10 z (fun W hT=>lde (RV.flat hT.p1.lv hx2 z) T.t3 z z z z z) hT z ?_)
   have ⟨y4,hy4,h⟩:=bnd h
   have hS:=hS.p3
   have hS:=hS.p2
   refine .by1 11 z (.cS (L0:=[ae (sv ai) 3 1 (D.int .i64) a0.Regs,be (sv h_0) 38 3 e_0 l_0 k_0 [(sv ai),iv a0.Pc,(sv au)]]) hS Tryz.func116 (fun S h1 h2 h3=>(dC hy4 (h3.rdv (k:=1) z) h2 (zz h1))) z z ?_)
   rintro v2 W hS
   have hT:=hS.to [2,2]
   refine ⟨fun _=>hT,.done ?_⟩
   cases h
   exact ⟨z,v2,sb z,hS.to [2,2,0,0]⟩
  have h:=aJ hb h
  refine .rk 15 hS [0,0,0,0] T.mix ?_
  intro W hS
  have hT:=hS.to [0,0,0,0]
  refine .tp' 0 z z hT (.tp' 1 z z hT (.ts' 2 z (fun W hT=>fe T.f38_2 z z z) hT z (.ts' 3 z (fun W hT=>lde (hT.p3.hcellsv) T.t23 z z z z z) hT z (.tp' 4 z z hT (.tp' 5 z z hT (.tp' 6 z z hT (.tp' 7 z z hT (.ts' 8 z (fun W hT=>fe T.f38_0 z z z) hT z (.ts' 9 z (fun W hT=>lde (hT.p3.hcellsv) T.t23 z z z z z) hT z (.ts' 10 z (fun W hT=>fa T.f51_3 z z z) hT z (.ts' 11 z (fun W hT=>ld T.t3 hT z z z z z) hT z ?_)))))))))))
  have ⟨x3,hx3,h⟩:=bnd h
  refine .ts' 12 z (fun W hT=>ixv hS.p1.lv hx3 T.u23 T.t3 z z z) hT z (.ts' 13 z (fun W hT=>lde (RV.flat hT.p1.lv hx3 z) T.t3 z z z z z) hT z ?_)
  have ⟨x4,hx4,h⟩:=bnd h
  refine .ts' 14 z (fun W hT=>ixv hS.p2.lv hx4 T.u23 T.t3 z z z) hT z ?_
  have ⟨r1,hr1,h⟩:=bnd h
  refine .by1 15 z (.sev hr1 hx4 hS.p2 T.t3 z z z z z z ?_)
  intro W hS
  refine ⟨fun h=>absurd z h,?_⟩
  refine .done ?_
  cases h
  exact ⟨z,ai,sb z,hS.to [1,0,1,0]⟩
 intro x E W hJ
 obtain ⟨rfl,v3,hE,hS⟩:=hJ
 refine ⟨_,hE.sub,?_⟩
 refine .g (.q z (.q z (.q z (.s (fe T.f38_1 z z z) z (.s (lde (hS.p2.hcellsv) T.t3 z z z z z) z (.q z (.q z (.s (fe T.f38_1 z z z) z (.c (.sthv hS.p2 T.t3 z z z ?_))))))))))
 intro W hS
 cases h
 exact .nil (.g (.qn z (.ret (ab (vs:=[_]) (v3,au) (rt z rn) z (hS.to [0,2,1])))))
theorem pM {a0 : ah} {a1 : Instr} {ai : Hd} {au : Hd} {h_0 : Hd} {A_0 : Type} {e_0 : A_0 → D} {l_0 : List A_0} {k_0 : Nat} {S : Nat → Prop} {w : World} {r : (List Int) × Int} (h : nr a0 a1 = some r) (cJ : RV w (Old S w) (sv au) 3 1 (D.int .i64) a0.Mem) (hO : bG w [ae (sv ai) 3 1 (D.int .i64) a0.Regs,be (sv h_0) 38 3 e_0 l_0 k_0 [(sv ai),iv a0.Pc,(sv au)]] S) (hlt : ∀ b,S b → b < w.heap.size) : Cl 115 #[.pointer (some (bU (adr (sv h_0)) (k_0 * 3 + 0))),.agg #[iv a1.Op,iv a1.Rd,iv a1.Rs,iv a1.Rt,iv a1.Imm]] w (Ret S w (fun s : Hd=>.tuple #[]) (fun s=>[be (sv h_0) 38 3 e_0 l_0 k_0 [(sv s),iv r.2,(sv au)],ae (sv s) 3 1 (D.int .i64) r.1])):=by
 unfold nr at h
 refine ay Tryz.func115 z z ?_
 have hS:=Sep.sm hO hlt
 refine .g (.c (.box hS z z ?_))
 intro g1 W hS
 refine .nil (.g (.q z (.q z (.s (fe T.f38_1 z z z) z (.s (lde (hS.p2.hcellsv) T.t3 z z z z z) z (.q z ?_))))))
 have ⟨y1,hy1,h⟩:=bnd h
 refine .c (.cO hS Tryz.func74 (cC hy1) z z ?_)
 intro W hS
 refine .qn z (.seq (.rk 18 hS [0,0,0] T.mix ?_))
 intro W hS
 have hT:=hS.to [0,0,0]
 refine .tp' 0 z z hT (.tp' 1 z z hT (.ts' 2 z (fun W hT=>fe T.f38_0 z z z) hT z (.ts' 3 z (fun W hT=>lde (hT.p2.hcellsv) T.t23 z z z z z) hT z (.ts' 4 z (fun W hT=>fa T.f51_2 z z z) hT z (.ts' 5 z (fun W hT=>ld T.t3 hT z z z z z) hT z ?_)))))
 have ⟨x1,hx1,h⟩:=bnd h
 refine .ts' 6 z (fun W hT=>ixv hS.p1.lv hx1 T.u23 T.t3 z z z) hT z (.ts' 7 z (fun W hT=>lde (RV.flat hT.p1.lv hx1 z) T.t3 z z z z z) hT z (.tp' 8 z z hT (.tp' 9 z z hT (.ts' 10 z (fun W hT=>fe T.f38_0 z z z) hT z (.ts' 11 z (fun W hT=>lde (hT.p2.hcellsv) T.t23 z z z z z) hT z (.ts' 12 z (fun W hT=>fa T.f51_3 z z z) hT z (.ts' 13 z (fun W hT=>ld T.t3 hT z z z z z) hT z ?_)))))))
 have ⟨x2,hx2,h⟩:=bnd h
 refine .ts' 14 z (fun W hT=>ixv hS.p1.lv hx2 T.u23 T.t3 z z z) hT z (.ts' 15 z (fun W hT=>lde (RV.flat hT.p1.lv hx2 z) T.t3 z z z z z) hT z (.tp' 16 z z hT (.tp' 17 z z hT (.done (.block (.g (.s (fa T.f51_0 z z z) z (.s (ld T.t3 hS z z z z z) z (.q z (.qn z (.cond z (fun hb=>?_) (fun hb=>?_))))))))))))
 ·have h:=aI hb h
  refine .seq (.rk 13 hS [0,0,0] T.mix ?_)
  intro W hS
  have hT:=hS.to [0,0,0]
  refine .tp' 0 z z hT (.tp' 1 z z hT (.ts' 2 z (fun W hT=>fe T.f38_0 z z z) hT z (.ts' 3 z (fun W hT=>lde (hT.p2.hcellsv) T.t23 z z z z z) hT z (.ts' 4 z (fun W hT=>fa T.f51_2 z z z) hT z (.ts' 5 z (fun W hT=>ld T.t3 hT z z z z z) hT z ?_)))))
  have ⟨x3,hx3,h⟩:=bnd h
  refine .ts' 6 z (fun W hT=>ixv hS.p1.lv hx3 T.u23 T.t3 z z z) hT z (.ts' 7 z (fun W hT=>lde (RV.flat hT.p1.lv hx3 z) T.t3 z z z z z) hT z (.ts' 8 z (fun W hT=>fa T.f51_4 z z z) hT z (.ts' 9 z (fun W hT=>ld T.t3 hT z z z z z) hT z (.tp' 10 z z hT ?_))))
  have ⟨y2,hy2,h⟩:=bnd h
  refine .by1 11 z (.cO hS Tryz.func74 (cC hy2) z z ?_)
  intro W hS
  have hT:=hS.to [0,0,0]
  refine ⟨fun _=>hT,.tp' 12 z z hT (.done (.g (.q z (.s (fa T.f51_1 z z z) z (.s (ld T.t3 hS z z z z z) z (.q z ?_))))))⟩
  have ⟨y3,hy3,h⟩:=bnd h
  have hS:=hS.p2
  have hS:=hS.p2
  refine .c (.cS (L0:=[ae (sv ai) 3 1 (D.int .i64) a0.Regs,be (sv h_0) 38 3 e_0 l_0 k_0 [(sv ai),iv a0.Pc,(sv au)]]) hS Tryz.func116 (fun S h1 h2 h3=>(dC hy3 (hS.ks cJ h1) h2 (zz h1))) z z ?_)
  rintro v1 W hS
  refine .nil (.region (.q z (.q z (.q z (.q z (.q z (.q z (.s (fe T.f38_1 z z z) z (.c (.sthv hS T.t3 z z z ?_))))))))))
  intro W hS
  cases h
  exact .nil (ab (vs:=[]) v1 (rn) z (hS.to [0,0]))
 have h:=aJ hb h
 refine .g (.s (fa T.f51_0 z z z) z (.s (ld T.t3 hS z z z z z) z (.q z (.qn z (.cond z (fun hb=>?_) (fun hb=>?_))))))
 ·have h:=aI hb h
  refine .g (.q z (.s (fa T.f51_1 z z z) z (.s (ld T.t3 hS z z z z z) z (.q z ?_))))
  have ⟨y4,hy4,h⟩:=bnd h
  have hS:=hS.p2
  have hS:=hS.p2
  refine .c (.cS (L0:=[ae (sv ai) 3 1 (D.int .i64) a0.Regs,be (sv h_0) 38 3 e_0 l_0 k_0 [(sv ai),iv a0.Pc,(sv au)]]) hS Tryz.func116 (fun S h1 h2 h3=>(dC hy4 (hS.ks cJ h1) h2 (zz h1))) z z ?_)
  rintro v2 W hS
  refine .nil (.rk 11 hS [0,0,0] T.mix ?_)
  intro W hS
  have hT:=hS.to [0,0,0]
  refine .tp' 0 z z hT (.tp' 1 z z hT (.tp' 2 z z hT (.ts' 3 z (fun W hT=>fe T.f38_1 z z z) hT z (.ts' 4 z (fun W hT=>lde (hT.hcellsv) T.t3 z z z z z) hT z (.ts' 5 z (fun W hT=>fa T.f51_4 z z z) hT z (.ts' 6 z (fun W hT=>ld T.t3 hT.p2 z z z z z) hT z (.tp' 7 z z hT ?_)))))))
  have ⟨y5,hy5,h⟩:=bnd h
  refine .by1 8 z (.cO hS Tryz.func74 (cC hy5) z z ?_)
  intro W hS
  have hT:=hS.to [0,0,0]
  refine ⟨fun _=>hT,.by1 9 z (.runs (pr z) z z ?_)⟩
  have hT:=hS.to [0,0,0]
  refine ⟨fun _=>hT,.ts' 10 z (fun W hT=>fe T.f38_1 z z z) hT z (.by1 11 z (.sthv hS T.t3 z z z ?_))⟩
  intro W hS
  refine ⟨fun h=>absurd z h,?_⟩
  cases h
  exact .done (ab (vs:=[]) v2 (rn) z (hS.to [0,0]))
 have h:=aJ hb h
 refine .g (.q z (.s (fa T.f51_0 z z z) z (.s (ld T.t3 hS z z z z z) z (.q z (.s (eqb T.u4 z z z) z (.q z (.nil ?_)))))))
 refine .cs z h ?_ ?_ <;> intro h
 ·refine .rk 11 hS [0,0,0] T.mix ?_
  intro W hS
  have hT:=hS.to [0,0,0]
  refine .tp' 0 z z hT (.tp' 1 z z hT (.tp' 2 z z hT (.ts' 3 z (fun W hT=>fe T.f38_1 z z z) hT z (.ts' 4 z (fun W hT=>lde (hT.p2.hcellsv) T.t3 z z z z z) hT z (.ts' 5 z (fun W hT=>fa T.f51_4 z z z) hT z (.ts' 6 z (fun W hT=>ld T.t3 hT z z z z z) hT z (.tp' 7 z z hT ?_)))))))
  have ⟨y6,hy6,h⟩:=bnd h
  refine .by1 8 z (.cO hS Tryz.func74 (cC hy6) z z ?_)
  intro W hS
  have hT:=hS.to [0,0,0]
  refine ⟨fun _=>hT,.by1 9 z (.runs (pr z) z z ?_)⟩
  have hT:=hS.to [0,0,0]
  refine ⟨fun _=>hT,.ts' 10 z (fun W hT=>fe T.f38_1 z z z) hT z (.by1 11 z (.sthv hS.p2 T.t3 z z z ?_))⟩
  intro W hS
  refine ⟨fun h=>absurd z h,?_⟩
  cases h
  exact .done (ab (vs:=[]) ai (rn) z (hS.to [0,1]))
 refine .region (.q z (.q z (.q z (.s (fe T.f38_1 z z z) z (.c (.sthv hS.p2 T.t3 z z z ?_))))))
 intro W hS
 cases h
 exact .nil (ab (vs:=[]) ai (rn) z (hS.to [0,1]))
def sN (w : World) (S : Nat → Prop) (ai : Hd) (au : Hd) (h_0 : Hd) (A_0 : Type) (e_0 : A_0 → D) (l_0 : List A_0) (k_0 : Nat) (a0 : ah) (a1 : Instr) (r : Bool × (List Int) × Int × (List Int)) : Env → World → Prop:=Fin Tryz.prog Tryz.f88 S w (fun s : Hd × Hd=>.bool r.1) (fun s=>[be (sv h_0) 38 3 e_0 l_0 k_0 [(sv s.1),iv r.2.2.1,(sv s.2)],ae (sv s.1) 3 1 (D.int .i64) r.2.1,ae (sv s.2) 3 1 (D.int .i64) r.2.2.2]) .ret
theorem rO {a0 : ah} {a1 : Instr} {ai : Hd} {au : Hd} {h_0 : Hd} {A_0 : Type} {e_0 : A_0 → D} {l_0 : List A_0} {k_0 : Nat} {S : Nat → Prop} {w : World} {r : Bool × (List Int) × Int × (List Int)} (h : cY a0 a1 = some r) (hO : bG w [ae (sv ai) 3 1 (D.int .i64) a0.Regs,ae (sv au) 3 1 (D.int .i64) a0.Mem,be (sv h_0) 38 3 e_0 l_0 k_0 [(sv ai),iv a0.Pc,(sv au)]] S) (hlt : ∀ b,S b → b < w.heap.size) : Cl 88 #[.pointer (some (bU (adr (sv h_0)) (k_0 * 3 + 0))),.agg #[iv a1.Op,iv a1.Rd,iv a1.Rs,iv a1.Rt,iv a1.Imm]] w (Ret S w (fun s : Hd × Hd=>.bool r.1) (fun s=>[be (sv h_0) 38 3 e_0 l_0 k_0 [(sv s.1),iv r.2.2.1,(sv s.2)],ae (sv s.1) 3 1 (D.int .i64) r.2.1,ae (sv s.2) 3 1 (D.int .i64) r.2.2.2])):=by
 unfold cY at h
 refine ay Tryz.func88 z z ?_
 have hS:=Sep.sm hO hlt
 refine .g (.c (.box hS z z ?_))
 intro g1 W hS
 refine .qn z (.seq (.rk 9 hS [0,0,0,0] T.mix ?_))
 intro W hS
 have hT:=hS.to [0,0,0,0]
 refine .tp' 0 z z hT (.tp' 1 z z hT (.ts' 2 z (fun W hT=>fe T.f38_0 z z z) hT z (.ts' 3 z (fun W hT=>lde (hT.p3.hcellsv) T.t23 z z z z z) hT z (.ts' 4 z (fun W hT=>fa T.f51_2 z z z) hT z (.ts' 5 z (fun W hT=>ld T.t3 hT z z z z z) hT z ?_)))))
 have ⟨x1,hx1,h⟩:=bnd h
 refine .ts' 6 z (fun W hT=>ixv hS.p1.lv hx1 T.u23 T.t3 z z z) hT z (.ts' 7 z (fun W hT=>lde (RV.flat hT.p1.lv hx1 z) T.t3 z z z z z) hT z (.tp' 8 z z hT (.done ?_)))
 have ⟨y1,hy1,h⟩:=bnd h
 refine .seq (CW.via (R':=fun x E' W'=>(match y1 with | .inl o1=>x = .normal ∧ ∃ (v1 : Hd),aK E' [(0,.pointer (some (bU (adr (sv h_0)) (k_0 * 3 + 0))))] ∧ Sep S w W' [.box g1 51 [iv a1.Op,iv a1.Rd,iv a1.Rs,iv a1.Rt,iv a1.Imm],ae (sv au) 3 1 (D.int .i64) a0.Mem,be (sv h_0) 38 3 e_0 l_0 k_0 [(sv v1),iv a0.Pc,(sv au)],ae (sv v1) 3 1 (D.int .i64) o1] | .inr o2=>x = .ret ∧ sN w S ai au h_0 A_0 e_0 l_0 k_0 a0 a1 o2 E' W')) ?_ ?_)
 ·have h:=hy1
  refine .g (.s (fa T.f51_0 z z z) z (.s (ld T.t3 hS z z z z z) z (.nil (.block ?_))))
  have ⟨y2,hy2,h⟩:=bnd h
  refine .seq (CW.via (R':=fun x E' W'=>x = .normal ∧ aK E' [(0,.pointer (some (bU (adr (sv h_0)) (k_0 * 3 + 0)))),(3,pt g1),(5,iv x1),(15,iv a1.Op),(32,.bool y2)] ∧ Sep S w W' [.box g1 51 [iv a1.Op,iv a1.Rd,iv a1.Rs,iv a1.Rt,iv a1.Imm],ae (sv ai) 3 1 (D.int .i64) a0.Regs,ae (sv au) 3 1 (D.int .i64) a0.Mem,be (sv h_0) 38 3 e_0 l_0 k_0 [(sv ai),iv a0.Pc,(sv au)]]) ?_ ?_)
  ·have h:=hy2
   refine .g (.q z (.q z (.nil ?_)))
   refine .cs z h ?_ ?_ <;> intro h
   ·refine .skip ?_
    cases h
    exact ⟨z,sb z,hS.to [0,0,0,0]⟩
   refine .region (.q z (.q z (.nil ?_)))
   cases h
   exact ⟨z,sb z,hS.to [0,0,0,0]⟩
  intro x E W hJ
  obtain ⟨rfl,hE,hS⟩:=hJ
  refine ⟨_,hE.sub,?_⟩
  refine .cond z (fun hb=>?_) (fun hb=>?_)
  ·have h:=aI hb h
   refine .g (.q z (.s (ld T.t51 hS z z z z z) z ?_))
   have ⟨y3,hy3,h⟩:=bnd h
   have hS:=hS.p3
   have hS:=hS.p3
   have hS:=hS.p3
   refine .c (.cS (L0:=[ae (sv ai) 3 1 (D.int .i64) a0.Regs,ae (sv au) 3 1 (D.int .i64) a0.Mem,be (sv h_0) 38 3 e_0 l_0 k_0 [(sv ai),iv a0.Pc,(sv au)]]) hS Tryz.func114 (fun S h1 h2 h3=>(pL hy3 h2 (zz h1))) z z ?_)
   rintro ⟨v2,v3⟩ W hS
   refine .qn z (.ret ?_)
   cases h
   exact ⟨z,ab (vs:=[_]) (v2,v3) (rt z rn) z (hS.to [0,0,0])⟩
  have h:=aJ hb h
  have ⟨y4,hy4,h⟩:=bnd h
  refine .seq (CW.via (R':=fun x E' W'=>x = .normal ∧ aK E' [(0,.pointer (some (bU (adr (sv h_0)) (k_0 * 3 + 0)))),(3,pt g1),(5,iv x1),(15,iv a1.Op),(38,.bool y4)] ∧ Sep S w W' [.box g1 51 [iv a1.Op,iv a1.Rd,iv a1.Rs,iv a1.Rt,iv a1.Imm],ae (sv ai) 3 1 (D.int .i64) a0.Regs,ae (sv au) 3 1 (D.int .i64) a0.Mem,be (sv h_0) 38 3 e_0 l_0 k_0 [(sv ai),iv a0.Pc,(sv au)]]) ?_ ?_)
  ·have h:=hy4
   refine .g (.q z (.q z (.nil ?_)))
   refine .cs z h ?_ ?_ <;> intro h
   ·refine .skip ?_
    cases h
    exact ⟨z,sb z,hS.to [0,0,0,0]⟩
   refine .g (.q z (.q z (.nil ?_)))
   refine .cs z h ?_ ?_ <;> intro h
   ·refine .skip ?_
    cases h
    exact ⟨z,sb z,hS.to [0,0,0,0]⟩
   refine .g (.q z (.q z (.nil ?_)))
   refine .cs z h ?_ ?_ <;> intro h
   ·refine .skip ?_
    cases h
    exact ⟨z,sb z,hS.to [0,0,0,0]⟩
   refine .region (.q z (.q z (.nil ?_)))
   cases h
   exact ⟨z,sb z,hS.to [0,0,0,0]⟩
  intro x E W hJ
  obtain ⟨rfl,hE,hS⟩:=hJ
  refine ⟨_,hE.sub,?_⟩
  refine .cond z (fun hb=>?_) (fun hb=>?_)
  ·have h:=aI hb h
   refine .g (.q z (.s (ld T.t51 hS z z z z z) z ?_))
   have ⟨y5,hy5,h⟩:=bnd h
   have hS:=hS.p3
   have hS:=hS.p2
   refine .c (.cS (L0:=[ae (sv ai) 3 1 (D.int .i64) a0.Regs,be (sv h_0) 38 3 e_0 l_0 k_0 [(sv ai),iv a0.Pc,(sv au)]]) hS Tryz.func115 (fun S h1 h2 h3=>(pM hy5 (h3.rdv (k:=1) z) h2 (zz h1))) z z ?_)
   rintro v4 W hS
   refine .nil (.g (.qn z (.ret ?_)))
   cases h
   exact ⟨z,ab (vs:=[_]) (v4,au) (rt z rn) z (hS.to [0,0,1])⟩
  have h:=aJ hb h
  refine .g (.q z (.qn z (.cond z (fun hb=>?_) (fun hb=>?_))))
  ·have h:=aI hb h
   refine .rk 9 hS [0,1] T.mix ?_
   intro W hS
   have hT:=hS.to [0,1]
   refine .tp' 0 z z hT (.ts' 1 z (fun W hT=>fa T.f51_1 z z z) hT z (.ts' 2 z (fun W hT=>ld T.t3 hT z z z z z) hT z (.tp' 3 z z hT (.ts' 4 z (fun W hT=>fa T.f51_4 z z z) hT z (.ts' 5 z (fun W hT=>ld T.t3 hT z z z z z) hT z (.tp' 6 z z hT ?_))))))
   have ⟨y6,hy6,h⟩:=bnd h
   refine .by1 7 z (.cO hS Tryz.func74 (cC hy6) z z ?_)
   intro W hS
   have hT:=hS.to [0,1]
   refine ⟨fun _=>hT,?_⟩
   have ⟨y7,hy7,h⟩:=bnd h
   have hS:=hS.p3
   have hS:=hS.p2
   refine .by1 8 z (.cS (L0:=[ae (sv ai) 3 1 (D.int .i64) a0.Regs,be (sv h_0) 38 3 e_0 l_0 k_0 [(sv ai),iv a0.Pc,(sv au)]]) hS Tryz.func116 (fun S h1 h2 h3=>(dC hy7 (h3.rdv (k:=1) z) h2 (zz h1))) z z ?_)
   rintro v5 W hS
   have hT:=hS.to [2,2]
   refine ⟨fun _=>hT,.done ?_⟩
   cases h
   exact ⟨z,v5,sb z,hS.to [2,2,0,0]⟩
  have h:=aJ hb h
  refine .g (.q z (.qn z (.cond z (fun hb=>?_) (fun hb=>?_))))
  ·have h:=aI hb h
   refine .rk 11 hS [0,1] T.mix ?_
   intro W hS
   have hT:=hS.to [0,1]
   refine .tp' 0 z z hT (.ts' 1 z (fun W hT=>fa T.f51_1 z z z) hT z (.ts' 2 z (fun W hT=>ld T.t3 hT z z z z z) hT z (.tp' 3 z z hT (.ts' 5 z (fun W hT=>fa T.f51_4 z z z) hT z (.ts' 6 z (fun W hT=>ld T.t3 hT z z z z z) hT z ?_)))))
   have ⟨y8,hy8,h⟩:=bnd h
   refine .by1 4 z (.cO hS Tryz.func87 (et hy8) z z ?_)
   intro W hS
   have hT:=hS.to [0,1]
   refine ⟨fun _=>hT,?_⟩
   have ⟨y9,hy9,h⟩:=bnd h
   refine .by1 7 z (.cO hS Tryz.func87 (et hy9) z z ?_)
   intro W hS
   have hT:=hS.to [0,1]
   refine ⟨fun _=>hT,.tp' 8 z z hT ?_⟩
   have ⟨y10,hy10,h⟩:=bnd h
   refine .by1 9 z (.cO hS Tryz.func117 (mo hy10) z z ?_)
   intro W hS
   have hT:=hS.to [0,1]
   refine ⟨fun _=>hT,?_⟩
   have ⟨y11,hy11,h⟩:=bnd h
   have hS:=hS.p3
   have hS:=hS.p2
   refine .by1 10 z (.cS (L0:=[ae (sv ai) 3 1 (D.int .i64) a0.Regs,be (sv h_0) 38 3 e_0 l_0 k_0 [(sv ai),iv a0.Pc,(sv au)]]) hS Tryz.func116 (fun S h1 h2 h3=>(dC hy11 (h3.rdv (k:=1) z) h2 (zz h1))) z z ?_)
   rintro v6 W hS
   have hT:=hS.to [2,2]
   refine ⟨fun _=>hT,.done ?_⟩
   cases h
   exact ⟨z,v6,sb z,hS.to [2,2,0,0]⟩
  have h:=aJ hb h
  refine .g (.q z (.qn z (.cond z (fun hb=>?_) (fun hb=>?_))))
  ·have h:=aI hb h
   refine .rk 8 hS [0,1] T.mix ?_
   intro W hS
   have hT:=hS.to [0,1]
   refine .tp' 0 z z hT (.ts' 1 z (fun W hT=>fa T.f51_1 z z z) hT z (.ts' 2 z (fun W hT=>ld T.t3 hT z z z z z) hT z (.ts' 3 z (fun W hT=>fa T.f51_4 z z z) hT z (.ts' 4 z (fun W hT=>ld T.t3 hT z z z z z) hT z (.tp' 5 z z hT ?_)))))
   have ⟨y12,hy12,h⟩:=bnd h
   refine .by1 6 z (.cO hS Tryz.func74 (cC hy12) z z ?_)
   intro W hS
   have hT:=hS.to [0,1]
   refine ⟨fun _=>hT,?_⟩
   have ⟨y13,hy13,h⟩:=bnd h
   have hS:=hS.p3
   have hS:=hS.p2
   refine .by1 7 z (.cS (L0:=[ae (sv ai) 3 1 (D.int .i64) a0.Regs,be (sv h_0) 38 3 e_0 l_0 k_0 [(sv ai),iv a0.Pc,(sv au)]]) hS Tryz.func116 (fun S h1 h2 h3=>(dC hy13 (h3.rdv (k:=1) z) h2 (zz h1))) z z ?_)
   rintro v7 W hS
   have hT:=hS.to [2,2]
   refine ⟨fun _=>hT,.done ?_⟩
   cases h
   exact ⟨z,v7,sb z,hS.to [2,2,0,0]⟩
  have h:=aJ hb h
  refine .rk 16 hS [0,1] T.mix ?_
  intro W hS
  have hT:=hS.to [0,1]
  refine .tp' 0 z z hT (.ts' 1 z (fun W hT=>fa T.f51_1 z z z) hT z (.ts' 2 z (fun W hT=>ld T.t3 hT z z z z z) hT z (.ts' 3 z (fun W hT=>fa T.f51_0 z z z) hT z (.ts' 4 z (fun W hT=>ld T.t3 hT z z z z z) hT z (.tp' 5 z z hT (.tp' 6 z z hT (.tp' 7 z z hT (.ts' 8 z (fun W hT=>fe T.f38_0 z z z) hT z (.ts' 10 z (fun W hT=>fa T.f51_3 z z z) hT z (.ts' 11 z (fun W hT=>ld T.t3 hT z z z z z) hT z (.by1 9 z (.runs (lde (hS.p3.hcellsv) T.t23 z z z z z) z z ?_))))))))))))
  have hT:=hS.to [0,1]
  refine ⟨fun _=>hT,?_⟩
  have ⟨x2,hx2,h⟩:=bnd h
  refine .ts' 12 z (fun W hT=>ixv hS.p1.lv hx2 T.u23 T.t3 z z z) hT z (.by1 13 z (.runs (lde (RV.flat hS.p1.lv hx2 z) T.t3 z z z z z) z z ?_))
  have hT:=hS.to [0,1]
  refine ⟨fun _=>hT,?_⟩
  have ⟨y14,hy14,h⟩:=bnd h
  refine .by1 14 z (.cO hS Tryz.func118 (ui hy14) z z ?_)
  intro W hS
  have hT:=hS.to [0,1]
  refine ⟨fun _=>hT,?_⟩
  have ⟨y15,hy15,h⟩:=bnd h
  have hS:=hS.p3
  have hS:=hS.p2
  refine .by1 15 z (.cS (L0:=[ae (sv ai) 3 1 (D.int .i64) a0.Regs,be (sv h_0) 38 3 e_0 l_0 k_0 [(sv ai),iv a0.Pc,(sv au)]]) hS Tryz.func116 (fun S h1 h2 h3=>(dC hy15 (h3.rdv (k:=1) z) h2 (zz h1))) z z ?_)
  rintro v8 W hS
  have hT:=hS.to [2,2]
  refine ⟨fun _=>hT,.done ?_⟩
  cases h
  exact ⟨z,v8,sb z,hS.to [2,2,0,0]⟩
 intro x E W hJ
 rcases y1 with o3 | o4
 ·obtain ⟨rfl,v9,hE,hS⟩:=hJ
  refine ⟨_,hE.sub,?_⟩
  refine .g (.q z (.q z (.q z (.s (fe T.f38_1 z z z) z (.s (lde (hS.p2.hcellsv) T.t3 z z z z z) z (.q z (.q z (.s (fe T.f38_1 z z z) z (.c (.sthv hS.p2 T.t3 z z z ?_))))))))))
  intro W hS
  cases h
  exact .nil (.g (.qn z (.ret (ab (vs:=[_]) (v9,au) (rt z rn) z (hS.to [0,2,1])))))
 obtain ⟨rfl,hF⟩:=hJ
 refine ⟨_,fun _ _ h=>h,?_⟩
 cases h
 exact hF
theorem pN {a0 : ah} {ai : Hd} {au : Hd} {h_0 : Hd} {A_0 : Type} {e_0 : A_0 → D} {l_0 : List A_0} {k_0 : Nat} {S : Nat → Prop} {w : World} {r : Int × (List Int) × Int × (List Int)} (h : dQ a0 = some r) (hO : bG w [ae (sv ai) 3 1 (D.int .i64) a0.Regs,ae (sv au) 3 1 (D.int .i64) a0.Mem,be (sv h_0) 38 3 e_0 l_0 k_0 [(sv ai),iv a0.Pc,(sv au)]] S) (hlt : ∀ b,S b → b < w.heap.size) : Cl 67 #[.pointer (some (bU (adr (sv h_0)) (k_0 * 3 + 0)))] w (Ret S w (fun s : Hd × Hd=>.int .i64 r.1) (fun s=>[be (sv h_0) 38 3 e_0 l_0 k_0 [(sv s.1),iv r.2.2.1,(sv s.2)],ae (sv s.1) 3 1 (D.int .i64) r.2.1,ae (sv s.2) 3 1 (D.int .i64) r.2.2.2])):=by
 unfold dQ at h
 refine ay Tryz.func67 z z ?_
 have hS:=Sep.sm hO hlt
 refine .g (.qn z (.seq (.seq (.rk 10 hS [0,0,0] T.mix ?_))))
 intro W hS
 have hT:=hS.to [0,0,0]
 refine .tp' 0 z z hT (.tp' 1 z z hT (.ts' 2 z (fun W hT=>fe T.f38_2 z z z) hT z (.ts' 3 z (fun W hT=>lde (hT.p2.hcellsv) T.t23 z z z z z) hT z (.tp' 4 z z hT (.tp' 5 z z hT (.ts' 6 z (fun W hT=>fe T.f38_1 z z z) hT z (.ts' 7 z (fun W hT=>lde (hT.p2.hcellsv) T.t3 z z z z z) hT z ?_)))))))
 have ⟨y1,hy1,h⟩:=bnd h
 refine .by1 8 z (.cO hS Tryz.func85 (nP hy1 hS.p1.lv) z z ?_)
 intro W hS
 have hT:=hS.to [0,0,0]
 refine ⟨fun _=>hT,.tp' 9 z z hT (.done ?_)⟩
 refine .cs z h ?_ ?_ <;> intro h
 ·cases h
  exact .g (.qn z (.ret (ab (vs:=[_]) (ai,au) (rt z rn) z (hS.to [2,0,0]))))
 refine .skip (.seq ?_)
 have ⟨x1,hx1,h⟩:=bnd h
 have ⟨y2,hy2,h⟩:=bnd h
 have ⟨y3,hy3,h⟩:=bnd h
 refine .via (R':=fun x E' W'=>x = .normal ∧ ∃ (g1 : Nat),aK E' [(0,.pointer (some (bU (adr (sv h_0)) (k_0 * 3 + 0)))),(3,pt g1),(4,.bool y3.2)] ∧ Sep S w W' [ae (sv ai) 3 1 (D.int .i64) a0.Regs,ae (sv au) 3 1 (D.int .i64) a0.Mem,be (sv h_0) 38 3 e_0 l_0 k_0 [(sv ai),iv a0.Pc,(sv au)],.box g1 51 [iv y3.1.Op,iv y3.1.Rd,iv y3.1.Rs,iv y3.1.Rt,iv y3.1.Imm]]) ?_ ?_
 ·refine .rk 19 hS [0,0,0] T.mix ?_
  intro W hS
  have hT:=hS.to [0,0,0]
  refine .tp' 0 z z hT (.tp' 1 z z hT (.ts' 2 z (fun W hT=>fe T.f38_2 z z z) hT z (.ts' 3 z (fun W hT=>lde (hT.p2.hcellsv) T.t23 z z z z z) hT z (.tp' 4 z z hT (.tp' 5 z z hT (.ts' 6 z (fun W hT=>fe T.f38_1 z z z) hT z (.ts' 7 z (fun W hT=>lde (hT.p2.hcellsv) T.t3 z z z z z) hT z (.tp' 8 z z hT (.ts' 9 z (fun W hT=>ixv hS.p1.lv hx1 T.u23 T.t3 z z z) hT z (.ts' 10 z (fun W hT=>lde (RV.flat hT.p1.lv hx1 z) T.t3 z z z z z) hT z (.by [11,16] ⟨⟨_,z,?_⟩,⟨_,z,?_⟩,trivial⟩)))))))))))
  ·refine (.cO hS Tryz.func87 (et hy2) z z ?_)
   intro W hS
   have hT:=hS.to [0,0,0]
   refine ⟨fun _=>hT,.by [12,16] ⟨⟨_,z,?_⟩,⟨_,z,?_⟩,trivial⟩⟩
   ·refine (.cO hS Tryz.func86 (iV hy3) z z ?_)
    intro W hS
    have hT:=hS.to [0,0,0]
    refine ⟨fun _=>hT,.tp' 13 z z hT (.tp' 14 z z hT (.tp' 15 z z hT (.by1 16 z (.alloc T.t51 hS ?_))))⟩
    intro g2 W hS
    have hT:=hS.to [1,1,1]
    refine ⟨fun _=>hT,.by1 17 z (.st T.t51 hS z z z ?_)⟩
    intro W hS
    have hT:=hS.to [1,1,1]
    refine ⟨fun _=>hT,?_⟩
    exact .tp' 18 z z hT (.done (⟨z,g2,sb z,hS.to [1,1,1,0]⟩))
   refine (.alloc T.t51 hS ?_)
   intro g3 W hS
   have hT:=hS.to [1,1,1]
   refine ⟨fun _=>hT,.by1 12 z (.cO hS Tryz.func86 (iV hy3) z z ?_)⟩
   intro W hS
   have hT:=hS.to [1,1,1]
   refine ⟨fun _=>hT,.tp' 13 z z hT (.tp' 14 z z hT (.tp' 15 z z hT (.by1 17 z (.st T.t51 hS z z z ?_))))⟩
   intro W hS
   have hT:=hS.to [1,1,1]
   refine ⟨fun _=>hT,?_⟩
   exact .tp' 18 z z hT (.done (⟨z,g3,sb z,hS.to [1,1,1,0]⟩))
  refine (.alloc T.t51 hS ?_)
  intro g4 W hS
  have hT:=hS.to [1,1,1]
  refine ⟨fun _=>hT,.by1 11 z (.cO hS Tryz.func87 (et hy2) z z ?_)⟩
  intro W hS
  have hT:=hS.to [1,1,1]
  refine ⟨fun _=>hT,.by1 12 z (.cO hS Tryz.func86 (iV hy3) z z ?_)⟩
  intro W hS
  have hT:=hS.to [1,1,1]
  refine ⟨fun _=>hT,.tp' 13 z z hT (.tp' 14 z z hT (.tp' 15 z z hT (.by1 17 z (.st T.t51 hS z z z ?_))))⟩
  intro W hS
  have hT:=hS.to [1,1,1]
  refine ⟨fun _=>hT,?_⟩
  exact .tp' 18 z z hT (.done (⟨z,g4,sb z,hS.to [1,1,1,0]⟩))
 intro x E W hJ
 obtain ⟨rfl,g5,hE,hS⟩:=hJ
 refine ⟨_,hE.sub,?_⟩
 refine .seq (.g (.q z (.q z (.nil ?_))))
 refine .cs z h ?_ ?_ <;> intro h
 ·cases h
  exact .g (.qn z (.ret (ab (vs:=[_]) (ai,au) (rt z rn) z (hS.to [2,0,0]))))
 refine .skip (.seq (.g (.s (fa T.f51_0 z z z) z (.s (ld T.t3 hS.p3 z z z z z) z (.qn z (.cond z (fun hb=>?_) (fun hb=>?_)))))))
 ·have h:=aI hb h
  cases h
  exact .g (.qn z (.ret (ab (vs:=[_]) (ai,au) (rt z rn) z (hS.to [2,0,0]))))
 have h:=aJ hb h
 refine .skip (.seq (.g (.q z (.s (ld T.t51 hS.p3 z z z z z) z ?_))))
 have ⟨y4,hy4,h⟩:=bnd h
 have hS:=hS.p2
 have hS:=hS.p2
 have hS:=hS.p2
 refine .c (.cS (L0:=[ae (sv ai) 3 1 (D.int .i64) a0.Regs,ae (sv au) 3 1 (D.int .i64) a0.Mem,be (sv h_0) 38 3 e_0 l_0 k_0 [(sv ai),iv a0.Pc,(sv au)]]) hS Tryz.func88 (fun S h1 h2 h3=>(rO hy4 h2 (zz h1))) z z ?_)
 rintro ⟨v1,v2⟩ W hS
 refine .q z (.nil ?_)
 refine .cs z h ?_ ?_ <;> intro h
 ·cases h
  exact .g (.qn z (.ret (ab (vs:=[_]) (v1,v2) (rt z rn) z (hS.to [0,0,0]))))
 cases h
 exact .skip (.g (.qn z (.ret (ab (vs:=[_]) (v1,v2) (rt z rn) z (hS.to [0,0,0])))))
def uj (w : World) (S : Nat → Prop) (aD : Hd) (aC : Hd) (aO : Hd) (g_0 : Nat) (a0 : aH) (r : Bool × (List ah) × (List Box) × Int × Int × (List Int)) : Env → World → Prop:=Fin Tryz.prog Tryz.f39 S w (fun s : Hd × Hd × Hd=>.bool r.1) (fun s=>[.box g_0 30 [(sv s.1),(sv s.2.1),iv r.2.2.2.1,iv r.2.2.2.2.1,(sv s.2.2)],ae (sv s.1) 38 3 aq r.2.1,ae (sv s.2.1) 44 2 a6 r.2.2.1,ae (sv s.2.2) 3 1 (D.int .i64) r.2.2.2.2.2]) .ret
theorem sO {a0 : aH} {aD : Hd} {aC : Hd} {aO : Hd} {g_0 : Nat} {S : Nat → Prop} {w : World} {r : Bool × (List ah) × (List Box) × Int × Int × (List Int)} (h : cB a0 = some r) (hO : bG w [ae (sv aD) 38 3 aq a0.Harts,ae (sv aC) 44 2 a6 a0.Boxes,ae (sv aO) 3 1 (D.int .i64) a0.Out,.box g_0 30 [(sv aD),(sv aC),iv a0.Turn,iv a0.Idle,(sv aO)]] S) (hlt : ∀ b,S b → b < w.heap.size) : Cl 39 #[pt g_0] w (Ret S w (fun s : Hd × Hd × Hd=>.bool r.1) (fun s=>[.box g_0 30 [(sv s.1),(sv s.2.1),iv r.2.2.2.1,iv r.2.2.2.2.1,(sv s.2.2)],ae (sv s.1) 38 3 aq r.2.1,ae (sv s.2.1) 44 2 a6 r.2.2.1,ae (sv s.2.2) 3 1 (D.int .i64) r.2.2.2.2.2])):=by
 unfold cB at h
 refine ay Tryz.func39 z z ?_
 have hS:=Sep.sm hO hlt
 refine .g (.qn z (.seq (.rk 10 hS [0,0,0,0] T.mix ?_)))
 intro W hS
 have hT:=hS.to [0,0,0,0]
 refine .tp' 0 z z hT (.tp' 1 z z hT (.ts' 2 z (fun W hT=>fa T.f30_0 z z z) hT z (.ts' 3 z (fun W hT=>ld T.t27 hT.p3 z z z z z) hT z (.tp' 4 z z hT (.tp' 5 z z hT (.ts' 6 z (fun W hT=>fa T.f30_2 z z z) hT z (.ts' 7 z (fun W hT=>ld T.t3 hT.p3 z z z z z) hT z ?_)))))))
 have ⟨x1,hx1,h⟩:=bnd h
 refine .ts' 8 z (fun W hT=>ixv hS.lv hx1 T.u27 T.t38 z z z) hT z (.tp' 9 z z hT (.done (.g (.q z (.nil ?_)))))
 have ⟨y1,hy1,h⟩:=bnd h
 refine .seq (CW.via (R':=fun x E' W'=>(match y1 with | .inl o1=>x = .normal ∧ ∃ (v1 : Hd),aK E' [(0,pt g_0),(4,iv o1.1)] ∧ Sep S w W' [ae (sv aD) 38 3 aq o1.2.2.1,ae (sv aC) 44 2 a6 o1.2.2.2,.box g_0 30 [(sv aD),(sv aC),iv a0.Turn,iv a0.Idle,(sv v1)],ae (sv v1) 3 1 (D.int .i64) o1.2.1] | .inr o2=>x = .ret ∧ uj w S aD aC aO g_0 a0 o2 E' W')) ?_ ?_)
 ·have h:=hy1
  refine .g (.q z (.q z (.s (fe T.f38_1 z z z) z ?_)))
  obtain ⟨k1,hS⟩:=Sep.ov hS hx1
  have hS:=hS.oa
  obtain ⟨v2,k1,rfl,hS⟩:=hS.ow
  obtain ⟨k1,rfl,hS⟩:=Sep.oF z hS
  obtain ⟨v3,k1,rfl,hS⟩:=hS.ow
  obtain ⟨rfl,hS⟩:=hS.oN
  refine .s (lde (hS.p2.hcellsv) T.t3 z z z z z) z (.qn z (.cond z (fun hb=>?_) (fun hb=>?_)))
  ·have h:=aI hb h
   refine .seq (.g (.q z (.q z (.q z (.s (fa T.f30_1 z z z) z (.s (ld T.t28 hS.p5 z z z z z) z (.s (bq hS.p3.lv T.u28 z z) z ?_)))))))
   have ⟨y2,hy2,h⟩:=bnd h
   have hS:=hS.p2
   refine .c (.cS (L0:=[be (sv aD) 38 3 aq a0.Harts (Int.toNat a0.Turn) [(sv v2),iv x1.Pc,(sv v3)]]) hS Tryz.func65 (fun S h1 h2 h3=>(pI hy2 (h3.rdv (k:=1) z) (h3.rdv (k:=0) z) h2 (zz h1))) z z ?_)
   rintro ⟨⟩ W hS
   refine .qn z (.cond z (fun hb=>?_) (fun hb=>?_))
   ·have h:=aI hb h
    refine .g (.qn z (.ret ?_))
    have hS:=Sep.gat (ds:=[aq x1]) (cs:=[(sv v2),iv x1.Pc,(sv v3)]) (L1:=[ae (sv v2) 3 1 (D.int .i64) x1.Regs,ae (sv v3) 3 1 (D.int .i64) x1.Mem]) (.agg (.row (.flat (c1:=[iv x1.Pc]) z (.row .nil)))) (hS.to [2,1,0,0,0,0])
    have hS : Sep _ _ _ [ae (sv aD) 38 3 aq a0.Harts,ae (sv aC) 44 2 a6 a0.Boxes,ae (sv aO) 3 1 (D.int .i64) a0.Out,.box g_0 30 [(sv aD),(sv aC),iv a0.Turn,iv a0.Idle,(sv aO)]]:=Sep.back0v hx1 hS
    cases h
    exact ⟨z,ab (vs:=[_]) (aD,aC,aO) (rt z rn) z (hS.to [3,0,0,0])⟩
   have h:=aJ hb h
   refine .skip (.g (.q z (.q z (.q z (.s (fa T.f30_1 z z z) z (.s (ld T.t28 hS.p5 z z z z z) z ?_))))))
   have ⟨y3,hy3,h⟩:=bnd h
   have hS:=hS.p3
   have hS:=hS.p1
   have hS:=hS.p3
   refine .c (.cS (L0:=[ae (sv v2) 3 1 (D.int .i64) x1.Regs,be (sv aD) 38 3 aq a0.Harts (Int.toNat a0.Turn) [(sv v2),iv x1.Pc,(sv v3)],ae (sv aC) 44 2 a6 a0.Boxes]) hS Tryz.func66 (fun S h1 h2 h3=>(pK hy3 (h3.rdv (k:=0) z) h2 (zz h1))) z z ?_)
   rintro ⟨v4,v5⟩ W hS
   refine .q z (.q z (.q z (.q z (.qn z (.g (.q z (.q z (.q z (.s (fa T.f30_4 z z z) z (.s (ld T.t23 hS.p6 z z z z z) z (.q z ?_)))))))))))
   have ⟨r1,hr1,h⟩:=bnd h
   have hT0:=hS.p5
   refine .c (.av hr1 hT0 hT0.p3.lv (fun _=>z) T.u23 T.t3 z z z ?_)
   intro v6 W hS
   refine .q z (.s (fa T.f30_4 z z z) z (.c (.st T.t23 hS.p6 z z z ?_)))
   intro W hS
   refine .nil (.region (.q z (.q z (.nil ?_))))
   have hS:=Sep.gat (ds:=[aq (ah.mk y3.2.2.1 y3.2.2.2.1 x1.Mem)]) (cs:=[(sv v5),iv y3.2.2.2.1,(sv v3)]) (L1:=[ae (sv v5) 3 1 (D.int .i64) y3.2.2.1,ae (sv v3) 3 1 (D.int .i64) x1.Mem]) (.agg (.row (.flat (c1:=[iv y3.2.2.2.1]) z (.row .nil)))) (hS.to [5,5,2,0,0,0,0])
   have hS : Sep _ _ _ [ae (sv aD) 38 3 aq (a0.Harts.set (Int.toNat a0.Turn) (ah.mk y3.2.2.1 y3.2.2.2.1 x1.Mem)),.box g_0 30 [(sv aD),(sv aC),iv a0.Turn,iv a0.Idle,(sv v6)],ae (sv v6) 3 1 (D.int .i64) r1,ae (sv aC) 44 2 a6 y3.2.2.2.2,ae (sv v4) 3 1 (D.int .i64) y3.1]:=hS.bv
   cases h
   exact ⟨z,v6,sb z,hS.to [0,2,0,0]⟩
  have h:=aJ hb h
  refine .g (.q z ?_)
  have ⟨y4,hy4,h⟩:=bnd h
  have hS:=hS.p2
  have hS:=hS.p1
  have hS:=hS.p2
  refine .c (.cS (L0:=[ae (sv v2) 3 1 (D.int .i64) x1.Regs,ae (sv v3) 3 1 (D.int .i64) x1.Mem,be (sv aD) 38 3 aq a0.Harts (Int.toNat a0.Turn) [(sv v2),iv x1.Pc,(sv v3)]]) hS Tryz.func67 (fun S h1 h2 h3=>(pN hy4 h2 (zz h1))) z z ?_)
  rintro ⟨v7,v8⟩ W hS
  refine .q z (.nil ?_)
  refine .cs z h ?_ ?_ <;> intro h
  ·refine .g (.qn z (.ret ?_))
   have hS:=Sep.gat (ds:=[aq (ah.mk y4.2.1 y4.2.2.1 y4.2.2.2)]) (cs:=[(sv v7),iv y4.2.2.1,(sv v8)]) (L1:=[ae (sv v7) 3 1 (D.int .i64) y4.2.1,ae (sv v8) 3 1 (D.int .i64) y4.2.2.2]) (.agg (.row (.flat (c1:=[iv y4.2.2.1]) z (.row .nil)))) (hS.to [1,1,0,0,0,0])
   have hS : Sep _ _ _ [ae (sv aD) 38 3 aq (a0.Harts.set (Int.toNat a0.Turn) (ah.mk y4.2.1 y4.2.2.1 y4.2.2.2)),ae (sv aC) 44 2 a6 a0.Boxes,ae (sv aO) 3 1 (D.int .i64) a0.Out,.box g_0 30 [(sv aD),(sv aC),iv a0.Turn,iv a0.Idle,(sv aO)]]:=hS.bv
   cases h
   exact ⟨z,ab (vs:=[_]) (aD,aC,aO) (rt z rn) z (hS.to [3,0,0,0])⟩
  refine .skip ?_
  have hS:=Sep.gat (ds:=[aq (ah.mk y4.2.1 y4.2.2.1 y4.2.2.2)]) (cs:=[(sv v7),iv y4.2.2.1,(sv v8)]) (L1:=[ae (sv v7) 3 1 (D.int .i64) y4.2.1,ae (sv v8) 3 1 (D.int .i64) y4.2.2.2]) (.agg (.row (.flat (c1:=[iv y4.2.2.1]) z (.row .nil)))) (hS.to [1,1,0,0,0,0])
  have hS : Sep _ _ _ [ae (sv aD) 38 3 aq (a0.Harts.set (Int.toNat a0.Turn) (ah.mk y4.2.1 y4.2.2.1 y4.2.2.2)),ae (sv aC) 44 2 a6 a0.Boxes,ae (sv aO) 3 1 (D.int .i64) a0.Out,.box g_0 30 [(sv aD),(sv aC),iv a0.Turn,iv a0.Idle,(sv aO)]]:=hS.bv
  cases h
  exact ⟨z,aO,sb z,hS.to [0,0,1,0]⟩
 intro x E W hJ
 rcases y1 with o3 | o4
 ·obtain ⟨rfl,v9,hE,hS⟩:=hJ
  refine ⟨_,hE.sub,?_⟩
  refine .seq (.rk 22 hS [0,0,0,0] T.mix ?_)
  intro W hS
  have hT:=hS.to [0,0,0,0]
  refine .tp' 0 z z hT (.tp' 1 z z hT (.ts' 2 z (fun W hT=>fa T.f30_0 z z z) hT z (.ts' 3 z (fun W hT=>ld T.t27 hT.p2 z z z z z) hT z (.ts' 4 z (fun W hT=>bq hS.lv T.u27 z z) hT z (.tp' 5 z z hT (.tp' 6 z z hT (.ts' 7 z (fun W hT=>fa T.f30_2 z z z) hT z (.ts' 8 z (fun W hT=>ld T.t3 hT.p2 z z z z z) hT z (.tp' 9 z z hT (.tp' 10 z z hT (.ts' 11 z (fun W hT=>fa T.f30_3 z z z) hT z (.ts' 12 z (fun W hT=>ld T.t3 hT.p2 z z z z z) hT z (.tp' 13 z z hT ?_)))))))))))))
  have ⟨y5,hy5,h⟩:=bnd h
  refine .by1 14 z (.cO hS Tryz.func68 (rN hy5) z z ?_)
  intro W hS
  have hT:=hS.to [0,0,0,0]
  refine ⟨fun _=>hT,.tp' 15 z z hT (.tp' 16 z z hT (.tp' 17 z z hT (.tp' 18 z z hT (.tp' 19 z z hT (.tp' 20 z z hT (.tp' 21 z z hT (.done (.g (.q z (.q z (.q z (.s (fa T.f30_2 z z z) z (.c (.st T.t3 hS.p2 z z z ?_))))))))))))))⟩
  intro W hS
  refine .nil (.g (.q z (.q z (.q z (.s (fa T.f30_3 z z z) z (.c (.st T.t3 hS z z z ?_)))))))
  intro W hS
  cases h
  exact .nil (.g (.qn z (.ret (ab (vs:=[_]) (aD,aC,v9) (rt z rn) z (hS.to [0,0,0,0])))))
 obtain ⟨rfl,hF⟩:=hJ
 refine ⟨_,fun _ _ h=>h,?_⟩
 cases h
 exact hF
def sP (w : World) (r : aH × Bool) : Env → World → Prop:=Fin Tryz.prog Tryz.f14 No w (fun s : Hd × Hd × Hd=>.tuple #[.agg #[(sv s.1),(sv s.2.1),iv r.1.Turn,iv r.1.Idle,(sv s.2.2)],.bool r.2]) (fun s=>[ae (sv s.1) 38 3 aq r.1.Harts,ae (sv s.2.1) 44 2 a6 r.1.Boxes,ae (sv s.2.2) 3 1 (D.int .i64) r.1.Out]) .ret
theorem iQ {a0 : aH} {a1 : Int} {aD : Hd} {aC : Hd} {aO : Hd} {w : World} {r : aH × Bool} (h : dR a0 a1 = some r) (aw : RO w aD 38 3 aq a0.Harts) (aA : RO w aC 44 2 a6 a0.Boxes) (aR : RO w aO 3 1 (D.int .i64) a0.Out) : Cl 14 #[.agg #[(sv aD),(sv aC),iv a0.Turn,iv a0.Idle,(sv aO)],iv a1] w (Ret No w (fun s : Hd × Hd × Hd=>.tuple #[.agg #[(sv s.1),(sv s.2.1),iv r.1.Turn,iv r.1.Idle,(sv s.2.2)],.bool r.2]) (fun s=>[ae (sv s.1) 38 3 aq r.1.Harts,ae (sv s.2.1) 44 2 a6 r.1.Boxes,ae (sv s.2.2) 3 1 (D.int .i64) r.1.Out])):=by
 unfold dR at h
 refine ay Tryz.func14 z z ?_
 have hS:=Sep.start w
 refine .g (.c (.box hS z z ?_))
 intro g1 W hS
 refine .c (.alloc T.t30 hS ?_)
 intro g2 W hS
 refine .qn z (.seq (.g (.s (ld T.t30 hS.p1 z z z z z) z ?_)))
 have ⟨y1,hy1,h⟩:=bnd h
 refine .c (.cO hS Tryz.func37 (rM hy1 (hS.keep aw) (hS.keep aA) (hS.keep aR)) z z ?_)
 intro W hS
 refine .q z (.q z ?_)
 have ⟨b1,hb1,h⟩:=bnd h
 refine .cu 4 15 (b1) hS ?_ ?_
 ·refine .both (!y1) (fun hb=>?_) (fun hb=>?_)
  ·refine .xx hb z (.xx hb z (.xx hb z ?_))
   cases aI hb hb1
   exact .s (pkt hb z z z) z (.nil (ck 4 hS))
  have hg1:=hb
  have h:=aJ hb hb1
  refine .g hg1 (.q z ?_)
  have ⟨y2,hy2,h⟩:=bnd h
  refine .g hg1 (.c (.cO hS Tryz.func23 (aM hy2) z z ?_))
  intro W hS
  refine .g hg1 (.q z (.s (pkf hg1 z z z) z ?_))
  cases h
  exact .nil (ck 4 hS)
 intro W hS
 refine .nil ?_
 refine .cs z h ?_ ?_ <;> intro h
 ·refine .g (.s (bs T.s30 z z) z (.c (.st T.t30 hS z z z ?_)))
  intro W hS
  refine .qn z (.ret ?_)
  have hS:=hS.nilv 38 3 aq
  have hS:=hS.nilv 44 2 a6
  have hS:=hS.nilv 3 1 (D.int .i64)
  cases h
  exact ab (vs:=[_,_]) (aP,aP,aP) (rc hS.p3 T.t30 z (rt z rn) z z) z (hS.to [2,1,0])
 refine .skip (.g (.s (ld T.t30 hS.p1 z z z z z) z ?_))
 have ⟨y3,hy3,h⟩:=bnd h
 refine .c (.call hS Tryz.func38 (sL hy3 (hS.keep aw) (hS.keep aA) (hS.keep aR)) z z ?_)
 rintro ⟨v1,v2,v3⟩ W hS
 refine .c (.alloc T.t30 hS ?_)
 intro g3 W hS
 refine .c (.st T.t30 hS z z z ?_)
 intro W hS
 refine .nil (.seq (.g (.qn z (.block ?_))))
 have ⟨y4,hy4,h⟩:=bnd h
 refine .via (.iter (fun s1 E' W'=>∃ (v10 : Hd) (v11 : Hd) (v12 : Hd),aK E' [(1,iv a1),(4,pt g2),(6,pt g3),(7,iv s1.1)] ∧ Sep No w W' [.box g3 30 [(sv v10),(sv v11),iv s1.2.2.2.1,iv s1.2.2.2.2.1,(sv v12)],.box g2 30 [(sv aP),(sv aP),iv 0,iv 0,(sv aP)],.box g1 30 [(sv aD),(sv aC),iv a0.Turn,iv a0.Idle,(sv aO)],ae (sv v10) 38 3 aq s1.2.1,ae (sv v11) 44 2 a6 s1.2.2.1,ae (sv v12) 3 1 (D.int .i64) s1.2.2.2.2.2]) (fun y5 x E' W'=>(match y5 with | .inl o1=>x = .ret ∧ sP w o1 E' W' | .inr o2=>x = .exit 0 ∧ ∃ (v13 : Hd) (v14 : Hd) (v15 : Hd),aK E' [(4,pt g2),(6,pt g3)] ∧ Sep No w W' [.box g3 30 [(sv v13),(sv v14),iv o2.2.2.1,iv o2.2.2.2.1,(sv v15)],.box g2 30 [(sv aP),(sv aP),iv 0,iv 0,(sv aP)],.box g1 30 [(sv aD),(sv aC),iv a0.Turn,iv a0.Idle,(sv aO)],ae (sv v13) 38 3 aq o2.1,ae (sv v14) 44 2 a6 o2.2.1,ae (sv v15) 3 1 (D.int .i64) o2.2.2.2.2])) hy4 ⟨v1,v2,v3,sb rfl,hS.to [0,3,3,0,0,0] rfl⟩ ?_) ?_
 ·intro s1 y6 E W h hI
  obtain ⟨v7,v8,v9,hE,hS⟩:=hI
  refine CW.sub hE ?_
  unfold ch at h
  refine .seq (.g (.q z (.q z (.q z (.q z (.cu 7 29 ((decide (s1.1 < a1)) && (decide (s1.2.2.2.2.1 < (s1.2.1.length : Int)))) hS ?_ ?_))))))
  ·refine .both (decide (s1.1 < a1)) (fun hb=>?_) (fun hb=>?_)
   ·have hg2:=hb
    exact .g hg2 (.s (fa T.f30_3 z z z) z (.g hg2 (.s (ld T.t3 hS z z z z z) z (.g hg2 (.s (fa T.f30_0 z z z) z (.g hg2 (.s (ld T.t27 hS z z z z z) z (.g hg2 (.s (bq hS.p3.lv T.u27 z z) z (.g hg2 (.q z (.s (pkt hg2 z z z) z (.nil (ck 7 hS z (bH hg2)))))))))))))))
   exact .xx hb z (.xx hb z (.xx hb z (.xx hb z (.xx hb z (.xx hb z (.s (pkf hb z z z) z (.nil (ck 7 hS z (bI hb)))))))))
  intro W hS
  refine .nil (.cond z (fun hb=>?_) (fun hb=>?_))
  ·have h:=aI hb h
   refine .skip (.seq (.block (.seq (.region ?_))))
   have ⟨y7,hy7,h⟩:=bnd h
   have hS:=hS.p5
   have hS:=hS.p5
   have hS:=hS.p5
   refine .c (.cS (L0:=[ae (sv v7) 38 3 aq s1.2.1,ae (sv v8) 44 2 a6 s1.2.2.1,ae (sv v9) 3 1 (D.int .i64) s1.2.2.2.2.2,.box g3 30 [(sv v7),(sv v8),iv s1.2.2.2.1,iv s1.2.2.2.2.1,(sv v9)]]) hS Tryz.func39 (fun S h1 h2 h3=>(sO hy7 h2 (zz h1))) z z ?_)
   rintro ⟨v16,v17,v18⟩ W hS
   refine .q z (.nil ?_)
   refine .cs z h ?_ ?_ <;> intro h
   ·refine .g (.s (bs T.s30 z z) z (.c (.st T.t30 hS.p4 z z z ?_)))
    intro W hS
    refine .qn z (.ret ?_)
    have hS:=hS.nilv 38 3 aq
    have hS:=hS.nilv 44 2 a6
    have hS:=hS.nilv 3 1 (D.int .i64)
    cases h
    exact ⟨by simp,z,ab (vs:=[_,_]) (aP,aP,aP) (rc hS.p3 T.t30 z (rt z rn) z z) z (hS.to [2,1,0])⟩
   refine .skip (.region (.q z (.q z (.q z (.nil ?_)))))
   cases h
   exact ⟨z,v16,v17,v18,sb z,hS.to [0,3,3,0,0,0]⟩
  have h:=aJ hb h
  refine .exit ?_
  cases h
  exact ⟨by simp,z,v7,v8,v9,sb z,hS.to [0,0,0,0,0,0]⟩
 intro x E W hJ
 rcases y4 with o3 | o4
 ·obtain ⟨rfl,hF⟩:=hJ
  refine ⟨_,fun _ _ h=>h,?_⟩
  cases h
  exact hF
 obtain ⟨rfl,v19,v20,v21,hE,hS⟩:=hJ
 refine ⟨_,hE.sub,?_⟩
 refine .g (.s (ld T.t30 hS z z z z z) z (.c (.st T.t30 hS.p1 z z z ?_)))
 intro W hS
 cases h
 exact .qn z (.ret (ab (vs:=[_,_]) (v19,v20,v21) (rc hS T.t30 z (rt z rn) z z) z (hS.to [3,3,3])))
theorem rP {k : Nat} {a0 : aU} {ax : Hd} {g_0 : Nat} {S : Nat → Prop} {w : World} {r : aH × Int} (h : jr k a0 = some r) (aQ : RV w (Old S w) (sv ax) 5 1 (D.int .u8) a0.b) (hO : bG w [.box g_0 74 [(sv ax),iv a0.p]] S) (hlt : ∀ b,S b → b < w.heap.size) : Cl 28 #[pt g_0] w (Ret S w (fun s : Hd × Hd × Hd=>.agg #[(sv s.1),(sv s.2.1),iv r.1.Turn,iv r.1.Idle,(sv s.2.2)]) (fun s=>[.box g_0 74 [(sv ax),iv r.2],ae (sv s.1) 38 3 aq r.1.Harts,ae (sv s.2.1) 44 2 a6 r.1.Boxes,ae (sv s.2.2) 3 1 (D.int .i64) r.1.Out])):=by
 unfold jr at h
 refine ay Tryz.func28 z z ?_
 have hS:=Sep.sm hO hlt
 refine .g (.c (.alloc T.t30 hS ?_))
 intro g1 W hS
 refine .nil (.g (.q z ?_))
 have ⟨y1,hy1,h⟩:=bnd h
 have hS:=hS.p1
 refine .c (.cS (L0:=[.box g_0 74 [(sv ax),iv a0.p]]) hS Tryz.func17 (fun S h1 h2 h3=>(ry hy1 (hS.ks aQ h1) h2 (zz h1))) z z ?_)
 rintro v1 W hS
 refine .qn z (.g (.q z ?_))
 have ⟨y2,hy2,h⟩:=bnd h
 refine .c (.cS (L0:=[.box g_0 74 [(sv ax),iv y1.2]]) hS Tryz.func18 (fun S h1 h2 h3=>(ak hy2 (hS.ks aQ h1) h2 (zz h1))) z z ?_)
 rintro ⟨⟩ W hS
 refine .q z (.q z ?_)
 have ⟨y3,hy3,h⟩:=bnd h
 refine .c (.cS (L0:=[.box g_0 74 [(sv ax),iv y2.2]]) hS Tryz.func18 (fun S h1 h2 h3=>(ak hy3 (hS.ks aQ h1) h2 (zz h1))) z z ?_)
 rintro ⟨⟩ W hS
 refine .q z (.c (.liv [w64 (1 + y2.1),w64 (1 + y3.1)] (D.int .i64) T.u23 T.t3 hS z z z z ?_ z (fun _=>z)))
 intro v2 W hS
 refine .q z ?_
 have ⟨y4,hy4,h⟩:=bnd h
 refine .c (.call hS Tryz.func8 (rE hy4 hS.lv hS.p2.lv) z z ?_)
 rintro ⟨v3,v4,v5⟩ W hS
 refine .q z (.q z (.q z (.c (.alloc T.t30 hS ?_))))
 intro g2 W hS
 refine .c (.st T.t30 hS z z z ?_)
 intro W hS
 refine .qn z (.seq ?_)
 have ⟨y5,hy5,h⟩:=bnd h
 have ⟨y6,hy6,h⟩:=bnd h
 refine .via (R':=fun x E' W'=>x = .normal ∧ ∃ (g3 : Nat) (v6 : Hd) (v7 : Hd) (v8 : Hd),aK E' [(0,pt g_0),(2,pt g1),(6,pt g3)] ∧ Sep S w W' [.box g2 30 [(sv v3),(sv v4),iv y4.1.Turn,iv y4.1.Idle,(sv v5)],ae (sv v3) 38 3 aq y4.1.Harts,ae (sv v4) 44 2 a6 y4.1.Boxes,ae (sv v5) 3 1 (D.int .i64) y4.1.Out,ae (sv v2) 3 1 (D.int .i64) [w64 (1 + y2.1),w64 (1 + y3.1)],.box g_0 74 [(sv ax),iv y5.2],ae (sv v1) 35 1 (fun (l : List Instr)=>D.row 51 5 (l.map br)) y1.1,.box g1 30 [(sv aP),(sv aP),iv 0,iv 0,(sv aP)],.box g3 30 [(sv v6),(sv v7),iv y6.1.Turn,iv y6.1.Idle,(sv v8)],ae (sv v6) 38 3 aq y6.1.Harts,ae (sv v7) 44 2 a6 y6.1.Boxes,ae (sv v8) 3 1 (D.int .i64) y6.1.Out]) ?_ ?_
 ·refine .rk 10 hS [0,0,0,0,0,1,1] T.mix ?_
  intro W hS
  have hT:=hS.to [0,0,0,0,0,1,1]
  refine .ts' 0 z (fun W hT=>ld T.t30 hT z z z z z) hT z (.tp' 1 z z hT (.by [2,7] ⟨⟨_,z,?_⟩,⟨_,z,?_⟩,trivial⟩))
  ·have hS:=hS.p5
   refine (.cS (L0:=[.box g_0 74 [(sv ax),iv y3.2]]) hS Tryz.func18 (fun S h1 h2 h3=>(ak hy5 (hS.ks aQ h1) h2 (zz h1))) z z ?_)
   rintro ⟨⟩ W hS
   have hT:=hS.to [1,1,1,1,1,1,1]
   refine ⟨fun _=>hT,.by [3,7] ⟨⟨_,z,?_⟩,⟨_,z,?_⟩,trivial⟩⟩
   ·refine (.call hS Tryz.func14 (iQ hy6 hS.p2.lv hS.p3.lv hS.p4.lv) z z ?_)
    rintro ⟨v9,v10,v11⟩ W hS
    have hT:=hS.to [4,4,4,4,4,4,4]
    refine ⟨fun _=>hT,.tp' 4 z z hT (.tp' 5 z z hT (.tp' 6 z z hT (.by1 7 z (.alloc T.t30 hS ?_))))⟩
    intro g4 W hS
    have hT:=hS.to [5,5,5,5,5,5,5]
    refine ⟨fun _=>hT,.by1 8 z (.st T.t30 hS z z z ?_)⟩
    intro W hS
    have hT:=hS.to [5,5,5,5,5,5,5]
    refine ⟨fun _=>hT,?_⟩
    exact .tp' 9 z z hT (.done (⟨z,g4,v9,v10,v11,sb z,hS.to [5,5,5,5,5,4,4,4,0,0,0,0]⟩))
   refine (.alloc T.t30 hS ?_)
   intro g5 W hS
   have hT:=hS.to [2,2,2,2,2,2,2]
   refine ⟨fun _=>hT,.by1 3 z (.call hS Tryz.func14 (iQ hy6 hS.p3.lv hS.p4.lv hS.p5.lv) z z ?_)⟩
   rintro ⟨v12,v13,v14⟩ W hS
   have hT:=hS.to [5,5,5,5,5,5,5]
   refine ⟨fun _=>hT,.tp' 4 z z hT (.tp' 5 z z hT (.tp' 6 z z hT (.by1 8 z (.st T.t30 hS.p3 z z z ?_))))⟩
   intro W hS
   have hT:=hS.to [5,5,5,5,5,5,5]
   refine ⟨fun _=>hT,?_⟩
   exact .tp' 9 z z hT (.done (⟨z,g5,v12,v13,v14,sb z,hS.to [5,5,5,5,5,4,4,4,0,0,0,0]⟩))
  refine (.alloc T.t30 hS ?_)
  intro g6 W hS
  have hT:=hS.to [1,1,1,1,1,2,2]
  refine ⟨fun _=>hT,?_⟩
  have hS:=hS.p6
  refine .by1 2 z (.cS (L0:=[.box g_0 74 [(sv ax),iv y3.2]]) hS Tryz.func18 (fun S h1 h2 h3=>(ak hy5 (hS.ks aQ h1) h2 (zz h1))) z z ?_)
  rintro ⟨⟩ W hS
  have hT:=hS.to [2,2,2,2,2,2,2]
  refine ⟨fun _=>hT,.by1 3 z (.call hS Tryz.func14 (iQ hy6 hS.p3.lv hS.p4.lv hS.p5.lv) z z ?_)⟩
  rintro ⟨v15,v16,v17⟩ W hS
  have hT:=hS.to [5,5,5,5,5,5,5]
  refine ⟨fun _=>hT,.tp' 4 z z hT (.tp' 5 z z hT (.tp' 6 z z hT (.by1 8 z (.st T.t30 hS.p4 z z z ?_))))⟩
  intro W hS
  have hT:=hS.to [5,5,5,5,5,5,5]
  refine ⟨fun _=>hT,?_⟩
  exact .tp' 9 z z hT (.done (⟨z,g6,v15,v16,v17,sb z,hS.to [5,5,5,5,5,4,4,4,0,0,0,0]⟩))
 intro x E W hJ
 obtain ⟨rfl,g7,v18,v19,v20,hE,hS⟩:=hJ
 refine ⟨_,hE.sub,?_⟩
 refine .seq (.g (.q z ?_))
 have ⟨y7,hy7,h⟩:=bnd h
 have hS:=hS.p5
 refine .c (.cS (L0:=[.box g_0 74 [(sv ax),iv y5.2]]) hS Tryz.func18 (fun S h1 h2 h3=>(ak hy7 (hS.ks aQ h1) h2 (zz h1))) z z ?_)
 rintro ⟨⟩ W hS
 refine .nil (.block (.g (.q z (.q z (.nil ?_)))))
 refine .cs z h ?_ ?_ <;> intro h
 ·refine .region (.s (fa T.f30_2 z z z) z (.c (.st T.t3 hS.p8 z z z ?_)))
  intro W hS
  refine .nil (.g (.s (ld T.t30 hS z z z z z) z (.c (.st T.t30 hS.p8 z z z ?_))))
  intro W hS
  cases h
  exact .nil (.ret (ab (vs:=[_]) (v18,v19,v20) (rc hS T.t30 z rn z z) z (hS.to [2,8,8,8])))
 refine .g (.q z (.q z (.nil ?_)))
 refine .cs z h ?_ ?_ <;> intro h
 ·refine .region (.s (fa T.f30_0 z z z) z (.s (ld T.t27 hS.p8 z z z z z) z ?_))
  have ⟨x1,hx1,h⟩:=bnd h
  refine .s (ixv hS.p9.lv hx1 T.u27 T.t38 z z z) z (.s (fe T.f38_1 z z z) z ?_)
  obtain ⟨k1,hS⟩:=Sep.ov hS.p9 hx1
  have hS:=hS.oa
  obtain ⟨v21,k1,rfl,hS⟩:=hS.ow
  obtain ⟨k1,rfl,hS⟩:=Sep.oF z hS
  obtain ⟨v22,k1,rfl,hS⟩:=hS.ow
  obtain ⟨rfl,hS⟩:=hS.oN
  refine .c (.sthv hS.p2 T.t3 z z z ?_)
  intro W hS
  refine .nil (.g (.s (ld T.t30 hS.p11 z z z z z) z (.c (.st T.t30 hS.p10 z z z ?_))))
  intro W hS
  refine .nil (.ret ?_)
  have hS:=Sep.gat (ds:=[aq (ah.mk x1.Regs 2 x1.Mem)]) (cs:=[(sv v21),iv 2,(sv v22)]) (L1:=[ae (sv v21) 3 1 (D.int .i64) x1.Regs,ae (sv v22) 3 1 (D.int .i64) x1.Mem]) (.agg (.row (.flat (c1:=[iv 2]) z (.row .nil)))) (hS.to [3,2,1,0,0,0,0,0,0,0,0,0,0,0])
  have hS : Sep _ _ _ [ae (sv v18) 38 3 aq (y6.1.Harts.set (Int.toNat 0) (ah.mk x1.Regs 2 x1.Mem)),.box g1 30 [(sv v18),(sv v19),iv y6.1.Turn,iv y6.1.Idle,(sv v20)],.box g_0 74 [(sv ax),iv y7.2],.box g2 30 [(sv v3),(sv v4),iv y4.1.Turn,iv y4.1.Idle,(sv v5)],ae (sv v3) 38 3 aq y4.1.Harts,ae (sv v4) 44 2 a6 y4.1.Boxes,ae (sv v5) 3 1 (D.int .i64) y4.1.Out,ae (sv v2) 3 1 (D.int .i64) [w64 (1 + y2.1),w64 (1 + y3.1)],ae (sv v1) 35 1 (fun (l : List Instr)=>D.row 51 5 (l.map br)) y1.1,.box g7 30 [(sv v18),(sv v19),iv y6.1.Turn,iv y6.1.Idle,(sv v20)],ae (sv v19) 44 2 a6 y6.1.Boxes,ae (sv v20) 3 1 (D.int .i64) y6.1.Out]:=hS.bv
  cases h
  exact ab (vs:=[_]) (v18,v19,v20) (rc hS.p1 T.t30 z rn z z) z (hS.to [2,0,8,8])
 refine .g (.q z (.q z (.nil ?_)))
 refine .cs z h ?_ ?_ <;> intro h
 ·refine .region (.s (fa T.f30_4 z z z) z (.s (ld T.t23 hS.p8 z z z z z) z (.c (.liv [(-2147483649)] (D.int .i64) T.u23 T.t3 hS z z z z ?_ z (fun _=>z)))))
  intro v23 W hS
  have ⟨r1,hr1,h⟩:=bnd h
  have hT0:=(hS.pull (i:=12) z)
  refine .c (.av hr1 hT0 hT0.p1.lv (fun _=>z) T.u23 T.t3 z z z ?_)
  intro v24 W hS
  refine .s (fa T.f30_4 z z z) z (.c (.st T.t23 hS.p10 z z z ?_))
  intro W hS
  refine .nil (.g (.s (ld T.t30 hS z z z z z) z (.c (.st T.t30 hS.p10 z z z ?_))))
  intro W hS
  cases h
  exact .nil (.ret (ab (vs:=[_]) (v18,v19,v24) (rc hS T.t30 z rn z z) z (hS.to [4,10,10,2])))
 refine .skip (.g (.s (ld T.t30 hS.p8 z z z z z) z (.c (.st T.t30 hS.p7 z z z ?_))))
 intro W hS
 cases h
 exact .nil (.ret (ab (vs:=[_]) (v18,v19,v20) (rc hS T.t30 z rn z z) z (hS.to [1,8,8,8])))
theorem oy {k : Nat} {a0 : List Int} {v_0 : Hd} {w : World} {r : aH × Int} (h : ff k a0 = some r) (q_0 : RO w v_0 5 1 (D.int .u8) a0) : Cl 12 #[(sv v_0)] w (Ret No w (fun s : Hd × Hd × Hd=>.tuple #[.agg #[(sv s.1),(sv s.2.1),iv r.1.Turn,iv r.1.Idle,(sv s.2.2)],iv r.2]) (fun s=>[ae (sv s.1) 38 3 aq r.1.Harts,ae (sv s.2.1) 44 2 a6 r.1.Boxes,ae (sv s.2.2) 3 1 (D.int .i64) r.1.Out])):=by
 unfold ff at h
 refine ay Tryz.func12 z z ?_
 have hS:=Sep.start w
 have Q_0:=q_0
 refine .g (.c (.alloc T.t30 hS ?_))
 intro g1 W hS
 refine .qn z (.g (.q z ?_))
 have ⟨y1,hy1,h⟩:=bnd h
 have hQ1:=hS
 refine .c (.call hS Tryz.func16 (tV hy1 (hS.keep q_0)) z z ?_)
 rintro ⟨g2,⟨v1,q1⟩⟩ W hS
 refine .qn z (.g (.q z ?_))
 have ⟨y2,hy2,h⟩:=bnd h
 refine .c (.cS (L0:=[.box g2 74 [(sv v1),iv y1.p]]) hS Tryz.func28 (fun S h1 h2 h3=>(rP hy2 (hS.ks (hQ1.wasA (q1 _ (hQ1.keepA q_0 Q_0))) h1) h2 (zz h1))) z z ?_)
 rintro ⟨v2,v3,v4⟩ W hS
 refine .c (.alloc T.t30 hS ?_)
 intro g3 W hS
 refine .c (.st T.t30 hS z z z ?_)
 intro W hS
 refine .nil (.seq (.g (.q z ?_)))
 have ⟨y3,hy3,h⟩:=bnd h
 have hS:=hS.p1
 refine .c (.cS (L0:=[.box g2 74 [(sv v1),iv y2.2]]) hS Tryz.func18 (fun S h1 h2 h3=>(ak hy3 (hS.ks (hQ1.wasA (q1 _ (hQ1.keepA q_0 Q_0))) h1) h2 (zz h1))) z z ?_)
 rintro ⟨⟩ W hS
 refine .qn z (.cond z (fun hb=>?_) (fun hb=>?_))
 ·have h:=aI hb h
  refine .seq ?_
  have ⟨y4,hy4,h⟩:=bnd h
  have ⟨x1,hx1,h⟩:=bnd h
  refine .via (R':=fun x E' W'=>x = .normal ∧ aK E' [(2,pt g1),(3,iv x1)] ∧ Sep No w W' [.box g2 74 [(sv v1),iv y4.2],.box g3 30 [(sv v2),(sv v3),iv y2.1.Turn,iv y2.1.Idle,(sv v4)],ae (sv v2) 38 3 aq y2.1.Harts,ae (sv v3) 44 2 a6 y2.1.Boxes,ae (sv v4) 3 1 (D.int .i64) y2.1.Out,.box g1 30 [(sv v2),(sv v3),iv y2.1.Turn,iv y2.1.Idle,(sv v4)]]) ?_ ?_
  ·refine .rk 8 hS [1,1,1,1] T.mix ?_
   intro W hS
   have hT:=hS.to [1,1,1,1]
   refine .ts' 0 z (fun W hT=>ld T.t30 hT z z z z z) hT z (.tp' 2 z z hT (.by [1,3] ⟨⟨_,z,?_⟩,⟨_,z,?_⟩,trivial⟩))
   ·refine (.liv [(-1),1000001] (D.int .i64) T.u23 T.t3 hS z z z z ?_ z (fun _=>z))
    intro v5 W hS
    have hT:=hS.to [2,2,2,2]
    refine ⟨fun _=>hT,?_⟩
    have hS:=hS.p1
    refine .by1 3 z (.cS (L0:=[.box g2 74 [(sv v1),iv y3.2]]) hS Tryz.func18 (fun S h1 h2 h3=>(ak hy4 (hS.ks (hQ1.wasA (q1 _ (hQ1.keepA q_0 Q_0))) h1) h2 (zz h1))) z z ?_)
    rintro ⟨⟩ W hS
    have hT:=hS.to [2,2,2,2]
    refine ⟨fun _=>hT,.ts' 4 z (fun W hT=>ixv hS.p1.lv hx1 T.u23 T.t3 z z z) hT z (.by [5,6] ⟨⟨_,z,?_⟩,⟨_,z,?_⟩,trivial⟩)⟩
    ·refine (.runs (lde (RV.flat hS.p1.lv hx1 z) T.t3 z z z z z) z z ?_)
     have hT:=hS.to [2,2,2,2]
     refine ⟨fun _=>hT,.by1 6 z (.st T.t30 hS.p6 z z z ?_)⟩
     intro W hS
     have hT:=hS.to [3,3,3,3]
     refine ⟨fun _=>hT,?_⟩
     exact .tp' 7 z z hT (.done (⟨z,sb z,hS.to [1,2,2,2,2,0]⟩))
    refine (.st T.t30 hS.p6 z z z ?_)
    intro W hS
    have hT:=hS.to [3,3,3,3]
    refine ⟨fun _=>hT,.by1 5 z (.runs (lde (RV.flat hS.p2.lv hx1 z) T.t3 z z z z z) z z ?_)⟩
    have hT:=hS.to [3,3,3,3]
    refine ⟨fun _=>hT,?_⟩
    exact .tp' 7 z z hT (.done (⟨z,sb z,hS.to [1,2,2,2,2,0]⟩))
   refine (.cS (L0:=[.box g2 74 [(sv v1),iv y3.2]]) hS Tryz.func18 (fun S h1 h2 h3=>(ak hy4 (hS.ks (hQ1.wasA (q1 _ (hQ1.keepA q_0 Q_0))) h1) h2 (zz h1))) z z ?_)
   rintro ⟨⟩ W hS
   have hT:=hS.to [1,1,1,1]
   refine ⟨fun _=>hT,.by [1,6] ⟨⟨_,z,?_⟩,⟨_,z,?_⟩,trivial⟩⟩
   ·refine (.liv [(-1),1000001] (D.int .i64) T.u23 T.t3 hS z z z z ?_ z (fun _=>z))
    intro v6 W hS
    have hT:=hS.to [2,2,2,2]
    refine ⟨fun _=>hT,.ts' 4 z (fun W hT=>ixv hS.lv hx1 T.u23 T.t3 z z z) hT z (.by [5,6] ⟨⟨_,z,?_⟩,⟨_,z,?_⟩,trivial⟩)⟩
    ·refine (.runs (lde (RV.flat hS.lv hx1 z) T.t3 z z z z z) z z ?_)
     have hT:=hS.to [2,2,2,2]
     refine ⟨fun _=>hT,.by1 6 z (.st T.t30 hS.p6 z z z ?_)⟩
     intro W hS
     have hT:=hS.to [3,3,3,3]
     refine ⟨fun _=>hT,?_⟩
     exact .tp' 7 z z hT (.done (⟨z,sb z,hS.to [2,2,2,2,2,0]⟩))
    refine (.st T.t30 hS.p6 z z z ?_)
    intro W hS
    have hT:=hS.to [3,3,3,3]
    refine ⟨fun _=>hT,.by1 5 z (.runs (lde (RV.flat hS.p1.lv hx1 z) T.t3 z z z z z) z z ?_)⟩
    have hT:=hS.to [3,3,3,3]
    refine ⟨fun _=>hT,?_⟩
    exact .tp' 7 z z hT (.done (⟨z,sb z,hS.to [2,2,2,2,2,0]⟩))
   refine (.st T.t30 hS.p5 z z z ?_)
   intro W hS
   have hT:=hS.to [2,2,2,2]
   refine ⟨fun _=>hT,.by1 1 z (.liv [(-1),1000001] (D.int .i64) T.u23 T.t3 hS z z z z ?_ z (fun _=>z))⟩
   intro v7 W hS
   have hT:=hS.to [3,3,3,3]
   refine ⟨fun _=>hT,.ts' 4 z (fun W hT=>ixv hS.lv hx1 T.u23 T.t3 z z z) hT z (.by1 5 z (.runs (lde (RV.flat hS.lv hx1 z) T.t3 z z z z z) z z ?_))⟩
   have hT:=hS.to [3,3,3,3]
   refine ⟨fun _=>hT,?_⟩
   exact .tp' 7 z z hT (.done (⟨z,sb z,hS.to [2,2,2,2,2,1]⟩))
  intro x E W hJ
  obtain ⟨rfl,hE,hS⟩:=hJ
  refine ⟨_,hE.sub,?_⟩
  cases h
  exact .ret (ab (vs:=[_,_]) (v2,v3,v4) (rc hS.p5 T.t30 z (rt z rn) z z) z (hS.to [2,2,2]))
 have h:=aJ hb h
 refine .skip (.seq (.rk 5 hS [1,1,1,1] T.mix ?_))
 intro W hS
 have hT:=hS.to [1,1,1,1]
 refine .ts' 0 z (fun W hT=>ld T.t30 hT z z z z z) hT z (.tp' 1 z z hT ?_)
 have ⟨y5,hy5,h⟩:=bnd h
 refine .by1 2 z (.cS (L0:=[.box g2 74 [(sv v1),iv y3.2]]) hS Tryz.func18 (fun S h1 h2 h3=>(ak hy5 (hS.ks (hQ1.wasA (q1 _ (hQ1.keepA q_0 Q_0))) h1) h2 (zz h1))) z z ?_)
 rintro ⟨⟩ W hS
 have hT:=hS.to [1,1,1,1]
 refine ⟨fun _=>hT,.by1 3 z (.st T.t30 hS.p5 z z z ?_)⟩
 intro W hS
 have hT:=hS.to [2,2,2,2]
 refine ⟨fun _=>hT,?_⟩
 cases h
 exact .tp' 4 z z hT (.done (.ret (ab (vs:=[_,_]) (v2,v3,v4) (rc hS T.t30 z (rt z rn) z z) z (hS.to [3,3,3]))))
theorem qt {a0 : List Int} {a1 : List Int} {v_0 : Hd} {v_1 : Hd} {w : World} {r : Bool} (h : hZ a0 a1 = some r) (q_0 : RO w v_0 3 1 (D.int .i64) a0) (q_1 : RO w v_1 3 1 (D.int .i64) a1) : Cl 15 #[(sv v_0),(sv v_1)] w (RU w (.bool r)):=by
 unfold hZ at h
 refine ay Tryz.func15 z z ?_
 have hS:=Sep.start w
 refine .g (.qn z (.g (.q z (.s (bq (hS.keep q_1) T.u23 z z) z (.q z (.s (bq (hS.keep q_0) T.u23 z z) z (.q z (.q z ?_))))))))
 have ⟨b1,hb1,h⟩:=bnd h
 refine .cu 7 17 (b1) hS ?_ ?_
 ·refine .both (decide ((a1.length : Int) ≤ (a0.length : Int))) (fun hb=>?_) (fun hb=>?_)
  ·have hg1:=hb
   have h:=aI hb hb1
   refine .g hg1 (.q z (.g hg1 (.q z (.g hg1 (.s (bq (hS.keep q_1) T.u23 z z) z ?_)))))
   have ⟨r1,hr1,h⟩:=bnd h
   refine .g hg1 (.s (slv hr1 q_0 T.u23 T.t3 z z z z) z (.g hg1 (.q z ?_)))
   have ⟨y1,hy1,h⟩:=bnd h
   refine .g hg1 (.c (.cO hS Tryz.func11 (fR hy1 (hS.keep (uU hr1 q_0)) (hS.keep q_1)) z z ?_))
   intro W hS
   refine .s (pkt hg1 z z z) z ?_
   cases h
   exact .nil (ck 7 hS)
  refine .xx hb z (.xx hb z (.xx hb z (.xx hb z (.xx hb z (.xx hb z ?_)))))
  cases aJ hb hb1
  exact .s (pkf hb z z z) z (.nil (ck 7 hS))
 intro W hS
 obtain rfl:=o9 h
 exact .qn z (.ret (ab (vs:=[_]) () (rt z rn) z (hS.to [])))
def qu (w : World) (r : Bool) : Env → World → Prop:=Fin Tryz.prog Tryz.f5 No w (fun s : Unit=>.bool r) (fun s=>[]) .ret
end
set_option maxHeartbeats 40000000
noncomputable section
theorem pO {k : Nat} {a0 : List Int} {v_0 : Hd} {w : World} {r : Bool} (h : ju k a0 = some r) (q_0 : RO w v_0 5 1 (D.int .u8) a0) (hG : Gl w) : Cl 5 #[(sv v_0)] w (RU w (.bool r)):=by
 unfold ju at h
 refine ay Tryz.func5 z z ?_
 have hS:=Sep.start w
 refine .g (.qn z (.seq (.g (.q z (.s (bq (hS.keep q_0) T.u22 z z) z (.q z (.nil ?_)))))))
 refine .cs z h ?_ ?_ <;> intro h
 ·obtain rfl:=o9 h
  exact .g (.qn z (.ret (ab (vs:=[_]) () (rt z rn) z (hS.to []))))
 refine .skip (.g (.q z ?_))
 have ⟨y1,hy1,h⟩:=bnd h
 refine .c (.call hS Tryz.func12 (oy hy1 (hS.keep q_0)) z z ?_)
 rintro ⟨v1,v2,v3⟩ W hS
 refine .q z (.q z (.q z (.c (.alloc T.t30 hS ?_))))
 intro g1 W hS
 refine .c (.st T.t30 hS z z z ?_)
 intro W hS
 refine .qn z (.g (.s (ld T.t30 hS z z z z z) z (.q z ?_)))
 have ⟨y2,hy2,h⟩:=bnd h
 refine .c (.call hS Tryz.func13 (rK hy2 hS.p1.lv hS.p2.lv hS.p3.lv (hG.at hS (fun _ _ h=>h))) z z ?_)
 rintro ⟨v4,v5,v6⟩ W hS
 refine .q z (.q z (.q z (.c (.alloc T.t30 hS ?_))))
 intro g2 W hS
 refine .c (.st T.t30 hS z z z ?_)
 intro W hS
 refine .qn z (.g (.s (ld T.t30 hS.p4 z z z z z) z (.q z ?_)))
 have ⟨y3,hy3,h⟩:=bnd h
 refine .c (.call hS Tryz.func14 (iQ hy3 hS.p5.lv hS.p6.lv hS.p7.lv) z z ?_)
 rintro ⟨v7,v8,v9⟩ W hS
 refine .q z (.q z (.q z (.c (.alloc T.t30 hS ?_))))
 intro g3 W hS
 refine .c (.st T.t30 hS z z z ?_)
 intro W hS
 refine .qn z (.seq (.g (.q z (.q z (.s (neb T.u4 z z z) z (.q z ?_))))))
 have ⟨b1,hb1,h⟩:=bnd h
 refine .cu 5 38 (b1) hS ?_ ?_
 ·refine .both (y2.2 != y3.2) (fun hb=>?_) (fun hb=>?_)
  ·refine .xx hb z (.xx hb z (.xx hb z (.xx hb z ?_)))
   cases aI hb hb1
   exact .s (pkt hb z z z) z (.nil (ck 5 hS))
  have hg1:=hb
  have h:=aJ hb hb1
  refine .g hg1 (.s (ld T.t30 hS.p4 z z z z z) z (.g hg1 (.s (ld T.t30 hS z z z z z) z ?_)))
  have ⟨y4,hy4,h⟩:=bnd h
  refine .g hg1 (.c (.cO hS Tryz.func9 (mI hy4 hS.p5.lv hS.p6.lv hS.p7.lv hS.p1.lv hS.p2.lv hS.p3.lv) z z ?_))
  intro W hS
  refine .g hg1 (.q z (.s (pkf hg1 z z z) z ?_))
  cases h
  exact .nil (ck 5 hS)
 intro W hS
 refine .q z (.cu 3 42 (b1 || (!y2.2)) hS ?_ ?_)
 ·refine .both (b1) (fun hb=>?_) (fun hb=>?_)
  ·exact .xx hb z (.xx hb z (.s (pkt hb z z z) z (.nil (ck 3 hS z (ig hb)))))
  have hg2:=hb
  exact .g hg2 (.q z (.g hg2 (.q z (.s (pkf hg2 z z z) z (.nil (ck 3 hS z (ij hg2)))))))
 intro W hS
 refine .nil ?_
 refine .cs z h ?_ ?_ <;> intro h
 ·refine .g (.q z (.q z (.s (eqb T.u4 z z z) z (.q z ?_))))
  have ⟨b2,hb2,h⟩:=bnd h
  refine .cu 4 50 (b2) hS ?_ ?_
  ·refine .both (y2.2 == y3.2) (fun hb=>?_) (fun hb=>?_)
   ·have hg3:=hb
    have h:=aI hb hb2
    refine .g hg3 (.s (ld T.t30 hS.p4 z z z z z) z (.g hg3 (.s (ld T.t30 hS z z z z z) z ?_)))
    have ⟨y5,hy5,h⟩:=bnd h
    refine .g hg3 (.c (.cO hS Tryz.func9 (mI hy5 hS.p5.lv hS.p6.lv hS.p7.lv hS.p1.lv hS.p2.lv hS.p3.lv) z z ?_))
    intro W hS
    refine .s (pkt hg3 z z z) z ?_
    cases h
    exact .nil (ck 4 hS)
   refine .xx hb z (.xx hb z (.xx hb z ?_))
   cases aJ hb hb2
   exact .s (pkf hb z z z) z (.nil (ck 4 hS))
  intro W hS
  obtain rfl:=o9 h
  exact .qn z (.ret (ab (vs:=[_]) () (rt z rn) z (hS.to [])))
 refine .skip (.seq (.g (.qn z (.block ?_))))
 have ⟨y6,hy6,h⟩:=bnd h
 refine .via (.iter (fun s1 E' W'=>aK E' [(3,pt g1),(5,pt g2),(9,iv s1)] ∧ Sep No w W' [.box g3 30 [(sv v7),(sv v8),iv y3.1.Turn,iv y3.1.Idle,(sv v9)],ae (sv v7) 38 3 aq y3.1.Harts,ae (sv v8) 44 2 a6 y3.1.Boxes,ae (sv v9) 3 1 (D.int .i64) y3.1.Out,.box g2 30 [(sv v4),(sv v5),iv y2.1.Turn,iv y2.1.Idle,(sv v6)],ae (sv v4) 38 3 aq y2.1.Harts,ae (sv v5) 44 2 a6 y2.1.Boxes,ae (sv v6) 3 1 (D.int .i64) y2.1.Out,.box g1 30 [(sv v1),(sv v2),iv y1.1.Turn,iv y1.1.Idle,(sv v3)],ae (sv v1) 38 3 aq y1.1.Harts,ae (sv v2) 44 2 a6 y1.1.Boxes,ae (sv v3) 3 1 (D.int .i64) y1.1.Out]) (fun y7 x E' W'=>(match y7 with | .inl o1=>x = .ret ∧ qu w o1 E' W' | .inr o2=>x = .exit 0 ∧ aK E' [(3,pt g1),(5,pt g2)] ∧ Sep No w W' [.box g3 30 [(sv v7),(sv v8),iv y3.1.Turn,iv y3.1.Idle,(sv v9)],ae (sv v7) 38 3 aq y3.1.Harts,ae (sv v8) 44 2 a6 y3.1.Boxes,ae (sv v9) 3 1 (D.int .i64) y3.1.Out,.box g2 30 [(sv v4),(sv v5),iv y2.1.Turn,iv y2.1.Idle,(sv v6)],ae (sv v4) 38 3 aq y2.1.Harts,ae (sv v5) 44 2 a6 y2.1.Boxes,ae (sv v6) 3 1 (D.int .i64) y2.1.Out,.box g1 30 [(sv v1),(sv v2),iv y1.1.Turn,iv y1.1.Idle,(sv v3)],ae (sv v1) 38 3 aq y1.1.Harts,ae (sv v2) 44 2 a6 y1.1.Boxes,ae (sv v3) 3 1 (D.int .i64) y1.1.Out])) hy6 ⟨sb rfl,hS.to [0,0,0,0,0,0,0,0,0,0,0,0] rfl⟩ ?_) ?_
 ·intro s1 y8 E W h hI
  obtain ⟨hE,hS⟩:=hI
  refine CW.sub hE ?_
  unfold eA at h
  refine .seq (.g (.q z (.s (fa T.f30_1 z z z) z (.s (ld T.t28 hS.p4 z z z z z) z (.s (bq hS.p6.lv T.u28 z z) z (.q z (.nil ?_)))))))
  refine .cs z h ?_ ?_ <;> intro h
  ·refine .skip (.seq (.block (.seq ?_)))
   have ⟨x1,hx1,h⟩:=bnd h
   obtain ⟨k1,hS⟩:=Sep.ov hS.p6 hx1
   have hS:=hS.oa
   obtain ⟨k1,rfl,hS⟩:=Sep.oF z hS
   obtain ⟨v10,k1,rfl,hS⟩:=hS.ow
   obtain ⟨rfl,hS⟩:=hS.oN
   have ⟨x2,hx2,h⟩:=bnd h
   obtain ⟨k2,hS⟩:=Sep.ov hS.p11 hx2
   have hS:=hS.oa
   obtain ⟨k2,rfl,hS⟩:=Sep.oF z hS
   obtain ⟨v11,k2,rfl,hS⟩:=hS.ow
   obtain ⟨rfl,hS⟩:=hS.oN
   refine .via (R':=fun x E' W'=>x = .normal ∧ aK E' [(3,pt g1),(5,pt g2),(9,iv s1),(86,.bool ((decide ((x1.Items.length : Int) > x1.Room)) || (x1.Room != x2.Room)))] ∧ Sep No w W' [.box g3 30 [(sv v7),(sv v8),iv y3.1.Turn,iv y3.1.Idle,(sv v9)],ae (sv v7) 38 3 aq y3.1.Harts,ae (sv v8) 44 2 a6 y3.1.Boxes,ae (sv v9) 3 1 (D.int .i64) y3.1.Out,.box g2 30 [(sv v4),(sv v5),iv y2.1.Turn,iv y2.1.Idle,(sv v6)],ae (sv v4) 38 3 aq y2.1.Harts,ae (sv v5) 44 2 a6 y2.1.Boxes,ae (sv v6) 3 1 (D.int .i64) y2.1.Out,.box g1 30 [(sv v1),(sv v2),iv y1.1.Turn,iv y1.1.Idle,(sv v3)],ae (sv v1) 38 3 aq y1.1.Harts,ae (sv v2) 44 2 a6 y1.1.Boxes,ae (sv v3) 3 1 (D.int .i64) y1.1.Out]) ?_ ?_
   ·refine .rk 29 hS [0,0,0,0,0,0,0,0,0,0,0,0,0,0] T.mix ?_
    intro W hS
    have hT:=hS.to [0,0,0,0,0,0,0,0,0,0,0,0,0,0]
    refine .ts' 0 z (fun W hT=>fa T.f30_1 z z z) hT z (.ts' 1 z (fun W hT=>ld T.t28 hT.p8 z z z z z) hT z (.tp' 2 z z hT (.ts' 3 z (fun W hT=>ixh hT.p3 hx1 T.u28 T.t44 z z z) hT z (.ts' 4 z (fun W hT=>fe T.f44_1 z z z) hT z (.ts' 5 z (fun W hT=>lde (hT.p3.hcellsv) T.t23 z z z z z) hT z (.ts' 6 z (fun W hT=>bq hS.p2.lv T.u23 z z) hT z (.ts' 7 z (fun W hT=>fa T.f30_1 z z z) hT z (.ts' 8 z (fun W hT=>ld T.t28 hT.p8 z z z z z) hT z (.tp' 9 z z hT (.ts' 10 z (fun W hT=>ixh hT.p3 hx1 T.u28 T.t44 z z z) hT z (.ts' 11 z (fun W hT=>fe T.f44_0 z z z) hT z (.ts' 12 z (fun W hT=>lde (hT.p3.hcellsv) T.t3 z z z z z) hT z (.tp' 13 z z hT (.tp' 14 z z hT (.both (decide ((x1.Items.length : Int) > x1.Room)) (fun hb=>?_) (fun hb=>?_))))))))))))))))
    ·refine .off 15 z hb hT (.off 16 z hb hT (.off 17 z hb hT (.off 18 z hb hT (.off 19 z hb hT (.off 20 z hb hT (.off 21 z hb hT (.off 22 z hb hT (.off 23 z hb hT (.off 24 z hb hT (.off 25 z hb hT (.off 26 z hb hT (.off 27 z hb hT (.ts' 28 z (fun W hT=>pkt hb z z z) hT z (.eqv 86 z (congrArg Value.bool (show true = ((decide ((x1.Items.length : Int) > x1.Room)) || (x1.Room != x2.Room)) from ig hb)) (.done ?_))) (by kernel_rfl) z z) (by kernel_rfl) z z) (by kernel_rfl) z z) (by kernel_rfl) z z) (by kernel_rfl) z z) (by kernel_rfl) z z) (by kernel_rfl) z z) (by kernel_rfl) z z) (by kernel_rfl) z z) (by kernel_rfl) z z) (by kernel_rfl) z z) (by kernel_rfl) z z) (by kernel_rfl) z z
     have hS:=Sep.gat (ds:=[a6 x2]) (cs:=[iv x2.Room,(sv v11)]) (L1:=[ae (sv v11) 3 1 (D.int .i64) x2.Items]) (.agg (.flat (c1:=[iv x2.Room]) z (.row .nil))) (hS.to [0,0,0,0,0,0,0,0,0,0,0,0,0,0])
     have hS : Sep _ _ _ [ae (sv v2) 44 2 a6 y1.1.Boxes,ae (sv v10) 3 1 (D.int .i64) x1.Items,be (sv v5) 44 2 a6 y2.1.Boxes (Int.toNat s1) [iv x1.Room,(sv v10)],.box g3 30 [(sv v7),(sv v8),iv y3.1.Turn,iv y3.1.Idle,(sv v9)],ae (sv v7) 38 3 aq y3.1.Harts,ae (sv v8) 44 2 a6 y3.1.Boxes,ae (sv v9) 3 1 (D.int .i64) y3.1.Out,.box g2 30 [(sv v4),(sv v5),iv y2.1.Turn,iv y2.1.Idle,(sv v6)],ae (sv v4) 38 3 aq y2.1.Harts,ae (sv v6) 3 1 (D.int .i64) y2.1.Out,.box g1 30 [(sv v1),(sv v2),iv y1.1.Turn,iv y1.1.Idle,(sv v3)],ae (sv v1) 38 3 aq y1.1.Harts,ae (sv v3) 3 1 (D.int .i64) y1.1.Out]:=Sep.back0v hx2 hS
     have hS:=Sep.gat (ds:=[a6 x1]) (cs:=[iv x1.Room,(sv v10)]) (L1:=[ae (sv v10) 3 1 (D.int .i64) x1.Items]) (.agg (.flat (c1:=[iv x1.Room]) z (.row .nil))) (hS.to [1,1,0,0,0,0,0,0,0,0,0,0,0])
     have hS : Sep _ _ _ [ae (sv v5) 44 2 a6 y2.1.Boxes,ae (sv v2) 44 2 a6 y1.1.Boxes,.box g3 30 [(sv v7),(sv v8),iv y3.1.Turn,iv y3.1.Idle,(sv v9)],ae (sv v7) 38 3 aq y3.1.Harts,ae (sv v8) 44 2 a6 y3.1.Boxes,ae (sv v9) 3 1 (D.int .i64) y3.1.Out,.box g2 30 [(sv v4),(sv v5),iv y2.1.Turn,iv y2.1.Idle,(sv v6)],ae (sv v4) 38 3 aq y2.1.Harts,ae (sv v6) 3 1 (D.int .i64) y2.1.Out,.box g1 30 [(sv v1),(sv v2),iv y1.1.Turn,iv y1.1.Idle,(sv v3)],ae (sv v1) 38 3 aq y1.1.Harts,ae (sv v3) 3 1 (D.int .i64) y1.1.Out]:=Sep.back0v hx1 hS
     exact ⟨z,sb z,hS.to [2,2,2,2,2,2,0,1,1,1,0,0]⟩
    have hg5:=hb
    refine .t1g 15 z hg5 (fun W hT=>fa T.f30_1 z z z) hT (.t1g 16 z hg5 (fun W hT=>ld T.t28 hT.p8 z z z z z) hT (.t1g 17 z hg5 (fun W hT=>pr z) hT (.t1g 18 z hg5 (fun W hT=>ixh hT.p3 hx1 T.u28 T.t44 z z z) hT (.t1g 19 z hg5 (fun W hT=>fe T.f44_0 z z z) hT (.t1g 20 z hg5 (fun W hT=>lde (hT.p3.hcellsv) T.t3 z z z z z) hT (.t1g 21 z hg5 (fun W hT=>fa T.f30_1 z z z) hT (.t1g 22 z hg5 (fun W hT=>ld T.t28 hT.p11 z z z z z) hT (.t1g 23 z hg5 (fun W hT=>pr z) hT (.t1g 24 z hg5 (fun W hT=>ixh hT.p1 hx2 T.u28 T.t44 z z z) hT (.t1g 25 z hg5 (fun W hT=>fe T.f44_0 z z z) hT (.t1g 26 z hg5 (fun W hT=>lde (hT.p1.hcellsv) T.t3 z z z z z) hT (.t1g 27 z hg5 (fun W hT=>pr z) hT (.ts' 28 z (fun W hT=>pkf hg5 z z z) hT z (.eqv 86 z (congrArg Value.bool (ij hg5)) (.done ?_))) (by kernel_rfl) z z) (by kernel_rfl) z z) (by kernel_rfl) z z) (by kernel_rfl) z z) (by kernel_rfl) z z) (by kernel_rfl) z z) (by kernel_rfl) z z) (by kernel_rfl) z z) (by kernel_rfl) z z) (by kernel_rfl) z z) (by kernel_rfl) z z) (by kernel_rfl) z z) (by kernel_rfl) z z
    have hS:=Sep.gat (ds:=[a6 x2]) (cs:=[iv x2.Room,(sv v11)]) (L1:=[ae (sv v11) 3 1 (D.int .i64) x2.Items]) (.agg (.flat (c1:=[iv x2.Room]) z (.row .nil))) (hS.to [0,0,0,0,0,0,0,0,0,0,0,0,0,0])
    have hS : Sep _ _ _ [ae (sv v2) 44 2 a6 y1.1.Boxes,ae (sv v10) 3 1 (D.int .i64) x1.Items,be (sv v5) 44 2 a6 y2.1.Boxes (Int.toNat s1) [iv x1.Room,(sv v10)],.box g3 30 [(sv v7),(sv v8),iv y3.1.Turn,iv y3.1.Idle,(sv v9)],ae (sv v7) 38 3 aq y3.1.Harts,ae (sv v8) 44 2 a6 y3.1.Boxes,ae (sv v9) 3 1 (D.int .i64) y3.1.Out,.box g2 30 [(sv v4),(sv v5),iv y2.1.Turn,iv y2.1.Idle,(sv v6)],ae (sv v4) 38 3 aq y2.1.Harts,ae (sv v6) 3 1 (D.int .i64) y2.1.Out,.box g1 30 [(sv v1),(sv v2),iv y1.1.Turn,iv y1.1.Idle,(sv v3)],ae (sv v1) 38 3 aq y1.1.Harts,ae (sv v3) 3 1 (D.int .i64) y1.1.Out]:=Sep.back0v hx2 hS
    have hS:=Sep.gat (ds:=[a6 x1]) (cs:=[iv x1.Room,(sv v10)]) (L1:=[ae (sv v10) 3 1 (D.int .i64) x1.Items]) (.agg (.flat (c1:=[iv x1.Room]) z (.row .nil))) (hS.to [1,1,0,0,0,0,0,0,0,0,0,0,0])
    have hS : Sep _ _ _ [ae (sv v5) 44 2 a6 y2.1.Boxes,ae (sv v2) 44 2 a6 y1.1.Boxes,.box g3 30 [(sv v7),(sv v8),iv y3.1.Turn,iv y3.1.Idle,(sv v9)],ae (sv v7) 38 3 aq y3.1.Harts,ae (sv v8) 44 2 a6 y3.1.Boxes,ae (sv v9) 3 1 (D.int .i64) y3.1.Out,.box g2 30 [(sv v4),(sv v5),iv y2.1.Turn,iv y2.1.Idle,(sv v6)],ae (sv v4) 38 3 aq y2.1.Harts,ae (sv v6) 3 1 (D.int .i64) y2.1.Out,.box g1 30 [(sv v1),(sv v2),iv y1.1.Turn,iv y1.1.Idle,(sv v3)],ae (sv v1) 38 3 aq y1.1.Harts,ae (sv v3) 3 1 (D.int .i64) y1.1.Out]:=Sep.back0v hx1 hS
    exact ⟨z,sb z,hS.to [2,2,2,2,2,2,0,1,1,1,0,0]⟩
   intro x E W hJ
   obtain ⟨rfl,hE,hS⟩:=hJ
   refine ⟨_,hE.sub,?_⟩
   refine .cs z h ?_ ?_ <;> intro h
   ·refine .g (.qn z (.ret ?_))
    cases h
    exact ⟨by simp,z,ab (vs:=[_]) () (rt z rn) z (hS.to [])⟩
   refine .skip (.region (.q z (.q z (.q z (.nil ?_)))))
   cases h
   exact ⟨z,sb z,hS.to [0,0,0,0,0,0,0,0,0,0,0,0]⟩
  refine .exit ?_
  cases h
  exact ⟨by simp,z,sb z,hS.to [0,0,0,0,0,0,0,0,0,0,0,0]⟩
 intro x E W hJ
 rcases y6 with o3 | o4
 ·obtain ⟨rfl,hF⟩:=hJ
  refine ⟨_,fun _ _ h=>h,?_⟩
  cases h
  exact hF
 obtain ⟨rfl,hE,hS⟩:=hJ
 refine ⟨_,hE.sub,?_⟩
 refine .g (.s (fa T.f30_4 z z z) z (.s (ld T.t23 hS.p4 z z z z z) z (.s (fa T.f30_4 z z z) z (.s (ld T.t23 hS.p8 z z z z z) z ?_))))
 have ⟨y9,hy9,h⟩:=bnd h
 refine .c (.cO hS Tryz.func15 (qt hy9 hS.p7.lv hS.p11.lv) z z ?_)
 intro W hS
 refine .q z (.cu 8 100 (y9 && ((y2.1.Harts.length : Int) == (y1.1.Harts.length : Int))) hS ?_ ?_)
 ·refine .both (y9) (fun hb=>?_) (fun hb=>?_)
  ·have hg6:=hb
   exact .g hg6 (.s (fa T.f30_0 z z z) z (.g hg6 (.s (ld T.t27 hS.p4 z z z z z) z (.g hg6 (.s (bq hS.p5.lv T.u27 z z) z (.g hg6 (.s (fa T.f30_0 z z z) z (.g hg6 (.s (ld T.t27 hS.p8 z z z z z) z (.g hg6 (.s (bq hS.p9.lv T.u27 z z) z (.g hg6 (.q z (.s (pkt hg6 z z z) z (.nil (ck 8 hS z (bH hg6)))))))))))))))))
  exact .xx hb z (.xx hb z (.xx hb z (.xx hb z (.xx hb z (.xx hb z (.xx hb z (.s (pkf hb z z z) z (.nil (ck 8 hS z (bI hb))))))))))
 intro W hS
 cases h
 exact .qn z (.ret (ab (vs:=[_]) () (rt z rn) z (hS.to [])))
end
end Go.Proofs.YtcljimkjmklkmaaGreatDoor.N
namespace Go.Proofs.YtcljimkjmklkmaaGreatDoor.X
noncomputable section
variable {P : Program} {w : World} {T : Nat → Prop} {t e : TypeId} {size : Nat} {k : IntKind} {α : Type} {enc : α → D} {H : Type} {en : TypeId × Value → H} {base : Nat} {spare : Nat → Bool} {held : Bool}
def yA (P : Program) (t : TypeId) : Option (List TypeId):=match P.underlying t with
 | some (.struct fs)=>some (fs.toList.map (·.type))
 | _=>none
mutual
def Typ (P : Program) : D → TypeId → Prop
 | .int k n,t=>P.underlying t = some (.int k) ∧ (Lit.int k n).wf = true
 | .bool _,t=>P.underlying t = some .bool
 | .str s,t=>P.underlying t = some .string ∧ s.size ≤ maxLen
 | .row e size xs,t=>P.underlying t = some (.slice e) ∧ size = P.cellsOf e ∧ vx P xs e
 | .agg xs,t=>∃ ts,yA P t = some ts ∧ BV P xs ts
def vx (P : Program) : List D → TypeId → Prop
 | [],_=>True
 | x :: xs,e=>Typ P x e ∧ vx P xs e
def BV (P : Program) : List D → List TypeId → Prop
 | [],[]=>True
 | x :: xs,t :: ts=>Typ P x t ∧ BV P xs ts
 | _,_=>False
end
def nC (P : Program) : List Field → Nat → Option Nat
 | [],k=>some k
 | f :: r,k=>match Nat.beq f.offset k with
  | true=>nC P r (k + P.cellsOf f.type)
  | false=>none
def okT (P : Program) (ts : List TypeId) (t : TypeId) : Bool:=match P.underlying t with
 | some (.int _) | some .bool | some .string=>Nat.beq (P.cellsOf t) 1
 | some (.slice e)=>Nat.beq (P.cellsOf t) 1 && ts.contains e && !(Nat.beq (P.cellsOf e) 0)
 | some (.struct fs)=>(match nC P fs.toList 0 with
  | some n=>Nat.beq n (P.cellsOf t)
  | none=>false) && fs.toList.all (fun f=>ts.contains f.type)
 | _=>false
theorem D.rd_length : ∀ {d : D} {cs : List Value},D.rd w d T cs → cs.length = d.sz
 | .int _ _,_,h=>by simp only [D.rd] at h; subst h; rfl
 | .bool _,_,h=>by simp only [D.rd] at h; subst h; rfl
 | .str _,_,h=>by simp only [D.rd] at h; subst h; rfl
 | .row _ _ _,_,⟨A,cap,c,h1,_⟩=>by subst h1; rfl
 | .agg xs,_,h=>by simp only [D.sz]; exact nk (xs:=xs) h
theorem vx.append : ∀ {xs ys : List D},vx P xs e → vx P ys e → vx P (xs ++ ys) e
 | [],_,_,h=>h
 | x :: xs,_,⟨h1,h2⟩,h=>⟨h1,vx.append h2 h⟩
theorem wz {a : Addr} {v : Value} (h : w.cell? a = some v) : Old No w a.block:=⟨World.block_lt_of_cell? w a h,id⟩
theorem z9 {ts : List TypeId} (hts : ts.all (okT P ts) = true) : ∀ {fuel : Nat} {t : TypeId} {cs : List Value} {x : DataW H × List MemPlace},t ∈ ts → DataW.trod en P w base spare held fuel t cs = some x → ∃ d,Typ P d t ∧ D.rd w d (Old No w) cs ∧ d.sz = P.cellsOf t:=by
 intro fuel
 induction fuel with
 | zero=>intro t cs x _ h; simp [DataW.trod] at h
 | succ fuel ih =>
  intro t cs x ht h
  have hok:=List.all_eq_true.1 hts t ht
  unfold okT at hok
  split at hok
  ·rename_i k hu
   obtain ⟨n,rfl,_,hw⟩:=DataW.trod_int hu h
   exact ⟨.int k n,⟨hu,hw⟩,rfl,(Nat.eq_of_beq_eq_true hok).symm⟩
  ·rename_i hu
   obtain ⟨b,rfl,_⟩:=DataW.trod_bool hu h
   exact ⟨.bool b,hu,rfl,(Nat.eq_of_beq_eq_true hok).symm⟩
  ·rename_i hu
   obtain ⟨s,rfl,_,hs⟩:=DataW.trod_string hu h
   exact ⟨.str s,⟨hu,hs⟩,rfl,(Nat.eq_of_beq_eq_true hok).symm⟩
  ·rename_i e hu
   simp only [Bool.and_eq_true,Bool.not_eq_true'] at hok
   obtain ⟨⟨h1,h2⟩,h3⟩:=hok
   have he : e ∈ ts:=by simpa using h2
   have h0 : P.cellsOf e ≠ 0:=by intro h0; rw [h0] at h3; cases h3
   have hc1:=(Nat.eq_of_beq_eq_true h1).symm
   rcases DataW.trod_slice hu h with ⟨rfl,_⟩ | ⟨a,len,cap,elems,rest,n,hn,rfl,_,hb,hl,hm,hlen,hel,_,_⟩
   ·exact ⟨.row e (P.cellsOf e) [],⟨hu,rfl,trivial⟩,⟨none,0,[],rfl,Nat.le_refl _,Nat.zero_le _,by simp,fun h=>absurd rfl h,rfl⟩,hc1⟩
   ·obtain rfl : fuel = n:=by omega
    have key : ∀ m,m ≤ len → ∃ ds c,ds.length = m ∧ vx P ds e ∧ (∀ x ∈ ds,x.sz = P.cellsOf e) ∧ D.rds w ds (Old No w) c ∧ c.length = m * P.cellsOf e ∧ ∀ j u,c[j]? = some u → w.cell? (a.add j) = some u:=by
     intro m
     induction m with
     | zero=>intro _; exact ⟨[],[],rfl,trivial,by simp,rfl,by simp,by simp⟩
     | succ m ihm =>
      intro hle
      obtain ⟨ds,c,k1,k2,k3,k4,k5,k6⟩:=ihm (by omega)
      have hi:=hel m (by omega)
      have hs : ∃ y,elems[m]? = some y:=⟨_,List.getElem?_eq_getElem (by omega)⟩
      obtain ⟨y,hy⟩:=hs
      rw [hy,Option.bind_eq_some_iff] at hi
      obtain ⟨ci,hci,hyi⟩:=hi
      obtain ⟨d,g1,g2,g3⟩:=ih he hyi
      obtain ⟨_,q2,q3⟩:=World.cells?_some hci
      refine ⟨ds ++ [d],c ++ ci,by simp [k1],k2.append ⟨g1,trivial⟩,fun x hx=>?_,uT k4 ⟨ci,[],by simp,D.rd_length g2,g2,rfl⟩,by rw [List.length_append,k5,q2,Nat.add_mul]; omega,fun j u hj=>?_⟩
      ·rcases List.mem_append.1 hx with hx | hx
       ·exact k3 x hx
       ·rw [List.mem_singleton.1 hx]; exact g3
      ·rcases Nat.lt_or_ge j c.length with hj' | hj'
       ·rw [List.getElem?_append_left hj'] at hj; exact k6 j u hj
       ·rw [List.getElem?_append_right hj'] at hj
        have hlt : j - c.length < P.cellsOf e:=by
         rcases Nat.lt_or_ge (j - c.length) ci.length with h | h
         ·omega
         ·rw [List.getElem?_eq_none h] at hj; cases hj
        have:=q3 _ hlt
        rw [hj,Addr.add_add,← k5] at this
        rw [show c.length + (j - c.length) = j by omega] at this
        exact this
    obtain ⟨ds,c,k1,k2,k3,k4,k5,k6⟩:=key len (Nat.le_refl _)
    refine ⟨.row e (P.cellsOf e) ds,⟨hu,rfl,k2⟩,⟨some a,cap,c,by rw [k1],by omega,by omega,k3,fun hne=>⟨a,rfl,?_,k6⟩,k4⟩,hc1⟩
    have hpos : 0 < c.length:=by
     rw [k5,← k1]
     exact Nat.mul_pos (List.length_pos_iff.2 hne) (by omega)
    have h6:=k6 0 _ (List.getElem?_eq_getElem hpos)
    simp only [Addr.add,if_true] at h6
    exact wz h6
  ·rename_i fs hu
   simp only [Bool.and_eq_true] at hok
   obtain ⟨h1,h2⟩:=hok
   split at h1
   ·rename_i tot hcg
    obtain rfl:=Nat.eq_of_beq_eq_true h1
    obtain ⟨xs,n,hn,_,hlen,hxl,hf⟩:=DataW.trod_struct hu h
    obtain rfl : fuel = n:=by omega
    have key : ∀ (gs : List Field) (o : Nat),(∀ f ∈ gs,f.type ∈ ts ∧ ∃ y,DataW.trod en P w base spare held fuel f.type ((cs.drop f.offset).take (P.cellsOf f.type)) = some y) → nC P gs o = some (P.cellsOf t) →
      ∃ ds,BV P ds (gs.map (·.type)) ∧ D.rds w ds (Old No w) (cs.drop o) ∧ o + D.szs ds = P.cellsOf t:=by
     intro gs
     induction gs with
     | nil =>
      intro o _ hc
      simp only [nC,Option.some.injEq] at hc
      subst hc
      exact ⟨[],trivial,by rw [← hlen,List.drop_length]; rfl,rfl⟩
     | cons f gs ihg =>
      intro o hall hc
      simp only [nC] at hc
      split at hc
      ·rename_i ho
       have ho':=Nat.eq_of_beq_eq_true ho
       obtain ⟨hft,y,hy⟩:=hall f (by simp)
       obtain ⟨d,g1,g2,g3⟩:=ih hft hy
       obtain ⟨ds,q1,q2,q3⟩:=ihg _ (fun g hg=>hall g (by simp [hg])) hc
       rw [ho'] at g2
       refine ⟨d :: ds,⟨g1,q1⟩,⟨_,_,?_,D.rd_length g2,g2,q2⟩,?_⟩
       ·rw [← List.drop_drop,List.take_append_drop]
       ·simp only [D.szs,g3]; omega
      ·cases hc
    obtain ⟨ds,q1,q2,q3⟩:=key fs.toList 0 (fun f hf'=>⟨by have:=List.all_eq_true.1 h2 f hf'; simpa using this,by
      obtain ⟨i,hi⟩:=List.getElem?_of_mem hf'
      have hi' : fs[i]? = some f:=by simpa using hi
      have hlt : i < xs.length:=by
       have:=(List.getElem?_eq_some_iff.1 hi).1
       rw [hxl]
       simpa using this
      exact ⟨_,(hf i f hi').trans (List.getElem?_eq_getElem hlt)⟩⟩) hcg
    exact ⟨.agg ds,⟨_,by simp only [yA,hu],q1⟩,q2,by simp only [D.sz]; omega⟩
   ·cases h1
  ·cases hok
def Dec (P : Program) (t : TypeId) (enc : α → D) (Wf : α → Prop) : Prop:=∀ d,Typ P d t → ∃ x,d = enc x ∧ Wf x
theorem Dec.int (hu : P.underlying t = some (.int k)) : Dec P t (D.int k) (fun n=>(Lit.int k n).wf = true):=by
 intro d h
 cases d with
 | int k' n =>
  obtain ⟨h1,h2⟩:=h
  rw [hu] at h1
  injection h1 with h1
  injection h1 with h1
  subst h1
  exact ⟨n,rfl,h2⟩
 | bool b=>rw [show P.underlying t = some .bool from h] at hu; cases hu
 | str s=>rw [show P.underlying t = some .string from h.1] at hu; cases hu
 | row e s xs=>rw [h.1] at hu; cases hu
 | agg xs=>obtain ⟨ts,h1,_⟩:=h; simp [yA,hu] at h1
theorem Dec.bool (hu : P.underlying t = some .bool) : Dec P t D.bool (fun _=>True):=by
 intro d h
 cases d with
 | bool b=>exact ⟨b,rfl,trivial⟩
 | int k' n=>rw [h.1] at hu; cases hu
 | str s=>rw [show P.underlying t = some .string from h.1] at hu; cases hu
 | row e s xs=>rw [h.1] at hu; cases hu
 | agg xs=>obtain ⟨ts,h1,_⟩:=h; simp [yA,hu] at h1
theorem Dec.str (hu : P.underlying t = some .string) : Dec P t D.str (fun s=>s.size ≤ maxLen):=by
 intro d h
 cases d with
 | str s=>exact ⟨s,rfl,h.2⟩
 | bool b=>rw [show P.underlying t = some .bool from h] at hu; cases hu
 | int k' n=>rw [h.1] at hu; cases hu
 | row e s xs=>rw [h.1] at hu; cases hu
 | agg xs=>obtain ⟨ts,h1,_⟩:=h; simp [yA,hu] at h1
theorem Dec.list {Wf : α → Prop} (h : Dec P e enc Wf) : ∀ {xs : List D},vx P xs e → ∃ l : List α,xs = l.map enc ∧ ∀ x ∈ l,Wf x
 | [],_=>⟨[],rfl,by simp⟩
 | d :: xs,⟨h1,h2⟩=>by
  obtain ⟨x,rfl,hx⟩:=h d h1
  obtain ⟨l,rfl,hl⟩:=Dec.list h h2
  exact ⟨x :: l,rfl,fun y hy=>(List.mem_cons.1 hy).elim (fun e=>e ▸ hx) (hl y)⟩
theorem Dec.slice {Wf : α → Prop} (hu : P.underlying t = some (.slice e)) (hc : P.cellsOf e = size) (h : Dec P e enc Wf) : Dec P t (fun (l : List α)=>D.row e size (l.map enc)) (fun l=>∀ x ∈ l,Wf x):=by
 intro d hd
 cases d with
 | row e' s xs =>
  obtain ⟨h1,h2,h3⟩:=hd
  rw [hu] at h1
  injection h1 with h1
  injection h1 with h1
  subst h1
  obtain ⟨l,rfl,hl⟩:=h.list h3
  exact ⟨l,by rw [h2,hc],hl⟩
 | bool b=>rw [show P.underlying t = some .bool from hd] at hu; cases hu
 | int k' n=>rw [hd.1] at hu; cases hu
 | str s=>rw [show P.underlying t = some .string from hd.1] at hu; cases hu
 | agg xs=>obtain ⟨ts,h1,_⟩:=hd; simp [yA,hu] at h1
end
noncomputable section
variable {P : Program} {w : World} {T : Nat → Prop} {t e : TypeId} {size : Nat} {k : IntKind} {α : Type} {H : Type} {en : TypeId × Value → H} {base : Nat} {spare : Nat → Bool} {held : Bool}
def mu : DataW H → List Value
 | .lit (.int k n)=>[.int k n]
 | .lit (.bool b)=>[.bool b]
 | .lit (.string s)=>[.string ⟨s.toArray⟩]
 | .agg ds=>dcellsL ds
 | _=>[]
where dcellsL : List (DataW H) → List Value
 | []=>[]
 | d :: r=>mu d ++ dcellsL r
theorem oz {γ : Type} (f : γ → DataW H) : ∀ {xs : List γ},mu.dcellsL (xs.map f) = (xs.map fun x=>mu (f x)).flatten
 | []=>rfl
 | x :: xs=>by simp only [List.map_cons,mu.dcellsL,List.flatten_cons,oz f]
def okF (P : Program) (ts : List TypeId) (t : TypeId) : Bool:=match P.underlying t with
 | some (.int _) | some .bool | some .string=>Nat.beq (P.cellsOf t) 1
 | some (.array n e)=>Nat.beq (P.cellsOf t) (n * P.cellsOf e) && ts.contains e
 | some (.struct fs)=>(match nC P fs.toList 0 with
  | some n=>Nat.beq n (P.cellsOf t)
  | none=>false) && fs.toList.all (fun f=>ts.contains f.type)
 | _=>false
theorem xh {ts : List TypeId} (hts : ts.all (okF P ts) = true) : ∀ {fuel : Nat} {t : TypeId} {cs : List Value} {x : DataW H × List MemPlace},t ∈ ts → DataW.trod en P w base spare held fuel t cs = some x → cs = mu x.1 ∧ cs.length = P.cellsOf t:=by
 intro fuel
 induction fuel with
 | zero=>intro t cs x _ h; simp [DataW.trod] at h
 | succ fuel ih =>
  intro t cs x ht h
  have hok:=List.all_eq_true.1 hts t ht
  unfold okF at hok
  split at hok
  ·rename_i k hu
   obtain ⟨n,rfl,rfl,hw⟩:=DataW.trod_int hu h
   exact ⟨rfl,(Nat.eq_of_beq_eq_true hok).symm⟩
  ·rename_i hu
   obtain ⟨b,rfl,rfl⟩:=DataW.trod_bool hu h
   exact ⟨rfl,(Nat.eq_of_beq_eq_true hok).symm⟩
  ·rename_i hu
   obtain ⟨s,rfl,rfl,hs⟩:=DataW.trod_string hu h
   exact ⟨by simp [mu],(Nat.eq_of_beq_eq_true hok).symm⟩
  ·rename_i n e hu
   simp only [Bool.and_eq_true] at hok
   obtain ⟨h1,h2⟩:=hok
   have he : e ∈ ts:=by simpa using h2
   have h1':=Nat.eq_of_beq_eq_true h1
   obtain ⟨xs,m,hn,rfl,hlen,hxl,hel⟩:=DataW.trod_array hu h
   obtain rfl : fuel = m:=by omega
   refine ⟨?_,hlen⟩
   have key : ∀ j,j ≤ n → cs.take (j * P.cellsOf e) = ((xs.take j).map fun y=>mu y.1).flatten:=by
    intro j
    induction j with
    | zero=>intro _; simp
    | succ j ihj =>
     intro hj
     have hi:=hel j (by omega)
     have hlt : j < xs.length:=by omega
     rw [List.getElem?_eq_getElem hlt] at hi
     obtain ⟨g1,g2⟩:=ih he hi
     rw [← List.take_append_getElem hlt,List.map_append,List.flatten_append,← ihj (by omega)]
     simp only [List.map_cons,List.map_nil,List.flatten_cons,List.flatten_nil,List.append_nil]
     rw [← g1,Nat.add_mul,Nat.one_mul,List.take_add]
   have:=key n (Nat.le_refl _)
   rw [List.take_of_length_le (by omega),List.take_of_length_le (by omega)] at this
   rw [this]
   show _ = mu.dcellsL (xs.map (·.1))
   rw [oz]
  ·rename_i fs hu
   simp only [Bool.and_eq_true] at hok
   obtain ⟨h1,h2⟩:=hok
   split at h1
   ·rename_i tot hcg
    obtain rfl:=Nat.eq_of_beq_eq_true h1
    obtain ⟨xs,n,hn,rfl,hlen,hxl,hf⟩:=DataW.trod_struct hu h
    obtain rfl : fuel = n:=by omega
    refine ⟨?_,hlen⟩
    have key : ∀ (gs : List Field) (o i : Nat),(∀ j f,gs[j]? = some f → fs[i + j]? = some f ∧ f.type ∈ ts) → i + gs.length = xs.length → nC P gs o = some (P.cellsOf t) → cs.drop o = ((xs.drop i).map fun y=>mu y.1).flatten:=by
     intro gs
     induction gs with
     | nil =>
      intro o i _ hlen2 hc
      simp only [nC,Option.some.injEq] at hc
      simp only [List.length_nil,Nat.add_zero] at hlen2
      rw [hc,← hlen,List.drop_length,hlen2,List.drop_length]
      rfl
     | cons f gs ihg =>
      intro o i hall hlen2 hc
      simp only [nC] at hc
      split at hc
      ·rename_i ho
       have ho':=Nat.eq_of_beq_eq_true ho
       obtain ⟨hf0,hft⟩:=hall 0 f rfl
       have hi:=hf i f (by simpa using hf0)
       have hlt : i < xs.length:=by simp only [List.length_cons] at hlen2; omega
       rw [List.getElem?_eq_getElem hlt,ho'] at hi
       obtain ⟨g1,g2⟩:=ih hft hi
       have hr:=ihg (o + P.cellsOf f.type) (i + 1) (fun j f' hj=>by
        have:=hall (j + 1) f' (by simpa using hj)
        rwa [show i + (j + 1) = i + 1 + j by omega] at this) (by simp only [List.length_cons] at hlen2; omega) hc
       rw [List.drop_eq_getElem_cons hlt,List.map_cons,List.flatten_cons,← g1,← hr,← List.drop_drop,List.take_append_drop]
      ·cases hc
    have:=key fs.toList 0 0 (fun j f hj=>⟨by simpa using hj,by
     have:=List.all_eq_true.1 h2 f (List.mem_of_getElem? hj)
     simpa using this⟩) (by simp [hxl]) hcg
    simp only [List.drop_zero] at this
    rw [this]
    show _ = mu.dcellsL (xs.map (·.1))
    rw [oz]
   ·cases h1
  ·cases hok
theorem wA {f : α → List Value} (hs : ∀ x,(f x).length = size) : ∀ {l : List α} {i j : Nat} {x : α} {u : Value},l[i]? = some x → (f x)[j]? = some u → ((l.map f).flatten)[i * size + j]? = some u
 | [],i,j,x,u,h,_=>by simp at h
 | y :: ys,0,j,x,u,h,hu=>by
  have : y = x:=by simpa using h
  subst this
  have hlt : j < (f y).length:=by
   rcases Nat.lt_or_ge j (f y).length with h | h
   ·exact h
   ·rw [List.getElem?_eq_none h] at hu; cases hu
  simp only [List.map_cons,List.flatten_cons,Nat.zero_mul,Nat.zero_add]
  rw [List.getElem?_append_left hlt]
  exact hu
 | y :: ys,i + 1,j,x,u,h,hu=>by
  have ih:=wA hs (l:=ys) (i:=i) (j:=j) (by simpa using h) hu
  simp only [List.map_cons,List.flatten_cons]
  rw [List.getElem?_append_right (by rw [hs,Nat.add_mul]; omega),hs]
  rw [show (i + 1) * size + j - size = i * size + j by rw [Nat.add_mul]; omega]
  exact ih
theorem Aa {g : Nat} {f : α → List Value} {l : List α} {cs : Array Value} (hs : ∀ x,(f x).length = size) (hc : cs.toList = (l.map f).flatten) (hv : ∀ j,w.cell? ⟨g,j,none⟩ = cs[j]?) (h0 : Nat.ble 1 ((l.map f).flatten).length = true) : Tab g size f l w:=
 have h1 : 0 < cs.size:=by
  have h1:=Nat.le_of_ble_eq_true h0
  rw [← hc,Array.length_toList] at h1
  omega
 ⟨World.block_lt_of_cell? w ⟨g,0,none⟩ ((hv 0).trans (Array.getElem?_eq_getElem h1)),fun i x hx j v hj=>by
  rw [hv]
  have:=wA hs hx hj
  rw [← hc] at this
  simpa using this⟩
theorem Ab {sp : Nat → Bool} {n1 n2 : String} {gs : List (DataW H)} {ps : List MemPlace} (h : DataW.TrodVars en P w sp [n1,n2] gs ps) : ∃ g1 g2,gs = [g1,g2]:=by
 match gs,h with
 | [],h=>exact h.elim
 | [g1],h=>obtain ⟨_,_,_,_,_,_,_,_,_,_,h,_⟩:=h; exact h.elim
 | [g1,g2],_=>exact ⟨g1,g2,rfl⟩
 | g1 :: g2 :: g3 :: r,h=>obtain ⟨_,_,_,_,_,_,_,_,_,_,⟨_,_,_,_,_,_,_,_,_,_,h,_⟩,_⟩:=h; exact h.elim
theorem uk {ts : List TypeId} (hts : ts.all (okF P ts) = true) {n : String} {d : DataW Unit} {r : List (String × DataW Unit)} {ps : List MemPlace} {g t : Nat} (hg : P.globalNamed n = some g) (ht : (P.globals[g]?).map (·.type) = some t) (hm : t ∈ ts)
  (h : DataW.LaidVars P w ((n,d) :: r) ps) : ∃ cs : Array Value,cs.toList = mu d ∧ (∀ j,w.cell? ⟨g,j,none⟩ = cs[j]?) ∧ ∃ qs,DataW.LaidVars P w r qs:=by
 obtain ⟨g',t',cs,fuel,p,q,h1,h2,h3,h4,h5,_⟩:=h
 obtain rfl:=o9 (hg.symm.trans h1)
 obtain rfl:=o9 (ht.symm.trans h2)
 exact ⟨cs,(xh hts hm h4).1,fun j=>World.var?_cell hg h3 j,q,h5⟩
end

end Go.Proofs.YtcljimkjmklkmaaGreatDoor.X
