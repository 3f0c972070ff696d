/- Printed by a program of mine: that the program's functions compute it. Printed by a program of mine: that a law computes it. What a row says of its arguments, i -/
import Derived.Test.YtgcmopfhafoabaaGreatDoorK7
import Derived.RowKit
import Derived.ChangeSlices
import Derived.ChangeArms
import Derived.WideShapes
import Derived.OpenShut
import Derived.LaidMore
import Derived.LaidLaws
import GoSem.ClaimJoined
set_option linter.unusedVariables false
set_option linter.unusedSimpArgs false
set_option maxRecDepth 100000
set_option maxHeartbeats 4000000
namespace Go.Proofs.YtgcmopfhafoabaaGreatDoor.N
open Go.Proofs.YtgcmopfhafoabaaGreatDoor.X
noncomputable section
theorem sH {a0 : List Int} {a1 : List (List Instr)} {a2 : Int} {v_0 : Hd} {v_1 : Hd} {w : World} {r : ai × Int × (List Int) × Int} (h : gW a0 a1 a2 = some r) (q_0 : RO w v_0 3 1 (D.int .i64) a0) (q_1 : RO w v_1 66 1 (fun (l : List Instr)=>D.row 105 5 (l.map aw)) a1) (hG : Gl w) : Cl 14 #[(sv v_0),(sv v_1),vi a2] w (Ret No w (fun s : Hd × Hd × Hd=>.tuple #[.agg #[(sv s.1),vi r.1.Pc,(sv s.2.1)],vi r.2.1,(sv s.2.2),vi r.2.2.2]) (fun s=>[ae (sv s.1) 3 1 (D.int .i64) r.1.Regs,ae (sv s.2.1) 3 1 (D.int .i64) r.1.Mem,ae (sv s.2.2) 3 1 (D.int .i64) r.2.2.1])):=by
 unfold gW at h
 refine ar Tryz.func14 z z ?_
 have hS:=Sep.start w
 refine .g (.c (.alloc T.t28 hS ?_))
 intro g1 W hS
 refine .q z (.q z (.qn z (.g (.q z (.q z ?_)))))
 have ⟨y1,hy1,h⟩:=bnd h
 refine .c (.call hS Tryz.func11 (mW hy1 (hS.keep q_0) (hS.keep q_1) (hG.at hS (fun _ _ h=>h))) z z ?_)
 rintro ⟨v1,v2⟩ W hS
 refine .q z (.q z (.q z (.q z (.c (.alloc T.t28 hS ?_)))))
 intro g2 W hS
 refine .c (.st T.t28 hS z z z ?_)
 intro W hS
 refine .q z (.qn z (.seq (.g (.q z (.q z (.nil ?_))))))
 refine .cs z h ?_ ?_ <;> intro h
 ·refine .g (.s (bs T.s28 z z) z (.c (.liv [] (D.int .i64) T.u23 T.t3 hS z z z z ?_ z (fun _=>z))))
  intro v3 W hS
  refine .c (.st T.t28 hS.p4 z z z ?_)
  intro W hS
  refine .q z (.q z (.qn z (.ret ?_)))
  have hS:=hS.nilv 3 1 (D.int .i64)
  have hS:=hS.nilv 3 1 (D.int .i64)
  cases h
  exact ab (vs:=[_,_,_,_]) (aP,aP,v3) (rc hS.p2 T.t28 z (rt z (rt z (rt z rn))) z z) z (hS.to [1,0,1])
 refine .skip (.g (.s (ld T.t28 hS z z z z z) z (.q z ?_)))
 have ⟨y2,hy2,h⟩:=bnd h
 refine .c (.call hS Tryz.func37 (rF hy2 hS.p1.lv hS.p2.lv (hG.at hS (fun _ _ h=>h))) z z ?_)
 rintro ⟨v4,v5,v6⟩ W hS
 refine .q z (.q z (.q z (.q z (.c (.alloc T.t28 hS ?_)))))
 intro g3 W hS
 refine .c (.st T.t28 hS z z z ?_)
 intro W hS
 refine .q z (.qn z (.g (.s (ld T.t28 hS z z z z z) z (.q z (.q z (.q z (.c (.st T.t28 hS.p7 z z z ?_))))))))
 intro W hS
 cases h
 exact .q z (.q z (.qn z (.ret (ab (vs:=[_,_,_,_]) (v4,v5,v6) (rc hS T.t28 z (rt z (rt z (rt z rn))) z z) z (hS.to [2,2,2])))))
end
noncomputable section
theorem o0 {k : Nat} {a0 : List Int} {a1 : List Int} {v_0 : Hd} {v_1 : Hd} {w : World} {r : Bool} (h : gZ k a0 a1 = some r) (q_0 : RO w v_0 5 1 (D.int .u8) a0) (q_1 : RO w v_1 5 1 (D.int .u8) a1) (hG : Gl w) : Cl 3 #[(sv v_0),(sv v_1)] w (RU w (.bool r)):=by
 unfold gZ at h
 refine ar Tryz.func3 z z ?_
 have hS:=Sep.start w
 refine .g (.qn z (.seq (.g (.q z (.s (bF (hS.keep q_0) T.u22 z z) z (.q z (.q z (.cu 4 24 ((decide ((a0.length : Int) > 1048576)) || (decide ((a1.length : Int) > 1048576))) hS ?_ ?_))))))))
 ·refine .both (decide ((a0.length : Int) > 1048576)) (fun hb=>?_) (fun hb=>?_)
  ·exact .xx hb z (.xx hb z (.xx hb z (.s (pkt hb z z z) z (.nil (ck 4 hS z (kL hb))))))
  have hg1:=hb
  exact .g hg1 (.q z (.g hg1 (.s (bF (hS.keep q_1) T.u22 z z) z (.g hg1 (.q z (.s (pkf hg1 z z z) z (.nil (ck 4 hS z (kM hg1)))))))))
 intro W hS
 refine .nil ?_
 refine .cs z h ?_ ?_ <;> intro h
 ·obtain rfl:=o9 h
  exact .g (.qn z (.ret (ab (vs:=[_]) () (rt z rn) z (hS.to []))))
 refine .skip (.g (.q z ?_))
 have ⟨y1,hy1,h⟩:=bnd h
 refine .c (.call hS Tryz.func10 (ox hy1 (hS.keep q_0)) z z ?_)
 rintro ⟨v1,v2⟩ W hS
 refine .q z (.q z (.q z (.q z (.qn z (.g (.q z (.q z ?_)))))))
 have ⟨y2,hy2,h⟩:=bnd h
 refine .c (.call hS Tryz.func11 (mW hy2 hS.lv (hS.p1.lendz 0 z) (hG.at hS (fun _ _ h=>h))) z z ?_)
 rintro ⟨v3,v4⟩ W hS
 refine .q z (.q z (.q z (.q z (.c (.alloc T.t28 hS ?_)))))
 intro g1 W hS
 refine .c (.st T.t28 hS z z z ?_)
 intro W hS
 refine .q z (.qn z (.g (.q z (.q z ?_))))
 have ⟨y3,hy3,h⟩:=bnd h
 refine .c (.call hS Tryz.func12 (rC hy3 hS.p3.lv (hS.p4.lendz 0 z)) z z ?_)
 rintro ⟨v5,v6⟩ W hS
 refine .q z (.q z (.q z (.q z (.c (.alloc T.t28 hS ?_)))))
 intro g2 W hS
 refine .c (.st T.t28 hS z z z ?_)
 intro W hS
 refine .q z (.qn z (.seq (.g (.q z (.q z (.s (neb T.u4 z z z) z (.q z (.cu 4 51 ((y2.2.2 != y3.2.2) || (y2.2.1 != y3.2.1)) hS ?_ ?_))))))))
 ·refine .both (y2.2.2 != y3.2.2) (fun hb=>?_) (fun hb=>?_)
  ·exact .xx hb z (.xx hb z (.xx hb z (.s (pkt hb z z z) z (.nil (ck 4 hS z (kL hb))))))
  have hg2:=hb
  exact .g hg2 (.q z (.g hg2 (.q z (.g hg2 (.q z (.s (pkf hg2 z z z) z (.nil (ck 4 hS z (kM hg2)))))))))
 intro W hS
 refine .q z ?_
 have ⟨b1,hb1,h⟩:=bnd h
 refine .cu 5 57 (b1) hS ?_ ?_
 ·refine .both ((y2.2.2 != y3.2.2) || (y2.2.1 != y3.2.1)) (fun hb=>?_) (fun hb=>?_)
  ·refine .xx hb z (.xx hb z (.xx hb z (.xx hb z ?_)))
   cases aF hb hb1
   exact .s (pkt hb z z z) z (.nil (ck 5 hS))
  have hg3:=hb
  have h:=aG hb hb1
  refine .g hg3 (.s (ld T.t28 hS.p3 z z z z z) z (.g hg3 (.s (ld T.t28 hS z z z z z) z ?_)))
  have ⟨y4,hy4,h⟩:=bnd h
  refine .g hg3 (.c (.cO hS Tryz.func13 (lr hy4 hS.p4.lv hS.p5.lv hS.p1.lv hS.p2.lv) z z ?_))
  intro W hS
  refine .g hg3 (.q z (.s (pkf hg3 z z z) z ?_))
  cases h
  exact .nil (ck 5 hS)
 intro W hS
 refine .q z (.cu 3 61 (b1 || (!y2.2.2)) hS ?_ ?_)
 ·refine .both (b1) (fun hb=>?_) (fun hb=>?_)
  ·exact .xx hb z (.xx hb z (.s (pkt hb z z z) z (.nil (ck 3 hS z (kL hb)))))
  have hg4:=hb
  exact .g hg4 (.q z (.g hg4 (.q z (.s (pkf hg4 z z z) z (.nil (ck 3 hS z (kM hg4)))))))
 intro W hS
 refine .nil ?_
 refine .cs z h ?_ ?_ <;> intro h
 ·refine .g (.q z (.q z (.s (eqb T.u4 z z z) z (.q z (.cu 4 69 ((y2.2.2 == y3.2.2) && (y2.2.1 == y3.2.1)) hS ?_ ?_)))))
  ·refine .both (y2.2.2 == y3.2.2) (fun hb=>?_) (fun hb=>?_)
   ·have hg5:=hb
    exact .g hg5 (.q z (.g hg5 (.q z (.g hg5 (.q z (.s (pkt hg5 z z z) z (.nil (ck 4 hS z (bR hg5)))))))))
   exact .xx hb z (.xx hb z (.xx hb z (.s (pkf hb z z z) z (.nil (ck 4 hS z (bS hb))))))
  intro W hS
  refine .q z ?_
  have ⟨b2,hb2,h⟩:=bnd h
  refine .cu 4 74 (b2) hS ?_ ?_
  ·refine .both ((y2.2.2 == y3.2.2) && (y2.2.1 == y3.2.1)) (fun hb=>?_) (fun hb=>?_)
   ·have hg6:=hb
    have h:=aF hb hb2
    refine .g hg6 (.s (ld T.t28 hS.p3 z z z z z) z (.g hg6 (.s (ld T.t28 hS z z z z z) z ?_)))
    have ⟨y5,hy5,h⟩:=bnd h
    refine .g hg6 (.c (.cO hS Tryz.func13 (lr hy5 hS.p4.lv hS.p5.lv hS.p1.lv hS.p2.lv) z z ?_))
    intro W hS
    refine .s (pkt hg6 z z z) z ?_
    cases h
    exact .nil (ck 4 hS)
   refine .xx hb z (.xx hb z (.xx hb z ?_))
   cases aG hb hb2
   exact .s (pkf hb z z z) z (.nil (ck 4 hS))
  intro W hS
  obtain rfl:=o9 h
  exact .qn z (.ret (ab (vs:=[_]) () (rt z rn) z (hS.to [])))
 refine .skip (.g (.q z (.q z (.q z (.s (bF (hS.keep q_1) T.u22 z z) z (.q z (.q z ?_)))))))
 have ⟨y6,hy6,h⟩:=bnd h
 refine .c (.call hS Tryz.func14 (sH hy6 hS.p6.lv (hS.p7.lendz 0 z) (hG.at hS (fun _ _ h=>h))) z z ?_)
 rintro ⟨v7,v8,v9⟩ W hS
 refine .q z (.q z (.q z (.q z (.q z (.c (.alloc T.t28 hS ?_))))))
 intro g3 W hS
 refine .c (.st T.t28 hS z z z ?_)
 intro W hS
 refine .q z (.q z (.qn z (.seq ?_)))
 have ⟨b3,hb3,h⟩:=bnd h
 have ⟨b4,hb4,h⟩:=bnd h
 refine .via (R':=fun x E' W'=>x = .normal ∧ aD E' [(4,.bool b4)] ∧ Sep No w W' [ae (sv v7) 3 1 (D.int .i64) y6.1.Regs,ae (sv v9) 3 1 (D.int .i64) y6.2.2.1,.box g2 28 [(sv v5),vi y3.1.Pc,(sv v6)],ae (sv v5) 3 1 (D.int .i64) y3.1.Regs,ae (sv v6) 3 1 (D.int .i64) y3.1.Mem,ae (sv v3) 3 1 (D.int .i64) y2.1.Regs,ae (sv v1) 3 1 (D.int .i64) y1.1,po [((sv v2),66,1,List.map (fun (l : List Instr)=>D.row 105 5 (l.map aw)) y1.2)] []]) ?_ ?_
 ·refine .rk 28 hS [0,0,1,1,1,1,1,1,2,2] T.mix ?_
  intro W hS
  have hT:=hS.to [0,0,1,1,1,1,1,1,2,2]
  refine .tp' 0 z z hT (.tp' 1 z z hT (.tp' 2 z z hT (.both (y6.2.2.2 == 1) (fun hb=>?_) (fun hb=>?_))))
  ·refine .off 3 z hb hT (.off 4 z hb hT (.ts' 5 z (fun W hT=>pkt hb z z z) hT z (.eqv 92 z (congrArg Value.bool (show true = ((y6.2.2.2 == 1) || (y6.2.2.2 == 2)) from kL hb)) (.tp' 6 z z hT (.both ((y6.2.2.2 == 1) || (y6.2.2.2 == 2)) (fun hb=>?_) (fun hb=>?_))))) (by kernel_rfl) z z) (by kernel_rfl) z z
   ·have hg8:=hb
    have h_b3:=aF hb hb3
    have ⟨r1,hr1,h_b3⟩:=bnd h_b3
    have ⟨r2,hr2,h_b3⟩:=bnd h_b3
    have ⟨y7,hy7,h_b3⟩:=bnd h_b3
    refine .t1g 7 z hg8 (fun W hT=>fa T.f28_2 z z z) hT (.t1g 8 z hg8 (fun W hT=>ld T.t23 hT z z z z z) hT (.t1g 9 z hg8 (fun W hT=>pr z) hT (.t1g 10 z hg8 (fun W hT=>pr z) hT (.t1g 12 z hg8 (fun W hT=>fa T.f28_2 z z z) hT (.t1g 13 z hg8 (fun W hT=>ld T.t23 hT.p6 z z z z z) hT (.t1g 14 z hg8 (fun W hT=>pr z) hT (.t1g 15 z hg8 (fun W hT=>pr z) hT (.by [11,16] ⟨⟨_,z,?_⟩,⟨_,z,?_⟩,trivial⟩) (by kernel_rfl) z z) (by kernel_rfl) z z) (by kernel_rfl) z z) (by kernel_rfl) z z) (by kernel_rfl) z z) (by kernel_rfl) z z) (by kernel_rfl) z z) (by kernel_rfl) z z
    ·refine (.gd hg8 (.cuto hr1 hS.p2 T.u23 T.t3 z z z z ?_))
     intro v10 hS
     have hT:=hS.to [1,1,1,1,1,1,1,1,2,2]
     refine ⟨fun _=>hT,.by1 16 z (.gd hg8 (.cuto hr2 hS.p9 T.u23 T.t3 z z z z ?_))⟩
     intro v11 hS
     have hT:=hS.to [2,2,2,2,2,2,2,2,2,2]
     refine ⟨fun _=>hT,.by1 17 z (.gd hg8 (.cO hS Tryz.func15 (ed hy7 hS.p1.lv hS.lv) z z ?_))⟩
     intro W hS
     have hT:=hS.to [2,2,2,2,2,2,2,2,2,2]
     refine ⟨fun _=>hT,.ts' 18 z (fun W hT=>pkt hg8 z z z) hT z (.eqv 105 z (dg h_b3) (.tp' 19 z z hT (.both (b3) (fun hb=>?_) (fun hb=>?_))))⟩
     ·have hg9:=hb
      have h_b4:=aF hb hb4
      refine .t1g 20 z hg9 (fun W hT=>fa T.f28_0 z z z) hT (.t1g 21 z hg9 (fun W hT=>ld T.t23 hT z z z z z) hT ?_ (by kernel_rfl) z z) (by kernel_rfl) z z
      have ⟨x1,hx1,h_b4⟩:=bnd h_b4
      exact .t1g 22 z hg9 (fun W hT=>ixv hS.p3.lv hx1 T.u23 T.t3 z z z) hT (.t1g 23 z hg9 (fun W hT=>lde (RV.flat hT.p1.lv hx1 z) T.t3 z z z z z) hT (.t1g 24 z hg9 (fun W hT=>pr z) hT (.t1g 25 z hg9 (fun W hT=>pr z) hT (.ts' 26 z (fun W hT=>pkt hg9 z z z) hT z (.eqv 113 z (dg h_b4) (.tp' 27 z z hT (.done (⟨z,sb z,hS.to [3,3,3,3,3,4,4,4]⟩))))) (by kernel_rfl) z z) (by kernel_rfl) z z) (by kernel_rfl) z z) (by kernel_rfl) z z
     exact .off 20 z hb hT (.off 21 z hb hT (.off 22 z hb hT (.off 23 z hb hT (.off 24 z hb hT (.off 25 z hb hT (.ts' 26 z (fun W hT=>pkf hb z z z) hT z (.eqv 113 z (dg (aG hb hb4)) (.tp' 27 z z hT (.done (⟨z,sb z,hS.to [3,3,3,3,3,4,4,4]⟩))))) (by kernel_rfl) z z) (by kernel_rfl) z z) (by kernel_rfl) z z) (by kernel_rfl) z z) (by kernel_rfl) z z) (by kernel_rfl) z z
    refine (.gd hg8 (.cuto hr2 hS.p9 T.u23 T.t3 z z z z ?_))
    intro v12 hS
    have hT:=hS.to [1,1,2,2,2,2,2,2,2,2]
    refine ⟨fun _=>hT,.by1 11 z (.gd hg8 (.cuto hr1 hS.p3 T.u23 T.t3 z z z z ?_))⟩
    intro v13 hS
    have hT:=hS.to [2,2,2,2,2,2,2,2,2,2]
    refine ⟨fun _=>hT,.by1 17 z (.gd hg8 (.cO hS Tryz.func15 (ed hy7 hS.lv hS.p1.lv) z z ?_))⟩
    intro W hS
    have hT:=hS.to [2,2,2,2,2,2,2,2,2,2]
    refine ⟨fun _=>hT,.ts' 18 z (fun W hT=>pkt hg8 z z z) hT z (.eqv 105 z (dg h_b3) (.tp' 19 z z hT (.both (b3) (fun hb=>?_) (fun hb=>?_))))⟩
    ·have hg10:=hb
     have h_b4:=aF hb hb4
     refine .t1g 20 z hg10 (fun W hT=>fa T.f28_0 z z z) hT (.t1g 21 z hg10 (fun W hT=>ld T.t23 hT z z z z z) hT ?_ (by kernel_rfl) z z) (by kernel_rfl) z z
     have ⟨x2,hx2,h_b4⟩:=bnd h_b4
     exact .t1g 22 z hg10 (fun W hT=>ixv hS.p3.lv hx2 T.u23 T.t3 z z z) hT (.t1g 23 z hg10 (fun W hT=>lde (RV.flat hT.p1.lv hx2 z) T.t3 z z z z z) hT (.t1g 24 z hg10 (fun W hT=>pr z) hT (.t1g 25 z hg10 (fun W hT=>pr z) hT (.ts' 26 z (fun W hT=>pkt hg10 z z z) hT z (.eqv 113 z (dg h_b4) (.tp' 27 z z hT (.done (⟨z,sb z,hS.to [3,3,3,3,3,4,4,4]⟩))))) (by kernel_rfl) z z) (by kernel_rfl) z z) (by kernel_rfl) z z) (by kernel_rfl) z z
    exact .off 20 z hb hT (.off 21 z hb hT (.off 22 z hb hT (.off 23 z hb hT (.off 24 z hb hT (.off 25 z hb hT (.ts' 26 z (fun W hT=>pkf hb z z z) hT z (.eqv 113 z (dg (aG hb hb4)) (.tp' 27 z z hT (.done (⟨z,sb z,hS.to [3,3,3,3,3,4,4,4]⟩))))) (by kernel_rfl) z z) (by kernel_rfl) z z) (by kernel_rfl) z z) (by kernel_rfl) z z) (by kernel_rfl) z z) (by kernel_rfl) z z
   refine .off 7 z hb hT (.off 8 z hb hT (.off 9 z hb hT (.off 10 z hb hT (.off 11 z hb hT (.off 12 z hb hT (.off 13 z hb hT (.off 14 z hb hT (.off 15 z hb hT (.off 16 z hb hT (.off 17 z hb hT (.ts' 18 z (fun W hT=>pkf hb z z z) hT z (.eqv 105 z (dg (aG hb hb3)) (.tp' 19 z z hT (.both (b3) (fun hb=>?_) (fun hb=>?_))))) (by kernel_rfl) z z) (by kernel_rfl) z z) (by kernel_rfl) z z) (by kernel_rfl) z z) (by kernel_rfl) z z) (by kernel_rfl) z z) (by kernel_rfl) z z) (by kernel_rfl) z z) (by kernel_rfl) z z) (by kernel_rfl) z z) (by kernel_rfl) z z
   ·have hg11:=hb
    have h_b4:=aF hb hb4
    refine .t1g 20 z hg11 (fun W hT=>fa T.f28_0 z z z) hT (.t1g 21 z hg11 (fun W hT=>ld T.t23 hT z z z z z) hT ?_ (by kernel_rfl) z z) (by kernel_rfl) z z
    have ⟨x3,hx3,h_b4⟩:=bnd h_b4
    exact .t1g 22 z hg11 (fun W hT=>ixv hS.p1.lv hx3 T.u23 T.t3 z z z) hT (.t1g 23 z hg11 (fun W hT=>lde (RV.flat hT.p1.lv hx3 z) T.t3 z z z z z) hT (.t1g 24 z hg11 (fun W hT=>pr z) hT (.t1g 25 z hg11 (fun W hT=>pr z) hT (.ts' 26 z (fun W hT=>pkt hg11 z z z) hT z (.eqv 113 z (dg h_b4) (.tp' 27 z z hT (.done (⟨z,sb z,hS.to [1,2,2,2,2,3,4,4]⟩))))) (by kernel_rfl) z z) (by kernel_rfl) z z) (by kernel_rfl) z z) (by kernel_rfl) z z
   exact .off 20 z hb hT (.off 21 z hb hT (.off 22 z hb hT (.off 23 z hb hT (.off 24 z hb hT (.off 25 z hb hT (.ts' 26 z (fun W hT=>pkf hb z z z) hT z (.eqv 113 z (dg (aG hb hb4)) (.tp' 27 z z hT (.done (⟨z,sb z,hS.to [1,2,2,2,2,3,4,4]⟩))))) (by kernel_rfl) z z) (by kernel_rfl) z z) (by kernel_rfl) z z) (by kernel_rfl) z z) (by kernel_rfl) z z) (by kernel_rfl) z z
  have hg7:=hb
  refine .t1g 3 z hg7 (fun W hT=>pr z) hT (.t1g 4 z hg7 (fun W hT=>pr z) hT (.ts' 5 z (fun W hT=>pkf hg7 z z z) hT z (.eqv 92 z (congrArg Value.bool (kM hg7)) (.tp' 6 z z hT (.both ((y6.2.2.2 == 1) || (y6.2.2.2 == 2)) (fun hb=>?_) (fun hb=>?_))))) (by kernel_rfl) z z) (by kernel_rfl) z z
  ·have hg12:=hb
   have h_b3:=aF hb hb3
   have ⟨r3,hr3,h_b3⟩:=bnd h_b3
   have ⟨r4,hr4,h_b3⟩:=bnd h_b3
   have ⟨y8,hy8,h_b3⟩:=bnd h_b3
   refine .t1g 7 z hg12 (fun W hT=>fa T.f28_2 z z z) hT (.t1g 8 z hg12 (fun W hT=>ld T.t23 hT z z z z z) hT (.t1g 9 z hg12 (fun W hT=>pr z) hT (.t1g 10 z hg12 (fun W hT=>pr z) hT (.t1g 12 z hg12 (fun W hT=>fa T.f28_2 z z z) hT (.t1g 13 z hg12 (fun W hT=>ld T.t23 hT.p6 z z z z z) hT (.t1g 14 z hg12 (fun W hT=>pr z) hT (.t1g 15 z hg12 (fun W hT=>pr z) hT (.by [11,16] ⟨⟨_,z,?_⟩,⟨_,z,?_⟩,trivial⟩) (by kernel_rfl) z z) (by kernel_rfl) z z) (by kernel_rfl) z z) (by kernel_rfl) z z) (by kernel_rfl) z z) (by kernel_rfl) z z) (by kernel_rfl) z z) (by kernel_rfl) z z
   ·refine (.gd hg12 (.cuto hr3 hS.p2 T.u23 T.t3 z z z z ?_))
    intro v14 hS
    have hT:=hS.to [1,1,1,1,1,1,1,1,2,2]
    refine ⟨fun _=>hT,.by1 16 z (.gd hg12 (.cuto hr4 hS.p9 T.u23 T.t3 z z z z ?_))⟩
    intro v15 hS
    have hT:=hS.to [2,2,2,2,2,2,2,2,2,2]
    refine ⟨fun _=>hT,.by1 17 z (.gd hg12 (.cO hS Tryz.func15 (ed hy8 hS.p1.lv hS.lv) z z ?_))⟩
    intro W hS
    have hT:=hS.to [2,2,2,2,2,2,2,2,2,2]
    refine ⟨fun _=>hT,.ts' 18 z (fun W hT=>pkt hg12 z z z) hT z (.eqv 105 z (dg h_b3) (.tp' 19 z z hT (.both (b3) (fun hb=>?_) (fun hb=>?_))))⟩
    ·have hg13:=hb
     have h_b4:=aF hb hb4
     refine .t1g 20 z hg13 (fun W hT=>fa T.f28_0 z z z) hT (.t1g 21 z hg13 (fun W hT=>ld T.t23 hT z z z z z) hT ?_ (by kernel_rfl) z z) (by kernel_rfl) z z
     have ⟨x4,hx4,h_b4⟩:=bnd h_b4
     exact .t1g 22 z hg13 (fun W hT=>ixv hS.p3.lv hx4 T.u23 T.t3 z z z) hT (.t1g 23 z hg13 (fun W hT=>lde (RV.flat hT.p1.lv hx4 z) T.t3 z z z z z) hT (.t1g 24 z hg13 (fun W hT=>pr z) hT (.t1g 25 z hg13 (fun W hT=>pr z) hT (.ts' 26 z (fun W hT=>pkt hg13 z z z) hT z (.eqv 113 z (dg h_b4) (.tp' 27 z z hT (.done (⟨z,sb z,hS.to [3,3,3,3,3,4,4,4]⟩))))) (by kernel_rfl) z z) (by kernel_rfl) z z) (by kernel_rfl) z z) (by kernel_rfl) z z
    exact .off 20 z hb hT (.off 21 z hb hT (.off 22 z hb hT (.off 23 z hb hT (.off 24 z hb hT (.off 25 z hb hT (.ts' 26 z (fun W hT=>pkf hb z z z) hT z (.eqv 113 z (dg (aG hb hb4)) (.tp' 27 z z hT (.done (⟨z,sb z,hS.to [3,3,3,3,3,4,4,4]⟩))))) (by kernel_rfl) z z) (by kernel_rfl) z z) (by kernel_rfl) z z) (by kernel_rfl) z z) (by kernel_rfl) z z) (by kernel_rfl) z z
   refine (.gd hg12 (.cuto hr4 hS.p9 T.u23 T.t3 z z z z ?_))
   intro v16 hS
   have hT:=hS.to [1,1,2,2,2,2,2,2,2,2]
   refine ⟨fun _=>hT,.by1 11 z (.gd hg12 (.cuto hr3 hS.p3 T.u23 T.t3 z z z z ?_))⟩
   intro v17 hS
   have hT:=hS.to [2,2,2,2,2,2,2,2,2,2]
   refine ⟨fun _=>hT,.by1 17 z (.gd hg12 (.cO hS Tryz.func15 (ed hy8 hS.lv hS.p1.lv) z z ?_))⟩
   intro W hS
   have hT:=hS.to [2,2,2,2,2,2,2,2,2,2]
   refine ⟨fun _=>hT,.ts' 18 z (fun W hT=>pkt hg12 z z z) hT z (.eqv 105 z (dg h_b3) (.tp' 19 z z hT (.both (b3) (fun hb=>?_) (fun hb=>?_))))⟩
   ·have hg14:=hb
    have h_b4:=aF hb hb4
    refine .t1g 20 z hg14 (fun W hT=>fa T.f28_0 z z z) hT (.t1g 21 z hg14 (fun W hT=>ld T.t23 hT z z z z z) hT ?_ (by kernel_rfl) z z) (by kernel_rfl) z z
    have ⟨x5,hx5,h_b4⟩:=bnd h_b4
    exact .t1g 22 z hg14 (fun W hT=>ixv hS.p3.lv hx5 T.u23 T.t3 z z z) hT (.t1g 23 z hg14 (fun W hT=>lde (RV.flat hT.p1.lv hx5 z) T.t3 z z z z z) hT (.t1g 24 z hg14 (fun W hT=>pr z) hT (.t1g 25 z hg14 (fun W hT=>pr z) hT (.ts' 26 z (fun W hT=>pkt hg14 z z z) hT z (.eqv 113 z (dg h_b4) (.tp' 27 z z hT (.done (⟨z,sb z,hS.to [3,3,3,3,3,4,4,4]⟩))))) (by kernel_rfl) z z) (by kernel_rfl) z z) (by kernel_rfl) z z) (by kernel_rfl) z z
   exact .off 20 z hb hT (.off 21 z hb hT (.off 22 z hb hT (.off 23 z hb hT (.off 24 z hb hT (.off 25 z hb hT (.ts' 26 z (fun W hT=>pkf hb z z z) hT z (.eqv 113 z (dg (aG hb hb4)) (.tp' 27 z z hT (.done (⟨z,sb z,hS.to [3,3,3,3,3,4,4,4]⟩))))) (by kernel_rfl) z z) (by kernel_rfl) z z) (by kernel_rfl) z z) (by kernel_rfl) z z) (by kernel_rfl) z z) (by kernel_rfl) z z
  refine .off 7 z hb hT (.off 8 z hb hT (.off 9 z hb hT (.off 10 z hb hT (.off 11 z hb hT (.off 12 z hb hT (.off 13 z hb hT (.off 14 z hb hT (.off 15 z hb hT (.off 16 z hb hT (.off 17 z hb hT (.ts' 18 z (fun W hT=>pkf hb z z z) hT z (.eqv 105 z (dg (aG hb hb3)) (.tp' 19 z z hT (.both (b3) (fun hb=>?_) (fun hb=>?_))))) (by kernel_rfl) z z) (by kernel_rfl) z z) (by kernel_rfl) z z) (by kernel_rfl) z z) (by kernel_rfl) z z) (by kernel_rfl) z z) (by kernel_rfl) z z) (by kernel_rfl) z z) (by kernel_rfl) z z) (by kernel_rfl) z z) (by kernel_rfl) z z
  ·have hg15:=hb
   have h_b4:=aF hb hb4
   refine .t1g 20 z hg15 (fun W hT=>fa T.f28_0 z z z) hT (.t1g 21 z hg15 (fun W hT=>ld T.t23 hT z z z z z) hT ?_ (by kernel_rfl) z z) (by kernel_rfl) z z
   have ⟨x6,hx6,h_b4⟩:=bnd h_b4
   exact .t1g 22 z hg15 (fun W hT=>ixv hS.p1.lv hx6 T.u23 T.t3 z z z) hT (.t1g 23 z hg15 (fun W hT=>lde (RV.flat hT.p1.lv hx6 z) T.t3 z z z z z) hT (.t1g 24 z hg15 (fun W hT=>pr z) hT (.t1g 25 z hg15 (fun W hT=>pr z) hT (.ts' 26 z (fun W hT=>pkt hg15 z z z) hT z (.eqv 113 z (dg h_b4) (.tp' 27 z z hT (.done (⟨z,sb z,hS.to [1,2,2,2,2,3,4,4]⟩))))) (by kernel_rfl) z z) (by kernel_rfl) z z) (by kernel_rfl) z z) (by kernel_rfl) z z
  exact .off 20 z hb hT (.off 21 z hb hT (.off 22 z hb hT (.off 23 z hb hT (.off 24 z hb hT (.off 25 z hb hT (.ts' 26 z (fun W hT=>pkf hb z z z) hT z (.eqv 113 z (dg (aG hb hb4)) (.tp' 27 z z hT (.done (⟨z,sb z,hS.to [1,2,2,2,2,3,4,4]⟩))))) (by kernel_rfl) z z) (by kernel_rfl) z z) (by kernel_rfl) z z) (by kernel_rfl) z z) (by kernel_rfl) z z) (by kernel_rfl) z z
 intro x E W hJ
 obtain ⟨rfl,hE,hS⟩:=hJ
 refine ⟨_,hE.sub,?_⟩
 obtain rfl:=o9 h
 exact .ret (ab (vs:=[_]) () (rt z rn) z (hS.to []))
end
end Go.Proofs.YtgcmopfhafoabaaGreatDoor.N
namespace Go.Proofs.YtgcmopfhafoabaaGreatDoor.X
noncomputable section
variable {P : Program} {w : World} {T : Nat → Prop} {t e : TypeId} {size : Nat} {k : IntKind} {α : Type} {enc : α → D} {H : Type} {en : TypeId × Value → H} {base : Nat} {spare : Nat → Bool} {held : Bool}
def yI (P : Program) (t : TypeId) : Option (List TypeId):=match P.underlying t with
 | some (.struct fs)=>some (fs.toList.map (·.type))
 | _=>none
mutual
def Typ (P : Program) : D → TypeId → Prop
 | .int k n,t=>P.underlying t = some (.int k) ∧ (Lit.int k n).wf = true
 | .bool _,t=>P.underlying t = some .bool
 | .str s,t=>P.underlying t = some .string ∧ s.size ≤ maxLen
 | .row e size xs,t=>P.underlying t = some (.slice e) ∧ size = P.cellsOf e ∧ vo P xs e
 | .agg xs,t=>∃ ts,yI P t = some ts ∧ CM P xs ts
def vo (P : Program) : List D → TypeId → Prop
 | [],_=>True
 | x :: xs,e=>Typ P x e ∧ vo P xs e
def CM (P : Program) : List D → List TypeId → Prop
 | [],[]=>True
 | x :: xs,t :: ts=>Typ P x t ∧ CM P xs ts
 | _,_=>False
end
def nu (P : Program) : List Field → Nat → Option Nat
 | [],k=>some k
 | f :: r,k=>match Nat.beq f.offset k with
  | true=>nu P r (k + P.cellsOf f.type)
  | false=>none
def okT (P : Program) (ts : List TypeId) (t : TypeId) : Bool:=match P.underlying t with
 | some (.int _) | some .bool | some .string=>Nat.beq (P.cellsOf t) 1
 | some (.slice e)=>Nat.beq (P.cellsOf t) 1 && ts.contains e && !(Nat.beq (P.cellsOf e) 0)
 | some (.struct fs)=>(match nu P fs.toList 0 with
  | some n=>Nat.beq n (P.cellsOf t)
  | none=>false) && fs.toList.all (fun f=>ts.contains f.type)
 | _=>false
theorem D.rd_length : ∀ {d : D} {cs : List Value},D.rd w d T cs → cs.length = d.sz
 | .int _ _,_,h=>by simp only [D.rd] at h; subst h; rfl
 | .bool _,_,h=>by simp only [D.rd] at h; subst h; rfl
 | .str _,_,h=>by simp only [D.rd] at h; subst h; rfl
 | .row _ _ _,_,⟨A,cap,c,h1,_⟩=>by subst h1; rfl
 | .agg xs,_,h=>by simp only [D.sz]; exact m6 (xs:=xs) h
theorem vo.append : ∀ {xs ys : List D},vo P xs e → vo P ys e → vo P (xs ++ ys) e
 | [],_,_,h=>h
 | x :: xs,_,⟨h1,h2⟩,h=>⟨h1,vo.append h2 h⟩
theorem wx {a : Addr} {v : Value} (h : w.cell? a = some v) : Old No w a.block:=⟨World.block_lt_of_cell? w a h,id⟩
theorem wy {ts : List TypeId} (hts : ts.all (okT P ts) = true) : ∀ {fuel : Nat} {t : TypeId} {cs : List Value} {x : DataW H × List MemPlace},t ∈ ts → DataW.trod en P w base spare held fuel t cs = some x → ∃ d,Typ P d t ∧ D.rd w d (Old No w) cs ∧ d.sz = P.cellsOf t:=by
 intro fuel
 induction fuel with
 | zero=>intro t cs x _ h; simp [DataW.trod] at h
 | succ fuel ih =>
  intro t cs x ht h
  have hok:=List.all_eq_true.1 hts t ht
  unfold okT at hok
  split at hok
  ·rename_i k hu
   obtain ⟨n,rfl,_,hw⟩:=DataW.trod_int hu h
   exact ⟨.int k n,⟨hu,hw⟩,rfl,(Nat.eq_of_beq_eq_true hok).symm⟩
  ·rename_i hu
   obtain ⟨b,rfl,_⟩:=DataW.trod_bool hu h
   exact ⟨.bool b,hu,rfl,(Nat.eq_of_beq_eq_true hok).symm⟩
  ·rename_i hu
   obtain ⟨s,rfl,_,hs⟩:=DataW.trod_string hu h
   exact ⟨.str s,⟨hu,hs⟩,rfl,(Nat.eq_of_beq_eq_true hok).symm⟩
  ·rename_i e hu
   simp only [Bool.and_eq_true,Bool.not_eq_true'] at hok
   obtain ⟨⟨h1,h2⟩,h3⟩:=hok
   have he : e ∈ ts:=by simpa using h2
   have h0 : P.cellsOf e ≠ 0:=by intro h0; rw [h0] at h3; cases h3
   have hc1:=(Nat.eq_of_beq_eq_true h1).symm
   rcases DataW.trod_slice hu h with ⟨rfl,_⟩ | ⟨a,len,cap,elems,rest,n,hn,rfl,_,hb,hl,hm,hlen,hel,_,_⟩
   ·exact ⟨.row e (P.cellsOf e) [],⟨hu,rfl,trivial⟩,⟨none,0,[],rfl,Nat.le_refl _,Nat.zero_le _,by simp,fun h=>absurd rfl h,rfl⟩,hc1⟩
   ·obtain rfl : fuel = n:=by omega
    have key : ∀ m,m ≤ len → ∃ ds c,ds.length = m ∧ vo P ds e ∧ (∀ x ∈ ds,x.sz = P.cellsOf e) ∧ D.rds w ds (Old No w) c ∧ c.length = m * P.cellsOf e ∧ ∀ j u,c[j]? = some u → w.cell? (a.add j) = some u:=by
     intro m
     induction m with
     | zero=>intro _; exact ⟨[],[],rfl,trivial,by simp,rfl,by simp,by simp⟩
     | succ m ihm =>
      intro hle
      obtain ⟨ds,c,k1,k2,k3,k4,k5,k6⟩:=ihm (by omega)
      have hi:=hel m (by omega)
      have hs : ∃ y,elems[m]? = some y:=⟨_,List.getElem?_eq_getElem (by omega)⟩
      obtain ⟨y,hy⟩:=hs
      rw [hy,Option.bind_eq_some_iff] at hi
      obtain ⟨ci,hci,hyi⟩:=hi
      obtain ⟨d,g1,g2,g3⟩:=ih he hyi
      obtain ⟨_,q2,q3⟩:=World.cells?_some hci
      refine ⟨ds ++ [d],c ++ ci,by simp [k1],k2.append ⟨g1,trivial⟩,fun x hx=>?_,sJ k4 ⟨ci,[],by simp,D.rd_length g2,g2,rfl⟩,by rw [List.length_append,k5,q2,Nat.add_mul]; omega,fun j u hj=>?_⟩
      ·rcases List.mem_append.1 hx with hx | hx
       ·exact k3 x hx
       ·rw [List.mem_singleton.1 hx]; exact g3
      ·rcases Nat.lt_or_ge j c.length with hj' | hj'
       ·rw [List.getElem?_append_left hj'] at hj; exact k6 j u hj
       ·rw [List.getElem?_append_right hj'] at hj
        have hlt : j - c.length < P.cellsOf e:=by
         rcases Nat.lt_or_ge (j - c.length) ci.length with h | h
         ·omega
         ·rw [List.getElem?_eq_none h] at hj; cases hj
        have:=q3 _ hlt
        rw [hj,Addr.add_add,← k5] at this
        rw [show c.length + (j - c.length) = j by omega] at this
        exact this
    obtain ⟨ds,c,k1,k2,k3,k4,k5,k6⟩:=key len (Nat.le_refl _)
    refine ⟨.row e (P.cellsOf e) ds,⟨hu,rfl,k2⟩,⟨some a,cap,c,by rw [k1],by omega,by omega,k3,fun hne=>⟨a,rfl,?_,k6⟩,k4⟩,hc1⟩
    have hpos : 0 < c.length:=by
     rw [k5,← k1]
     exact Nat.mul_pos (List.length_pos_iff.2 hne) (by omega)
    have h6:=k6 0 _ (List.getElem?_eq_getElem hpos)
    simp only [Addr.add,if_true] at h6
    exact wx h6
  ·rename_i fs hu
   simp only [Bool.and_eq_true] at hok
   obtain ⟨h1,h2⟩:=hok
   split at h1
   ·rename_i tot hcg
    obtain rfl:=Nat.eq_of_beq_eq_true h1
    obtain ⟨xs,n,hn,_,hlen,hxl,hf⟩:=DataW.trod_struct hu h
    obtain rfl : fuel = n:=by omega
    have key : ∀ (gs : List Field) (o : Nat),(∀ f ∈ gs,f.type ∈ ts ∧ ∃ y,DataW.trod en P w base spare held fuel f.type ((cs.drop f.offset).take (P.cellsOf f.type)) = some y) → nu P gs o = some (P.cellsOf t) →
      ∃ ds,CM P ds (gs.map (·.type)) ∧ D.rds w ds (Old No w) (cs.drop o) ∧ o + D.szs ds = P.cellsOf t:=by
     intro gs
     induction gs with
     | nil =>
      intro o _ hc
      simp only [nu,Option.some.injEq] at hc
      subst hc
      exact ⟨[],trivial,by rw [← hlen,List.drop_length]; rfl,rfl⟩
     | cons f gs ihg =>
      intro o hall hc
      simp only [nu] at hc
      split at hc
      ·rename_i ho
       have ho':=Nat.eq_of_beq_eq_true ho
       obtain ⟨hft,y,hy⟩:=hall f (by simp)
       obtain ⟨d,g1,g2,g3⟩:=ih hft hy
       obtain ⟨ds,q1,q2,q3⟩:=ihg _ (fun g hg=>hall g (by simp [hg])) hc
       rw [ho'] at g2
       refine ⟨d :: ds,⟨g1,q1⟩,⟨_,_,?_,D.rd_length g2,g2,q2⟩,?_⟩
       ·rw [← List.drop_drop,List.take_append_drop]
       ·simp only [D.szs,g3]; omega
      ·cases hc
    obtain ⟨ds,q1,q2,q3⟩:=key fs.toList 0 (fun f hf'=>⟨by have:=List.all_eq_true.1 h2 f hf'; simpa using this,by
      obtain ⟨i,hi⟩:=List.getElem?_of_mem hf'
      have hi' : fs[i]? = some f:=by simpa using hi
      have hlt : i < xs.length:=by
       have:=(List.getElem?_eq_some_iff.1 hi).1
       rw [hxl]
       simpa using this
      exact ⟨_,(hf i f hi').trans (List.getElem?_eq_getElem hlt)⟩⟩) hcg
    exact ⟨.agg ds,⟨_,by simp only [yI,hu],q1⟩,q2,by simp only [D.sz]; omega⟩
   ·cases h1
  ·cases hok
def Dec (P : Program) (t : TypeId) (enc : α → D) (Wf : α → Prop) : Prop:=∀ d,Typ P d t → ∃ x,d = enc x ∧ Wf x
theorem Dec.int (hu : P.underlying t = some (.int k)) : Dec P t (D.int k) (fun n=>(Lit.int k n).wf = true):=by
 intro d h
 cases d with
 | int k' n =>
  obtain ⟨h1,h2⟩:=h
  rw [hu] at h1
  injection h1 with h1
  injection h1 with h1
  subst h1
  exact ⟨n,rfl,h2⟩
 | bool b=>rw [show P.underlying t = some .bool from h] at hu; cases hu
 | str s=>rw [show P.underlying t = some .string from h.1] at hu; cases hu
 | row e s xs=>rw [h.1] at hu; cases hu
 | agg xs=>obtain ⟨ts,h1,_⟩:=h; simp [yI,hu] at h1
theorem Dec.bool (hu : P.underlying t = some .bool) : Dec P t D.bool (fun _=>True):=by
 intro d h
 cases d with
 | bool b=>exact ⟨b,rfl,trivial⟩
 | int k' n=>rw [h.1] at hu; cases hu
 | str s=>rw [show P.underlying t = some .string from h.1] at hu; cases hu
 | row e s xs=>rw [h.1] at hu; cases hu
 | agg xs=>obtain ⟨ts,h1,_⟩:=h; simp [yI,hu] at h1
theorem Dec.str (hu : P.underlying t = some .string) : Dec P t D.str (fun s=>s.size ≤ maxLen):=by
 intro d h
 cases d with
 | str s=>exact ⟨s,rfl,h.2⟩
 | bool b=>rw [show P.underlying t = some .bool from h] at hu; cases hu
 | int k' n=>rw [h.1] at hu; cases hu
 | row e s xs=>rw [h.1] at hu; cases hu
 | agg xs=>obtain ⟨ts,h1,_⟩:=h; simp [yI,hu] at h1
theorem Dec.list {Wf : α → Prop} (h : Dec P e enc Wf) : ∀ {xs : List D},vo P xs e → ∃ l : List α,xs = l.map enc ∧ ∀ x ∈ l,Wf x
 | [],_=>⟨[],rfl,by simp⟩
 | d :: xs,⟨h1,h2⟩=>by
  obtain ⟨x,rfl,hx⟩:=h d h1
  obtain ⟨l,rfl,hl⟩:=Dec.list h h2
  exact ⟨x :: l,rfl,fun y hy=>(List.mem_cons.1 hy).elim (fun e=>e ▸ hx) (hl y)⟩
theorem Dec.slice {Wf : α → Prop} (hu : P.underlying t = some (.slice e)) (hc : P.cellsOf e = size) (h : Dec P e enc Wf) : Dec P t (fun (l : List α)=>D.row e size (l.map enc)) (fun l=>∀ x ∈ l,Wf x):=by
 intro d hd
 cases d with
 | row e' s xs =>
  obtain ⟨h1,h2,h3⟩:=hd
  rw [hu] at h1
  injection h1 with h1
  injection h1 with h1
  subst h1
  obtain ⟨l,rfl,hl⟩:=h.list h3
  exact ⟨l,by rw [h2,hc],hl⟩
 | bool b=>rw [show P.underlying t = some .bool from hd] at hu; cases hu
 | int k' n=>rw [hd.1] at hu; cases hu
 | str s=>rw [show P.underlying t = some .string from hd.1] at hu; cases hu
 | agg xs=>obtain ⟨ts,h1,_⟩:=hd; simp [yI,hu] at h1
end
noncomputable section
variable {P : Program} {w : World} {T : Nat → Prop} {t e : TypeId} {size : Nat} {k : IntKind} {α : Type} {H : Type} {en : TypeId × Value → H} {base : Nat} {spare : Nat → Bool} {held : Bool}
def mi : DataW H → List Value
 | .lit (.int k n)=>[.int k n]
 | .lit (.bool b)=>[.bool b]
 | .lit (.string s)=>[.string ⟨s.toArray⟩]
 | .agg ds=>dcellsL ds
 | _=>[]
where dcellsL : List (DataW H) → List Value
 | []=>[]
 | d :: r=>mi d ++ dcellsL r
theorem oB {γ : Type} (f : γ → DataW H) : ∀ {xs : List γ},mi.dcellsL (xs.map f) = (xs.map fun x=>mi (f x)).flatten
 | []=>rfl
 | x :: xs=>by simp only [List.map_cons,mi.dcellsL,List.flatten_cons,oB f]
def okF (P : Program) (ts : List TypeId) (t : TypeId) : Bool:=match P.underlying t with
 | some (.int _) | some .bool | some .string=>Nat.beq (P.cellsOf t) 1
 | some (.array n e)=>Nat.beq (P.cellsOf t) (n * P.cellsOf e) && ts.contains e
 | some (.struct fs)=>(match nu P fs.toList 0 with
  | some n=>Nat.beq n (P.cellsOf t)
  | none=>false) && fs.toList.all (fun f=>ts.contains f.type)
 | _=>false
theorem xd {ts : List TypeId} (hts : ts.all (okF P ts) = true) : ∀ {fuel : Nat} {t : TypeId} {cs : List Value} {x : DataW H × List MemPlace},t ∈ ts → DataW.trod en P w base spare held fuel t cs = some x → cs = mi x.1 ∧ cs.length = P.cellsOf t:=by
 intro fuel
 induction fuel with
 | zero=>intro t cs x _ h; simp [DataW.trod] at h
 | succ fuel ih =>
  intro t cs x ht h
  have hok:=List.all_eq_true.1 hts t ht
  unfold okF at hok
  split at hok
  ·rename_i k hu
   obtain ⟨n,rfl,rfl,hw⟩:=DataW.trod_int hu h
   exact ⟨rfl,(Nat.eq_of_beq_eq_true hok).symm⟩
  ·rename_i hu
   obtain ⟨b,rfl,rfl⟩:=DataW.trod_bool hu h
   exact ⟨rfl,(Nat.eq_of_beq_eq_true hok).symm⟩
  ·rename_i hu
   obtain ⟨s,rfl,rfl,hs⟩:=DataW.trod_string hu h
   exact ⟨by simp [mi],(Nat.eq_of_beq_eq_true hok).symm⟩
  ·rename_i n e hu
   simp only [Bool.and_eq_true] at hok
   obtain ⟨h1,h2⟩:=hok
   have he : e ∈ ts:=by simpa using h2
   have h1':=Nat.eq_of_beq_eq_true h1
   obtain ⟨xs,m,hn,rfl,hlen,hxl,hel⟩:=DataW.trod_array hu h
   obtain rfl : fuel = m:=by omega
   refine ⟨?_,hlen⟩
   have key : ∀ j,j ≤ n → cs.take (j * P.cellsOf e) = ((xs.take j).map fun y=>mi y.1).flatten:=by
    intro j
    induction j with
    | zero=>intro _; simp
    | succ j ihj =>
     intro hj
     have hi:=hel j (by omega)
     have hlt : j < xs.length:=by omega
     rw [List.getElem?_eq_getElem hlt] at hi
     obtain ⟨g1,g2⟩:=ih he hi
     rw [← List.take_append_getElem hlt,List.map_append,List.flatten_append,← ihj (by omega)]
     simp only [List.map_cons,List.map_nil,List.flatten_cons,List.flatten_nil,List.append_nil]
     rw [← g1,Nat.add_mul,Nat.one_mul,List.take_add]
   have:=key n (Nat.le_refl _)
   rw [List.take_of_length_le (by omega),List.take_of_length_le (by omega)] at this
   rw [this]
   show _ = mi.dcellsL (xs.map (·.1))
   rw [oB]
  ·rename_i fs hu
   simp only [Bool.and_eq_true] at hok
   obtain ⟨h1,h2⟩:=hok
   split at h1
   ·rename_i tot hcg
    obtain rfl:=Nat.eq_of_beq_eq_true h1
    obtain ⟨xs,n,hn,rfl,hlen,hxl,hf⟩:=DataW.trod_struct hu h
    obtain rfl : fuel = n:=by omega
    refine ⟨?_,hlen⟩
    have key : ∀ (gs : List Field) (o i : Nat),(∀ j f,gs[j]? = some f → fs[i + j]? = some f ∧ f.type ∈ ts) → i + gs.length = xs.length → nu P gs o = some (P.cellsOf t) → cs.drop o = ((xs.drop i).map fun y=>mi y.1).flatten:=by
     intro gs
     induction gs with
     | nil =>
      intro o i _ hlen2 hc
      simp only [nu,Option.some.injEq] at hc
      simp only [List.length_nil,Nat.add_zero] at hlen2
      rw [hc,← hlen,List.drop_length,hlen2,List.drop_length]
      rfl
     | cons f gs ihg =>
      intro o i hall hlen2 hc
      simp only [nu] at hc
      split at hc
      ·rename_i ho
       have ho':=Nat.eq_of_beq_eq_true ho
       obtain ⟨hf0,hft⟩:=hall 0 f rfl
       have hi:=hf i f (by simpa using hf0)
       have hlt : i < xs.length:=by simp only [List.length_cons] at hlen2; omega
       rw [List.getElem?_eq_getElem hlt,ho'] at hi
       obtain ⟨g1,g2⟩:=ih hft hi
       have hr:=ihg (o + P.cellsOf f.type) (i + 1) (fun j f' hj=>by
        have:=hall (j + 1) f' (by simpa using hj)
        rwa [show i + (j + 1) = i + 1 + j by omega] at this) (by simp only [List.length_cons] at hlen2; omega) hc
       rw [List.drop_eq_getElem_cons hlt,List.map_cons,List.flatten_cons,← g1,← hr,← List.drop_drop,List.take_append_drop]
      ·cases hc
    have:=key fs.toList 0 0 (fun j f hj=>⟨by simpa using hj,by
     have:=List.all_eq_true.1 h2 f (List.mem_of_getElem? hj)
     simpa using this⟩) (by simp [hxl]) hcg
    simp only [List.drop_zero] at this
    rw [this]
    show _ = mi.dcellsL (xs.map (·.1))
    rw [oB]
   ·cases h1
  ·cases hok
theorem wz {f : α → List Value} (hs : ∀ x,(f x).length = size) : ∀ {l : List α} {i j : Nat} {x : α} {u : Value},l[i]? = some x → (f x)[j]? = some u → ((l.map f).flatten)[i * size + j]? = some u
 | [],i,j,x,u,h,_=>by simp at h
 | y :: ys,0,j,x,u,h,hu=>by
  have : y = x:=by simpa using h
  subst this
  have hlt : j < (f y).length:=by
   rcases Nat.lt_or_ge j (f y).length with h | h
   ·exact h
   ·rw [List.getElem?_eq_none h] at hu; cases hu
  simp only [List.map_cons,List.flatten_cons,Nat.zero_mul,Nat.zero_add]
  rw [List.getElem?_append_left hlt]
  exact hu
 | y :: ys,i + 1,j,x,u,h,hu=>by
  have ih:=wz hs (l:=ys) (i:=i) (j:=j) (by simpa using h) hu
  simp only [List.map_cons,List.flatten_cons]
  rw [List.getElem?_append_right (by rw [hs,Nat.add_mul]; omega),hs]
  rw [show (i + 1) * size + j - size = i * size + j by rw [Nat.add_mul]; omega]
  exact ih
theorem Az {g : Nat} {f : α → List Value} {l : List α} {cs : Array Value} (hs : ∀ x,(f x).length = size) (hc : cs.toList = (l.map f).flatten) (hv : ∀ j,w.cell? ⟨g,j,none⟩ = cs[j]?) (h0 : Nat.ble 1 ((l.map f).flatten).length = true) : Tab g size f l w:=
 have h1 : 0 < cs.size:=by
  have h1:=Nat.le_of_ble_eq_true h0
  rw [← hc,Array.length_toList] at h1
  omega
 ⟨World.block_lt_of_cell? w ⟨g,0,none⟩ ((hv 0).trans (Array.getElem?_eq_getElem h1)),fun i x hx j v hj=>by
  rw [hv]
  have:=wz hs hx hj
  rw [← hc] at this
  simpa using this⟩
theorem Bz {g : Nat} {cs : Array Value} {l : List Value} (hc : cs.toList = l) (hv : ∀ j,w.cell? ⟨g,j,none⟩ = cs[j]?) : wC g l w:=fun j u hj=>by
 rw [hv,← hj,← hc]
 simp
theorem pG {ts : List TypeId} (hts : ts.all (okF P ts) = true) {n : String} {d : DataW Unit} {r : List (String × DataW Unit)} {ps : List MemPlace} {g t : Nat} (hg : P.globalNamed n = some g) (ht : (P.globals[g]?).map (·.type) = some t) (hm : t ∈ ts)
  (h : DataW.LaidVars P w ((n,d) :: r) ps) : ∃ cs : Array Value,cs.toList = mi d ∧ (∀ j,w.cell? ⟨g,j,none⟩ = cs[j]?) ∧ ∃ qs,DataW.LaidVars P w r qs:=by
 obtain ⟨g',t',cs,fuel,p,q,h1,h2,h3,h4,h5,_⟩:=h
 obtain rfl:=o9 (hg.symm.trans h1)
 obtain rfl:=o9 (ht.symm.trans h2)
 exact ⟨cs,(xd hts hm h4).1,fun j=>World.var?_cell hg h3 j,q,h5⟩
end

end Go.Proofs.YtgcmopfhafoabaaGreatDoor.X
