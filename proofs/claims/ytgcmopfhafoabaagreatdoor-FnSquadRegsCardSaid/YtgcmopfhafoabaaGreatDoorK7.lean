/- Printed by a program of mine: that the program's functions compute it. -/
import Derived.Test.YtgcmopfhafoabaaGreatDoorK6
set_option linter.unusedVariables false
set_option linter.unusedSimpArgs false
set_option maxRecDepth 100000
set_option maxHeartbeats 4000000
namespace Go.Proofs.YtgcmopfhafoabaaGreatDoor.N
open Go.Proofs.YtgcmopfhafoabaaGreatDoor.X
open T Tryz
noncomputable section
def sr (w:World) (r:Bool):Env->World->Prop:=Fin Tryz.prog Tryz.f28 No w (λs:Unit=>.bool r) (λs=>[]) .ret
theorem nB {a0:List Int} {v_0:Hd} {w:World} {r:Bool} (h:fx a0=some r) (q_0:RO w v_0 3 1 (D.int .i64) a0):CL 28 #[sv v_0] w (RU w (.bool r)):=by
 unfold fx at h
 refine au func28 z z ?_
 have s:=Sep.start w
 refine .g (.qn z (.seq (.g (.q z (.s (a8 (s.keep q_0) u23 z z) z (.qn z (.block (bv h λy1 hy1 h=>?_))))))))
 refine .via (.iter (λs1 E' W'=>aD E' [(0,(sv v_0)),(5,(sv v_0)),(6,vi (a0.length:Int)),(7,vi s1)]/\Sep No w W' []) (λy2 x E' W'=>(match y2 with | .inl o1=>x=.ret/\sr w o1 E' W' | .inr o2=>x=.exit 0/\aD E' [(0,(sv v_0))]/\Sep No w W' [])) hy1 ⟨sb rfl,s.to [] rfl⟩ ?_) ?_
 ·intro s1 y3 E W h hI
  obtain ⟨hE,s⟩:=hI
  refine CW.sub hE ?_
  unfold dZ at h
  refine .g (.qn z (.seq ?_))
  refine .cs z h ?_ ?_ <;> intro h
  ·refine .skip (.seq (.block (.g (bv h λx1 hx1 h=>.s (ixv (s.keep q_0) hx1 u23 T.t3 z z z) z (.s (lde (RV.flat (s.keep q_0) hx1 z) T.t3 z z z z z) z (.qn z (.g (.q z (.q z (.q z (.cu 3 16 ((decide (x1<1))||(decide (x1>4))) s ?_ ?_)))))))))))
   ·refine .both (decide (x1<1)) (λb=>?_) (λb=>?_)
    ·exact .xx b z (.xx b z (.s (pkt b z z z) z (.nil (ck 3 s z (ff b)))))
    have hg1:=b
    exact .g hg1 (.q z (.g hg1 (.q z (.s (pkf hg1 z z z) z (.nil (ck 3 s z (fg hg1)))))))
   intro W s
   refine .nil ?_
   refine .cs z h ?_ ?_ <;> intro h
   ·refine .g (.qn z (.ret ?_))
    cases h
    exact ⟨by simp,z,ac (vs:=[_]) () (rt z rn) z (s.to [])⟩
   refine .skip (.region (.q z (.q z (.nil ?_))))
   cases h
   exact ⟨z,sb z,s.to []⟩
  refine .exit ?_
  cases h
  exact ⟨by simp,z,sb z,s.to []⟩
 intro x E W hJ
 rcases y1 with o3 | o4
 ·obtain ⟨rfl,hF⟩:=hJ
  refine ⟨_,λ_ _ h=>h,?_⟩
  cases h
  exact hF
 obtain ⟨rfl,hE,s⟩:=hJ
 refine ⟨_,hE.sub,?_⟩
 cases h
 exact .g (.q z (.s (a8 (s.keep q_0) u23 z z) z (.q z (.qn z (.ret (ac () (rt z rn) z (s.to [])))))))
theorem jA {a0:Int} {w:World} {r:Int} (h:bW a0=some r):CL 114 #[vi a0] w (RU w (.int .u8 r)):=by
 unfold bW at h
 refine au func114 z z ?_
 have s:=Sep.start w
 refine .g (.qn z (.seq (.block (.g (.q z (.q z (.q z (.cu 3 9 ((decide (a0>=1))&&(decide (a0<=11))) s ?_ ?_))))))))
 ·refine .both (decide (a0>=1)) (λb=>?_) (λb=>?_)
  ·have hg1:=b
   exact .g hg1 (.q z (.g hg1 (.q z (.s (pkt hg1 z z z) z (.nil (ck 3 s z (bi hg1)))))))
  exact .xx b z (.xx b z (.s (pkf b z z z) z (.nil (ck 3 s z (bj b)))))
 intro W s
 refine .q z (.nil ?_)
 refine .cs z h ?_ ?_ <;> intro h
 ·cases h
  exact .g (.qn z (.ret (ac () (rt z rn) z (s.to []))))
 refine .g (.q z (.q z (.q z (.cu 3 16 ((decide (a0>=12))&&(decide (a0<=15))) s ?_ ?_))))
 ·refine .both (decide (a0>=12)) (λb=>?_) (λb=>?_)
  ·have hg2:=b
   exact .g hg2 (.q z (.g hg2 (.q z (.s (pkt hg2 z z z) z (.nil (ck 3 s z (bi hg2)))))))
  exact .xx b z (.xx b z (.s (pkf b z z z) z (.nil (ck 3 s z (bj b)))))
 intro W s
 refine .q z (.nil ?_)
 refine .cs z h ?_ ?_ <;> intro h
 ·cases h
  exact .g (.qn z (.ret (ac () (rt z rn) z (s.to []))))
 refine .g (.q z (.q z (.q z (.nil ?_))))
 refine .cs z h ?_ ?_ <;> intro h
 ·cases h
  exact .g (.qn z (.ret (ac () (rt z rn) z (s.to []))))
 refine .g (.q z (.q z (.q z (.cu 3 26 ((a0==17)||(a0==18)) s ?_ ?_))))
 ·refine .both (a0==17) (λb=>?_) (λb=>?_)
  ·exact .xx b z (.xx b z (.s (pkt b z z z) z (.nil (ck 3 s z (ff b)))))
  have hg3:=b
  exact .g hg3 (.q z (.g hg3 (.q z (.s (pkf hg3 z z z) z (.nil (ck 3 s z (fg hg3)))))))
 intro W s
 refine .q z (.nil ?_)
 refine .cs z h ?_ ?_ <;> intro h
 ·cases h
  exact .g (.qn z (.ret (ac () (rt z rn) z (s.to []))))
 refine .g (.q z (.q z (.q z (.nil ?_))))
 refine .cs z h ?_ ?_ <;> intro h
 ·cases h
  exact .g (.qn z (.ret (ac () (rt z rn) z (s.to []))))
 refine .g (.q z (.q z (.q z (.nil ?_))))
 refine .cs z h ?_ ?_ <;> intro h
 ·cases h
  exact .g (.qn z (.ret (ac () (rt z rn) z (s.to []))))
 refine .g (.q z (.q z (.q z (.nil ?_))))
 refine .cs z h ?_ ?_ <;> intro h
 ·cases h
  exact .g (.qn z (.ret (ac () (rt z rn) z (s.to []))))
 cases h
 exact .skip (.g (.qn z (.ret (ac () (rt z rn) z (s.to [])))))
theorem jb {a0:Int} {w:World} {r:Bool} (h:cX a0=some r):CL 158 #[vi a0] w (RU w (.bool r)):=by
 unfold cX at h
 refine au func158 z z ?_
 have s:=Sep.start w
 refine .g (.qn z (.g (.q z (.q z (.q z (.cu 3 8 ((decide (a0>=0))&&(decide (a0<32))) s ?_ ?_))))))
 ·refine .both (decide (a0>=0)) (λb=>?_) (λb=>?_)
  ·have hg1:=b
   exact .g hg1 (.q z (.g hg1 (.q z (.s (pkt hg1 z z z) z (.nil (ck 3 s z (bi hg1)))))))
  exact .xx b z (.xx b z (.s (pkf b z z z) z (.nil (ck 3 s z (bj b)))))
 intro W s
 cases h
 exact .qn z (.ret (ac () (rt z rn) z (s.to [])))
theorem rD {a0:Instr} {w:World} {r:Bool} (h:bA a0=some r):CL 110 #[.agg #[vi a0.Op,vi a0.Rd,vi a0.Rs,vi a0.Rt,vi a0.Imm]] w (RU w (.bool r)):=by
 unfold bA at h
 refine au func110 z z ?_
 have s:=Sep.start w
 refine .g (.c (.box s z z ?_))
 intro g1 W s
 refine .qn z (.seq (.rk 12 s [0] T.mix ?_))
 intro W s
 have t:=s.to [0]
 refine .ts' 0 z (λW t=>fa f105_1 z z z) t z (.ts' 1 z (λW t=>ld T.t3 t z z z z z) t z (.ts' 3 z (λW t=>fa f105_2 z z z) t z (.ts' 4 z (λW t=>ld T.t3 t z z z z z) t z (.ts' 6 z (λW t=>fa f105_3 z z z) t z (.ts' 7 z (λW t=>ld T.t3 t z z z z z) t z (bv h λy1 hy1 h=>.by1 2 z (.cO s func158 (jb hy1) z z ?_)))))))
 intro W s
 refine s.an [0] λt=>bv h λy2 hy2 h=>.by1 5 z (.cO s func158 (jb hy2) z z ?_)
 intro W s
 refine s.an [0] λt=>bv h λy3 hy3 h=>.by1 8 z (.cO s func158 (jb hy3) z z ?_)
 intro W s
 refine s.an [0] λt=>.tp' 9 z z t (.tp' 10 z z t (.tp' 11 z z t (.done (.g (.s (fa f105_4 z z z) z (.s (ld T.t3 s z z z z z) z (.q z (.q z (.cu 4 23 ((decide (a0.Imm>=(-2048)))&&(decide (a0.Imm<=2047))) s ?_ ?_)))))))))
 ·refine .both (decide (a0.Imm>=(-2048))) (λb=>?_) (λb=>?_)
  ·have hg1:=b
   exact .g hg1 (.s (fa f105_4 z z z) z (.g hg1 (.s (ld T.t3 s z z z z z) z (.g hg1 (.q z (.s (pkt hg1 z z z) z (.nil (ck 4 s z (bi hg1)))))))))
  exact .xx b z (.xx b z (.xx b z (.s (pkf b z z z) z (.nil (ck 4 s z (bj b))))))
 intro W s
 refine .qn z (.seq (.g (.s (fa f105_0 z z z) z (.s (ld T.t3 s z z z z z) z (bv h λy4 hy4 h=>.c (.cO s func114 (jA hy4) z z ?_))))))
 intro W s
 refine .nil (.block (.g (.q z (.q z (.nil ?_)))))
 refine .cs z h ?_ ?_ <;> intro h
 ·refine .g (.q z (.q z (.cu 2 32 (y1&&y2) s ?_ ?_)))
  ·refine .both (y1) (λb=>?_) (λb=>?_)
   ·have hg2:=b
    exact .g hg2 (.q z (.s (pkt hg2 z z z) z (.nil (ck 2 s z (bi hg2)))))
   exact .xx b z (.s (pkf b z z z) z (.nil (ck 2 s z (bj b))))
  intro W s
  refine .q z (.cu 2 35 ((y1&&y2)&&y3) s ?_ ?_)
  ·refine .both (y1&&y2) (λb=>?_) (λb=>?_)
   ·have hg3:=b
    exact .g hg3 (.q z (.s (pkt hg3 z z z) z (.nil (ck 2 s z (bi hg3)))))
   exact .xx b z (.s (pkf b z z z) z (.nil (ck 2 s z (bj b))))
  intro W s
  refine .q z (.cu 4 40 (((y1&&y2)&&y3)&&(a0.Imm==0)) s ?_ ?_)
  ·refine .both ((y1&&y2)&&y3) (λb=>?_) (λb=>?_)
   ·have hg4:=b
    exact .g hg4 (.s (fa f105_4 z z z) z (.g hg4 (.s (ld T.t3 s z z z z z) z (.g hg4 (.q z (.s (pkt hg4 z z z) z (.nil (ck 4 s z (bi hg4)))))))))
   exact .xx b z (.xx b z (.xx b z (.s (pkf b z z z) z (.nil (ck 4 s z (bj b))))))
  intro W s
  cases h
  exact .qn z (.ret (ac () (rt z rn) z (s.to [])))
 refine .g (.q z (.q z (.nil ?_)))
 refine .cs z h ?_ ?_ <;> intro h
 ·refine .g (.q z (.q z (.cu 2 46 (y1&&y2) s ?_ ?_)))
  ·refine .both (y1) (λb=>?_) (λb=>?_)
   ·have hg5:=b
    exact .g hg5 (.q z (.s (pkt hg5 z z z) z (.nil (ck 2 s z (bi hg5)))))
   exact .xx b z (.s (pkf b z z z) z (.nil (ck 2 s z (bj b))))
  intro W s
  refine .q z (.cu 4 51 ((y1&&y2)&&(a0.Rt==0)) s ?_ ?_)
  ·refine .both (y1&&y2) (λb=>?_) (λb=>?_)
   ·have hg6:=b
    exact .g hg6 (.s (fa f105_3 z z z) z (.g hg6 (.s (ld T.t3 s z z z z z) z (.g hg6 (.q z (.s (pkt hg6 z z z) z (.nil (ck 4 s z (bi hg6)))))))))
   exact .xx b z (.xx b z (.xx b z (.s (pkf b z z z) z (.nil (ck 4 s z (bj b))))))
  intro W s
  refine .q z (.cu 2 54 (((y1&&y2)&&(a0.Rt==0))&&((decide (a0.Imm>=(-2048)))&&(decide (a0.Imm<=2047)))) s ?_ ?_)
  ·refine .both ((y1&&y2)&&(a0.Rt==0)) (λb=>?_) (λb=>?_)
   ·have hg7:=b
    exact .g hg7 (.q z (.s (pkt hg7 z z z) z (.nil (ck 2 s z (bi hg7)))))
   exact .xx b z (.s (pkf b z z z) z (.nil (ck 2 s z (bj b))))
  intro W s
  cases h
  exact .qn z (.ret (ac () (rt z rn) z (s.to [])))
 refine .g (.q z (.q z (.nil ?_)))
 refine .cs z h ?_ ?_ <;> intro h
 ·refine .g (.s (fa f105_1 z z z) z (.s (ld T.t3 s z z z z z) z (.q z (.q z (.cu 2 62 ((a0.Rd==0)&&y2) s ?_ ?_)))))
  ·refine .both (a0.Rd==0) (λb=>?_) (λb=>?_)
   ·have hg8:=b
    exact .g hg8 (.q z (.s (pkt hg8 z z z) z (.nil (ck 2 s z (bi hg8)))))
   exact .xx b z (.s (pkf b z z z) z (.nil (ck 2 s z (bj b))))
  intro W s
  refine .q z (.cu 2 65 (((a0.Rd==0)&&y2)&&y3) s ?_ ?_)
  ·refine .both ((a0.Rd==0)&&y2) (λb=>?_) (λb=>?_)
   ·have hg9:=b
    exact .g hg9 (.q z (.s (pkt hg9 z z z) z (.nil (ck 2 s z (bi hg9)))))
   exact .xx b z (.s (pkf b z z z) z (.nil (ck 2 s z (bj b))))
  intro W s
  refine .q z (.cu 2 68 ((((a0.Rd==0)&&y2)&&y3)&&((decide (a0.Imm>=(-2048)))&&(decide (a0.Imm<=2047)))) s ?_ ?_)
  ·refine .both (((a0.Rd==0)&&y2)&&y3) (λb=>?_) (λb=>?_)
   ·have hg10:=b
    exact .g hg10 (.q z (.s (pkt hg10 z z z) z (.nil (ck 2 s z (bi hg10)))))
   exact .xx b z (.s (pkf b z z z) z (.nil (ck 2 s z (bj b))))
  intro W s
  cases h
  exact .qn z (.ret (ac () (rt z rn) z (s.to [])))
 refine .g (.q z (.q z (.nil ?_)))
 refine .cs z h ?_ ?_ <;> intro h
 ·refine .g (.s (fa f105_1 z z z) z (.s (ld T.t3 s z z z z z) z (.q z (.q z (.cu 2 76 ((a0.Rd==0)&&y2) s ?_ ?_)))))
  ·refine .both (a0.Rd==0) (λb=>?_) (λb=>?_)
   ·have hg11:=b
    exact .g hg11 (.q z (.s (pkt hg11 z z z) z (.nil (ck 2 s z (bi hg11)))))
   exact .xx b z (.s (pkf b z z z) z (.nil (ck 2 s z (bj b))))
  intro W s
  refine .q z (.cu 2 79 (((a0.Rd==0)&&y2)&&y3) s ?_ ?_)
  ·refine .both ((a0.Rd==0)&&y2) (λb=>?_) (λb=>?_)
   ·have hg12:=b
    exact .g hg12 (.q z (.s (pkt hg12 z z z) z (.nil (ck 2 s z (bi hg12)))))
   exact .xx b z (.s (pkf b z z z) z (.nil (ck 2 s z (bj b))))
  intro W s
  refine .q z (.cu 4 84 ((((a0.Rd==0)&&y2)&&y3)&&(decide (a0.Imm>=(-4096)))) s ?_ ?_)
  ·refine .both (((a0.Rd==0)&&y2)&&y3) (λb=>?_) (λb=>?_)
   ·have hg13:=b
    exact .g hg13 (.s (fa f105_4 z z z) z (.g hg13 (.s (ld T.t3 s z z z z z) z (.g hg13 (.q z (.s (pkt hg13 z z z) z (.nil (ck 4 s z (bi hg13)))))))))
   exact .xx b z (.xx b z (.xx b z (.s (pkf b z z z) z (.nil (ck 4 s z (bj b))))))
  intro W s
  refine .q z (.cu 4 89 (((((a0.Rd==0)&&y2)&&y3)&&(decide (a0.Imm>=(-4096))))&&(decide (a0.Imm<=4094))) s ?_ ?_)
  ·refine .both ((((a0.Rd==0)&&y2)&&y3)&&(decide (a0.Imm>=(-4096)))) (λb=>?_) (λb=>?_)
   ·have hg14:=b
    exact .g hg14 (.s (fa f105_4 z z z) z (.g hg14 (.s (ld T.t3 s z z z z z) z (.g hg14 (.q z (.s (pkt hg14 z z z) z (.nil (ck 4 s z (bi hg14)))))))))
   exact .xx b z (.xx b z (.xx b z (.s (pkf b z z z) z (.nil (ck 4 s z (bj b))))))
  intro W s
  refine .q z (.cu 5 95 ((((((a0.Rd==0)&&y2)&&y3)&&(decide (a0.Imm>=(-4096))))&&(decide (a0.Imm<=4094)))&&((Int.tmod a0.Imm 2)==0)) s ?_ ?_)
  ·refine .both (((((a0.Rd==0)&&y2)&&y3)&&(decide (a0.Imm>=(-4096))))&&(decide (a0.Imm<=4094))) (λb=>?_) (λb=>?_)
   ·have hg15:=b
    exact .g hg15 (.s (fa f105_4 z z z) z (.g hg15 (.s (ld T.t3 s z z z z z) z (.g hg15 (.q z (.g hg15 (.q z (.s (pkt hg15 z z z) z (.nil (ck 5 s z (bi hg15)))))))))))
   exact .xx b z (.xx b z (.xx b z (.xx b z (.s (pkf b z z z) z (.nil (ck 5 s z (bj b)))))))
  intro W s
  cases h
  exact .qn z (.ret (ac () (rt z rn) z (s.to [])))
 refine .g (.q z (.q z (.nil ?_)))
 refine .cs z h ?_ ?_ <;> intro h
 ·refine .g (.q z (.q z (.cu 4 103 (y1&&(a0.Rs==0)) s ?_ ?_)))
  ·refine .both (y1) (λb=>?_) (λb=>?_)
   ·have hg16:=b
    exact .g hg16 (.s (fa f105_2 z z z) z (.g hg16 (.s (ld T.t3 s z z z z z) z (.g hg16 (.q z (.s (pkt hg16 z z z) z (.nil (ck 4 s z (bi hg16)))))))))
   exact .xx b z (.xx b z (.xx b z (.s (pkf b z z z) z (.nil (ck 4 s z (bj b))))))
  intro W s
  refine .q z (.cu 4 108 ((y1&&(a0.Rs==0))&&(a0.Rt==0)) s ?_ ?_)
  ·refine .both (y1&&(a0.Rs==0)) (λb=>?_) (λb=>?_)
   ·have hg17:=b
    exact .g hg17 (.s (fa f105_3 z z z) z (.g hg17 (.s (ld T.t3 s z z z z z) z (.g hg17 (.q z (.s (pkt hg17 z z z) z (.nil (ck 4 s z (bi hg17)))))))))
   exact .xx b z (.xx b z (.xx b z (.s (pkf b z z z) z (.nil (ck 4 s z (bj b))))))
  intro W s
  refine .q z (.cu 4 113 (((y1&&(a0.Rs==0))&&(a0.Rt==0))&&(decide (a0.Imm>=0))) s ?_ ?_)
  ·refine .both ((y1&&(a0.Rs==0))&&(a0.Rt==0)) (λb=>?_) (λb=>?_)
   ·have hg18:=b
    exact .g hg18 (.s (fa f105_4 z z z) z (.g hg18 (.s (ld T.t3 s z z z z z) z (.g hg18 (.q z (.s (pkt hg18 z z z) z (.nil (ck 4 s z (bi hg18)))))))))
   exact .xx b z (.xx b z (.xx b z (.s (pkf b z z z) z (.nil (ck 4 s z (bj b))))))
  intro W s
  refine .q z (.cu 4 118 ((((y1&&(a0.Rs==0))&&(a0.Rt==0))&&(decide (a0.Imm>=0)))&&(decide (a0.Imm<=1048575))) s ?_ ?_)
  ·refine .both (((y1&&(a0.Rs==0))&&(a0.Rt==0))&&(decide (a0.Imm>=0))) (λb=>?_) (λb=>?_)
   ·have hg19:=b
    exact .g hg19 (.s (fa f105_4 z z z) z (.g hg19 (.s (ld T.t3 s z z z z z) z (.g hg19 (.q z (.s (pkt hg19 z z z) z (.nil (ck 4 s z (bi hg19)))))))))
   exact .xx b z (.xx b z (.xx b z (.s (pkf b z z z) z (.nil (ck 4 s z (bj b))))))
  intro W s
  cases h
  exact .qn z (.ret (ac () (rt z rn) z (s.to [])))
 refine .g (.q z (.q z (.nil ?_)))
 refine .cs z h ?_ ?_ <;> intro h
 ·refine .g (.q z (.q z (.cu 4 126 (y1&&(a0.Rs==0)) s ?_ ?_)))
  ·refine .both (y1) (λb=>?_) (λb=>?_)
   ·have hg20:=b
    exact .g hg20 (.s (fa f105_2 z z z) z (.g hg20 (.s (ld T.t3 s z z z z z) z (.g hg20 (.q z (.s (pkt hg20 z z z) z (.nil (ck 4 s z (bi hg20)))))))))
   exact .xx b z (.xx b z (.xx b z (.s (pkf b z z z) z (.nil (ck 4 s z (bj b))))))
  intro W s
  refine .q z (.cu 4 131 ((y1&&(a0.Rs==0))&&(a0.Rt==0)) s ?_ ?_)
  ·refine .both (y1&&(a0.Rs==0)) (λb=>?_) (λb=>?_)
   ·have hg21:=b
    exact .g hg21 (.s (fa f105_3 z z z) z (.g hg21 (.s (ld T.t3 s z z z z z) z (.g hg21 (.q z (.s (pkt hg21 z z z) z (.nil (ck 4 s z (bi hg21)))))))))
   exact .xx b z (.xx b z (.xx b z (.s (pkf b z z z) z (.nil (ck 4 s z (bj b))))))
  intro W s
  refine .q z (.cu 4 136 (((y1&&(a0.Rs==0))&&(a0.Rt==0))&&(decide (a0.Imm>=(-1048576)))) s ?_ ?_)
  ·refine .both ((y1&&(a0.Rs==0))&&(a0.Rt==0)) (λb=>?_) (λb=>?_)
   ·have hg22:=b
    exact .g hg22 (.s (fa f105_4 z z z) z (.g hg22 (.s (ld T.t3 s z z z z z) z (.g hg22 (.q z (.s (pkt hg22 z z z) z (.nil (ck 4 s z (bi hg22)))))))))
   exact .xx b z (.xx b z (.xx b z (.s (pkf b z z z) z (.nil (ck 4 s z (bj b))))))
  intro W s
  refine .q z (.cu 4 141 ((((y1&&(a0.Rs==0))&&(a0.Rt==0))&&(decide (a0.Imm>=(-1048576))))&&(decide (a0.Imm<=1048574))) s ?_ ?_)
  ·refine .both (((y1&&(a0.Rs==0))&&(a0.Rt==0))&&(decide (a0.Imm>=(-1048576)))) (λb=>?_) (λb=>?_)
   ·have hg23:=b
    exact .g hg23 (.s (fa f105_4 z z z) z (.g hg23 (.s (ld T.t3 s z z z z z) z (.g hg23 (.q z (.s (pkt hg23 z z z) z (.nil (ck 4 s z (bi hg23)))))))))
   exact .xx b z (.xx b z (.xx b z (.s (pkf b z z z) z (.nil (ck 4 s z (bj b))))))
  intro W s
  refine .q z (.cu 5 147 (((((y1&&(a0.Rs==0))&&(a0.Rt==0))&&(decide (a0.Imm>=(-1048576))))&&(decide (a0.Imm<=1048574)))&&((Int.tmod a0.Imm 2)==0)) s ?_ ?_)
  ·refine .both ((((y1&&(a0.Rs==0))&&(a0.Rt==0))&&(decide (a0.Imm>=(-1048576))))&&(decide (a0.Imm<=1048574))) (λb=>?_) (λb=>?_)
   ·have hg24:=b
    exact .g hg24 (.s (fa f105_4 z z z) z (.g hg24 (.s (ld T.t3 s z z z z z) z (.g hg24 (.q z (.g hg24 (.q z (.s (pkt hg24 z z z) z (.nil (ck 5 s z (bi hg24)))))))))))
   exact .xx b z (.xx b z (.xx b z (.xx b z (.s (pkf b z z z) z (.nil (ck 5 s z (bj b)))))))
  intro W s
  cases h
  exact .qn z (.ret (ac () (rt z rn) z (s.to [])))
 refine .g (.q z (.q z (.nil ?_)))
 refine .cs z h ?_ ?_ <;> intro h
 ·cases h
  exact .g (.s (ld t105 s z z z z z) z (.s (bs T.s105 z z) z (.s (eqs T.e105 z z z z) z (.qn z (.ret (ac () (rt z rn) z (s.to [])))))))
 obtain rfl:=o9 h
 exact .skip (.g (.qn z (.ret (ac () (rt z rn) z (s.to [])))))
theorem iG {a0:Int} {w:World} {r:Bool} (h:da a0=some r):CL 105 #[vi a0] w (RU w (.bool r)):=by
 unfold da at h
 refine au func105 z z ?_
 have s:=Sep.start w
 refine .g (.qn z (.g (.q z (.q z (.q z (.cu 3 8 ((decide (a0>=(-2147483648)))&&(decide (a0<=2147483647))) s ?_ ?_))))))
 ·refine .both (decide (a0>=(-2147483648))) (λb=>?_) (λb=>?_)
  ·have hg1:=b
   exact .g hg1 (.q z (.g hg1 (.q z (.s (pkt hg1 z z z) z (.nil (ck 3 s z (bi hg1)))))))
  exact .xx b z (.xx b z (.s (pkf b z z z) z (.nil (ck 3 s z (bj b)))))
 intro W s
 cases h
 exact .qn z (.ret (ac () (rt z rn) z (s.to [])))
theorem fb {a0:Int} {w:World} {r:Int} (h:ch a0=some r):CL 111 #[vi a0] w (RU w (.int .i64 r)):=by
 unfold ch at h
 refine au func111 z z ?_
 have s:=Sep.start w
 refine .g (.qn z (.seq (.g (.q z (bv h λy1 hy1 h=>.c (.cO s func105 (iG hy1) z z ?_))))))
 intro W s
 refine .q z (.nil ?_)
 refine .cs z h ?_ ?_ <;> intro h
 ·cases h
  exact .g (.qn z (.ret (ac () (rt z rn) z (s.to []))))
 cases h
 exact .skip (.g (.q z (.s (cv u3 u183 z z) z (.s (cv u183 u3 z z) z (.qn z (.ret (ac () (rt z rn) z (s.to []))))))))
theorem nC {a0:Int} {w:World} {r:Bool} (h:eD a0=some r):CL 159 #[vi a0] w (RU w (.bool r)):=by
 unfold eD at h
 refine au func159 z z ?_
 have s:=Sep.start w
 refine .g (.qn z (.g (.q z (.q z (.q z (.cu 3 8 ((decide (a0>=0))&&(decide (a0<4294967296))) s ?_ ?_))))))
 ·refine .both (decide (a0>=0)) (λb=>?_) (λb=>?_)
  ·have hg1:=b
   exact .g hg1 (.q z (.g hg1 (.q z (.s (pkt hg1 z z z) z (.nil (ck 3 s z (bi hg1)))))))
  exact .xx b z (.xx b z (.s (pkf b z z z) z (.nil (ck 3 s z (bj b)))))
 intro W s
 cases h
 exact .qn z (.ret (ac () (rt z rn) z (s.to [])))
theorem bU {a0:Int} {a1:Int} {a2:Int} {w:World} {r:Int} (h:bL a0 a1 a2=some r):CL 113 #[vi a0,vi a1,vi a2] w (RU w (.int .i64 r)):=by
 unfold bL at h
 refine au func113 z z ?_
 have s:=Sep.start w
 refine .g (.qn z (.seq (.g (.q z (bv h λy1 hy1 h=>.c (.cO s func159 (nC hy1) z z ?_))))))
 intro W s
 refine .q z (.q z (.cu 3 13 ((!y1)||(decide (a1<0))) s ?_ ?_))
 ·refine .both (!y1) (λb=>?_) (λb=>?_)
  ·exact .xx b z (.xx b z (.s (pkt b z z z) z (.nil (ck 3 s z (ff b)))))
  have hg1:=b
  exact .g hg1 (.q z (.g hg1 (.q z (.s (pkf hg1 z z z) z (.nil (ck 3 s z (fg hg1)))))))
 intro W s
 refine .q z (.cu 3 17 (((!y1)||(decide (a1<0)))||(decide (a1>31))) s ?_ ?_)
 ·refine .both ((!y1)||(decide (a1<0))) (λb=>?_) (λb=>?_)
  ·exact .xx b z (.xx b z (.s (pkt b z z z) z (.nil (ck 3 s z (ff b)))))
  have hg2:=b
  exact .g hg2 (.q z (.g hg2 (.q z (.s (pkf hg2 z z z) z (.nil (ck 3 s z (fg hg2)))))))
 intro W s
 refine .q z (.cu 3 21 ((((!y1)||(decide (a1<0)))||(decide (a1>31)))||(decide (a2<1))) s ?_ ?_)
 ·refine .both (((!y1)||(decide (a1<0)))||(decide (a1>31))) (λb=>?_) (λb=>?_)
  ·exact .xx b z (.xx b z (.s (pkt b z z z) z (.nil (ck 3 s z (ff b)))))
  have hg3:=b
  exact .g hg3 (.q z (.g hg3 (.q z (.s (pkf hg3 z z z) z (.nil (ck 3 s z (fg hg3)))))))
 intro W s
 refine .q z (.cu 5 27 (((((!y1)||(decide (a1<0)))||(decide (a1>31)))||(decide (a2<1)))||(decide (a2>(w64 (32-a1))))) s ?_ ?_)
 ·refine .both ((((!y1)||(decide (a1<0)))||(decide (a1>31)))||(decide (a2<1))) (λb=>?_) (λb=>?_)
  ·exact .xx b z (.xx b z (.xx b z (.xx b z (.s (pkt b z z z) z (.nil (ck 5 s z (ff b)))))))
  have hg4:=b
  exact .g hg4 (.q z (.g hg4 (.q z (.g hg4 (.q z (.g hg4 (.q z (.s (pkf hg4 z z z) z (.nil (ck 5 s z (fg hg4)))))))))))
 intro W s
 refine .nil ?_
 refine .cs z h ?_ ?_ <;> intro h
 ·cases h
  exact .g (.qn z (.ret (ac () (rt z rn) z (s.to []))))
 refine .skip (.seq (.rk 8 s [] T.mix ?_))
 intro W s
 have t:=s.to []
 refine .tp' 0 z z t (.tp' 1 z z t (bv h λd1 hd1 h=>.ts' 2 z (λW t=>mm hd1 z z z) t z (.tp' 3 z z t (bv h λd2 hd2 h=>.ts' 4 z (λW t=>mm hd2 z z z) t z (.tp' 5 z z t (.tp' 6 z z t (.tp' 7 z z t (.done (.ret ?_)))))))))
 cases h
 exact ac () (rt z rn) z (s.to [])
theorem bq {a0:Int} {a1:Int} {a2:Int} {a3:Int} {g_3:Nat} {w:World} {r:Int} (h:az a0 a1 a2 a3=some r) (b_3:BR w (Old No w) g_3 3 [vi a3]):CL 112 #[vi a0,vi a1,vi a2,Pt g_3] w (RU w (.int .i64 r)):=by
 unfold az at h
 refine au func112 z z ?_
 have s:=Sep.start w
 refine .g (.qn z (.g (.s (ldb T.t3 (s.keepB b_3) z z z z z) z (.q z (.q z (bv h λy1 hy1 h=>.c (.cO s func113 (bU hy1) z z ?_)))))))
 intro W s
 refine .q z (bv h λd1 hd1 h=>.s (mm hd1 z z z) z (.qn z (.ret ?_)))
 obtain rfl:=o9 h
 exact ac () (rt z rn) z (s.to [])
theorem mV {a0:Instr} {w:World} {r:Int×Bool} (h:co a0=some r) (hG:Gl w):CL 62 #[.agg #[vi a0.Op,vi a0.Rd,vi a0.Rs,vi a0.Rt,vi a0.Imm]] w (RU w (.tuple #[vi r.1,.bool r.2])):=by
 unfold co at h
 refine au func62 z z ?_
 have s:=Sep.start w
 refine .g (.c (.box s z z ?_))
 intro g1 W s
 refine .q z (.qn z (.seq (.g (.s (ld t105 s z z z z z) z (bv h λy1 hy1 h=>.c (.cO s func110 (rD hy1) z z ?_))))))
 intro W s
 refine .q z (.nil ?_)
 refine .cs z h ?_ ?_ <;> intro h
 ·cases h
  exact .g (.q z (.qn z (.ret (ac (vs:=[_,_]) () (rt z (rt z rn)) z (s.to [])))))
 refine .skip (.g (.s (fa f105_0 z z z) z (.s (ld T.t3 s z z z z z) z (.q z (bv h λx1 hx1 h=>.s (ixt hx1 z u147 t146 z z z) z (.s (ldt (hG.at s (λ_ _ h=>h)).2.1 hx1 t146 z z z z z) z (.c (.alloc t146 s ?_))))))))
 intro g2 W s
 refine .c (.st t146 s z z z ?_)
 intro W s
 refine .nil (.g (.s (fa f105_4 z z z) z (.s (ld T.t3 s.p1 z z z z z) z (bv h λy2 hy2 h=>.c (.cO s func111 (fb hy2) z z ?_)))))
 intro W s
 refine .c (.alloc T.t3 s ?_)
 intro g3 W s
 refine .c (.st T.t3 s z z z ?_)
 intro W s
 refine .nil (.g (.s (mf z z) z (.qn z (.g (.s (fa f105_3 z z z) z (.s (ld T.t3 s.p2 z z z z z) z (.q z (.s (fa f105_2 z z z) z (.s (ld T.t3 s.p2 z z z z z) z (.q z (.q z (.s (fa f146_2 z z z) z (.s (ld T.t3 s.p1 z z z z z) z (.q z (.q z (.s (fa f146_1 z z z) z (.s (ld T.t3 s.p1 z z z z z) z (.q z (.qn z (.seq (.g (.s (fa f105_0 z z z) z (.s (ld T.t3 s.p2 z z z z z) z (bv h λy3 hy3 h=>.c (.cO s func114 (jA hy3) z z ?_)))))))))))))))))))))))))
 intro W s
 refine .nil (.block (.g (.q z (.q z (.nil ?_)))))
 refine .cs z h ?_ ?_ <;> intro h
 ·cases h
  exact .g (.s (fa f146_3 z z z) z (.s (ld T.t3 s.p1 z z z z z) z (.q z (.q z (.q z (.s (fa f105_1 z z z) z (.s (ld T.t3 s.p2 z z z z z) z (.q z (.q z (.q z (.qn z (.ret (ac (vs:=[_,_]) () (rt z (rt z rn)) z (s.to []))))))))))))))
 refine .g (.q z (.q z (.nil ?_)))
 refine .cs z h ?_ ?_ <;> intro h
 ·refine .seq (.rk 10 s [0,0,0] T.mix ?_)
  intro W s
  have t:=s.to [0,0,0]
  refine .tp' 0 z z t (.tp' 2 z z t (.ts' 4 z (λW t=>fa f105_1 z z z) t z (.ts' 5 z (λW t=>ld T.t3 t.p2 z z z z z) t z (.tp' 6 z z t (bv h λy4 hy4 h=>.by1 1 z (.callv (vs:=[vi 0,vi 12,vi 20]) (cap:=#[Pt g3]) s ⟨_,func112,z,by kernel_rfl⟩ (bq hy4 s.boxB) z z z ?_))))))
  rintro ⟨⟩ W s
  refine s.an [0,0,0] λt=>?_
  cases h
  exact .tp' 3 z z t (.tp' 7 z z t (.tp' 8 z z t (.tp' 9 z z t (.done (.ret (ac (vs:=[_,_]) () (rt z (rt z rn)) z (s.to [])))))))
 refine .g (.q z (.q z (.nil ?_)))
 refine .cs z h ?_ ?_ <;> intro h
 ·refine .g (.q z (bv h λy5 hy5 h=>.c (.callv (vs:=[vi 5,vi 7,vi 25]) (cap:=#[Pt g3]) s ⟨_,func112,z,by kernel_rfl⟩ (bq hy5 s.boxB) z z z ?_)))
  rintro ⟨⟩ W s
  refine .q z (.q z (.q z (bv h λy6 hy6 h=>.c (.callv (vs:=[vi 0,vi 5,vi 7]) (cap:=#[Pt g3]) s ⟨_,func112,z,by kernel_rfl⟩ (bq hy6 s.boxB) z z z ?_))))
  rintro ⟨⟩ W s
  cases h
  exact .q z (.q z (.qn z (.ret (ac (vs:=[_,_]) () (rt z (rt z rn)) z (s.to [])))))
 refine .g (.q z (.q z (.nil ?_)))
 refine .cs z h ?_ ?_ <;> intro h
 ·refine .g (.q z (bv h λy7 hy7 h=>.c (.callv (vs:=[vi 12,vi 1,vi 31]) (cap:=#[Pt g3]) s ⟨_,func112,z,by kernel_rfl⟩ (bq hy7 s.boxB) z z z ?_)))
  rintro ⟨⟩ W s
  refine .q z (bv h λy8 hy8 h=>.c (.callv (vs:=[vi 5,vi 6,vi 25]) (cap:=#[Pt g3]) s ⟨_,func112,z,by kernel_rfl⟩ (bq hy8 s.boxB) z z z ?_))
  rintro ⟨⟩ W s
  refine .q z (.q z (.q z (.q z (bv h λy9 hy9 h=>.c (.callv (vs:=[vi 1,vi 4,vi 8]) (cap:=#[Pt g3]) s ⟨_,func112,z,by kernel_rfl⟩ (bq hy9 s.boxB) z z z ?_)))))
  rintro ⟨⟩ W s
  refine .q z (.q z (bv h λy10 hy10 h=>.c (.callv (vs:=[vi 11,vi 1,vi 7]) (cap:=#[Pt g3]) s ⟨_,func112,z,by kernel_rfl⟩ (bq hy10 s.boxB) z z z ?_)))
  rintro ⟨⟩ W s
  cases h
  exact .q z (.q z (.qn z (.ret (ac (vs:=[_,_]) () (rt z (rt z rn)) z (s.to [])))))
 refine .g (.q z (.q z (.nil ?_)))
 refine .cs z h ?_ ?_ <;> intro h
 ·refine .seq (.rk 11 s [0,0,0] T.mix ?_)
  intro W s
  have t:=s.to [0,0,0]
  refine .tp' 0 z z t (.ts' 2 z (λW t=>fa f105_1 z z z) t z (.ts' 3 z (λW t=>ld T.t3 t.p2 z z z z z) t z (.tp' 4 z z t (.ts' 6 z (λW t=>fa f146_1 z z z) t z (.ts' 7 z (λW t=>ld T.t3 t.p1 z z z z z) t z (bv h λy11 hy11 h=>.by1 1 z (.callv (vs:=[vi 0,vi 20,vi 12]) (cap:=#[Pt g3]) s ⟨_,func112,z,by kernel_rfl⟩ (bq hy11 s.boxB) z z z ?_)))))))
  rintro ⟨⟩ W s
  refine s.an [0,0,0] λt=>?_
  cases h
  exact .tp' 5 z z t (.tp' 8 z z t (.tp' 9 z z t (.tp' 10 z z t (.done (.ret (ac (vs:=[_,_]) () (rt z (rt z rn)) z (s.to [])))))))
 refine .g (.q z (.q z (.nil ?_)))
 refine .cs z h ?_ ?_ <;> intro h
 ·refine .seq (.rk 20 s [0,0,0] T.mix ?_)
  intro W s
  have t:=s.to [0,0,0]
  refine .tp' 0 z z t (.tp' 2 z z t (.tp' 5 z z t (.tp' 8 z z t (.ts' 11 z (λW t=>fa f105_1 z z z) t z (.ts' 12 z (λW t=>ld T.t3 t.p2 z z z z z) t z (.tp' 13 z z t (.ts' 15 z (λW t=>fa f146_1 z z z) t z (.ts' 16 z (λW t=>ld T.t3 t.p1 z z z z z) t z (bv h λy12 hy12 h=>.by1 1 z (.callv (vs:=[vi 20,vi 1,vi 31]) (cap:=#[Pt g3]) s ⟨_,func112,z,by kernel_rfl⟩ (bq hy12 s.boxB) z z z ?_))))))))))
  rintro ⟨⟩ W s
  refine s.an [0,0,0] λt=>bv h λy13 hy13 h=>.by1 3 z (.callv (vs:=[vi 1,vi 10,vi 21]) (cap:=#[Pt g3]) s ⟨_,func112,z,by kernel_rfl⟩ (bq hy13 s.boxB) z z z ?_)
  rintro ⟨⟩ W s
  refine s.an [0,0,0] λt=>.tp' 4 z z t (bv h λy14 hy14 h=>.by1 6 z (.callv (vs:=[vi 11,vi 1,vi 20]) (cap:=#[Pt g3]) s ⟨_,func112,z,by kernel_rfl⟩ (bq hy14 s.boxB) z z z ?_))
  rintro ⟨⟩ W s
  refine s.an [0,0,0] λt=>.tp' 7 z z t (bv h λy15 hy15 h=>.by1 9 z (.callv (vs:=[vi 12,vi 8,vi 12]) (cap:=#[Pt g3]) s ⟨_,func112,z,by kernel_rfl⟩ (bq hy15 s.boxB) z z z ?_))
  rintro ⟨⟩ W s
  refine s.an [0,0,0] λt=>?_
  cases h
  exact .tp' 10 z z t (.tp' 14 z z t (.tp' 17 z z t (.tp' 18 z z t (.tp' 19 z z t (.done (.ret (ac (vs:=[_,_]) () (rt z (rt z rn)) z (s.to []))))))))
 cases h
 exact .skip (.g (.s (fa f146_1 z z z) z (.s (ld T.t3 s.p1 z z z z z) z (.q z (.qn z (.ret (ac (vs:=[_,_]) () (rt z (rt z rn)) z (s.to []))))))))
theorem c4 {a0:Int} {w:World} {r:Int} (h:bR a0=some r):CL 63 #[vi a0] w (RU w (.int .i64 r)):=by
 unfold bR at h
 refine au func63 z z ?_
 have s:=Sep.start w
 cases h
 exact .g (.qn z (.g (.q z (.s (cv u3 u21 z z) z (.s (cv u21 u3 z z) z (.qn z (.ret (ac () (rt z rn) z (s.to [])))))))))
def vZ (w:World) (r:(List Int)×Bool):Env->World->Prop:=Fin Tryz.prog Tryz.f29 No w (λs:Hd=>.tuple #[sv s,.bool r.2]) (λs=>[ae (sv s) 3 1 (D.int .i64) r.1]) .ret
theorem ux {a0:List Instr} {v_0:Hd} {w:World} {r:(List Int)×Bool} (h:kZ a0=some r) (q_0:RO w v_0 105 5 aJ a0) (hG:Gl w):CL 29 #[sv v_0] w (Ret No w (λs:Hd=>.tuple #[sv s,.bool r.2]) (λs=>[ae (sv s) 3 1 (D.int .i64) r.1])):=by
 unfold kZ at h
 refine au func29 z z ?_
 have s:=Sep.start w
 refine .g (.q z (.qn z (.g (.qn z (.seq (.g (.q z (.s (a8 (s.keep q_0) u66 z z) z (.qn z (.block ?_))))))))))
 have s:=s.nilv 3 1 (D.int .i64)
 refine bv h λy1 hy1 h=>?_
 refine .via (.iter (λs1 E' W'=>∃ (v3:Hd),aD E' [(4,(sv v3)),(9,(sv v_0)),(10,vi (a0.length:Int)),(11,vi s1.2)]/\Sep No w W' [ae (sv v3) 3 1 (D.int .i64) s1.1]) (λy2 x E' W'=>(match y2 with | .inl o1=>x=.ret/\vZ w o1 E' W' | .inr o2=>x=.exit 0/\∃ (v4:Hd),aD E' [(4,(sv v4))]/\Sep No w W' [ae (sv v4) 3 1 (D.int .i64) o2])) hy1 ⟨aA,sb rfl,s.to [0] rfl⟩ ?_) ?_
 ·intro s1 y3 E W h hI
  obtain ⟨v2,hE,s⟩:=hI
  refine CW.sub hE ?_
  unfold fy at h
  refine .g (.qn z (.seq ?_))
  refine .cs z h ?_ ?_ <;> intro h
  ·refine .skip (.seq (.block (.g (bv h λx1 hx1 h=>.s (ixv (s.keep q_0) hx1 u66 t105 z z z) z (.s (lde (RV.flat (s.keep q_0) hx1 z) t105 z z z z z) z (.c (.alloc t105 s ?_)))))))
   intro g1 W s
   refine .c (.st t105 s z z z ?_)
   intro W s
   refine .nil (.g (.s (ld t105 s z z z z z) z (bv h λy4 hy4 h=>.c (.cO s func62 (mV hy4 (hG.at s (λ_ _ h=>h))) z z ?_))))
   intro W s
   refine .q z (.q z (.q z (.q z (.qn z (.seq (.g (.q z (.q z (.nil ?_)))))))))
   refine .cs z h ?_ ?_ <;> intro h
   ·refine .g (.q z (.qn z (.ret ?_)))
    have s:=s.nilv 3 1 (D.int .i64)
    cases h
    exact ⟨by simp,z,ac (vs:=[_,_]) aA (rt z (rt z rn)) z (s.to [0])⟩
   refine .skip (.region (.q z (.q z (bv h λy5 hy5 h=>.c (.cO s func63 (c4 hy5) z z ?_)))))
   intro W s
   refine .c (.liv [y5] (D.int .i64) u23 T.t3 s z z z z ?_ z (λ_=>z))
   intro v5 W s
   refine bv h λr1 hr1 h=>?_
   have hT0:=s.p2
   refine .c (.av hr1 hT0 hT0.p1.lv (λ_=>z) u23 T.t3 z z z ?_)
   intro v6 W s
   refine .qn z (.region (.q z (.q z (.nil ?_))))
   cases h
   exact ⟨z,v6,sb z,s.to [0]⟩
  refine .exit ?_
  cases h
  exact ⟨by simp,z,v2,sb z,s.to [0]⟩
 intro x E W hJ
 rcases y1 with o3 | o4
 ·obtain ⟨rfl,hF⟩:=hJ
  refine ⟨_,λ_ _ h=>h,?_⟩
  cases h
  exact hF
 obtain ⟨rfl,v7,hE,s⟩:=hJ
 refine ⟨_,hE.sub,?_⟩
 cases h
 exact .g (.q z (.q z (.qn z (.ret (ac (vs:=[_,_]) v7 (rt z (rt z rn)) z (s.to [0]))))))
theorem eP {a0:Int} {a1:Int} {a2:Int} {w:World} {r:Instr} (h:d6 a0 a1 a2=some r):CL 64 #[vi a0,vi a1,vi a2] w (RU w (.agg #[vi r.Op,vi r.Rd,vi r.Rs,vi r.Rt,vi r.Imm])):=by
 unfold d6 at h
 refine au func64 z z ?_
 have s:=Sep.start w
 refine .g (.c (.alloc t105 s ?_))
 intro g1 W s
 refine .nil (.g (.q z (.q z (.q z (.s (bs T.s105 z z) z (.c (.st t105 s z z z ?_)))))))
 intro W s
 cases h
 exact .nil (.ret (ac () (rc s t105 z rn z z) z (s.to [])))
end
noncomputable section
def uy (w:World) (r:Bool):Env->World->Prop:=Fin Tryz.prog Tryz.f31 No w (λs:Unit=>.bool r) (λs=>[]) .ret
theorem tJ {a0:List Int} {v_0:Hd} {w:World} {r:Bool} (h:dP a0=some r) (q_0:RO w v_0 3 1 (D.int .i64) a0):CL 31 #[sv v_0] w (RU w (.bool r)):=by
 unfold dP at h
 refine au func31 z z ?_
 have s:=Sep.start w
 refine .g (.qn z (.seq (.g (.qn z (.block (bv h λy1 hy1 h=>?_))))))
 refine .via (.iter (λs1 E' W'=>aD E' [(0,(sv v_0)),(3,vi s1)]/\Sep No w W' []) (λy2 x E' W'=>(match y2 with | .inl o1=>x=.ret/\uy w o1 E' W' | .inr o2=>x=.exit 0/\aD E' [(0,(sv v_0))]/\Sep No w W' [])) hy1 ⟨sb rfl,s.to [] rfl⟩ ?_) ?_
 ·intro s1 y3 E W h hI
  obtain ⟨hE,s⟩:=hI
  refine CW.sub hE ?_
  unfold bS at h
  refine .seq (.g (.q z (.q z (.s (a8 (s.keep q_0) u23 z z) z (.q z (.nil ?_))))))
  refine .cs z h ?_ ?_ <;> intro h
  ·refine .skip (.seq (.block (.g (.q z (.q z (bv h λx1 hx1 h=>.s (ixv (s.keep q_0) hx1 u23 T.t3 z z z) z (.s (lde (RV.flat (s.keep q_0) hx1 z) T.t3 z z z z z) z (bv h λy4 hy4 h=>.c (.cO s func32 (cE hy4) z z ?_)))))))))
   intro W s
   refine .q z (.nil ?_)
   refine .cs z h ?_ ?_ <;> intro h
   ·refine .g (.qn z (.ret ?_))
    cases h
    exact ⟨by simp,z,ac (vs:=[_]) () (rt z rn) z (s.to [])⟩
   refine .skip (.region (.q z (.q z (.q z (.nil ?_)))))
   cases h
   exact ⟨z,sb z,s.to []⟩
  refine .exit ?_
  cases h
  exact ⟨by simp,z,sb z,s.to []⟩
 intro x E W hJ
 rcases y1 with o3 | o4
 ·obtain ⟨rfl,hF⟩:=hJ
  refine ⟨_,λ_ _ h=>h,?_⟩
  cases h
  exact hF
 obtain ⟨rfl,hE,s⟩:=hJ
 refine ⟨_,hE.sub,?_⟩
 cases h
 exact .g (.q z (.s (a8 (s.keep q_0) u23 z z) z (.q z (.qn z (.ret (ac () (rt z rn) z (s.to [])))))))
end
noncomputable section
def uz (w:World) (r:Bool):Env->World->Prop:=Fin Tryz.prog Tryz.f15 No w (λs:Unit=>.bool r) (λs=>[]) .ret
theorem mj {a0:List Int} {a1:List Int} {v_0:Hd} {v_1:Hd} {w:World} {r:Bool} (h:f8 a0 a1=some r) (q_0:RO w v_0 3 1 (D.int .i64) a0) (q_1:RO w v_1 3 1 (D.int .i64) a1):CL 15 #[sv v_0,sv v_1] w (RU w (.bool r)):=by
 unfold f8 at h
 refine au func15 z z ?_
 have s:=Sep.start w
 refine .g (.qn z (.seq (.g (.q z (.s (a8 (s.keep q_0) u23 z z) z (.q z (.s (a8 (s.keep q_1) u23 z z) z (.q z (.nil ?_)))))))))
 refine .cs z h ?_ ?_ <;> intro h
 ·obtain rfl:=o9 h
  exact .g (.qn z (.ret (ac () (rt z rn) z (s.to []))))
 refine .skip (.seq (.g (.qn z (.block (bv h λy1 hy1 h=>?_)))))
 refine .via (.iter (λs1 E' W'=>aD E' [(0,(sv v_0)),(1,(sv v_1)),(5,vi s1)]/\Sep No w W' []) (λy2 x E' W'=>(match y2 with | .inl o1=>x=.ret/\uz w o1 E' W' | .inr o2=>x=.exit 0/\aD E' []/\Sep No w W' [])) hy1 ⟨sb rfl,s.to [] rfl⟩ ?_) ?_
 ·intro s1 y3 E W h hI
  obtain ⟨hE,s⟩:=hI
  refine CW.sub hE ?_
  unfold go at h
  refine .seq (.g (.q z (.q z (.s (a8 (s.keep q_0) u23 z z) z (.q z (.nil ?_))))))
  refine .cs z h ?_ ?_ <;> intro h
  ·refine .skip (.seq (.block (.seq (.rk 9 s [] T.mix ?_))))
   intro W s
   have t:=s.to []
   refine .tp' 0 z z t (.tp' 1 z z t (bv h λx1 hx1 h=>.ts' 2 z (λW t=>ixv (s.keep q_0) hx1 u23 T.t3 z z z) t z (.ts' 3 z (λW t=>lde (RV.flat (t.keep q_0) hx1 z) T.t3 z z z z z) t z (.tp' 4 z z t (.tp' 5 z z t (bv h λx2 hx2 h=>.ts' 6 z (λW t=>ixv (s.keep q_1) hx2 u23 T.t3 z z z) t z (.ts' 7 z (λW t=>lde (RV.flat (t.keep q_1) hx2 z) T.t3 z z z z z) t z (.tp' 8 z z t (.done ?_)))))))))
   refine .cs z h ?_ ?_ <;> intro h
   ·refine .g (.qn z (.ret ?_))
    cases h
    exact ⟨by simp,z,ac (vs:=[_]) () (rt z rn) z (s.to [])⟩
   refine .skip (.region (.q z (.q z (.q z (.nil ?_)))))
   cases h
   exact ⟨z,sb z,s.to []⟩
  refine .exit ?_
  cases h
  exact ⟨by simp,z,sb z,s.to []⟩
 intro x E W hJ
 rcases y1 with o3 | o4
 ·obtain ⟨rfl,hF⟩:=hJ
  refine ⟨_,λ_ _ h=>h,?_⟩
  cases h
  exact hF
 obtain ⟨rfl,hE,s⟩:=hJ
 refine ⟨_,hE.sub,?_⟩
 obtain rfl:=o9 h
 exact .g (.qn z (.ret (ac () (rt z rn) z (s.to []))))
def uA (w:World) (r:Bool):Env->World->Prop:=Fin Tryz.prog Tryz.f57 No w (λs:Unit=>.bool r) (λs=>[]) .ret
theorem gK {a0:List Int} {v_0:Hd} {w:World} {r:Bool} (h:di a0=some r) (q_0:RO w v_0 3 1 (D.int .i64) a0):CL 57 #[sv v_0] w (RU w (.bool r)):=by
 unfold di at h
 refine au func57 z z ?_
 have s:=Sep.start w
 refine .g (.qn z (.seq (.g (.q z (.s (a8 (s.keep q_0) u23 z z) z (.qn z (.block (bv h λy1 hy1 h=>?_))))))))
 refine .via (.iter (λs1 E' W'=>aD E' [(5,(sv v_0)),(6,vi (a0.length:Int)),(7,vi s1)]/\Sep No w W' []) (λy2 x E' W'=>(match y2 with | .inl o1=>x=.ret/\uA w o1 E' W' | .inr o2=>x=.exit 0/\aD E' []/\Sep No w W' [])) hy1 ⟨sb rfl,s.to [] rfl⟩ ?_) ?_
 ·intro s1 y3 E W h hI
  obtain ⟨hE,s⟩:=hI
  refine CW.sub hE ?_
  unfold gp at h
  refine .g (.qn z (.seq ?_))
  refine .cs z h ?_ ?_ <;> intro h
  ·refine .skip (.seq (.block (.g (bv h λx1 hx1 h=>.s (ixv (s.keep q_0) hx1 u23 T.t3 z z z) z (.s (lde (RV.flat (s.keep q_0) hx1 z) T.t3 z z z z z) z (.qn z (.g (.q z (bv h λy4 hy4 h=>.c (.cO s func105 (iG hy4) z z ?_))))))))))
   intro W s
   refine .q z (.nil ?_)
   refine .cs z h ?_ ?_ <;> intro h
   ·refine .g (.qn z (.ret ?_))
    cases h
    exact ⟨by simp,z,ac (vs:=[_]) () (rt z rn) z (s.to [])⟩
   refine .skip (.region (.q z (.q z (.nil ?_))))
   cases h
   exact ⟨z,sb z,s.to []⟩
  refine .exit ?_
  cases h
  exact ⟨by simp,z,sb z,s.to []⟩
 intro x E W hJ
 rcases y1 with o3 | o4
 ·obtain ⟨rfl,hF⟩:=hJ
  refine ⟨_,λ_ _ h=>h,?_⟩
  cases h
  exact hF
 obtain ⟨rfl,hE,s⟩:=hJ
 refine ⟨_,hE.sub,?_⟩
 obtain rfl:=o9 h
 exact .g (.qn z (.ret (ac () (rt z rn) z (s.to []))))
theorem qe {a0:al} {ao:Hd} {bc:Hd} {w:World} {r:Bool} (h:dS a0=some r) (dK:RO w ao 3 1 (D.int .i64) a0.Regs) (lC:RO w bc 3 1 (D.int .i64) a0.Mem):CL 56 #[.agg #[sv ao,vi a0.Pc,sv bc]] w (RU w (.bool r)):=by
 unfold dS at h
 refine au func56 z z ?_
 have s:=Sep.start w
 refine .g (.c (.box s z z ?_))
 intro g1 W s
 refine .qn z (.g (.s (fa f28_0 z z z) z (.s (ld t23 s z z z z z) z (.s (a8 (s.keep dK) u23 z z) z (.q z (.q z (bv h λb1 hb1 h=>.cu 4 11 (b1) s ?_ ?_)))))))
 ·refine .both ((a0.Regs.length:Int)==32) (λb=>?_) (λb=>?_)
  ·have hg1:=b
   have h:=aK b hb1
   refine .g hg1 (.s (fa f28_0 z z z) z (.g hg1 (.s (ld t23 s z z z z z) z (bv h λy1 hy1 h=>.g hg1 (.c (.cO s func57 (gK hy1 (s.keep dK)) z z ?_))))))
   intro W s
   refine .s (pkt hg1 z z z) z ?_
   cases h
   exact .nil (ck 4 s)
  refine .xx b z (.xx b z (.xx b z ?_))
  cases aL b hb1
  exact .s (pkf b z z z) z (.nil (ck 4 s))
 intro W s
 refine .q z (bv h λb2 hb2 h=>.cu 6 18 (b2) s ?_ ?_)
 ·refine .both (b1) (λb=>?_) (λb=>?_)
  ·have hg2:=b
   have h:=aK b hb2
   refine .g hg2 (.s (fa f28_0 z z z) z (.g hg2 (.s (ld t23 s z z z z z) z (bv h λx1 hx1 h=>.g hg2 (.s (ixv (s.keep dK) hx1 u23 T.t3 z z z) z (.g hg2 (.s (lde (RV.flat (s.keep dK) hx1 z) T.t3 z z z z z) z (.g hg2 (.q z (.s (pkt hg2 z z z) z ?_))))))))))
   cases h
   exact .nil (ck 6 s)
  refine .xx b z (.xx b z (.xx b z (.xx b z (.xx b z ?_))))
  cases aL b hb2
  exact .s (pkf b z z z) z (.nil (ck 6 s))
 intro W s
 refine .q z (bv h λb3 hb3 h=>.cu 4 23 (b3) s ?_ ?_)
 ·refine .both (b2) (λb=>?_) (λb=>?_)
  ·have hg3:=b
   have h:=aK b hb3
   refine .g hg3 (.s (fa f28_1 z z z) z (.g hg3 (.s (ld T.t3 s z z z z z) z (bv h λy2 hy2 h=>.g hg3 (.c (.cO s func105 (iG hy2) z z ?_))))))
   intro W s
   refine .s (pkt hg3 z z z) z ?_
   cases h
   exact .nil (ck 4 s)
  refine .xx b z (.xx b z (.xx b z ?_))
  cases aL b hb3
  exact .s (pkf b z z z) z (.nil (ck 4 s))
 intro W s
 refine .q z (.cu 5 29 (b3&&(decide ((a0.Mem.length:Int)<=10000))) s ?_ ?_)
 ·refine .both (b3) (λb=>?_) (λb=>?_)
  ·have hg4:=b
   exact .g hg4 (.s (fa f28_2 z z z) z (.g hg4 (.s (ld t23 s z z z z z) z (.g hg4 (.s (a8 (s.keep lC) u23 z z) z (.g hg4 (.q z (.s (pkt hg4 z z z) z (.nil (ck 5 s z (bi hg4)))))))))))
  exact .xx b z (.xx b z (.xx b z (.xx b z (.s (pkf b z z z) z (.nil (ck 5 s z (bj b)))))))
 intro W s
 refine .q z (bv h λb4 hb4 h=>.cu 4 34 (b4) s ?_ ?_)
 ·refine .both (b3&&(decide ((a0.Mem.length:Int)<=10000))) (λb=>?_) (λb=>?_)
  ·have hg5:=b
   have h:=aK b hb4
   refine .g hg5 (.s (fa f28_2 z z z) z (.g hg5 (.s (ld t23 s z z z z z) z (bv h λy3 hy3 h=>.g hg5 (.c (.cO s func57 (gK hy3 (s.keep lC)) z z ?_))))))
   intro W s
   refine .s (pkt hg5 z z z) z ?_
   cases h
   exact .nil (ck 4 s)
  refine .xx b z (.xx b z (.xx b z ?_))
  cases aL b hb4
  exact .s (pkf b z z z) z (.nil (ck 4 s))
 intro W s
 obtain rfl:=o9 h
 exact .qn z (.ret (ac () (rt z rn) z (s.to [])))
theorem a9 {a0:List Int} {v_0:Hd} {w:World} {r:(List Int)} (h:aU a0=some r) (q_0:RO w v_0 3 1 (D.int .i64) a0):CL 58 #[sv v_0] w (Ret No w (λs:Hd=>(sv s)) (λs=>[ae (sv s) 3 1 (D.int .i64) r])):=by
 unfold aU at h
 refine au func58 z z ?_
 have s:=Sep.start w
 refine .g (.qn z (.seq (.g (.q z (.s (Dp u23 z z) z (.nil (.cond z (λb=>?_) (λb=>?_))))))))
 ·have hl:=RV.isnil q_0 b
  subst hl
  refine .g (.qn z (.ret ?_))
  have s:=s.nilv 3 1 (D.int .i64)
  have h:some []=some r:=h
  cases h
  exact ac aA (rt z rn) z (s.to [0])
 refine .skip (.g (.c (.liv [] (D.int .i64) u23 T.t3 s z z z z ?_ z (λ_=>z))))
 intro v1 W s
 refine .q z (bv h λr1 hr1 h=>.c (.av hr1 s (s.keep q_0) (λ_=>z) u23 T.t3 z z z ?_))
 intro v2 W s
 obtain rfl:=o9 h
 exact .qn z (.ret (ac v2 (rt z rn) z (s.to [0])))
theorem qK {a0:al} {ao:Hd} {bc:Hd} {w:World} {r:al} (h:gq a0=some r) (dK:RO w ao 3 1 (D.int .i64) a0.Regs) (lC:RO w bc 3 1 (D.int .i64) a0.Mem):CL 80 #[.agg #[sv ao,vi a0.Pc,sv bc]] w (Ret No w (λs:Hd×Hd=>.agg #[(sv s.1),vi r.Pc,(sv s.2)]) (λs=>[ae (sv s.1) 3 1 (D.int .i64) r.Regs,ae (sv s.2) 3 1 (D.int .i64) r.Mem])):=by
 unfold gq at h
 refine au func80 z z ?_
 have s:=Sep.start w
 refine .g (.c (.box s z z ?_))
 intro g1 W s
 refine .c (.alloc t28 s ?_)
 intro g2 W s
 refine .nil (.seq (.rk 9 s [0,0] T.mix ?_))
 intro W s
 have t:=s.to [0,0]
 refine .ts' 0 z (λW t=>fa f28_0 z z z) t z (.ts' 1 z (λW t=>ld t23 t.p1 z z z z z) t z (.ts' 3 z (λW t=>fa f28_1 z z z) t z (.ts' 4 z (λW t=>ld T.t3 t.p1 z z z z z) t z (.ts' 5 z (λW t=>fa f28_2 z z z) t z (.ts' 6 z (λW t=>ld t23 t.p1 z z z z z) t z (bv h λy1 hy1 h=>.by1 2 z (.cV s func58 (a9 hy1 (s.keep dK)) z z ?_)))))))
 intro v1 W s
 refine s.an [1,1] λt=>bv h λy2 hy2 h=>.by1 7 z (.cV s func58 (a9 hy2 (s.keep lC)) z z ?_)
 intro v2 W s
 refine s.an [2,2] λt=>.ts' 8 z (λW t=>bs T.s28 z z) t z (.by1 9 z (.st t28 s.p2 z z z ?_))
 intro W s
 refine ⟨λh=>absurd z h,?_⟩
 cases h
 exact .done (.ret (ac (v1,v2) (rc s t28 z rn z z) z (s.to [2,1])))
theorem ol {a0:mz} {a1:Int} {a2:Int} {w:World} {r:Bool} (h:bX a0 a1 a2=some r):CL 170 #[.agg #[.string a0.name,vi a0.opcode,vi a0.funct3,vi a0.funct7],vi a1,vi a2] w (RU w (.bool r)):=by
 unfold bX at h
 refine au func170 z z ?_
 have s:=Sep.start w
 refine .g (.c (.box s z z ?_))
 intro g1 W s
 refine .qn z (.seq (.g (.s (fa f146_1 z z z) z (.s (ld T.t3 s z z z z z) z (.q z (.q z (.q z (.nil ?_))))))))
 refine .cs z h ?_ ?_ <;> intro h
 ·obtain rfl:=o9 h
  exact .g (.qn z (.ret (ac () (rt z rn) z (s.to []))))
 refine .skip (.seq (.g (.q z (bv h λy1 hy1 h=>.c (.cO s func114 (jA hy1) z z ?_)))))
 intro W s
 refine .nil (.block (.g (.q z (.q z (.nil ?_)))))
 refine .cs z h ?_ ?_ <;> intro h
 ·refine .seq (bv h λy2 hy2 h=>bv h λb1 hb1 h=>?_)
  refine .via (R':=λx E' W'=>x=.normal/\aD E' [(6,.bool b1)]/\Sep No w W' [.box g1 146 [.string a0.name,vi a0.opcode,vi a0.funct3,vi a0.funct7]]) ?_ ?_
  ·refine .rk 13 s [0] T.mix ?_
   intro W s
   have t:=s.to [0]
   refine .ts' 0 z (λW t=>fa f146_2 z z z) t z (.ts' 1 z (λW t=>ld T.t3 t z z z z z) t z (.tp' 2 z z t (.by1 3 z (.cO s func113 (bU hy2) z z ?_))))
   intro W s
   refine s.an [0] λt=>.tp' 4 z z t (.tp' 5 z z t (.both (a0.funct3==y2) (λb=>?_) (λb=>?_)))
   ·have hg1:=b
    have h_b1:=aK b hb1
    refine .t1g 6 z hg1 (λW t=>fa f146_3 z z z) t (.t1g 7 z hg1 (λW t=>ld T.t3 t z z z z z) t (.t1g 8 z hg1 (λW t=>pr z) t (bv h_b1 λy3 hy3 h_b1=>.by1 9 z (.gd hg1 (.cO s func113 (bU hy3) z z ?_))) (by kernel_rfl) z z) (by kernel_rfl) z z) (by kernel_rfl) z z
    intro W s
    refine s.an [0] λt=>?_
    exact .t1g 10 z hg1 (λW t=>pr z) t (.ts' 11 z (λW t=>pkt hg1 z z z) t z (.eqv 27 z (nP h_b1) (.tp' 12 z z t (.done (⟨z,sb z,s.to [0]⟩))))) (by kernel_rfl) z z
   exact .off 6 z b t (.off 7 z b t (.off 8 z b t (.off 9 z b t (.off 10 z b t (.ts' 11 z (λW t=>pkf b z z z) t z (.eqv 27 z (nP (aL b hb1)) (.tp' 12 z z t (.done (⟨z,sb z,s.to [0]⟩))))) (by kernel_rfl) z z) (by kernel_rfl) z z) (by kernel_rfl) z z) (by kernel_rfl) z z) (by kernel_rfl) z z
  intro x E W hJ
  obtain ⟨rfl,hE,s⟩:=hJ
  refine ⟨_,hE.sub,?_⟩
  obtain rfl:=o9 h
  exact .ret (ac () (rt z rn) z (s.to []))
 refine bv h λy4 hy4 h=>?_
 refine .seq (CW.via (R':=λx E' W'=>x=.normal/\aD E' [(2,vi a2),(3,Pt g1),(28,.bool y4)]/\Sep No w W' [.box g1 146 [.string a0.name,vi a0.opcode,vi a0.funct3,vi a0.funct7]]) ?_ ?_)
 ·have h:=hy4
  refine .g (.q z (.q z (.nil ?_)))
  refine .cs z h ?_ ?_ <;> intro h
  ·refine .skip ?_
   cases h
   exact ⟨z,sb z,s.to [0]⟩
  refine .g (.q z (.q z (.nil ?_)))
  refine .cs z h ?_ ?_ <;> intro h
  ·refine .skip ?_
   cases h
   exact ⟨z,sb z,s.to [0]⟩
  refine .region (.q z (.q z (.nil ?_)))
  cases h
  exact ⟨z,sb z,s.to [0]⟩
 intro x E W hJ
 obtain ⟨rfl,hE,s⟩:=hJ
 refine ⟨_,hE.sub,?_⟩
 refine .cs z h ?_ ?_ <;> intro h
 ·refine .seq (.rk 6 s [0] T.mix ?_)
  intro W s
  have t:=s.to [0]
  refine .ts' 0 z (λW t=>fa f146_2 z z z) t z (.ts' 1 z (λW t=>ld T.t3 t z z z z z) t z (.tp' 2 z z t (bv h λy5 hy5 h=>.by1 3 z (.cO s func113 (bU hy5) z z ?_))))
  intro W s
  refine s.an [0] λt=>?_
  cases h
  exact .tp' 4 z z t (.tp' 5 z z t (.done (.ret (ac () (rt z rn) z (s.to [])))))
 obtain rfl:=o9 h
 exact .skip (.g (.qn z (.ret (ac () (rt z rn) z (s.to [])))))
theorem fq {a0:Int} {a1:Int} {w:World} {r:Int} (h:cU a0 a1=some r):CL 181 #[vi a0,vi a1] w (RU w (.int .i64 r)):=by
 unfold cU at h
 refine au func181 z z ?_
 have s:=Sep.start w
 refine .g (.qn z (.seq (.g (.q z (.q z (.q z (.cu 3 10 ((decide (a1<1))||(decide (a1>32))) s ?_ ?_)))))))
 ·refine .both (decide (a1<1)) (λb=>?_) (λb=>?_)
  ·exact .xx b z (.xx b z (.s (pkt b z z z) z (.nil (ck 3 s z (ff b)))))
  have hg1:=b
  exact .g hg1 (.q z (.g hg1 (.q z (.s (pkf hg1 z z z) z (.nil (ck 3 s z (fg hg1)))))))
 intro W s
 refine .q z (.cu 3 14 (((decide (a1<1))||(decide (a1>32)))||(decide (a0<0))) s ?_ ?_)
 ·refine .both ((decide (a1<1))||(decide (a1>32))) (λb=>?_) (λb=>?_)
  ·exact .xx b z (.xx b z (.s (pkt b z z z) z (.nil (ck 3 s z (ff b)))))
  have hg2:=b
  exact .g hg2 (.q z (.g hg2 (.q z (.s (pkf hg2 z z z) z (.nil (ck 3 s z (fg hg2)))))))
 intro W s
 refine .q z (bv h λb1 hb1 h=>.cu 5 20 (b1) s ?_ ?_)
 ·refine .both (((decide (a1<1))||(decide (a1>32)))||(decide (a0<0))) (λb=>?_) (λb=>?_)
  ·refine .xx b z (.xx b z (.xx b z (.xx b z ?_)))
   cases aK b hb1
   exact .s (pkt b z z z) z (.nil (ck 5 s))
  have hg3:=b
  have h:=aL b hb1
  refine .g hg3 (.q z (.g hg3 (.q z (bv h λd1 hd1 h=>.g hg3 (.s (mm hd1 z z z) z (.g hg3 (.q z (.s (pkf hg3 z z z) z ?_))))))))
  cases h
  exact .nil (ck 5 s)
 intro W s
 refine .nil ?_
 refine .cs z h ?_ ?_ <;> intro h
 ·cases h
  exact .g (.qn z (.ret (ac () (rt z rn) z (s.to []))))
 refine .skip (.seq (.g (.q z (.q z (.q z (bv h λd2 hd2 h=>.s (mm hd2 z z z) z (.q z (.nil ?_))))))))
 refine .cs z h ?_ ?_ <;> intro h
 ·refine .g (.q z (.q z (bv h λd3 hd3 h=>.s (mm hd3 z z z) z (.q z (.qn z (.ret ?_))))))
  cases h
  exact ac () (rt z rn) z (s.to [])
 obtain rfl:=o9 h
 exact .skip (.g (.q z (.qn z (.ret (ac () (rt z rn) z (s.to []))))))
theorem tK {a0:Int} {a1:Int} {w:World} {r:Instr} (h:dj a0 a1=some r):CL 171 #[vi a0,vi a1] w (RU w (.agg #[vi r.Op,vi r.Rd,vi r.Rs,vi r.Rt,vi r.Imm])):=by
 unfold dj at h
 refine au func171 z z ?_
 have s:=Sep.start w
 refine .g (.c (.alloc t105 s ?_))
 intro g1 W s
 refine .nil (.g (.q z (bv h λy1 hy1 h=>.c (.cO s func113 (bU hy1) z z ?_))))
 intro W s
 refine .q z (bv h λy2 hy2 h=>.c (.cO s func113 (bU hy2) z z ?_))
 intro W s
 refine .q z (bv h λy3 hy3 h=>.c (.cO s func113 (bU hy3) z z ?_))
 intro W s
 refine .q z (.q z (.qn z (.seq (.g (.q z (bv h λy4 hy4 h=>.c (.cO s func114 (jA hy4) z z ?_)))))))
 intro W s
 refine .nil (.block (.g (.q z (.q z (.nil ?_)))))
 refine .cs z h ?_ ?_ <;> intro h
 ·refine .g (.q z (.q z (.q z (.q z (.s (bs T.s105 z z) z (.c (.st t105 s z z z ?_)))))))
  intro W s
  cases h
  exact .nil (.ret (ac () (rc s t105 z rn z z) z (s.to [])))
 refine .g (.q z (.q z (.nil ?_)))
 refine .cs z h ?_ ?_ <;> intro h
 ·refine .g (.q z (.q z (.q z (.q z (bv h λy5 hy5 h=>.c (.cO s func113 (bU hy5) z z ?_))))))
  intro W s
  refine bv h λy6 hy6 h=>.c (.cO s func181 (fq hy6) z z ?_)
  intro W s
  refine .s (bs T.s105 z z) z (.c (.st t105 s z z z ?_))
  intro W s
  cases h
  exact .nil (.ret (ac () (rc s t105 z rn z z) z (s.to [])))
 refine .g (.q z (.q z (.nil ?_)))
 refine .cs z h ?_ ?_ <;> intro h
 ·refine .g (.q z (.q z (.q z (.q z (bv h λy7 hy7 h=>.c (.cO s func113 (bU hy7) z z ?_))))))
  intro W s
  refine .q z (.q z (.q z (bv h λy8 hy8 h=>.c (.cO s func181 (fq hy8) z z ?_))))
  intro W s
  refine .s (bs T.s105 z z) z (.c (.st t105 s z z z ?_))
  intro W s
  cases h
  exact .nil (.ret (ac () (rc s t105 z rn z z) z (s.to [])))
 refine .g (.q z (.q z (.nil ?_)))
 refine .cs z h ?_ ?_ <;> intro h
 ·refine .g (.q z (bv h λy9 hy9 h=>.c (.cO s func113 (bU hy9) z z ?_)))
  intro W s
  refine .q z (.q z (bv h λy10 hy10 h=>.c (.cO s func113 (bU hy10) z z ?_)))
  intro W s
  refine .q z (.q z (.q z (bv h λy11 hy11 h=>.c (.cO s func113 (bU hy11) z z ?_))))
  intro W s
  refine .q z (.q z (.q z (bv h λy12 hy12 h=>.c (.cO s func113 (bU hy12) z z ?_))))
  intro W s
  refine .q z (.q z (.qn z (.g (.q z (.q z (.q z (.q z (bv h λy13 hy13 h=>.c (.cO s func181 (fq hy13) z z ?_)))))))))
  intro W s
  refine .s (bs T.s105 z z) z (.c (.st t105 s z z z ?_))
  intro W s
  cases h
  exact .nil (.ret (ac () (rc s t105 z rn z z) z (s.to [])))
 refine .g (.q z (.q z (.nil ?_)))
 refine .cs z h ?_ ?_ <;> intro h
 ·refine .g (.q z (.q z (.q z (bv h λy14 hy14 h=>.c (.cO s func113 (bU hy14) z z ?_)))))
  intro W s
  refine .s (bs T.s105 z z) z (.c (.st t105 s z z z ?_))
  intro W s
  cases h
  exact .nil (.ret (ac () (rc s t105 z rn z z) z (s.to [])))
 refine .g (.q z (.q z (.nil ?_)))
 refine .cs z h ?_ ?_ <;> intro h
 ·refine .g (.q z (bv h λy15 hy15 h=>.c (.cO s func113 (bU hy15) z z ?_)))
  intro W s
  refine .q z (.q z (bv h λy16 hy16 h=>.c (.cO s func113 (bU hy16) z z ?_)))
  intro W s
  refine .q z (.q z (.q z (bv h λy17 hy17 h=>.c (.cO s func113 (bU hy17) z z ?_))))
  intro W s
  refine .q z (.q z (.q z (bv h λy18 hy18 h=>.c (.cO s func113 (bU hy18) z z ?_))))
  intro W s
  refine .q z (.q z (.qn z (.g (.q z (.q z (.q z (bv h λy19 hy19 h=>.c (.cO s func181 (fq hy19) z z ?_))))))))
  intro W s
  refine .s (bs T.s105 z z) z (.c (.st t105 s z z z ?_))
  intro W s
  cases h
  exact .nil (.ret (ac () (rc s t105 z rn z z) z (s.to [])))
 refine .skip (.g (.q z (.s (bs T.s105 z z) z (.c (.st t105 s z z z ?_)))))
 intro W s
 cases h
 exact .nil (.ret (ac () (rc s t105 z rn z z) z (s.to [])))
def nD (w:World) (r:Instr×Bool):Env->World->Prop:=Fin Tryz.prog Tryz.f125 No w (λs:Unit=>.tuple #[.agg #[vi r.1.Op,vi r.1.Rd,vi r.1.Rs,vi r.1.Rt,vi r.1.Imm],.bool r.2]) (λs=>[]) .ret
theorem qL {a0:Int} {w:World} {r:Instr×Bool} (h:dp a0=some r) (hG:Gl w):CL 125 #[vi a0] w (RU w (.tuple #[.agg #[vi r.1.Op,vi r.1.Rd,vi r.1.Rs,vi r.1.Rt,vi r.1.Imm],.bool r.2])):=by
 unfold dp at h
 refine au func125 z z ?_
 have s:=Sep.start w
 refine .g (.c (.alloc t105 s ?_))
 intro g1 W s
 refine .qn z (.seq (.g (.q z (bv h λy1 hy1 h=>.c (.cO s func159 (nC hy1) z z ?_)))))
 intro W s
 refine .q z (.nil ?_)
 refine .cs z h ?_ ?_ <;> intro h
 ·refine .g (.s (bs T.s105 z z) z (.c (.st t105 s z z z ?_)))
  intro W s
  cases h
  exact .qn z (.ret (ac (vs:=[_,_]) () (rc s t105 z (rt z rn) z z) z (s.to [])))
 refine .skip (.seq (.g (.qn z (.block (bv h λy2 hy2 h=>?_)))))
 refine .via (.iter (λs1 E' W'=>aD E' [(0,vi a0),(2,Pt g1),(4,vi s1)]/\Sep No w W' [.box g1 105 [vi 0,vi 0,vi 0,vi 0,vi 0]]) (λy3 x E' W'=>(match y3 with | .inl o1=>x=.ret/\nD w o1 E' W' | .inr o2=>x=.exit 0/\aD E' [(2,Pt g1)]/\Sep No w W' [.box g1 105 [vi 0,vi 0,vi 0,vi 0,vi 0]])) hy2 ⟨sb rfl,s.to [0] rfl⟩ ?_) ?_
 ·intro s1 y4 E W h hI
  obtain ⟨hE,s⟩:=hI
  refine CW.sub hE ?_
  unfold dV at h
  refine .seq (.g (.q z (.q z (.nil ?_))))
  refine .cs z h ?_ ?_ <;> intro h
  ·refine .skip (bv h λy5 hy5 h=>?_)
   refine .seq (CW.via (R':=λx E' W'=>(match y5 with | .inl o3=>x=.normal/\aD E' [(0,vi a0),(2,Pt g1),(4,vi s1)]/\Sep No w W' [.box g1 105 [vi 0,vi 0,vi 0,vi 0,vi 0]] | .inr o4=>x=.ret/\nD w o4 E' W')) ?_ ?_)
   ·have h:=hy5
    refine .block (.seq (.g (.q z (.q z (bv h λx1 hx1 h=>.s (ixt hx1 z u147 t146 z z z) z (.s (ldt (hG.at s (λ_ _ h=>h)).2.1 hx1 t146 z z z z z) z (.q z (.q z (bv h λy6 hy6 h=>.c (.cO s func170 (ol hy6) z z ?_))))))))))
    intro W s
    refine .q z (.nil ?_)
    refine .cs z h ?_ ?_ <;> intro h
    ·refine .exit ?_
     cases h
     exact ⟨z,sb z,s.to [0]⟩
    refine .skip (.g (.q z (.q z (bv h λy7 hy7 h=>.c (.cO s func171 (tK hy7) z z ?_)))))
    intro W s
    refine .c (.alloc t105 s ?_)
    intro g2 W s
    refine .c (.st t105 s z z z ?_)
    intro W s
    refine .nil (.g (.s (ld t105 s z z z z z) z (bv h λy8 hy8 h=>.c (.cO s func62 (mV hy8 (hG.at s (λ_ _ h=>h))) z z ?_))))
    intro W s
    refine .q z (.q z (.q z (.q z (.qn z (.g (.q z (.q z (.cu 4 37 (y8.2&&(y8.1==a0)) s ?_ ?_))))))))
    ·refine .both (y8.2) (λb=>?_) (λb=>?_)
     ·have hg1:=b
      exact .g hg1 (.q z (.g hg1 (.q z (.g hg1 (.q z (.s (pkt hg1 z z z) z (.nil (ck 4 s z (bi hg1)))))))))
     exact .xx b z (.xx b z (.xx b z (.s (pkf b z z z) z (.nil (ck 4 s z (bj b))))))
    intro W s
    refine .nil ?_
    refine .cs z h ?_ ?_ <;> intro h
    ·refine .g (.s (ld t105 s z z z z z) z (.c (.st t105 s.p1 z z z ?_)))
     intro W s
     refine .qn z (.ret ?_)
     cases h
     exact ⟨z,ac (vs:=[_,_]) () (rc s t105 z (rt z rn) z z) z (s.to [])⟩
    refine .skip ?_
    cases h
    exact ⟨z,sb z,s.to [1]⟩
   intro x E W hJ
   rcases y5 with o5 | o6
   ·obtain ⟨rfl,hE,s⟩:=hJ
    refine ⟨_,hE.sub,?_⟩
    refine .region (.q z (.q z (.q z (.nil ?_))))
    cases h
    exact ⟨z,sb z,s.to [0]⟩
   obtain ⟨rfl,hF⟩:=hJ
   refine ⟨_,λ_ _ h=>h,?_⟩
   cases h
   exact ⟨by simp,z,hF⟩
  refine .exit ?_
  cases h
  exact ⟨by simp,z,sb z,s.to [0]⟩
 intro x E W hJ
 rcases y2 with o7 | o8
 ·obtain ⟨rfl,hF⟩:=hJ
  refine ⟨_,λ_ _ h=>h,?_⟩
  cases h
  exact hF
 obtain ⟨rfl,hE,s⟩:=hJ
 refine ⟨_,hE.sub,?_⟩
 refine .g (.s (bs T.s105 z z) z (.c (.st t105 s z z z ?_)))
 intro W s
 cases h
 exact .qn z (.ret (ac (vs:=[_,_]) () (rc s t105 z (rt z rn) z z) z (s.to [])))
theorem oo {a0:Bool} {w:World} {r:Int} (h:kg a0=some r):CL 127 #[.bool a0] w (RU w (.int .i64 r)):=by
 unfold kg at h
 refine au func127 z z ?_
 have s:=Sep.start w
 refine .g (.qn z (.seq (.g (.q z (.nil ?_)))))
 refine .cs z h ?_ ?_ <;> intro h
 ·cases h
  exact .g (.qn z (.ret (ac () (rt z rn) z (s.to []))))
 cases h
 exact .skip (.g (.qn z (.ret (ac () (rt z rn) z (s.to [])))))
theorem q8 {a0:Int} {a1:Int} {a2:Int} {w:World} {r:Int} (h:f9 a0 a1 a2=some r):CL 128 #[vi a0,vi a1,vi a2] w (RU w (.int .i64 r)):=by
 unfold f9 at h
 refine au func128 z z ?_
 have s:=Sep.start w
 refine .g (.qn z (.seq (.g (.qn z (.block (.g (.q z (.q z (.nil ?_)))))))))
 refine .cs z h ?_ ?_ <;> intro h
 ·cases h
  exact .g (.q z (.q z (.q z (.qn z (.ret (ac () (rt z rn) z (s.to [])))))))
 refine .g (.q z (.q z (.nil ?_)))
 refine .cs z h ?_ ?_ <;> intro h
 ·cases h
  exact .g (.q z (.q z (.q z (.qn z (.ret (ac () (rt z rn) z (s.to [])))))))
 refine .g (.q z (.q z (.nil ?_)))
 refine .cs z h ?_ ?_ <;> intro h
 ·cases h
  exact .g (.q z (.q z (.q z (.qn z (.ret (ac () (rt z rn) z (s.to [])))))))
 refine .g (.q z (.q z (.nil ?_)))
 refine .cs z h ?_ ?_ <;> intro h
 ·refine .g (.q z (.q z (.q z (bv h λy1 hy1 h=>.c (.cO s func127 (oo hy1) z z ?_)))))
  intro W s
  obtain rfl:=o9 h
  exact .qn z (.ret (ac () (rt z rn) z (s.to [])))
 refine .g (.q z (.q z (.nil ?_)))
 refine .cs z h ?_ ?_ <;> intro h
 ·refine .g (.q z (.q z (.q z (bv h λy2 hy2 h=>.c (.cO s func127 (oo hy2) z z ?_)))))
  intro W s
  obtain rfl:=o9 h
  exact .qn z (.ret (ac () (rt z rn) z (s.to [])))
 refine .g (.q z (.q z (.nil ?_)))
 refine .cs z h ?_ ?_ <;> intro h
 ·refine .g (.q z (.q z (.q z (bv h λd1 hd1 h=>.s (mm hd1 z z z) z (bv h λy3 hy3 h=>.c (.cO s func63 (c4 hy3) z z ?_))))))
  intro W s
  obtain rfl:=o9 h
  exact .qn z (.ret (ac () (rt z rn) z (s.to [])))
 refine .g (.q z (.q z (.nil ?_)))
 refine .cs z h ?_ ?_ <;> intro h
 ·refine .g (.q z (.q z (.q z (bv h λd2 hd2 h=>.s (mm hd2 z z z) z (.qn z (.ret ?_))))))
  obtain rfl:=o9 h
  exact ac () (rt z rn) z (s.to [])
 refine .g (.q z (.q z (.nil ?_)))
 refine .cs z h ?_ ?_ <;> intro h
 ·refine .g (.q z (.q z (.q z (bv h λy4 hy4 h=>.c (.cO s func63 (c4 hy4) z z ?_)))))
  intro W s
  obtain rfl:=o9 h
  exact .qn z (.ret (ac () (rt z rn) z (s.to [])))
 refine .g (.q z (.q z (.nil ?_)))
 refine .cs z h ?_ ?_ <;> intro h
 ·refine .g (.q z (.q z (.q z (bv h λy5 hy5 h=>.c (.cO s func63 (c4 hy5) z z ?_)))))
  intro W s
  obtain rfl:=o9 h
  exact .qn z (.ret (ac () (rt z rn) z (s.to [])))
 refine .g (.q z (.q z (.nil ?_)))
 refine .cs z h ?_ ?_ <;> intro h
 ·refine .g (.q z (.q z (.q z (bv h λy6 hy6 h=>.c (.cO s func63 (c4 hy6) z z ?_)))))
  intro W s
  obtain rfl:=o9 h
  exact .qn z (.ret (ac () (rt z rn) z (s.to [])))
 refine .g (.q z (.q z (.nil ?_)))
 refine .cs z h ?_ ?_ <;> intro h
 ·refine .seq (.g (.q z (.q z (.nil ?_))))
  refine .cs z h ?_ ?_ <;> intro h
  ·cases h
   exact .g (.qn z (.ret (ac () (rt z rn) z (s.to []))))
  refine .skip (.g (.q z (.q z (bv h λd3 hd3 h=>.s (dq hd3 z z z) z (bv h λy7 hy7 h=>.c (.cO s func63 (c4 hy7) z z ?_))))))
  intro W s
  obtain rfl:=o9 h
  exact .qn z (.ret (ac () (rt z rn) z (s.to [])))
 refine .skip (.seq (.g (.q z (.q z (.nil ?_)))))
 refine .cs z h ?_ ?_ <;> intro h
 ·obtain rfl:=o9 h
  exact .g (.q z (.qn z (.ret (ac () (rt z rn) z (s.to [])))))
 refine .skip (.g (.q z (.q z (bv h λd4 hd4 h=>.s (dr hd4 z z z) z (.qn z (.ret ?_))))))
 obtain rfl:=o9 h
 exact ac () (rt z rn) z (s.to [])
end
noncomputable section
theorem qM {k:Nat} {a0:List Int} {v_0:Hd} {w:World} {r:(List Int)×(List (List ah))} (h:gr k a0=some r) (q_0:RO w v_0 5 1 (D.int .u8) a0):CL 16 #[sv v_0] w (Ret No w (λs:Hd×Hd=>.tuple #[(sv s.1),(sv s.2)]) (λs=>[ae (sv s.1) 3 1 (D.int .i64) r.1,ae (sv s.2) 78 1 (λ(l:List ah)=>D.row 102 5 (l.map aq)) r.2])):=by
 unfold gr at h
 refine au func16 z z ?_
 have s:=Sep.start w
 have Q_0:=q_0
 refine .g (.q z (.qn z (.g (.q z (bv h λy1 hy1 h=>?_)))))
 have hQ1:=s
 refine .c (.call s func38 (vL hy1 (s.keep q_0)) z z ?_)
 rintro ⟨g1,⟨v1,q1⟩⟩ W s
 refine .qn z (.g (.q z (bv h λy2 hy2 h=>.c (.cS (L0:=[.box g1 117 [sv v1,vi y1.p]]) s func39 (λS h1 h2 h3=>(aj hy2 (s.ks (hQ1.wasA (q1 _ (hQ1.keepA q_0 Q_0))) h1) h2 (zz h1))) z z ?_))))
 rintro ⟨⟩ W s
 refine .q z (.q z (bv h λy3 hy3 h=>.c (.cS (L0:=[.box g1 117 [sv v1,vi y2.2]]) s func39 (λS h1 h2 h3=>(aj hy3 (s.ks (hQ1.wasA (q1 _ (hQ1.keepA q_0 Q_0))) h1) h2 (zz h1))) z z ?_)))
 rintro ⟨⟩ W s
 refine .q z (.c (.liv [w64 (1+y2.1),w64 (1+y3.1)] (D.int .i64) u23 T.t3 s z z z z ?_ z (λ_=>z)))
 intro v2 W s
 refine .qn z (.g (.q z (bv h λy4 hy4 h=>?_)))
 have s:=s.p1
 refine .c (.cS (L0:=[.box g1 117 [sv v1,vi y3.2]]) s func40 (λS h1 h2 h3=>(tI hy4 (s.ks (hQ1.wasA (q1 _ (hQ1.keepA q_0 Q_0))) h1) h2 (zz h1))) z z ?_)
 rintro v3 W s
 refine .qn z (bv h λy5 hy5 h=>?_)
 refine .seq (CW.via (R':=λx E' W'=>x=.normal/\∃ (v4:Hd) (v5:Hd),aD E' [(5,(sv v4)),(6,(sv v5))]/\Sep No w W' [.box g1 117 [sv v1,vi y5.2.2],ae (sv v4) 3 1 (D.int .i64) y5.1,ae (sv v5) 78 1 (λ(l:List ah)=>D.row 102 5 (l.map aq)) y5.2.1]) ?_ ?_)
 ·have h:=hy5
  refine .g (.q z (bv h λy6 hy6 h=>.c (.cS (L0:=[.box g1 117 [sv v1,vi y4.2]]) s func39 (λS h1 h2 h3=>(aj hy6 (s.ks (hQ1.wasA (q1 _ (hQ1.keepA q_0 Q_0))) h1) h2 (zz h1))) z z ?_)))
  rintro ⟨⟩ W s
  refine .nil (.block (.g (.q z (.q z (.nil ?_)))))
  refine .cs z h ?_ ?_ <;> intro h
  ·refine .region (.c (.liv [] (D.int .i64) u23 T.t3 s z z z z ?_ z (λ_=>z)))
   intro v6 W s
   refine .q z (.nil ?_)
   cases h
   exact ⟨z,v6,v3,sb z,s.to [1,0,0]⟩
  refine .g (.q z (.q z (.nil ?_)))
  refine .cs z h ?_ ?_ <;> intro h
  ·refine .region (.q z (bv h λx1 hx1 h=>.s (ixv s.p2.lv hx1 u23 T.t3 z z z) z (bv h λr1 hr1 h=>.c (.sev hr1 hx1 s.p2 T.t3 z z z z z z ?_))))
   intro W s
   refine .nil ?_
   cases h
   exact ⟨z,v2,v3,sb z,s.to [1,0,0]⟩
  refine .g (.q z (.q z (.nil ?_)))
  refine .cs z h ?_ ?_ <;> intro h
  ·refine .region (.q z (.c (.liv [] aq u78 t102 s z z z z ?_ z (λ_=>z))))
   intro v7 W s
   refine .c (.lg (L1:=[ae (sv v7) 102 5 aq []]) [[]] (λ(l:List ah)=>D.row 102 5 (l.map aq)) u36 t78 (s.to [0,0,0,0]) z z z (.row (.nil)) ?_ z (λ_=>z))
   intro v8 W s
   refine bv h λr2 hr2 h=>.c (.appv hr2 (s.to [2,0,0,0]) u36 t78 z z z ?_)
   intro v9 W s
   refine .q z (.nil ?_)
   cases h
   exact ⟨z,v2,v9,sb z,s.to [1,1,0]⟩
  refine .skip ?_
  cases h
  exact ⟨z,v2,v3,sb z,s.to [0,1,0]⟩
 intro x E W hJ
 obtain ⟨rfl,v10,v11,hE,s⟩:=hJ
 refine ⟨_,hE.sub,?_⟩
 cases h
 exact .g (.q z (.q z (.q z (.qn z (.ret (ac (vs:=[_,_]) (v10,v11) (rt z (rt z rn)) z (s.to [1,1])))))))
theorem jc {a0:List ah} {v_0:Hd} {w:World} {r:(List ah)} (h:cj a0=some r) (q_0:RO w v_0 102 5 aq a0):CL 83 #[sv v_0] w (Ret No w (λs:Hd=>(sv s)) (λs=>[ae (sv s) 102 5 aq r])):=by
 unfold cj at h
 refine au func83 z z ?_
 have s:=Sep.start w
 refine .g (.qn z (.seq (.g (.q z (.s (Dp u78 z z) z (.nil (.cond z (λb=>?_) (λb=>?_))))))))
 ·have hl:=RV.isnil q_0 b
  subst hl
  refine .g (.qn z (.ret ?_))
  have s:=s.nilv 102 5 aq
  have h:some []=some r:=h
  cases h
  exact ac aA (rt z rn) z (s.to [0])
 refine .skip (.g (.c (.liv [] aq u78 t102 s z z z z ?_ z (λ_=>z))))
 intro v1 W s
 refine .q z (bv h λr1 hr1 h=>.c (.av hr1 s (s.keep q_0) (λ_=>z) u78 t102 z z z ?_))
 intro v2 W s
 obtain rfl:=o9 h
 exact .qn z (.ret (ac v2 (rt z rn) z (s.to [0])))
theorem lD {a0:List (List ah)} {v_0:Hd} {w:World} {r:(List (List ah))} (h:gu a0=some r) (q_0:RO w v_0 78 1 (λ(l:List ah)=>D.row 102 5 (l.map aq)) a0):CL 41 #[sv v_0] w (Ret No w (λs:Hd=>(sv s)) (λs=>[ae (sv s) 78 1 (λ(l:List ah)=>D.row 102 5 (l.map aq)) r])):=by
 unfold gu at h
 refine au func41 z z ?_
 have s:=Sep.start w
 refine .g (.qn z (.g (.qn z (.seq (.g (.q z (.s (a8 (s.keep q_0) u36 z z) z (.qn z (.block ?_)))))))))
 have s:=s.nilv 78 1 (λ(l:List ah)=>D.row 102 5 (l.map aq))
 refine bv h λy1 hy1 h=>?_
 refine .via (.iter (λs1 E' W'=>∃ (v3:Hd),aD E' [(3,(sv v3)),(6,(sv v_0)),(7,vi (a0.length:Int)),(8,vi s1.2)]/\Sep No w W' [ae (sv v3) 78 1 (λ(l:List ah)=>D.row 102 5 (l.map aq)) s1.1]) (λy2 x E' W'=>x=.exit 0/\∃ (v4:Hd),aD E' [(3,(sv v4))]/\Sep No w W' [ae (sv v4) 78 1 (λ(l:List ah)=>D.row 102 5 (l.map aq)) y2]) hy1 ⟨aA,sb z,s.to [0]⟩ ?_) ?_
 ·intro s1 y3 E W h hI
  obtain ⟨v2,hE,s⟩:=hI
  refine CW.sub hE ?_
  unfold fR at h
  refine .g (.qn z (.seq ?_))
  refine .cs z h ?_ ?_ <;> intro h
  ·refine .skip (.seq (.block (.g (bv h λx1 hx1 h=>?_))))
   obtain ⟨k1,hd,hck1⟩:=RV.el2 q_0 hx1
   obtain ⟨v5,k1,rfl,q5,hd1⟩:=c9 q_0 hd
   obtain rfl:=iq q_0 hd1
   refine .s (ixv (s.keep q_0) hx1 u36 t78 z z z) z (.s (lde (hck1 _ s.agree) t78 z z z z z) z (.qn z (.region (.q z (.q z (bv h λy4 hy4 h=>.c (.cV s func83 (jc hy4 (s.keep (q5 _ q_0))) z z ?_)))))))
   intro v6 W s
   refine .c (.lg (L1:=[ae (sv v6) 102 5 aq y4]) [y4] (λ(l:List ah)=>D.row 102 5 (l.map aq)) u36 t78 (s.to [0,0]) z z z (.row (.nil)) ?_ z (λ_=>z))
   intro v7 W s
   refine bv h λr1 hr1 h=>.c (.appv hr1 (s.to [1,0]) u36 t78 z z z ?_)
   intro v8 W s
   refine .qn z (.region (.q z (.q z (.nil ?_))))
   cases h
   exact ⟨z,v8,sb z,s.to [0]⟩
  refine .exit ?_
  cases h
  exact ⟨by simp,z,v2,sb z,s.to [0]⟩
 intro x E W hJ
 obtain ⟨rfl,v9,hE,s⟩:=hJ
 refine ⟨_,hE.sub,?_⟩
 obtain rfl:=o9 h
 exact .g (.q z (.qn z (.ret (ac v9 (rt z rn) z (s.to [0])))))
theorem oP {a0:List Int} {v_0:Hd} {w:World} {r:(List Box)} (h:ij a0=some r) (q_0:RO w v_0 3 1 (D.int .i64) a0):CL 42 #[sv v_0] w (Ret No w (λs:Hd=>(sv s)) (λs=>[ae (sv s) 95 2 aR r])):=by
 unfold ij at h
 refine au func42 z z ?_
 have s:=Sep.start w
 refine .g (.qn z (.g (.qn z (.seq (.g (.q z (.s (a8 (s.keep q_0) u23 z z) z (.qn z (.block ?_)))))))))
 have s:=s.nilv 95 2 aR
 refine bv h λy1 hy1 h=>?_
 refine .via (.iter (λs1 E' W'=>∃ (v3:Hd),aD E' [(3,(sv v3)),(6,(sv v_0)),(7,vi (a0.length:Int)),(8,vi s1.2)]/\Sep No w W' [ae (sv v3) 95 2 aR s1.1]) (λy2 x E' W'=>x=.exit 0/\∃ (v4:Hd),aD E' [(3,(sv v4))]/\Sep No w W' [ae (sv v4) 95 2 aR y2]) hy1 ⟨aA,sb z,s.to [0]⟩ ?_) ?_
 ·intro s1 y3 E W h hI
  obtain ⟨v2,hE,s⟩:=hI
  refine CW.sub hE ?_
  unfold jp at h
  refine .g (.qn z (.seq ?_))
  refine .cs z h ?_ ?_ <;> intro h
  ·refine .skip (.seq (.block (.g (bv h λx1 hx1 h=>.s (ixv (s.keep q_0) hx1 u23 T.t3 z z z) z (.s (lde (RV.flat (s.keep q_0) hx1 z) T.t3 z z z z z) z (.qn z (.region (.q z (.q z (.s (bs T.s95 z z) z ?_))))))))))
   have s:=s.nilv 3 1 (D.int .i64)
   refine .c (.lg (L1:=[ae (sv aA) 3 1 (D.int .i64) []]) [(Box.mk x1 [])] aR u40 t95 (s.to [0,0]) z z z (.agg (.flat (c1:=[vi x1]) z (.row .nil))) ?_ z (λ_=>z))
   intro v5 W s
   refine bv h λr1 hr1 h=>.c (.appv hr1 (s.to [1,0]) u40 t95 z z z ?_)
   intro v6 W s
   refine .qn z (.region (.q z (.q z (.nil ?_))))
   cases h
   exact ⟨z,v6,sb z,s.to [0]⟩
  refine .exit ?_
  cases h
  exact ⟨by simp,z,v2,sb z,s.to [0]⟩
 intro x E W hJ
 obtain ⟨rfl,v7,hE,s⟩:=hJ
 refine ⟨_,hE.sub,?_⟩
 obtain rfl:=o9 h
 exact .g (.q z (.qn z (.ret (ac v7 (rt z rn) z (s.to [0])))))
theorem nF {a0:Int} {a1:Int} {a2:Int} {a3:List Int} {v_3:Hd} {w:World} {r:Bool} (h:eE a0 a1 a2 a3=some r) (q_3:RO w v_3 3 1 (D.int .i64) a3):CL 84 #[vi a0,vi a1,vi a2,sv v_3] w (RU w (.bool r)):=by
 unfold eE at h
 refine au func84 z z ?_
 have s:=Sep.start w
 refine .g (.qn z (.g (.q z (.q z (.q z (.cu 3 14 ((decide (a0>=1))&&(decide (a0<=3))) s ?_ ?_))))))
 ·refine .both (decide (a0>=1)) (λb=>?_) (λb=>?_)
  ·have hg1:=b
   exact .g hg1 (.q z (.g hg1 (.q z (.s (pkt hg1 z z z) z (.nil (ck 3 s z (bi hg1)))))))
  exact .xx b z (.xx b z (.s (pkf b z z z) z (.nil (ck 3 s z (bj b)))))
 intro W s
 refine .q z (.cu 3 18 (((decide (a0>=1))&&(decide (a0<=3)))&&(decide (a1>=0))) s ?_ ?_)
 ·refine .both ((decide (a0>=1))&&(decide (a0<=3))) (λb=>?_) (λb=>?_)
  ·have hg2:=b
   exact .g hg2 (.q z (.g hg2 (.q z (.s (pkt hg2 z z z) z (.nil (ck 3 s z (bi hg2)))))))
  exact .xx b z (.xx b z (.s (pkf b z z z) z (.nil (ck 3 s z (bj b)))))
 intro W s
 refine .q z (.cu 4 23 ((((decide (a0>=1))&&(decide (a0<=3)))&&(decide (a1>=0)))&&(decide (a1<a0))) s ?_ ?_)
 ·refine .both (((decide (a0>=1))&&(decide (a0<=3)))&&(decide (a1>=0))) (λb=>?_) (λb=>?_)
  ·have hg3:=b
   exact .g hg3 (.q z (.g hg3 (.q z (.g hg3 (.q z (.s (pkt hg3 z z z) z (.nil (ck 4 s z (bi hg3)))))))))
  exact .xx b z (.xx b z (.xx b z (.s (pkf b z z z) z (.nil (ck 4 s z (bj b))))))
 intro W s
 refine .q z (.cu 3 27 (((((decide (a0>=1))&&(decide (a0<=3)))&&(decide (a1>=0)))&&(decide (a1<a0)))&&(decide (a2>=0))) s ?_ ?_)
 ·refine .both ((((decide (a0>=1))&&(decide (a0<=3)))&&(decide (a1>=0)))&&(decide (a1<a0))) (λb=>?_) (λb=>?_)
  ·have hg4:=b
   exact .g hg4 (.q z (.g hg4 (.q z (.s (pkt hg4 z z z) z (.nil (ck 3 s z (bi hg4)))))))
  exact .xx b z (.xx b z (.s (pkf b z z z) z (.nil (ck 3 s z (bj b)))))
 intro W s
 refine .q z (.cu 4 32 ((((((decide (a0>=1))&&(decide (a0<=3)))&&(decide (a1>=0)))&&(decide (a1<a0)))&&(decide (a2>=0)))&&(decide (a2<=a0))) s ?_ ?_)
 ·refine .both (((((decide (a0>=1))&&(decide (a0<=3)))&&(decide (a1>=0)))&&(decide (a1<a0)))&&(decide (a2>=0))) (λb=>?_) (λb=>?_)
  ·have hg5:=b
   exact .g hg5 (.q z (.g hg5 (.q z (.g hg5 (.q z (.s (pkt hg5 z z z) z (.nil (ck 4 s z (bi hg5)))))))))
  exact .xx b z (.xx b z (.xx b z (.s (pkf b z z z) z (.nil (ck 4 s z (bj b))))))
 intro W s
 refine .q z (bv h λb1 hb1 h=>.cu 3 36 (b1) s ?_ ?_)
 ·refine .both ((((((decide (a0>=1))&&(decide (a0<=3)))&&(decide (a1>=0)))&&(decide (a1<a0)))&&(decide (a2>=0)))&&(decide (a2<=a0))) (λb=>?_) (λb=>?_)
  ·have hg6:=b
   have h:=aK b hb1
   refine .g hg6 (.q z (bv h λy1 hy1 h=>.g hg6 (.c (.cO s func57 (gK hy1 (s.keep q_3)) z z ?_))))
   intro W s
   refine .s (pkt hg6 z z z) z ?_
   cases h
   exact .nil (ck 3 s)
  refine .xx b z (.xx b z ?_)
  cases aL b hb1
  exact .s (pkf b z z z) z (.nil (ck 3 s))
 intro W s
 obtain rfl:=o9 h
 exact .qn z (.ret (ac () (rt z rn) z (s.to [])))
theorem tL {a0:Box} {dL:Hd} {w:World} {r:Bool} (h:jY a0=some r) (kw:RO w dL 3 1 (D.int .i64) a0.Items):CL 133 #[.agg #[vi a0.Room,sv dL]] w (RU w (.bool r)):=by
 unfold jY at h
 refine au func133 z z ?_
 have s:=Sep.start w
 refine .g (.c (.box s z z ?_))
 intro g1 W s
 refine .qn z (.g (.s (fa f95_0 z z z) z (.s (ld T.t3 s z z z z z) z (.q z (.q z (.cu 4 10 ((decide (a0.Room>=1))&&(decide (a0.Room<=4))) s ?_ ?_))))))
 ·refine .both (decide (a0.Room>=1)) (λb=>?_) (λb=>?_)
  ·have hg1:=b
   exact .g hg1 (.s (fa f95_0 z z z) z (.g hg1 (.s (ld T.t3 s z z z z z) z (.g hg1 (.q z (.s (pkt hg1 z z z) z (.nil (ck 4 s z (bi hg1)))))))))
  exact .xx b z (.xx b z (.xx b z (.s (pkf b z z z) z (.nil (ck 4 s z (bj b))))))
 intro W s
 refine .q z (.cu 7 18 (((decide (a0.Room>=1))&&(decide (a0.Room<=4)))&&(decide ((a0.Items.length:Int)<=a0.Room))) s ?_ ?_)
 ·refine .both ((decide (a0.Room>=1))&&(decide (a0.Room<=4))) (λb=>?_) (λb=>?_)
  ·have hg2:=b
   exact .g hg2 (.s (fa f95_1 z z z) z (.g hg2 (.s (ld t23 s z z z z z) z (.g hg2 (.s (a8 (s.keep kw) u23 z z) z (.g hg2 (.s (fa f95_0 z z z) z (.g hg2 (.s (ld T.t3 s z z z z z) z (.g hg2 (.q z (.s (pkt hg2 z z z) z (.nil (ck 7 s z (bi hg2)))))))))))))))
  exact .xx b z (.xx b z (.xx b z (.xx b z (.xx b z (.xx b z (.s (pkf b z z z) z (.nil (ck 7 s z (bj b)))))))))
 intro W s
 refine .q z (bv h λb1 hb1 h=>.cu 4 23 (b1) s ?_ ?_)
 ·refine .both (((decide (a0.Room>=1))&&(decide (a0.Room<=4)))&&(decide ((a0.Items.length:Int)<=a0.Room))) (λb=>?_) (λb=>?_)
  ·have hg3:=b
   have h:=aK b hb1
   refine .g hg3 (.s (fa f95_1 z z z) z (.g hg3 (.s (ld t23 s z z z z z) z (bv h λy1 hy1 h=>.g hg3 (.c (.cO s func57 (gK hy1 (s.keep kw)) z z ?_))))))
   intro W s
   refine .s (pkt hg3 z z z) z ?_
   cases h
   exact .nil (ck 4 s)
  refine .xx b z (.xx b z (.xx b z ?_))
  cases aL b hb1
  exact .s (pkf b z z z) z (.nil (ck 4 s))
 intro W s
 obtain rfl:=o9 h
 exact .qn z (.ret (ac () (rt z rn) z (s.to [])))
def ss (w:World) (r:Bool):Env->World->Prop:=Fin Tryz.prog Tryz.f85 No w (λs:Unit=>.bool r) (λs=>[]) .ret
theorem nG {a0:List Box} {v_0:Hd} {w:World} {r:Bool} (h:fz a0=some r) (q_0:RO w v_0 95 2 aR a0):CL 85 #[sv v_0] w (RU w (.bool r)):=by
 unfold fz at h
 refine au func85 z z ?_
 have s:=Sep.start w
 refine .g (.qn z (.seq (.g (.q z (.s (a8 (s.keep q_0) u40 z z) z (.qn z (.block (bv h λy1 hy1 h=>?_))))))))
 refine .via (.iter (λs1 E' W'=>aD E' [(0,(sv v_0)),(5,(sv v_0)),(6,vi (a0.length:Int)),(7,vi s1)]/\Sep No w W' []) (λy2 x E' W'=>(match y2 with | .inl o1=>x=.ret/\ss w o1 E' W' | .inr o2=>x=.exit 0/\aD E' [(0,(sv v_0))]/\Sep No w W' [])) hy1 ⟨sb rfl,s.to [] rfl⟩ ?_) ?_
 ·intro s1 y3 E W h hI
  obtain ⟨hE,s⟩:=hI
  refine CW.sub hE ?_
  unfold fi at h
  refine .g (.qn z (.seq ?_))
  refine .cs z h ?_ ?_ <;> intro h
  ·refine .skip (.seq (.block (.g (bv h λx1 hx1 h=>?_))))
   obtain ⟨k1,hd,hck1⟩:=RV.el2 q_0 hx1
   have hd1:=ri hd
   obtain ⟨k1,rfl,hd2⟩:=dJ q_0 z hd1
   obtain ⟨v1,k1,rfl,q1,hd3⟩:=c9 q_0 hd2
   obtain rfl:=iq q_0 hd3
   refine .s (ixv (s.keep q_0) hx1 u40 t95 z z z) z (.s (lde (hck1 _ s.agree) t95 z z z z z) z (.c (.alloc t95 s ?_)))
   intro g1 W s
   refine .c (.st t95 s z z z ?_)
   intro W s
   refine .nil (.g (.s (ld t95 s z z z z z) z (bv h λy4 hy4 h=>.c (.cO s func133 (tL hy4 (s.keep (q1 _ q_0))) z z ?_))))
   intro W s
   refine .q z (.nil ?_)
   refine .cs z h ?_ ?_ <;> intro h
   ·refine .g (.qn z (.ret ?_))
    cases h
    exact ⟨by simp,z,ac (vs:=[_]) () (rt z rn) z (s.to [])⟩
   refine .skip (.region (.q z (.q z (.nil ?_))))
   cases h
   exact ⟨z,sb z,s.to []⟩
  refine .exit ?_
  cases h
  exact ⟨by simp,z,sb z,s.to []⟩
 intro x E W hJ
 rcases y1 with o3 | o4
 ·obtain ⟨rfl,hF⟩:=hJ
  refine ⟨_,λ_ _ h=>h,?_⟩
  cases h
  exact hF
 obtain ⟨rfl,hE,s⟩:=hJ
 refine ⟨_,hE.sub,?_⟩
 cases h
 exact .g (.q z (.s (a8 (s.keep q_0) u40 z z) z (.q z (.qn z (.ret (ac () (rt z rn) z (s.to [])))))))
theorem oq {a0:Int} {w:World} {r:Bool} (h:kh a0=some r):CL 205 #[vi a0] w (RU w (.bool r)):=by
 unfold kh at h
 refine au func205 z z ?_
 have s:=Sep.start w
 refine .g (.qn z (.g (.q z (.q z (.q z (.cu 3 8 ((decide (a0>=0))&&(decide (a0<12))) s ?_ ?_))))))
 ·refine .both (decide (a0>=0)) (λb=>?_) (λb=>?_)
  ·have hg1:=b
   exact .g hg1 (.q z (.g hg1 (.q z (.s (pkt hg1 z z z) z (.nil (ck 3 s z (bi hg1)))))))
  exact .xx b z (.xx b z (.s (pkf b z z z) z (.nil (ck 3 s z (bj b)))))
 intro W s
 cases h
 exact .qn z (.ret (ac () (rt z rn) z (s.to [])))
theorem uB {a0:Int} {w:World} {r:Bool} (h:la a0=some r):CL 206 #[vi a0] w (RU w (.bool r)):=by
 unfold la at h
 refine au func206 z z ?_
 have s:=Sep.start w
 refine .g (.qn z (.g (.q z (.q z (.q z (.cu 3 8 ((decide (a0>=1))&&(decide (a0<=12))) s ?_ ?_))))))
 ·refine .both (decide (a0>=1)) (λb=>?_) (λb=>?_)
  ·have hg1:=b
   exact .g hg1 (.q z (.g hg1 (.q z (.s (pkt hg1 z z z) z (.nil (ck 3 s z (bi hg1)))))))
  exact .xx b z (.xx b z (.s (pkf b z z z) z (.nil (ck 3 s z (bj b)))))
 intro W s
 cases h
 exact .qn z (.ret (ac () (rt z rn) z (s.to [])))
end
noncomputable section
theorem su {a0:ah} {a1:Int} {w:World} {r:Bool} (h:i4 a0 a1=some r):CL 178 #[.agg #[vi a0.Op,vi a0.Dst,vi a0.A,vi a0.B,vi a0.N],vi a1] w (RU w (.bool r)):=by
 unfold i4 at h
 refine au func178 z z ?_
 have s:=Sep.start w
 refine .g (.c (.box s z z ?_))
 intro g1 W s
 refine .qn z (.seq (.rk 15 s [0] T.mix ?_))
 intro W s
 have t:=s.to [0]
 refine .ts' 0 z (λW t=>fa f102_1 z z z) t z (.ts' 1 z (λW t=>ld T.t3 t z z z z z) t z (.ts' 3 z (λW t=>fa f102_2 z z z) t z (.ts' 4 z (λW t=>ld T.t3 t z z z z z) t z (.ts' 6 z (λW t=>fa f102_3 z z z) t z (.ts' 7 z (λW t=>ld T.t3 t z z z z z) t z (.ts' 9 z (λW t=>fa f102_4 z z z) t z (.ts' 10 z (λW t=>ld T.t3 t z z z z z) t z (bv h λy1 hy1 h=>.by1 2 z (.cO s func205 (oq hy1) z z ?_)))))))))
 intro W s
 refine s.an [0] λt=>bv h λy2 hy2 h=>.by1 5 z (.cO s func205 (oq hy2) z z ?_)
 intro W s
 refine s.an [0] λt=>bv h λy3 hy3 h=>.by1 8 z (.cO s func205 (oq hy3) z z ?_)
 intro W s
 refine s.an [0] λt=>.tp' 11 z z t (.tp' 12 z z t (.tp' 13 z z t (.tp' 14 z z t (.done (.seq (.g (.s (fa f102_0 z z z) z (.s (ld T.t3 s z z z z z) z (.nil (.block (.g (.q z (.q z (.nil ?_))))))))))))))
 refine .cs z h ?_ ?_ <;> intro h
 ·refine .g (.s (ld t102 s z z z z z) z (.s (fa f102_1 z z z) z (.s (ld T.t3 s z z z z z) z (.q z (.s (bs T.s102 z z) z (.s (eqs T.e102 z z z z) z (.q z (.cu 2 32 (((a0.Op==1)&&((a0.Dst==a0.Dst)&&((a0.A==0)&&((a0.B==0)&&((a0.N==a0.N)&&true)))))&&y1) s ?_ ?_))))))))
  ·refine .both (((a0.Op==1)&&((a0.Dst==a0.Dst)&&((a0.A==0)&&((a0.B==0)&&((a0.N==a0.N)&&true)))))) (λb=>?_) (λb=>?_)
   ·have hg1:=b
    exact .g hg1 (.q z (.s (pkt hg1 z z z) z (.nil (ck 2 s z (bi hg1)))))
   exact .xx b z (.s (pkf b z z z) z (.nil (ck 2 s z (bj b))))
  intro W s
  refine .q z (bv h λb1 hb1 h=>.cu 3 36 (b1) s ?_ ?_)
  ·refine .both (((a0.Op==1)&&((a0.Dst==a0.Dst)&&((a0.A==0)&&((a0.B==0)&&((a0.N==a0.N)&&true)))))&&y1) (λb=>?_) (λb=>?_)
   ·have hg2:=b
    have h:=aK b hb1
    refine .g hg2 (.q z (bv h λy4 hy4 h=>.g hg2 (.c (.cO s func105 (iG hy4) z z ?_))))
    intro W s
    refine .s (pkt hg2 z z z) z ?_
    cases h
    exact .nil (ck 3 s)
   refine .xx b z (.xx b z ?_)
   cases aL b hb1
   exact .s (pkf b z z z) z (.nil (ck 3 s))
  intro W s
  obtain rfl:=o9 h
  exact .qn z (.ret (ac () (rt z rn) z (s.to [])))
 refine .g (.q z (.q z (.nil ?_)))
 refine .cs z h ?_ ?_ <;> intro h
 ·refine .g (.s (ld t102 s z z z z z) z (.s (fa f102_1 z z z) z (.s (ld T.t3 s z z z z z) z (.s (fa f102_2 z z z) z (.s (ld T.t3 s z z z z z) z (.s (bs T.s102 z z) z (.s (eqs T.e102 z z z z) z (.q z (.cu 2 48 (((a0.Op==2)&&((a0.Dst==a0.Dst)&&((a0.A==a0.A)&&((a0.B==0)&&((a0.N==0)&&true)))))&&y1) s ?_ ?_)))))))))
  ·refine .both (((a0.Op==2)&&((a0.Dst==a0.Dst)&&((a0.A==a0.A)&&((a0.B==0)&&((a0.N==0)&&true)))))) (λb=>?_) (λb=>?_)
   ·have hg3:=b
    exact .g hg3 (.q z (.s (pkt hg3 z z z) z (.nil (ck 2 s z (bi hg3)))))
   exact .xx b z (.s (pkf b z z z) z (.nil (ck 2 s z (bj b))))
  intro W s
  refine .q z (.cu 2 51 ((((a0.Op==2)&&((a0.Dst==a0.Dst)&&((a0.A==a0.A)&&((a0.B==0)&&((a0.N==0)&&true)))))&&y1)&&y2) s ?_ ?_)
  ·refine .both (((a0.Op==2)&&((a0.Dst==a0.Dst)&&((a0.A==a0.A)&&((a0.B==0)&&((a0.N==0)&&true)))))&&y1) (λb=>?_) (λb=>?_)
   ·have hg4:=b
    exact .g hg4 (.q z (.s (pkt hg4 z z z) z (.nil (ck 2 s z (bi hg4)))))
   exact .xx b z (.s (pkf b z z z) z (.nil (ck 2 s z (bj b))))
  intro W s
  cases h
  exact .qn z (.ret (ac () (rt z rn) z (s.to [])))
 refine .g (.q z (.q z (.nil ?_)))
 refine .cs z h ?_ ?_ <;> intro h
 ·refine .g (.q z (.q z (.cu 2 57 (y1&&y2) s ?_ ?_)))
  ·refine .both (y1) (λb=>?_) (λb=>?_)
   ·have hg5:=b
    exact .g hg5 (.q z (.s (pkt hg5 z z z) z (.nil (ck 2 s z (bi hg5)))))
   exact .xx b z (.s (pkf b z z z) z (.nil (ck 2 s z (bj b))))
  intro W s
  refine .q z (.cu 2 60 ((y1&&y2)&&y3) s ?_ ?_)
  ·refine .both (y1&&y2) (λb=>?_) (λb=>?_)
   ·have hg6:=b
    exact .g hg6 (.q z (.s (pkt hg6 z z z) z (.nil (ck 2 s z (bi hg6)))))
   exact .xx b z (.s (pkf b z z z) z (.nil (ck 2 s z (bj b))))
  intro W s
  refine .q z (bv h λb2 hb2 h=>.cu 3 64 (b2) s ?_ ?_)
  ·refine .both ((y1&&y2)&&y3) (λb=>?_) (λb=>?_)
   ·have hg7:=b
    have h:=aK b hb2
    refine .g hg7 (.q z (bv h λy5 hy5 h=>.g hg7 (.c (.cO s func206 (uB hy5) z z ?_))))
    intro W s
    refine .s (pkt hg7 z z z) z ?_
    cases h
    exact .nil (ck 3 s)
   refine .xx b z (.xx b z ?_)
   cases aL b hb2
   exact .s (pkf b z z z) z (.nil (ck 3 s))
  intro W s
  obtain rfl:=o9 h
  exact .qn z (.ret (ac () (rt z rn) z (s.to [])))
 refine .g (.q z (.q z (.nil ?_)))
 refine .cs z h ?_ ?_ <;> intro h
 ·refine .g (.s (ld t102 s z z z z z) z (.q z (.s (bs T.s102 z z) z (.s (eqs T.e102 z z z z) z (.q z (.cu 3 74 (((a0.Op==4)&&((a0.Dst==0)&&((a0.A==0)&&((a0.B==0)&&((a0.N==a0.N)&&true)))))&&(decide (a0.N>=0))) s ?_ ?_))))))
  ·refine .both (((a0.Op==4)&&((a0.Dst==0)&&((a0.A==0)&&((a0.B==0)&&((a0.N==a0.N)&&true)))))) (λb=>?_) (λb=>?_)
   ·have hg8:=b
    exact .g hg8 (.q z (.g hg8 (.q z (.s (pkt hg8 z z z) z (.nil (ck 3 s z (bi hg8)))))))
   exact .xx b z (.xx b z (.s (pkf b z z z) z (.nil (ck 3 s z (bj b)))))
  intro W s
  refine .q z (.cu 4 79 ((((a0.Op==4)&&((a0.Dst==0)&&((a0.A==0)&&((a0.B==0)&&((a0.N==a0.N)&&true)))))&&(decide (a0.N>=0)))&&(decide (a0.N<a1))) s ?_ ?_)
  ·refine .both (((a0.Op==4)&&((a0.Dst==0)&&((a0.A==0)&&((a0.B==0)&&((a0.N==a0.N)&&true)))))&&(decide (a0.N>=0))) (λb=>?_) (λb=>?_)
   ·have hg9:=b
    exact .g hg9 (.q z (.g hg9 (.q z (.g hg9 (.q z (.s (pkt hg9 z z z) z (.nil (ck 4 s z (bi hg9)))))))))
   exact .xx b z (.xx b z (.xx b z (.s (pkf b z z z) z (.nil (ck 4 s z (bj b))))))
  intro W s
  cases h
  exact .qn z (.ret (ac () (rt z rn) z (s.to [])))
 refine .g (.q z (.q z (.nil ?_)))
 refine .cs z h ?_ ?_ <;> intro h
 ·refine .g (.s (ld t102 s z z z z z) z (.s (fa f102_2 z z z) z (.s (ld T.t3 s z z z z z) z (.q z (.s (bs T.s102 z z) z (.s (eqs T.e102 z z z z) z (.q z (.cu 2 90 (((a0.Op==5)&&((a0.Dst==0)&&((a0.A==a0.A)&&((a0.B==0)&&((a0.N==a0.N)&&true)))))&&y2) s ?_ ?_))))))))
  ·refine .both (((a0.Op==5)&&((a0.Dst==0)&&((a0.A==a0.A)&&((a0.B==0)&&((a0.N==a0.N)&&true)))))) (λb=>?_) (λb=>?_)
   ·have hg10:=b
    exact .g hg10 (.q z (.s (pkt hg10 z z z) z (.nil (ck 2 s z (bi hg10)))))
   exact .xx b z (.s (pkf b z z z) z (.nil (ck 2 s z (bj b))))
  intro W s
  refine .q z (.cu 3 94 ((((a0.Op==5)&&((a0.Dst==0)&&((a0.A==a0.A)&&((a0.B==0)&&((a0.N==a0.N)&&true)))))&&y2)&&(decide (a0.N>=0))) s ?_ ?_)
  ·refine .both (((a0.Op==5)&&((a0.Dst==0)&&((a0.A==a0.A)&&((a0.B==0)&&((a0.N==a0.N)&&true)))))&&y2) (λb=>?_) (λb=>?_)
   ·have hg11:=b
    exact .g hg11 (.q z (.g hg11 (.q z (.s (pkt hg11 z z z) z (.nil (ck 3 s z (bi hg11)))))))
   exact .xx b z (.xx b z (.s (pkf b z z z) z (.nil (ck 3 s z (bj b)))))
  intro W s
  refine .q z (.cu 4 99 (((((a0.Op==5)&&((a0.Dst==0)&&((a0.A==a0.A)&&((a0.B==0)&&((a0.N==a0.N)&&true)))))&&y2)&&(decide (a0.N>=0)))&&(decide (a0.N<a1))) s ?_ ?_)
  ·refine .both ((((a0.Op==5)&&((a0.Dst==0)&&((a0.A==a0.A)&&((a0.B==0)&&((a0.N==a0.N)&&true)))))&&y2)&&(decide (a0.N>=0))) (λb=>?_) (λb=>?_)
   ·have hg12:=b
    exact .g hg12 (.q z (.g hg12 (.q z (.g hg12 (.q z (.s (pkt hg12 z z z) z (.nil (ck 4 s z (bi hg12)))))))))
   exact .xx b z (.xx b z (.xx b z (.s (pkf b z z z) z (.nil (ck 4 s z (bj b))))))
  intro W s
  cases h
  exact .qn z (.ret (ac () (rt z rn) z (s.to [])))
 refine .g (.q z (.q z (.nil ?_)))
 refine .cs z h ?_ ?_ <;> intro h
 ·refine .g (.s (ld t102 s z z z z z) z (.s (fa f102_2 z z z) z (.s (ld T.t3 s z z z z z) z (.q z (.s (bs T.s102 z z) z (.s (eqs T.e102 z z z z) z (.q z (.cu 2 110 (((a0.Op==6)&&((a0.Dst==0)&&((a0.A==a0.A)&&((a0.B==0)&&((a0.N==a0.N)&&true)))))&&y2) s ?_ ?_))))))))
  ·refine .both (((a0.Op==6)&&((a0.Dst==0)&&((a0.A==a0.A)&&((a0.B==0)&&((a0.N==a0.N)&&true)))))) (λb=>?_) (λb=>?_)
   ·have hg13:=b
    exact .g hg13 (.q z (.s (pkt hg13 z z z) z (.nil (ck 2 s z (bi hg13)))))
   exact .xx b z (.s (pkf b z z z) z (.nil (ck 2 s z (bj b))))
  intro W s
  refine .q z (.cu 3 114 ((((a0.Op==6)&&((a0.Dst==0)&&((a0.A==a0.A)&&((a0.B==0)&&((a0.N==a0.N)&&true)))))&&y2)&&(decide (a0.N>=0))) s ?_ ?_)
  ·refine .both (((a0.Op==6)&&((a0.Dst==0)&&((a0.A==a0.A)&&((a0.B==0)&&((a0.N==a0.N)&&true)))))&&y2) (λb=>?_) (λb=>?_)
   ·have hg14:=b
    exact .g hg14 (.q z (.g hg14 (.q z (.s (pkt hg14 z z z) z (.nil (ck 3 s z (bi hg14)))))))
   exact .xx b z (.xx b z (.s (pkf b z z z) z (.nil (ck 3 s z (bj b)))))
  intro W s
  refine .q z (.cu 3 118 (((((a0.Op==6)&&((a0.Dst==0)&&((a0.A==a0.A)&&((a0.B==0)&&((a0.N==a0.N)&&true)))))&&y2)&&(decide (a0.N>=0)))&&(decide (a0.N<3))) s ?_ ?_)
  ·refine .both ((((a0.Op==6)&&((a0.Dst==0)&&((a0.A==a0.A)&&((a0.B==0)&&((a0.N==a0.N)&&true)))))&&y2)&&(decide (a0.N>=0))) (λb=>?_) (λb=>?_)
   ·have hg15:=b
    exact .g hg15 (.q z (.g hg15 (.q z (.s (pkt hg15 z z z) z (.nil (ck 3 s z (bi hg15)))))))
   exact .xx b z (.xx b z (.s (pkf b z z z) z (.nil (ck 3 s z (bj b)))))
  intro W s
  cases h
  exact .qn z (.ret (ac () (rt z rn) z (s.to [])))
 refine .g (.q z (.q z (.nil ?_)))
 refine .cs z h ?_ ?_ <;> intro h
 ·refine .g (.s (ld t102 s z z z z z) z (.s (fa f102_1 z z z) z (.s (ld T.t3 s z z z z z) z (.q z (.s (bs T.s102 z z) z (.s (eqs T.e102 z z z z) z (.q z (.cu 2 129 (((a0.Op==7)&&((a0.Dst==a0.Dst)&&((a0.A==0)&&((a0.B==0)&&((a0.N==a0.N)&&true)))))&&y1) s ?_ ?_))))))))
  ·refine .both (((a0.Op==7)&&((a0.Dst==a0.Dst)&&((a0.A==0)&&((a0.B==0)&&((a0.N==a0.N)&&true)))))) (λb=>?_) (λb=>?_)
   ·have hg16:=b
    exact .g hg16 (.q z (.s (pkt hg16 z z z) z (.nil (ck 2 s z (bi hg16)))))
   exact .xx b z (.s (pkf b z z z) z (.nil (ck 2 s z (bj b))))
  intro W s
  refine .q z (.cu 3 133 ((((a0.Op==7)&&((a0.Dst==a0.Dst)&&((a0.A==0)&&((a0.B==0)&&((a0.N==a0.N)&&true)))))&&y1)&&(decide (a0.N>=0))) s ?_ ?_)
  ·refine .both (((a0.Op==7)&&((a0.Dst==a0.Dst)&&((a0.A==0)&&((a0.B==0)&&((a0.N==a0.N)&&true)))))&&y1) (λb=>?_) (λb=>?_)
   ·have hg17:=b
    exact .g hg17 (.q z (.g hg17 (.q z (.s (pkt hg17 z z z) z (.nil (ck 3 s z (bi hg17)))))))
   exact .xx b z (.xx b z (.s (pkf b z z z) z (.nil (ck 3 s z (bj b)))))
  intro W s
  refine .q z (.cu 3 137 (((((a0.Op==7)&&((a0.Dst==a0.Dst)&&((a0.A==0)&&((a0.B==0)&&((a0.N==a0.N)&&true)))))&&y1)&&(decide (a0.N>=0)))&&(decide (a0.N<3))) s ?_ ?_)
  ·refine .both ((((a0.Op==7)&&((a0.Dst==a0.Dst)&&((a0.A==0)&&((a0.B==0)&&((a0.N==a0.N)&&true)))))&&y1)&&(decide (a0.N>=0))) (λb=>?_) (λb=>?_)
   ·have hg18:=b
    exact .g hg18 (.q z (.g hg18 (.q z (.s (pkt hg18 z z z) z (.nil (ck 3 s z (bi hg18)))))))
   exact .xx b z (.xx b z (.s (pkf b z z z) z (.nil (ck 3 s z (bj b)))))
  intro W s
  cases h
  exact .qn z (.ret (ac () (rt z rn) z (s.to [])))
 refine .g (.q z (.q z (.nil ?_)))
 refine .cs z h ?_ ?_ <;> intro h
 ·refine .g (.s (ld t102 s z z z z z) z (.s (fa f102_2 z z z) z (.s (ld T.t3 s z z z z z) z (.s (bs T.s102 z z) z (.s (eqs T.e102 z z z z) z (.q z (.cu 2 147 (((a0.Op==9)&&((a0.Dst==0)&&((a0.A==a0.A)&&((a0.B==0)&&((a0.N==0)&&true)))))&&y2) s ?_ ?_)))))))
  ·refine .both (((a0.Op==9)&&((a0.Dst==0)&&((a0.A==a0.A)&&((a0.B==0)&&((a0.N==0)&&true)))))) (λb=>?_) (λb=>?_)
   ·have hg19:=b
    exact .g hg19 (.q z (.s (pkt hg19 z z z) z (.nil (ck 2 s z (bi hg19)))))
   exact .xx b z (.s (pkf b z z z) z (.nil (ck 2 s z (bj b))))
  intro W s
  cases h
  exact .qn z (.ret (ac () (rt z rn) z (s.to [])))
 refine bv h λy6 hy6 h=>?_
 refine .seq (CW.via (R':=λx E' W'=>x=.normal/\aD E' [(2,Pt g1),(148,.bool y6)]/\Sep No w W' [.box g1 102 [vi a0.Op,vi a0.Dst,vi a0.A,vi a0.B,vi a0.N]]) ?_ ?_)
 ·have h:=hy6
  refine .g (.q z (.q z (.nil ?_)))
  refine .cs z h ?_ ?_ <;> intro h
  ·refine .skip ?_
   cases h
   exact ⟨z,sb z,s.to [0]⟩
  refine .region (.q z (.q z (.nil ?_)))
  cases h
  exact ⟨z,sb z,s.to [0]⟩
 intro x E W hJ
 obtain ⟨rfl,hE,s⟩:=hJ
 refine ⟨_,hE.sub,?_⟩
 refine .cs z h ?_ ?_ <;> intro h
 ·cases h
  exact .g (.s (ld t102 s z z z z z) z (.s (fa f102_0 z z z) z (.s (ld T.t3 s z z z z z) z (.s (bs T.s102 z z) z (.s (eqs T.e102 z z z z) z (.qn z (.ret (ac () (rt z rn) z (s.to [])))))))))
 obtain rfl:=o9 h
 exact .skip (.g (.qn z (.ret (ac () (rt z rn) z (s.to [])))))
def tM (w:World) (r:Bool):Env->World->Prop:=Fin Tryz.prog Tryz.f134 No w (λs:Unit=>.bool r) (λs=>[]) .ret
theorem nZ {a0:List ah} {v_0:Hd} {w:World} {r:Bool} (h:eo a0=some r) (q_0:RO w v_0 102 5 aq a0):CL 134 #[sv v_0] w (RU w (.bool r)):=by
 unfold eo at h
 refine au func134 z z ?_
 have s:=Sep.start w
 refine .g (.qn z (.seq (.g (.q z (.s (a8 (s.keep q_0) u78 z z) z (.q z (.q z (.cu 4 13 ((decide ((a0.length:Int)<1))||(decide ((a0.length:Int)>600))) s ?_ ?_))))))))
 ·refine .both (decide ((a0.length:Int)<1)) (λb=>?_) (λb=>?_)
  ·exact .xx b z (.xx b z (.xx b z (.s (pkt b z z z) z (.nil (ck 4 s z (ff b))))))
  have hg1:=b
  exact .g hg1 (.q z (.g hg1 (.s (a8 (s.keep q_0) u78 z z) z (.g hg1 (.q z (.s (pkf hg1 z z z) z (.nil (ck 4 s z (fg hg1)))))))))
 intro W s
 refine .nil ?_
 refine .cs z h ?_ ?_ <;> intro h
 ·obtain rfl:=o9 h
  exact .g (.qn z (.ret (ac () (rt z rn) z (s.to []))))
 refine .skip (.seq (.g (.q z (.s (a8 (s.keep q_0) u78 z z) z (.qn z (.block (bv h λy1 hy1 h=>?_)))))))
 refine .via (.iter (λs1 E' W'=>aD E' [(0,(sv v_0)),(14,(sv v_0)),(15,vi (a0.length:Int)),(16,vi s1)]/\Sep No w W' []) (λy2 x E' W'=>(match y2 with | .inl o1=>x=.ret/\tM w o1 E' W' | .inr o2=>x=.exit 0/\aD E' [(0,(sv v_0))]/\Sep No w W' [])) hy1 ⟨sb rfl,s.to [] rfl⟩ ?_) ?_
 ·intro s1 y3 E W h hI
  obtain ⟨hE,s⟩:=hI
  refine CW.sub hE ?_
  unfold lb at h
  refine .g (.qn z (.seq ?_))
  refine .cs z h ?_ ?_ <;> intro h
  ·refine .skip (.seq (.block (.g (bv h λx1 hx1 h=>.s (ixv (s.keep q_0) hx1 u78 t102 z z z) z (.s (lde (RV.flat (s.keep q_0) hx1 z) t102 z z z z z) z (.c (.alloc t102 s ?_)))))))
   intro g1 W s
   refine .c (.st t102 s z z z ?_)
   intro W s
   refine .nil (.g (.s (ld t102 s z z z z z) z (.q z (.s (a8 (s.keep q_0) u78 z z) z (bv h λy4 hy4 h=>.c (.cO s func178 (su hy4) z z ?_))))))
   intro W s
   refine .q z (.nil ?_)
   refine .cs z h ?_ ?_ <;> intro h
   ·refine .g (.qn z (.ret ?_))
    cases h
    exact ⟨by simp,z,ac (vs:=[_]) () (rt z rn) z (s.to [])⟩
   refine .skip (.region (.q z (.q z (.nil ?_))))
   cases h
   exact ⟨z,sb z,s.to []⟩
  refine .exit ?_
  cases h
  exact ⟨by simp,z,sb z,s.to []⟩
 intro x E W hJ
 rcases y1 with o3 | o4
 ·obtain ⟨rfl,hF⟩:=hJ
  refine ⟨_,λ_ _ h=>h,?_⟩
  cases h
  exact hF
 obtain ⟨rfl,hE,s⟩:=hJ
 refine ⟨_,hE.sub,?_⟩
 refine .g (.q z (.q z (.s (a8 (s.keep q_0) u78 z z) z (.q z (bv h λx2 hx2 h=>.s (ixv (s.keep q_0) hx2 u78 t102 z z z) z (.s (fe f102_0 z z z) z (.s (lde (RV.flat (s.keep q_0) hx2 z) T.t3 z z z z z) z (.qn z (.g (.q z (.q z (.q z (.cu 3 38 ((x2.Op==10)||(x2.Op==4)) s ?_ ?_)))))))))))))
 ·refine .both (x2.Op==10) (λb=>?_) (λb=>?_)
  ·exact .xx b z (.xx b z (.s (pkt b z z z) z (.nil (ck 3 s z (ff b)))))
  have hg2:=b
  exact .g hg2 (.q z (.g hg2 (.q z (.s (pkf hg2 z z z) z (.nil (ck 3 s z (fg hg2)))))))
 intro W s
 cases h
 exact .qn z (.ret (ac () (rt z rn) z (s.to [])))
theorem rE {a0:bk} {a1:List ah} {ao:Hd} {v_1:Hd} {w:World} {r:Bool} (h:j4 a0 a1=some r) (dK:RO w ao 3 1 (D.int .i64) a0.Regs) (q_1:RO w v_1 102 5 aq a1):CL 135 #[.agg #[sv ao,vi a0.Pc],sv v_1] w (RU w (.bool r)):=by
 unfold j4 at h
 refine au func135 z z ?_
 have s:=Sep.start w
 refine .g (.c (.box s z z ?_))
 intro g1 W s
 refine .qn z (.g (.s (fa f60_0 z z z) z (.s (ld t23 s z z z z z) z (.s (a8 (s.keep dK) u23 z z) z (.q z (.q z (bv h λb1 hb1 h=>.cu 4 13 (b1) s ?_ ?_)))))))
 ·refine .both ((a0.Regs.length:Int)==12) (λb=>?_) (λb=>?_)
  ·have hg1:=b
   have h:=aK b hb1
   refine .g hg1 (.s (fa f60_0 z z z) z (.g hg1 (.s (ld t23 s z z z z z) z (bv h λy1 hy1 h=>.g hg1 (.c (.cO s func57 (gK hy1 (s.keep dK)) z z ?_))))))
   intro W s
   refine .s (pkt hg1 z z z) z ?_
   cases h
   exact .nil (ck 4 s)
  refine .xx b z (.xx b z (.xx b z ?_))
  cases aL b hb1
  exact .s (pkf b z z z) z (.nil (ck 4 s))
 intro W s
 refine .q z (.cu 4 18 (b1&&(decide (a0.Pc>=0))) s ?_ ?_)
 ·refine .both (b1) (λb=>?_) (λb=>?_)
  ·have hg2:=b
   exact .g hg2 (.s (fa f60_1 z z z) z (.g hg2 (.s (ld T.t3 s z z z z z) z (.g hg2 (.q z (.s (pkt hg2 z z z) z (.nil (ck 4 s z (bi hg2)))))))))
  exact .xx b z (.xx b z (.xx b z (.s (pkf b z z z) z (.nil (ck 4 s z (bj b))))))
 intro W s
 refine .q z (.cu 6 25 ((b1&&(decide (a0.Pc>=0)))&&(decide (a0.Pc<(a1.length:Int)))) s ?_ ?_)
 ·refine .both (b1&&(decide (a0.Pc>=0))) (λb=>?_) (λb=>?_)
  ·have hg3:=b
   exact .g hg3 (.s (fa f60_1 z z z) z (.g hg3 (.s (ld T.t3 s z z z z z) z (.g hg3 (.q z (.g hg3 (.s (a8 (s.keep q_1) u78 z z) z (.g hg3 (.q z (.s (pkt hg3 z z z) z (.nil (ck 6 s z (bi hg3)))))))))))))
  exact .xx b z (.xx b z (.xx b z (.xx b z (.xx b z (.s (pkf b z z z) z (.nil (ck 6 s z (bj b))))))))
 intro W s
 cases h
 exact .qn z (.ret (ac () (rt z rn) z (s.to [])))
theorem qN {a0:bk} {a1:List ah} {ao:Hd} {v_1:Hd} {w:World} {r:Bool} (h:eV a0 a1=some r) (dK:RO w ao 3 1 (D.int .i64) a0.Regs) (q_1:RO w v_1 102 5 aq a1):CL 86 #[.agg #[sv ao,vi a0.Pc],sv v_1] w (RU w (.bool r)):=by
 unfold eV at h
 refine au func86 z z ?_
 have s:=Sep.start w
 refine .g (.c (.box s z z ?_))
 intro g1 W s
 refine .qn z (.g (.q z (bv h λy1 hy1 h=>.c (.cO s func134 (nZ hy1 (s.keep q_1)) z z ?_))))
 intro W s
 refine .q z (bv h λb1 hb1 h=>.cu 4 11 (b1) s ?_ ?_)
 ·refine .both (y1) (λb=>?_) (λb=>?_)
  ·have hg1:=b
   have h:=aK b hb1
   refine .g hg1 (.s (ld t60 s z z z z z) z (.g hg1 (.q z (bv h λy2 hy2 h=>.g hg1 (.c (.cO s func135 (rE hy2 (s.keep dK) (s.keep q_1)) z z ?_))))))
   intro W s
   refine .s (pkt hg1 z z z) z ?_
   cases h
   exact .nil (ck 4 s)
  refine .xx b z (.xx b z (.xx b z ?_))
  cases aL b hb1
  exact .s (pkf b z z z) z (.nil (ck 4 s))
 intro W s
 obtain rfl:=o9 h
 exact .qn z (.ret (ac () (rt z rn) z (s.to [])))
theorem tN {a0:ah} {a1:Int} {w:World} {r:Bool} (h:jZ a0 a1=some r):CL 87 #[.agg #[vi a0.Op,vi a0.Dst,vi a0.A,vi a0.B,vi a0.N],vi a1] w (RU w (.bool r)):=by
 unfold jZ at h
 refine au func87 z z ?_
 have s:=Sep.start w
 refine .g (.c (.box s z z ?_))
 intro g1 W s
 refine .qn z (.g (.s (fa f102_0 z z z) z (.s (ld T.t3 s z z z z z) z (.q z (.q z (.cu 4 12 ((a0.Op !=6)&&(a0.Op !=7)) s ?_ ?_))))))
 ·refine .both (a0.Op !=6) (λb=>?_) (λb=>?_)
  ·have hg1:=b
   exact .g hg1 (.s (fa f102_0 z z z) z (.g hg1 (.s (ld T.t3 s z z z z z) z (.g hg1 (.q z (.s (pkt hg1 z z z) z (.nil (ck 4 s z (bi hg1)))))))))
  exact .xx b z (.xx b z (.xx b z (.s (pkf b z z z) z (.nil (ck 4 s z (bj b))))))
 intro W s
 refine .q z (.cu 5 18 (((a0.Op !=6)&&(a0.Op !=7))||(decide (a0.N<a1))) s ?_ ?_)
 ·refine .both ((a0.Op !=6)&&(a0.Op !=7)) (λb=>?_) (λb=>?_)
  ·exact .xx b z (.xx b z (.xx b z (.xx b z (.s (pkt b z z z) z (.nil (ck 5 s z (ff b)))))))
  have hg2:=b
  exact .g hg2 (.s (fa f102_4 z z z) z (.g hg2 (.s (ld T.t3 s z z z z z) z (.g hg2 (.q z (.g hg2 (.q z (.s (pkf hg2 z z z) z (.nil (ck 5 s z (fg hg2)))))))))))
 intro W s
 cases h
 exact .qn z (.ret (ac () (rt z rn) z (s.to [])))
def oQ (w:World) (r:Bool):Env->World->Prop:=Fin Tryz.prog Tryz.f43 No w (λs:Unit=>.bool r) (λs=>[]) .ret
theorem n8 {a0:cI} {bt:Hd} {aY:Hd} {ba:Hd} {bZ:Hd} {w:World} {r:Bool} (h:dC a0=some r) (bz:RO w bt 78 1 (λ(l:List ah)=>D.row 102 5 (l.map aq)) a0.Codes) (aH:RO w aY 60 2 ay a0.Threads) (cR:RO w ba 95 2 aR a0.Boxes) (dU:RO w bZ 3 1 (D.int .i64) a0.Out):CL 43 #[.agg #[sv bt,sv aY,sv ba,vi a0.Turn,vi a0.Idle,sv bZ]] w (RU w (.bool r)):=by
 unfold dC at h
 refine au func43 z z ?_
 have s:=Sep.start w
 refine .g (.c (.box s z z ?_))
 intro g1 W s
 refine .qn z (.seq (.g (.s (fa f42_0 z z z) z (.s (ld t36 s z z z z z) z (.s (a8 (s.keep bz) u36 z z) z (.s (fa f42_3 z z z) z (.s (ld T.t3 s z z z z z) z (.s (fa f42_4 z z z) z (.s (ld T.t3 s z z z z z) z (.s (fa f42_5 z z z) z (.s (ld t23 s z z z z z) z (bv h λy1 hy1 h=>.c (.cO s func84 (nF hy1 (s.keep dU)) z z ?_)))))))))))))
 intro W s
 refine .q z (.q z (.cu 8 26 ((!y1)||((a0.Threads.length:Int) !=(a0.Codes.length:Int))) s ?_ ?_))
 ·refine .both (!y1) (λb=>?_) (λb=>?_)
  ·exact .xx b z (.xx b z (.xx b z (.xx b z (.xx b z (.xx b z (.xx b z (.s (pkt b z z z) z (.nil (ck 8 s z (ff b))))))))))
  have hg1:=b
  exact .g hg1 (.s (fa f42_1 z z z) z (.g hg1 (.s (ld t39 s z z z z z) z (.g hg1 (.s (a8 (s.keep aH) u39 z z) z (.g hg1 (.s (fa f42_0 z z z) z (.g hg1 (.s (ld t36 s z z z z z) z (.g hg1 (.s (a8 (s.keep bz) u36 z z) z (.g hg1 (.q z (.s (pkf hg1 z z z) z (.nil (ck 8 s z (fg hg1)))))))))))))))))
 intro W s
 refine .q z (bv h λb1 hb1 h=>.cu 5 32 (b1) s ?_ ?_)
 ·refine .both ((!y1)||((a0.Threads.length:Int) !=(a0.Codes.length:Int))) (λb=>?_) (λb=>?_)
  ·refine .xx b z (.xx b z (.xx b z (.xx b z ?_)))
   cases aK b hb1
   exact .s (pkt b z z z) z (.nil (ck 5 s))
  have hg2:=b
  have h:=aL b hb1
  refine .g hg2 (.s (fa f42_2 z z z) z (.g hg2 (.s (ld t40 s z z z z z) z (bv h λy2 hy2 h=>.g hg2 (.c (.cO s func85 (nG hy2 (s.keep cR)) z z ?_))))))
  intro W s
  refine .g hg2 (.q z (.s (pkf hg2 z z z) z ?_))
  cases h
  exact .nil (ck 5 s)
 intro W s
 refine .nil ?_
 refine .cs z h ?_ ?_ <;> intro h
 ·obtain rfl:=o9 h
  exact .g (.qn z (.ret (ac () (rt z rn) z (s.to []))))
 refine .skip (.seq (.g (.s (fa f42_0 z z z) z (.s (ld t36 s z z z z z) z (.s (a8 (s.keep bz) u36 z z) z (.qn z (.block (bv h λy3 hy3 h=>?_))))))))
 refine .via (.iter (λs1 E' W'=>aD E' [(1,Pt g1),(34,(sv bt)),(35,vi (a0.Codes.length:Int)),(36,vi s1)]/\Sep No w W' [.box g1 42 [sv bt,sv aY,sv ba,vi a0.Turn,vi a0.Idle,sv bZ]]) (λy4 x E' W'=>(match y4 with | .inl o1=>x=.ret/\oQ w o1 E' W' | .inr o2=>x=.exit 0/\aD E' []/\Sep No w W' [.box g1 42 [sv bt,sv aY,sv ba,vi a0.Turn,vi a0.Idle,sv bZ]])) hy3 ⟨sb rfl,s.to [0] rfl⟩ ?_) ?_
 ·intro s1 y5 E W h hI
  obtain ⟨hE,s⟩:=hI
  refine CW.sub hE ?_
  unfold dy at h
  refine .g (.qn z (.seq ?_))
  refine .cs z h ?_ ?_ <;> intro h
  ·refine .skip (.seq (.block (.g (.q z (bv h λx1 hx1 h=>?_)))))
   obtain ⟨k1,hd,hck1⟩:=RV.el2 bz hx1
   obtain ⟨v1,k1,rfl,q1,hd1⟩:=c9 bz hd
   obtain rfl:=iq bz hd1
   refine .s (ixv (s.keep bz) hx1 u36 t78 z z z) z (.s (lde (hck1 _ s.agree) t78 z z z z z) z (.q z (.qn z (.seq (.g (.s (fa f42_1 z z z) z (.s (ld t39 s z z z z z) z (.q z (bv h λx2 hx2 h=>?_)))))))))
   obtain ⟨k2,hd,hck2⟩:=RV.el2 aH hx2
   have hd1:=ri hd
   obtain ⟨v2,k2,rfl,q2,hd2⟩:=c9 aH hd1
   obtain ⟨k2,rfl,hd3⟩:=dJ aH z hd2
   obtain rfl:=iq aH hd3
   refine .s (ixv (s.keep aH) hx2 u39 t60 z z z) z (.s (lde (hck2 _ s.agree) t60 z z z z z) z (.q z (bv h λy6 hy6 h=>.c (.cO s func86 (qN hy6 (s.keep (q2 _ aH)) (s.keep (q1 _ bz))) z z ?_))))
   intro W s
   refine .q z (.nil ?_)
   refine .cs z h ?_ ?_ <;> intro h
   ·refine .g (.qn z (.ret ?_))
    cases h
    exact ⟨by simp,z,ac (vs:=[_]) () (rt z rn) z (s.to [])⟩
   refine .skip (.g (.q z (.s (a8 (s.keep (q1 _ bz)) u78 z z) z (.qn z (.block (bv h λy7 hy7 h=>?_))))))
   refine .via (.iter (λs2 E' W'=>aD E' [(1,Pt g1),(34,(sv bt)),(35,vi (a0.Codes.length:Int)),(36,vi s1),(49,(sv v1)),(50,vi (x1.length:Int)),(51,vi s2)]/\Sep No w W' [.box g1 42 [sv bt,sv aY,sv ba,vi a0.Turn,vi a0.Idle,sv bZ]]) (λy8 x E' W'=>(match y8 with | .inl o3=>x=.ret/\oQ w o3 E' W' | .inr o4=>x=.exit 2/\aD E' [(1,Pt g1),(34,(sv bt)),(35,vi (a0.Codes.length:Int)),(36,vi s1)]/\Sep No w W' [.box g1 42 [sv bt,sv aY,sv ba,vi a0.Turn,vi a0.Idle,sv bZ]])) hy7 ⟨sb rfl,s.to [0] rfl⟩ ?_) ?_
   ·intro s2 y9 E W h hI
    obtain ⟨hE,s⟩:=hI
    refine CW.sub hE ?_
    unfold dx at h
    refine .g (.qn z (.seq ?_))
    refine .cs z h ?_ ?_ <;> intro h
    ·refine .skip (.seq (.block (.g (bv h λx3 hx3 h=>.s (ixv (s.keep (q1 _ bz)) hx3 u78 t102 z z z) z (.s (lde (RV.flat (s.keep (q1 _ bz)) hx3 z) t102 z z z z z) z (.c (.alloc t102 s ?_)))))))
     intro g2 W s
     refine .c (.st t102 s z z z ?_)
     intro W s
     refine .nil (.g (.s (ld t102 s z z z z z) z (.s (fa f42_2 z z z) z (.s (ld t40 s.p1 z z z z z) z (.s (a8 (s.keep cR) u40 z z) z (bv h λy10 hy10 h=>.c (.cO s func87 (tN hy10) z z ?_)))))))
     intro W s
     refine .q z (.nil ?_)
     refine .cs z h ?_ ?_ <;> intro h
     ·refine .g (.qn z (.ret ?_))
      cases h
      exact ⟨by simp,z,ac (vs:=[_]) () (rt z rn) z (s.to [])⟩
     refine .skip (.region (.q z (.q z (.nil ?_))))
     cases h
     exact ⟨z,sb z,s.to [1]⟩
    refine .exit ?_
    cases h
    exact ⟨by simp,z,sb z,s.to [0]⟩
   intro x E W hJ
   rcases y7 with o5 | o6
   ·obtain ⟨rfl,hF⟩:=hJ
    refine ⟨_,λ_ _ h=>h,?_⟩
    cases h
    exact ⟨by simp,z,hF⟩
   obtain ⟨rfl,hE,s⟩:=hJ
   refine ⟨_,hE.sub,?_⟩
   refine .region (.q z (.q z (.nil ?_)))
   cases h
   exact ⟨z,sb z,s.to [0]⟩
  refine .exit ?_
  cases h
  exact ⟨by simp,z,sb z,s.to [0]⟩
 intro x E W hJ
 rcases y3 with o7 | o8
 ·obtain ⟨rfl,hF⟩:=hJ
  refine ⟨_,λ_ _ h=>h,?_⟩
  cases h
  exact hF
 obtain ⟨rfl,hE,s⟩:=hJ
 refine ⟨_,hE.sub,?_⟩
 obtain rfl:=o9 h
 exact .g (.qn z (.ret (ac () (rt z rn) z (s.to []))))
theorem pF {a0:List Int} {a1:List (List ah)} {v_0:Hd} {v_1:Hd} {w:World} {r:cI×Bool} (h:cY a0 a1=some r) (q_0:RO w v_0 3 1 (D.int .i64) a0) (q_1:RO w v_1 78 1 (λ(l:List ah)=>D.row 102 5 (l.map aq)) a1):CL 17 #[sv v_0,sv v_1] w (Ret No w (λs:Hd×Hd×Hd×Hd=>.tuple #[.agg #[(sv s.1),(sv s.2.1),(sv s.2.2.1),vi r.1.Turn,vi r.1.Idle,(sv s.2.2.2)],.bool r.2]) (λs=>[ae (sv s.1) 78 1 (λ(l:List ah)=>D.row 102 5 (l.map aq)) r.1.Codes,ae (sv s.2.1) 60 2 ay r.1.Threads,ae (sv s.2.2.1) 95 2 aR r.1.Boxes,ae (sv s.2.2.2) 3 1 (D.int .i64) r.1.Out])):=by
 unfold cY at h
 refine au func17 z z ?_
 have s:=Sep.start w
 refine .g (.c (.alloc t42 s ?_))
 intro g1 W s
 refine .qn z (.g (.q z (bv h λy1 hy1 h=>.c (.cV s func41 (lD hy1 (s.keep q_1)) z z ?_))))
 intro v1 W s
 refine .q z (bv h λy2 hy2 h=>.c (.cV s func42 (oP hy2 (s.keep q_0)) z z ?_))
 intro v2 W s
 refine .s (bs T.s42 z z) z (.c (.alloc t42 s ?_))
 intro g2 W s
 refine .c (.st t42 s z z z ?_)
 intro W s
 refine .nil (.seq (.g (.q z (.s (a8 (s.keep q_1) u36 z z) z (.qn z (.block ?_))))))
 have s:=s.nilv 60 2 ay
 refine bv h λy3 hy3 h=>?_
 refine .via (.iter (λs1 E' W'=>∃ (v5:Hd),aD E' [(0,(sv v_0)),(4,Pt g1),(6,Pt g2),(13,vi (a1.length:Int)),(14,vi s1.1)]/\Sep No w W' [.box g2 42 [sv v1,sv v5,sv v2,vi 0,vi 0,sv aA],ae (sv v2) 95 2 aR y2,ae (sv v1) 78 1 (λ(l:List ah)=>D.row 102 5 (l.map aq)) y1,.box g1 42 [sv aA,sv aA,sv aA,vi 0,vi 0,sv aA],ae (sv v5) 60 2 ay s1.2]) (λy4 x E' W'=>x=.exit 0/\∃ (v6:Hd),aD E' [(0,(sv v_0)),(4,Pt g1),(6,Pt g2)]/\Sep No w W' [.box g2 42 [sv v1,sv v6,sv v2,vi 0,vi 0,sv aA],ae (sv v2) 95 2 aR y2,ae (sv v1) 78 1 (λ(l:List ah)=>D.row 102 5 (l.map aq)) y1,.box g1 42 [sv aA,sv aA,sv aA,vi 0,vi 0,sv aA],ae (sv v6) 60 2 ay y4]) hy3 ⟨aA,sb z,s.to [1,1,1,1,0]⟩ ?_) ?_
 ·intro s1 y5 E W h hI
  obtain ⟨v4,hE,s⟩:=hI
  refine CW.sub hE ?_
  unfold fA at h
  refine .g (.qn z (.seq ?_))
  refine .cs z h ?_ ?_ <;> intro h
  ·refine .skip (.seq (.block (.rk 7 s [0,0,0,0] T.mix ?_)))
   intro W s
   have t:=s.to [0,0,0,0]
   refine .ts' 0 z (λW t=>fa f42_1 z z z) t z (.ts' 1 z (λW t=>ld t39 t z z z z z) t z (bv h λr1 hr1 h=>.by1 2 z (.mkv 0 (D.int .i64) hr1 u23 T.t3 s z z z z z (λ_=>z) ?_)))
   intro v7 W s
   refine s.an [1,1,1,1] λt=>.ts' 3 z (λW t=>bs T.s60 z z) t z (.by1 4 z (.lg (L1:=[ae (sv v7) 3 1 (D.int .i64) r1]) [(bk.mk r1 0)] ay u39 t60 (s.to [0,0,0,0,0,0]) z z z (.agg (.row (.flat (c1:=[vi 0]) z .nil))) ?_ z (λ_=>z)))
   intro v8 W s
   refine s.an [1,1,1,1] λt=>bv h λr2 hr2 h=>.by1 5 z (.appv hr2 (s.to [5,0,0,0,0,0]) u39 t60 z z z ?_)
   intro v9 W s
   refine s.an [1,1,1,1] λt=>.ts' 6 z (λW t=>fa f42_1 z z z) t z (.by1 7 z (.st t39 s.p1 z z z ?_))
   intro W s
   refine ⟨λh=>absurd z h,?_⟩
   refine .done (.region (.q z (.q z (.nil ?_))))
   cases h
   exact ⟨z,v9,sb z,s.to [0,1,1,1,0]⟩
  refine .exit ?_
  cases h
  exact ⟨by simp,z,v4,sb z,s.to [0,0,0,0,0]⟩
 intro x E W hJ
 obtain ⟨rfl,v10,hE,s⟩:=hJ
 refine ⟨_,hE.sub,?_⟩
 refine .seq (.g (.q z (bv h λy6 hy6 h=>.c (.cO s func28 (nB hy6 (s.keep q_0)) z z ?_))))
 intro W s
 refine .q z (.q z (bv h λb1 hb1 h=>.cu 4 31 (b1) s ?_ ?_))
 ·refine .both (!y6) (λb=>?_) (λb=>?_)
  ·refine .xx b z (.xx b z (.xx b z ?_))
   cases aK b hb1
   exact .s (pkt b z z z) z (.nil (ck 4 s))
  have hg1:=b
  have h:=aL b hb1
  refine .g hg1 (.s (ld t42 s z z z z z) z (bv h λy7 hy7 h=>.g hg1 (.c (.cO s func43 (n8 hy7 s.p2.lv s.p4.lv s.p1.lv (RV.nil _ _ _ _ _)) z z ?_))))
  intro W s
  refine .g hg1 (.q z (.s (pkf hg1 z z z) z ?_))
  cases h
  exact .nil (ck 4 s)
 intro W s
 refine .nil ?_
 refine .cs z h ?_ ?_ <;> intro h
 ·refine .g (.s (bs T.s42 z z) z (.c (.st t42 s.p3 z z z ?_)))
  intro W s
  refine .qn z (.ret ?_)
  have s:=s.nilv 78 1 (λ(l:List ah)=>D.row 102 5 (l.map aq))
  have s:=s.nilv 60 2 ay
  have s:=s.nilv 95 2 aR
  have s:=s.nilv 3 1 (D.int .i64)
  cases h
  exact ac (vs:=[_,_]) (aA,aA,aA,aA) (rc s.p4 t42 z (rt z rn) z z) z (s.to [3,2,1,0])
 refine .skip (.g (.s (ld t42 s z z z z z) z (.c (.st t42 s.p3 z z z ?_))))
 intro W s
 refine .qn z (.ret ?_)
 have s:=s.nilv 3 1 (D.int .i64)
 cases h
 exact ac (vs:=[_,_]) (v1,v10,v2,aA) (rc s.p1 t42 z (rt z rn) z z) z (s.to [4,4,3,0])
theorem tP {a0:List (List ah)} {v_0:Hd} {w:World} {r:(List (List ah))} (h:j0 a0=some r) (q_0:RO w v_0 78 1 (λ(l:List ah)=>D.row 102 5 (l.map aq)) a0):CL 44 #[sv v_0] w (Ret No w (λs:Hd=>(sv s)) (λs=>[ae (sv s) 78 1 (λ(l:List ah)=>D.row 102 5 (l.map aq)) r])):=by
 unfold j0 at h
 refine au func44 z z ?_
 have s:=Sep.start w
 refine .g (.qn z (.g (.c (.lg (L1:=[]) [] (λ(l:List ah)=>D.row 102 5 (l.map aq)) u36 t78 (s.to []) z z z (.nil) ?_ z (λ_=>z)))))
 intro v1 W s
 refine .qn z (.seq (.g (.qn z (.block (bv h λy1 hy1 h=>?_)))))
 refine .via (.iter (λs1 E' W'=>∃ (v4:Hd),aD E' [(0,(sv v_0)),(3,(sv v4)),(4,vi s1.2)]/\Sep No w W' [ae (sv v4) 78 1 (λ(l:List ah)=>D.row 102 5 (l.map aq)) s1.1]) (λy2 x E' W'=>x=.exit 0/\∃ (v5:Hd),aD E' [(3,(sv v5))]/\Sep No w W' [ae (sv v5) 78 1 (λ(l:List ah)=>D.row 102 5 (l.map aq)) y2]) hy1 ⟨v1,sb z,s.to [0]⟩ ?_) ?_
 ·intro s1 y3 E W h hI
  obtain ⟨v3,hE,s⟩:=hI
  refine CW.sub hE ?_
  unfold gv at h
  refine .seq (.g (.q z (.q z (.s (a8 (s.keep q_0) u36 z z) z (.q z (.nil ?_))))))
  refine .cs z h ?_ ?_ <;> intro h
  ·refine .skip (.seq (.block (.region (.q z (.c (.liv [] aq u78 t102 s z z z z ?_ z (λ_=>z)))))))
   intro v6 W s
   refine .q z (.q z (bv h λx1 hx1 h=>?_))
   obtain ⟨k1,hd,hck1⟩:=RV.el2 q_0 hx1
   obtain ⟨v7,k1,rfl,q5,hd1⟩:=c9 q_0 hd
   obtain rfl:=iq q_0 hd1
   refine .s (ixv (s.keep q_0) hx1 u36 t78 z z z) z (.s (lde (hck1 _ s.agree) t78 z z z z z) z (bv h λr1 hr1 h=>.c (.av hr1 s (s.keep (q5 _ q_0)) (λ_=>z) u78 t102 z z z ?_)))
   intro v8 W s
   refine .c (.lg (L1:=[ae (sv v8) 102 5 aq r1]) [r1] (λ(l:List ah)=>D.row 102 5 (l.map aq)) u36 t78 (s.to [0,0]) z z z (.row (.nil)) ?_ z (λ_=>z))
   intro v9 W s
   refine bv h λr2 hr2 h=>.c (.appv hr2 (s.to [1,0]) u36 t78 z z z ?_)
   intro v10 W s
   refine .qn z (.region (.q z (.q z (.q z (.nil ?_)))))
   cases h
   exact ⟨z,v10,sb z,s.to [0]⟩
  refine .exit ?_
  cases h
  exact ⟨by simp,z,v3,sb z,s.to [0]⟩
 intro x E W hJ
 obtain ⟨rfl,v11,hE,s⟩:=hJ
 refine ⟨_,hE.sub,?_⟩
 obtain rfl:=o9 h
 exact .g (.q z (.qn z (.ret (ac v11 (rt z rn) z (s.to [0])))))
theorem tQ {a0:List Int} {v_0:Hd} {w:World} {r:(List Box)} (h:ik a0=some r) (q_0:RO w v_0 3 1 (D.int .i64) a0):CL 45 #[sv v_0] w (Ret No w (λs:Hd=>(sv s)) (λs=>[ae (sv s) 95 2 aR r])):=by
 unfold ik at h
 refine au func45 z z ?_
 have s:=Sep.start w
 refine .g (.qn z (.g (.c (.lg (L1:=[]) [] aR u40 t95 (s.to []) z z z (.nil) ?_ z (λ_=>z)))))
 intro v1 W s
 refine .qn z (.seq (.g (.qn z (.block (bv h λy1 hy1 h=>?_)))))
 refine .via (.iter (λs1 E' W'=>∃ (v4:Hd),aD E' [(0,(sv v_0)),(3,(sv v4)),(4,vi s1.2)]/\Sep No w W' [ae (sv v4) 95 2 aR s1.1]) (λy2 x E' W'=>x=.exit 0/\∃ (v5:Hd),aD E' [(3,(sv v5))]/\Sep No w W' [ae (sv v5) 95 2 aR y2]) hy1 ⟨v1,sb z,s.to [0]⟩ ?_) ?_
 ·intro s1 y3 E W h hI
  obtain ⟨v3,hE,s⟩:=hI
  refine CW.sub hE ?_
  unfold jq at h
  refine .seq (.g (.q z (.q z (.s (a8 (s.keep q_0) u23 z z) z (.q z (.nil ?_))))))
  refine .cs z h ?_ ?_ <;> intro h
  ·refine .skip (.seq (.block (.region (.q z (.q z (.q z (bv h λx1 hx1 h=>.s (ixv (s.keep q_0) hx1 u23 T.t3 z z z) z (.s (lde (RV.flat (s.keep q_0) hx1 z) T.t3 z z z z z) z (.c (.liv [] (D.int .i64) u23 T.t3 s z z z z ?_ z (λ_=>z)))))))))))
   intro v6 W s
   refine .s (bs T.s95 z z) z (.c (.lg (L1:=[ae (sv v6) 3 1 (D.int .i64) []]) [(Box.mk x1 [])] aR u40 t95 (s.to [0,0]) z z z (.agg (.flat (c1:=[vi x1]) z (.row .nil))) ?_ z (λ_=>z)))
   intro v7 W s
   refine bv h λr1 hr1 h=>.c (.appv hr1 (s.to [1,0]) u40 t95 z z z ?_)
   intro v8 W s
   refine .qn z (.region (.q z (.q z (.q z (.nil ?_)))))
   cases h
   exact ⟨z,v8,sb z,s.to [0]⟩
  refine .exit ?_
  cases h
  exact ⟨by simp,z,v3,sb z,s.to [0]⟩
 intro x E W hJ
 obtain ⟨rfl,v9,hE,s⟩:=hJ
 refine ⟨_,hE.sub,?_⟩
 obtain rfl:=o9 h
 exact .g (.q z (.qn z (.ret (ac v9 (rt z rn) z (s.to [0])))))
def wc (w:World) (r:Bool):Env->World->Prop:=Fin Tryz.prog Tryz.f91 No w (λs:Unit=>.bool r) (λs=>[]) .ret
theorem mT {a0:List Int} {a1:Int} {v_0:Hd} {w:World} {r:Bool} (h:dt a0 a1=some r) (q_0:RO w v_0 3 1 (D.int .i64) a0):CL 91 #[sv v_0,vi a1] w (RU w (.bool r)):=by
 unfold dt at h
 refine au func91 z z ?_
 have s:=Sep.start w
 refine .g (.qn z (.seq (.g (.q z (.s (a8 (s.keep q_0) u23 z z) z (.q z (.q z (.nil ?_))))))))
 refine .cs z h ?_ ?_ <;> intro h
 ·obtain rfl:=o9 h
  exact .g (.qn z (.ret (ac () (rt z rn) z (s.to []))))
 refine .skip (.seq (.g (.qn z (.block (bv h λy1 hy1 h=>?_)))))
 refine .via (.iter (λs1 E' W'=>aD E' [(0,(sv v_0)),(5,vi s1)]/\Sep No w W' []) (λy2 x E' W'=>(match y2 with | .inl o1=>x=.ret/\wc w o1 E' W' | .inr o2=>x=.exit 0/\aD E' []/\Sep No w W' [])) hy1 ⟨sb rfl,s.to [] rfl⟩ ?_) ?_
 ·intro s1 y3 E W h hI
  obtain ⟨hE,s⟩:=hI
  refine CW.sub hE ?_
  unfold hH at h
  refine .seq (.g (.q z (.q z (.s (a8 (s.keep q_0) u23 z z) z (.q z (.nil ?_))))))
  refine .cs z h ?_ ?_ <;> intro h
  ·refine .skip (.seq (.block (.g (.q z (.q z (bv h λx1 hx1 h=>.s (ixv (s.keep q_0) hx1 u23 T.t3 z z z) z (.s (lde (RV.flat (s.keep q_0) hx1 z) T.t3 z z z z z) z (bv h λy4 hy4 h=>.c (.cO s func140 (iE hy4) z z ?_)))))))))
   intro W s
   refine .q z (.nil ?_)
   refine .cs z h ?_ ?_ <;> intro h
   ·refine .g (.qn z (.ret ?_))
    cases h
    exact ⟨by simp,z,ac (vs:=[_]) () (rt z rn) z (s.to [])⟩
   refine .skip (.region (.q z (.q z (.q z (.nil ?_)))))
   cases h
   exact ⟨z,sb z,s.to []⟩
  refine .exit ?_
  cases h
  exact ⟨by simp,z,sb z,s.to []⟩
 intro x E W hJ
 rcases y1 with o3 | o4
 ·obtain ⟨rfl,hF⟩:=hJ
  refine ⟨_,λ_ _ h=>h,?_⟩
  cases h
  exact hF
 obtain ⟨rfl,hE,s⟩:=hJ
 refine ⟨_,hE.sub,?_⟩
 obtain rfl:=o9 h
 exact .g (.qn z (.ret (ac () (rt z rn) z (s.to []))))
theorem tR {a0:Box} {dL:Hd} {w:World} {r:Bool} (h:j1 a0=some r) (kw:RO w dL 3 1 (D.int .i64) a0.Items):CL 136 #[.agg #[vi a0.Room,sv dL]] w (RU w (.bool r)):=by
 unfold j1 at h
 refine au func136 z z ?_
 have s:=Sep.start w
 refine .g (.c (.box s z z ?_))
 intro g1 W s
 refine .qn z (.g (.s (fa f95_0 z z z) z (.s (ld T.t3 s z z z z z) z (bv h λy1 hy1 h=>.c (.cO s func32 (cE hy1) z z ?_)))))
 intro W s
 refine .q z (.cu 7 13 (y1&&(decide ((a0.Items.length:Int)<=a0.Room))) s ?_ ?_)
 ·refine .both (y1) (λb=>?_) (λb=>?_)
  ·have hg1:=b
   exact .g hg1 (.s (fa f95_1 z z z) z (.g hg1 (.s (ld t23 s z z z z z) z (.g hg1 (.s (a8 (s.keep kw) u23 z z) z (.g hg1 (.s (fa f95_0 z z z) z (.g hg1 (.s (ld T.t3 s z z z z z) z (.g hg1 (.q z (.s (pkt hg1 z z z) z (.nil (ck 7 s z (bi hg1)))))))))))))))
  exact .xx b z (.xx b z (.xx b z (.xx b z (.xx b z (.xx b z (.s (pkf b z z z) z (.nil (ck 7 s z (bj b)))))))))
 intro W s
 refine .q z (bv h λb1 hb1 h=>.cu 7 21 (b1) s ?_ ?_)
 ·refine .both (y1&&(decide ((a0.Items.length:Int)<=a0.Room))) (λb=>?_) (λb=>?_)
  ·have hg2:=b
   have h:=aK b hb1
   refine .g hg2 (.s (fa f95_1 z z z) z (.g hg2 (.s (ld t23 s z z z z z) z (.g hg2 (.s (fa f95_1 z z z) z (.g hg2 (.s (ld t23 s z z z z z) z (.g hg2 (.s (a8 (s.keep kw) u23 z z) z (bv h λy2 hy2 h=>.g hg2 (.c (.cO s func91 (mT hy2 (s.keep kw)) z z ?_))))))))))))
   intro W s
   refine .s (pkt hg2 z z z) z ?_
   cases h
   exact .nil (ck 7 s)
  refine .xx b z (.xx b z (.xx b z (.xx b z (.xx b z (.xx b z ?_)))))
  cases aL b hb1
  exact .s (pkf b z z z) z (.nil (ck 7 s))
 intro W s
 obtain rfl:=o9 h
 exact .qn z (.ret (ac () (rt z rn) z (s.to [])))
def uC (w:World) (r:Bool):Env->World->Prop:=Fin Tryz.prog Tryz.f88 No w (λs:Unit=>.bool r) (λs=>[]) .ret
theorem tS {a0:List Box} {v_0:Hd} {w:World} {r:Bool} (h:io a0=some r) (q_0:RO w v_0 95 2 aR a0):CL 88 #[sv v_0] w (RU w (.bool r)):=by
 unfold io at h
 refine au func88 z z ?_
 have s:=Sep.start w
 refine .g (.qn z (.seq (.g (.qn z (.block (bv h λy1 hy1 h=>?_))))))
 refine .via (.iter (λs1 E' W'=>aD E' [(0,(sv v_0)),(3,vi s1)]/\Sep No w W' []) (λy2 x E' W'=>(match y2 with | .inl o1=>x=.ret/\uC w o1 E' W' | .inr o2=>x=.exit 0/\aD E' [(0,(sv v_0))]/\Sep No w W' [])) hy1 ⟨sb rfl,s.to [] rfl⟩ ?_) ?_
 ·intro s1 y3 E W h hI
  obtain ⟨hE,s⟩:=hI
  refine CW.sub hE ?_
  unfold gw at h
  refine .seq (.g (.q z (.q z (.s (a8 (s.keep q_0) u40 z z) z (.q z (.nil ?_))))))
  refine .cs z h ?_ ?_ <;> intro h
  ·refine .skip (.seq (.block (.g (.q z (.q z (bv h λx1 hx1 h=>?_))))))
   obtain ⟨k1,hd,hck1⟩:=RV.el2 q_0 hx1
   have hd1:=ri hd
   obtain ⟨k1,rfl,hd2⟩:=dJ q_0 z hd1
   obtain ⟨v1,k1,rfl,q1,hd3⟩:=c9 q_0 hd2
   obtain rfl:=iq q_0 hd3
   refine .s (ixv (s.keep q_0) hx1 u40 t95 z z z) z (.s (lde (hck1 _ s.agree) t95 z z z z z) z (bv h λy4 hy4 h=>.c (.cO s func136 (tR hy4 (s.keep (q1 _ q_0))) z z ?_)))
   intro W s
   refine .q z (.nil ?_)
   refine .cs z h ?_ ?_ <;> intro h
   ·refine .g (.qn z (.ret ?_))
    cases h
    exact ⟨by simp,z,ac (vs:=[_]) () (rt z rn) z (s.to [])⟩
   refine .skip (.region (.q z (.q z (.q z (.nil ?_)))))
   cases h
   exact ⟨z,sb z,s.to []⟩
  refine .exit ?_
  cases h
  exact ⟨by simp,z,sb z,s.to []⟩
 intro x E W hJ
 rcases y1 with o3 | o4
 ·obtain ⟨rfl,hF⟩:=hJ
  refine ⟨_,λ_ _ h=>h,?_⟩
  cases h
  exact hF
 obtain ⟨rfl,hE,s⟩:=hJ
 refine ⟨_,hE.sub,?_⟩
 cases h
 exact .g (.q z (.s (a8 (s.keep q_0) u40 z z) z (.q z (.qn z (.ret (ac () (rt z rn) z (s.to [])))))))
theorem uD {a0:bk} {a1:Int} {ao:Hd} {w:World} {r:Bool} (h:mZ a0 a1=some r) (dK:RO w ao 3 1 (D.int .i64) a0.Regs):CL 138 #[.agg #[sv ao,vi a0.Pc],vi a1] w (RU w (.bool r)):=by
 unfold mZ at h
 refine au func138 z z ?_
 have s:=Sep.start w
 refine .g (.c (.box s z z ?_))
 intro g1 W s
 refine .qn z (.g (.s (fa f60_0 z z z) z (.s (ld t23 s z z z z z) z (bv h λy1 hy1 h=>.c (.cO s func91 (mT hy1 (s.keep dK)) z z ?_)))))
 intro W s
 refine .q z (bv h λb1 hb1 h=>.cu 6 14 (b1) s ?_ ?_)
 ·refine .both (y1) (λb=>?_) (λb=>?_)
  ·have hg1:=b
   have h:=aK b hb1
   refine .g hg1 (.s (fa f60_1 z z z) z (.g hg1 (.s (ld T.t3 s z z z z z) z (.g hg1 (.q z (.g hg1 (.q z (bv h λy2 hy2 h=>.g hg1 (.c (.cO s func32 (cE hy2) z z ?_))))))))))
   intro W s
   refine .s (pkt hg1 z z z) z ?_
   cases h
   exact .nil (ck 6 s)
  refine .xx b z (.xx b z (.xx b z (.xx b z (.xx b z ?_))))
  cases aL b hb1
  exact .s (pkf b z z z) z (.nil (ck 6 s))
 intro W s
 obtain rfl:=o9 h
 exact .qn z (.ret (ac () (rt z rn) z (s.to [])))
theorem qO {a0:bk} {a1:List ah} {ao:Hd} {v_1:Hd} {w:World} {r:Bool} (h:eW a0 a1=some r) (dK:RO w ao 3 1 (D.int .i64) a0.Regs) (q_1:RO w v_1 102 5 aq a1):CL 89 #[.agg #[sv ao,vi a0.Pc],sv v_1] w (RU w (.bool r)):=by
 unfold eW at h
 refine au func89 z z ?_
 have s:=Sep.start w
 refine .g (.c (.box s z z ?_))
 intro g1 W s
 refine .qn z (.g (.q z (bv h λy1 hy1 h=>.c (.cO s func137 (cF hy1 (s.keep q_1)) z z ?_))))
 intro W s
 refine .q z (bv h λb1 hb1 h=>.cu 5 12 (b1) s ?_ ?_)
 ·refine .both (y1) (λb=>?_) (λb=>?_)
  ·have hg1:=b
   have h:=aK b hb1
   refine .g hg1 (.s (ld t60 s z z z z z) z (.g hg1 (.q z (.g hg1 (.s (a8 (s.keep q_1) u78 z z) z (bv h λy2 hy2 h=>.g hg1 (.c (.cO s func138 (uD hy2 (s.keep dK)) z z ?_))))))))
   intro W s
   refine .s (pkt hg1 z z z) z ?_
   cases h
   exact .nil (ck 5 s)
  refine .xx b z (.xx b z (.xx b z (.xx b z ?_)))
  cases aL b hb1
  exact .s (pkf b z z z) z (.nil (ck 5 s))
 intro W s
 obtain rfl:=o9 h
 exact .qn z (.ret (ac () (rt z rn) z (s.to [])))
theorem uE {a0:ah} {a1:Int} {w:World} {r:Bool} (h:lc a0 a1=some r):CL 139 #[.agg #[vi a0.Op,vi a0.Dst,vi a0.A,vi a0.B,vi a0.N],vi a1] w (RU w (.bool r)):=by
 unfold lc at h
 refine au func139 z z ?_
 have s:=Sep.start w
 refine .g (.c (.box s z z ?_))
 intro g1 W s
 refine .qn z (.g (.s (fa f102_0 z z z) z (.s (ld T.t3 s z z z z z) z (.q z (.q z (.cu 4 12 ((a0.Op !=6)&&(a0.Op !=7)) s ?_ ?_))))))
 ·refine .both (a0.Op !=6) (λb=>?_) (λb=>?_)
  ·have hg1:=b
   exact .g hg1 (.s (fa f102_0 z z z) z (.g hg1 (.s (ld T.t3 s z z z z z) z (.g hg1 (.q z (.s (pkt hg1 z z z) z (.nil (ck 4 s z (bi hg1)))))))))
  exact .xx b z (.xx b z (.xx b z (.s (pkf b z z z) z (.nil (ck 4 s z (bj b))))))
 intro W s
 refine .q z (.cu 5 18 (((a0.Op !=6)&&(a0.Op !=7))||(decide (a0.N<a1))) s ?_ ?_)
 ·refine .both ((a0.Op !=6)&&(a0.Op !=7)) (λb=>?_) (λb=>?_)
  ·exact .xx b z (.xx b z (.xx b z (.xx b z (.s (pkt b z z z) z (.nil (ck 5 s z (ff b)))))))
  have hg2:=b
  exact .g hg2 (.s (fa f102_4 z z z) z (.g hg2 (.s (ld T.t3 s z z z z z) z (.g hg2 (.q z (.g hg2 (.q z (.s (pkf hg2 z z z) z (.nil (ck 5 s z (fg hg2)))))))))))
 intro W s
 cases h
 exact .qn z (.ret (ac () (rt z rn) z (s.to [])))
def we (w:World) (r:Bool):Env->World->Prop:=Fin Tryz.prog Tryz.f90 No w (λs:Unit=>.bool r) (λs=>[]) .ret
theorem uF {a0:List ah} {a1:Int} {v_0:Hd} {w:World} {r:Bool} (h:gQ a0 a1=some r) (q_0:RO w v_0 102 5 aq a0):CL 90 #[sv v_0,vi a1] w (RU w (.bool r)):=by
 unfold gQ at h
 refine au func90 z z ?_
 have s:=Sep.start w
 refine .g (.qn z (.seq (.g (.qn z (.block (bv h λy1 hy1 h=>?_))))))
 refine .via (.iter (λs1 E' W'=>aD E' [(0,(sv v_0)),(1,vi a1),(5,vi s1)]/\Sep No w W' []) (λy2 x E' W'=>(match y2 with | .inl o1=>x=.ret/\we w o1 E' W' | .inr o2=>x=.exit 0/\aD E' []/\Sep No w W' [])) hy1 ⟨sb rfl,s.to [] rfl⟩ ?_) ?_
 ·intro s1 y3 E W h hI
  obtain ⟨hE,s⟩:=hI
  refine CW.sub hE ?_
  unfold dW at h
  refine .seq (.g (.q z (.q z (.s (a8 (s.keep q_0) u78 z z) z (.q z (.nil ?_))))))
  refine .cs z h ?_ ?_ <;> intro h
  ·refine .skip (.seq (.block (.g (.q z (.q z (bv h λx1 hx1 h=>.s (ixv (s.keep q_0) hx1 u78 t102 z z z) z (.s (lde (RV.flat (s.keep q_0) hx1 z) t102 z z z z z) z (.q z (bv h λy4 hy4 h=>.c (.cO s func139 (uE hy4) z z ?_))))))))))
   intro W s
   refine .q z (.nil ?_)
   refine .cs z h ?_ ?_ <;> intro h
   ·refine .g (.qn z (.ret ?_))
    cases h
    exact ⟨by simp,z,ac (vs:=[_]) () (rt z rn) z (s.to [])⟩
   refine .skip (.region (.q z (.q z (.q z (.nil ?_)))))
   cases h
   exact ⟨z,sb z,s.to []⟩
  refine .exit ?_
  cases h
  exact ⟨by simp,z,sb z,s.to []⟩
 intro x E W hJ
 rcases y1 with o3 | o4
 ·obtain ⟨rfl,hF⟩:=hJ
  refine ⟨_,λ_ _ h=>h,?_⟩
  cases h
  exact hF
 obtain ⟨rfl,hE,s⟩:=hJ
 refine ⟨_,hE.sub,?_⟩
 obtain rfl:=o9 h
 exact .g (.qn z (.ret (ac () (rt z rn) z (s.to []))))
def tT (w:World) (r:Bool):Env->World->Prop:=Fin Tryz.prog Tryz.f46 No w (λs:Unit=>.bool r) (λs=>[]) .ret
theorem sy {a0:cI} {bt:Hd} {aY:Hd} {ba:Hd} {bZ:Hd} {w:World} {r:Bool} (h:ep a0=some r) (bz:RO w bt 78 1 (λ(l:List ah)=>D.row 102 5 (l.map aq)) a0.Codes) (aH:RO w aY 60 2 ay a0.Threads) (cR:RO w ba 95 2 aR a0.Boxes) (dU:RO w bZ 3 1 (D.int .i64) a0.Out):CL 46 #[.agg #[sv bt,sv aY,sv ba,vi a0.Turn,vi a0.Idle,sv bZ]] w (RU w (.bool r)):=by
 unfold ep at h
 refine au func46 z z ?_
 have s:=Sep.start w
 refine .g (.c (.box s z z ?_))
 intro g1 W s
 refine .qn z (.g (.s (fa f42_1 z z z) z (.s (ld t39 s z z z z z) z (.s (a8 (s.keep aH) u39 z z) z (.qn z (.seq (.g (.q z (bv h λy1 hy1 h=>.c (.cO s func32 (cE hy1) z z ?_))))))))))
 intro W s
 refine .q z (.q z (.cu 6 17 ((!y1)||((a0.Codes.length:Int) !=(a0.Threads.length:Int))) s ?_ ?_))
 ·refine .both (!y1) (λb=>?_) (λb=>?_)
  ·exact .xx b z (.xx b z (.xx b z (.xx b z (.xx b z (.s (pkt b z z z) z (.nil (ck 6 s z (ff b))))))))
  have hg1:=b
  exact .g hg1 (.s (fa f42_0 z z z) z (.g hg1 (.s (ld t36 s z z z z z) z (.g hg1 (.s (a8 (s.keep bz) u36 z z) z (.g hg1 (.q z (.g hg1 (.q z (.s (pkf hg1 z z z) z (.nil (ck 6 s z (fg hg1)))))))))))))
 intro W s
 refine .q z (bv h λb1 hb1 h=>.cu 5 23 (b1) s ?_ ?_)
 ·refine .both ((!y1)||((a0.Codes.length:Int) !=(a0.Threads.length:Int))) (λb=>?_) (λb=>?_)
  ·refine .xx b z (.xx b z (.xx b z (.xx b z ?_)))
   cases aK b hb1
   exact .s (pkt b z z z) z (.nil (ck 5 s))
  have hg2:=b
  have h:=aL b hb1
  refine .g hg2 (.s (fa f42_2 z z z) z (.g hg2 (.s (ld t40 s z z z z z) z (bv h λy2 hy2 h=>.g hg2 (.c (.cO s func88 (tS hy2 (s.keep cR)) z z ?_))))))
  intro W s
  refine .g hg2 (.q z (.s (pkf hg2 z z z) z ?_))
  cases h
  exact .nil (ck 5 s)
 intro W s
 refine .q z (bv h λb2 hb2 h=>.cu 7 31 (b2) s ?_ ?_)
 ·refine .both (b1) (λb=>?_) (λb=>?_)
  ·refine .xx b z (.xx b z (.xx b z (.xx b z (.xx b z (.xx b z ?_)))))
   cases aK b hb2
   exact .s (pkt b z z z) z (.nil (ck 7 s))
  have hg3:=b
  have h:=aL b hb2
  refine .g hg3 (.s (fa f42_3 z z z) z (.g hg3 (.s (ld T.t3 s z z z z z) z (.g hg3 (.q z (.g hg3 (.q z (bv h λy3 hy3 h=>.g hg3 (.c (.cO s func32 (cE hy3) z z ?_))))))))))
  intro W s
  refine .g hg3 (.q z (.s (pkf hg3 z z z) z ?_))
  cases h
  exact .nil (ck 7 s)
 intro W s
 refine .q z (bv h λb3 hb3 h=>.cu 6 38 (b3) s ?_ ?_)
 ·refine .both (b2) (λb=>?_) (λb=>?_)
  ·refine .xx b z (.xx b z (.xx b z (.xx b z (.xx b z ?_))))
   cases aK b hb3
   exact .s (pkt b z z z) z (.nil (ck 6 s))
  have hg4:=b
  have h:=aL b hb3
  refine .g hg4 (.s (fa f42_4 z z z) z (.g hg4 (.s (ld T.t3 s z z z z z) z (.g hg4 (.q z (bv h λy4 hy4 h=>.g hg4 (.c (.cO s func32 (cE hy4) z z ?_))))))))
  intro W s
  refine .g hg4 (.q z (.s (pkf hg4 z z z) z ?_))
  cases h
  exact .nil (ck 6 s)
 intro W s
 refine .nil ?_
 refine .cs z h ?_ ?_ <;> intro h
 ·obtain rfl:=o9 h
  exact .g (.qn z (.ret (ac () (rt z rn) z (s.to []))))
 refine .skip (.seq (.g (.qn z (.block (bv h λy5 hy5 h=>?_)))))
 refine .via (.iter (λs1 E' W'=>aD E' [(1,Pt g1),(3,vi (a0.Threads.length:Int)),(4,vi s1)]/\Sep No w W' [.box g1 42 [sv bt,sv aY,sv ba,vi a0.Turn,vi a0.Idle,sv bZ]]) (λy6 x E' W'=>(match y6 with | .inl o1=>x=.ret/\tT w o1 E' W' | .inr o2=>x=.exit 0/\aD E' [(1,Pt g1)]/\Sep No w W' [.box g1 42 [sv bt,sv aY,sv ba,vi a0.Turn,vi a0.Idle,sv bZ]])) hy5 ⟨sb rfl,s.to [0] rfl⟩ ?_) ?_
 ·intro s1 y7 E W h hI
  obtain ⟨hE,s⟩:=hI
  refine CW.sub hE ?_
  unfold dz at h
  refine .seq (.g (.q z (.q z (.q z (.nil ?_)))))
  refine .cs z h ?_ ?_ <;> intro h
  ·refine .skip (.seq (.block (.seq (bv h λx1 hx1 h=>bv h λx2 hx2 h=>bv h λy8 hy8 h=>bv h λb4 hb4 h=>?_))))
   refine .via (R':=λx E' W'=>x=.normal/\aD E' [(1,Pt g1),(3,vi (a0.Threads.length:Int)),(4,vi s1),(67,.bool b4)]/\Sep No w W' [.box g1 42 [sv bt,sv aY,sv ba,vi a0.Turn,vi a0.Idle,sv bZ]]) ?_ ?_
   ·refine .rk 24 s [0] T.mix ?_
    intro W s
    have t:=s.to [0]
    refine .ts' 0 z (λW t=>fa f42_1 z z z) t z (.ts' 1 z (λW t=>ld t39 t z z z z z) t z (.tp' 2 z z t ?_))
    obtain ⟨k1,hd,hck1⟩:=RV.el2 aH hx1
    have hd1:=ri hd
    obtain ⟨v1,k1,rfl,q1,hd2⟩:=c9 aH hd1
    obtain ⟨k1,rfl,hd3⟩:=dJ aH z hd2
    obtain rfl:=iq aH hd3
    refine .ts' 3 z (λW t=>ixv (s.keep aH) hx1 u39 t60 z z z) t z (.ts' 4 z (λW t=>lde (hck1 _ t.agree) t60 z z z z z) t z (.ts' 5 z (λW t=>fa f42_0 z z z) t z (.ts' 6 z (λW t=>ld t36 t z z z z z) t z (.tp' 7 z z t ?_))))
    obtain ⟨k2,hd,hck2⟩:=RV.el2 bz hx2
    obtain ⟨v2,k2,rfl,q2,hd1⟩:=c9 bz hd
    obtain rfl:=iq bz hd1
    refine .ts' 8 z (λW t=>ixv (s.keep bz) hx2 u36 t78 z z z) t z (.ts' 9 z (λW t=>lde (hck2 _ t.agree) t78 z z z z z) t z (.by1 10 z (.cO s func89 (qO hy8 (s.keep (q1 _ aH)) (s.keep (q2 _ bz))) z z ?_)))
    intro W s
    refine s.an [0] λt=>.tp' 11 z z t (.tp' 12 z z t (.both (!y8) (λb=>?_) (λb=>?_)))
    ·exact .off 13 z b t (.off 14 z b t (.off 15 z b t (.off 16 z b t (.off 17 z b t (.off 18 z b t (.off 19 z b t (.off 20 z b t (.off 21 z b t (.off 22 z b t (.ts' 23 z (λW t=>pkt b z z z) t z (.eqv 67 z (nP (aK b hb4)) (.done (⟨z,sb z,s.to [0]⟩)))) (by kernel_rfl) z z) (by kernel_rfl) z z) (by kernel_rfl) z z) (by kernel_rfl) z z) (by kernel_rfl) z z) (by kernel_rfl) z z) (by kernel_rfl) z z) (by kernel_rfl) z z) (by kernel_rfl) z z) (by kernel_rfl) z z
    have hg5:=b
    have h_b4:=aL b hb4
    refine .t1g 13 z hg5 (λW t=>fa f42_0 z z z) t (.t1g 14 z hg5 (λW t=>ld t36 t z z z z z) t (.t1g 15 z hg5 (λW t=>pr z) t (bv h_b4 λx3 hx3 h_b4=>?_) (by kernel_rfl) z z) (by kernel_rfl) z z) (by kernel_rfl) z z
    obtain ⟨k3,hd,hck3⟩:=RV.el2 bz hx3
    obtain ⟨v3,k3,rfl,q3,hd1⟩:=c9 bz hd
    obtain rfl:=iq bz hd1
    refine .t1g 16 z hg5 (λW t=>ixv (s.keep bz) hx3 u36 t78 z z z) t (.t1g 17 z hg5 (λW t=>lde (hck3 _ t.agree) t78 z z z z z) t (.t1g 18 z hg5 (λW t=>fa f42_2 z z z) t (.t1g 19 z hg5 (λW t=>ld t40 t z z z z z) t (.t1g 20 z hg5 (λW t=>a8 (s.keep cR) u40 z z) t (bv h_b4 λy9 hy9 h_b4=>.by1 21 z (.gd hg5 (.cO s func90 (uF hy9 (s.keep (q3 _ bz))) z z ?_))) (by kernel_rfl) z z) (by kernel_rfl) z z) (by kernel_rfl) z z) (by kernel_rfl) z z) (by kernel_rfl) z z
    intro W s
    refine s.an [0] λt=>?_
    exact .t1g 22 z hg5 (λW t=>pr z) t (.ts' 23 z (λW t=>pkf hg5 z z z) t z (.eqv 67 z (nP h_b4) (.done (⟨z,sb z,s.to [0]⟩)))) (by kernel_rfl) z z
   intro x E W hJ
   obtain ⟨rfl,hE,s⟩:=hJ
   refine ⟨_,hE.sub,?_⟩
   refine .cs z h ?_ ?_ <;> intro h
   ·refine .g (.qn z (.ret ?_))
    cases h
    exact ⟨by simp,z,ac (vs:=[_]) () (rt z rn) z (s.to [])⟩
   refine .skip (.region (.q z (.q z (.q z (.nil ?_)))))
   cases h
   exact ⟨z,sb z,s.to [0]⟩
  refine .exit ?_
  cases h
  exact ⟨by simp,z,sb z,s.to [0]⟩
 intro x E W hJ
 rcases y5 with o3 | o4
 ·obtain ⟨rfl,hF⟩:=hJ
  refine ⟨_,λ_ _ h=>h,?_⟩
  cases h
  exact hF
 obtain ⟨rfl,hE,s⟩:=hJ
 refine ⟨_,hE.sub,?_⟩
 refine .g (.s (fa f42_5 z z z) z (.s (ld t23 s z z z z z) z (.s (fa f42_5 z z z) z (.s (ld t23 s z z z z z) z (.s (a8 (s.keep dU) u23 z z) z (bv h λy10 hy10 h=>.c (.cO s func91 (mT hy10 (s.keep dU)) z z ?_)))))))
 intro W s
 obtain rfl:=o9 h
 exact .qn z (.ret (ac () (rt z rn) z (s.to [])))
theorem uG {a0:List Int} {a1:List (List ah)} {v_0:Hd} {v_1:Hd} {w:World} {r:cI×Bool} (h:dG a0 a1=some r) (q_0:RO w v_0 3 1 (D.int .i64) a0) (q_1:RO w v_1 78 1 (λ(l:List ah)=>D.row 102 5 (l.map aq)) a1):CL 18 #[sv v_0,sv v_1] w (Ret No w (λs:Hd×Hd×Hd×Hd=>.tuple #[.agg #[(sv s.1),(sv s.2.1),(sv s.2.2.1),vi r.1.Turn,vi r.1.Idle,(sv s.2.2.2)],.bool r.2]) (λs=>[ae (sv s.1) 78 1 (λ(l:List ah)=>D.row 102 5 (l.map aq)) r.1.Codes,ae (sv s.2.1) 60 2 ay r.1.Threads,ae (sv s.2.2.1) 95 2 aR r.1.Boxes,ae (sv s.2.2.2) 3 1 (D.int .i64) r.1.Out])):=by
 unfold dG at h
 refine au func18 z z ?_
 have s:=Sep.start w
 refine .g (.c (.alloc t42 s ?_))
 intro g1 W s
 refine .qn z (.seq (.g (.q z (bv h λy1 hy1 h=>.c (.cO s func31 (tJ hy1 (s.keep q_0)) z z ?_)))))
 intro W s
 refine .q z (.nil ?_)
 refine .cs z h ?_ ?_ <;> intro h
 ·refine .g (.s (bs T.s42 z z) z (.c (.st t42 s z z z ?_)))
  intro W s
  refine .qn z (.ret ?_)
  have s:=s.nilv 78 1 (λ(l:List ah)=>D.row 102 5 (l.map aq))
  have s:=s.nilv 60 2 ay
  have s:=s.nilv 95 2 aR
  have s:=s.nilv 3 1 (D.int .i64)
  cases h
  exact ac (vs:=[_,_]) (aA,aA,aA,aA) (rc s.p4 t42 z (rt z rn) z z) z (s.to [3,2,1,0])
 refine .skip (.g (.q z (bv h λy2 hy2 h=>.c (.cV s func44 (tP hy2 (s.keep q_1)) z z ?_))))
 intro v1 W s
 refine .c (.lg (L1:=[]) [] ay u39 t60 (s.to [0,0]) z z z (.nil) ?_ z (λ_=>z))
 intro v2 W s
 refine .q z (bv h λy3 hy3 h=>.c (.cV s func45 (tQ hy3 (s.keep q_0)) z z ?_))
 intro v3 W s
 refine .c (.liv [] (D.int .i64) u23 T.t3 s z z z z ?_ z (λ_=>z))
 intro v4 W s
 refine .s (bs T.s42 z z) z (.c (.alloc t42 s ?_))
 intro g2 W s
 refine .c (.st t42 s z z z ?_)
 intro W s
 refine .nil (.seq (.g (.qn z (.block (bv h λy4 hy4 h=>?_)))))
 refine .via (.iter (λs1 E' W'=>∃ (v7:Hd),aD E' [(1,(sv v_1)),(4,Pt g1),(6,Pt g2),(7,vi s1.1)]/\Sep No w W' [.box g2 42 [sv v1,sv v7,sv v3,vi 0,vi 0,sv v4],ae (sv v4) 3 1 (D.int .i64) [],ae (sv v3) 95 2 aR y3,ae (sv v1) 78 1 (λ(l:List ah)=>D.row 102 5 (l.map aq)) y2,.box g1 42 [sv aA,sv aA,sv aA,vi 0,vi 0,sv aA],ae (sv v7) 60 2 ay s1.2]) (λy5 x E' W'=>x=.exit 0/\∃ (v8:Hd),aD E' [(4,Pt g1),(6,Pt g2)]/\Sep No w W' [.box g2 42 [sv v1,sv v8,sv v3,vi 0,vi 0,sv v4],ae (sv v4) 3 1 (D.int .i64) [],ae (sv v3) 95 2 aR y3,ae (sv v1) 78 1 (λ(l:List ah)=>D.row 102 5 (l.map aq)) y2,.box g1 42 [sv aA,sv aA,sv aA,vi 0,vi 0,sv aA],ae (sv v8) 60 2 ay y5]) hy4 ⟨v2,sb z,s.to [0,0,0,1,1,0]⟩ ?_) ?_
 ·intro s1 y6 E W h hI
  obtain ⟨v6,hE,s⟩:=hI
  refine CW.sub hE ?_
  unfold fB at h
  refine .seq (.g (.q z (.q z (.s (a8 (s.keep q_1) u36 z z) z (.q z (.nil ?_))))))
  refine .cs z h ?_ ?_ <;> intro h
  ·refine .skip (.seq (.block (.rk 7 s [0,0,0,0,0] T.mix ?_)))
   intro W s
   have t:=s.to [0,0,0,0,0]
   refine .ts' 0 z (λW t=>fa f42_1 z z z) t z (.ts' 1 z (λW t=>ld t39 t z z z z z) t z (bv h λr1 hr1 h=>.by1 2 z (.mkv 0 (D.int .i64) hr1 u23 T.t3 s z z z z z (λ_=>z) ?_)))
   intro v9 W s
   refine s.an [1,1,1,1,1] λt=>.ts' 3 z (λW t=>bs T.s60 z z) t z (.by1 4 z (.lg (L1:=[ae (sv v9) 3 1 (D.int .i64) r1]) [(bk.mk r1 0)] ay u39 t60 (s.to [0,0,0,0,0,0,0]) z z z (.agg (.row (.flat (c1:=[vi 0]) z .nil))) ?_ z (λ_=>z)))
   intro v10 W s
   refine s.an [1,1,1,1,1] λt=>bv h λr2 hr2 h=>.by1 5 z (.appv hr2 (s.to [6,0,0,0,0,0,0]) u39 t60 z z z ?_)
   intro v11 W s
   refine s.an [1,1,1,1,1] λt=>.ts' 6 z (λW t=>fa f42_1 z z z) t z (.by1 7 z (.st t39 s.p1 z z z ?_))
   intro W s
   refine ⟨λh=>absurd z h,?_⟩
   refine .done (.region (.q z (.q z (.q z (.nil ?_)))))
   cases h
   exact ⟨z,v11,sb z,s.to [0,1,1,1,1,0]⟩
  refine .exit ?_
  cases h
  exact ⟨by simp,z,v6,sb z,s.to [0,0,0,0,0,0]⟩
 intro x E W hJ
 obtain ⟨rfl,v12,hE,s⟩:=hJ
 refine ⟨_,hE.sub,?_⟩
 refine .seq (.g (.s (ld t42 s z z z z z) z (bv h λy7 hy7 h=>.c (.cO s func46 (sy hy7 s.p3.lv s.p5.lv s.p2.lv s.p1.lv) z z ?_))))
 intro W s
 refine .q z (.nil ?_)
 refine .cs z h ?_ ?_ <;> intro h
 ·refine .g (.s (bs T.s42 z z) z (.c (.st t42 s.p4 z z z ?_)))
  intro W s
  refine .qn z (.ret ?_)
  have s:=s.nilv 78 1 (λ(l:List ah)=>D.row 102 5 (l.map aq))
  have s:=s.nilv 60 2 ay
  have s:=s.nilv 95 2 aR
  have s:=s.nilv 3 1 (D.int .i64)
  cases h
  exact ac (vs:=[_,_]) (aA,aA,aA,aA) (rc s.p4 t42 z (rt z rn) z z) z (s.to [3,2,1,0])
 refine .skip (.g (.s (ld t42 s z z z z z) z (.c (.st t42 s.p4 z z z ?_))))
 intro W s
 cases h
 exact .qn z (.ret (ac (vs:=[_,_]) (v1,v12,v3,v4) (rc s t42 z (rt z rn) z z) z (s.to [4,4,3,2])))
def uH (w:World) (r:Bool):Env->World->Prop:=Fin Tryz.prog Tryz.f92 No w (λs:Unit=>.bool r) (λs=>[]) .ret
theorem tU {a0:List ah} {a1:List ah} {v_0:Hd} {v_1:Hd} {w:World} {r:Bool} (h:j2 a0 a1=some r) (q_0:RO w v_0 102 5 aq a0) (q_1:RO w v_1 102 5 aq a1):CL 92 #[sv v_0,sv v_1] w (RU w (.bool r)):=by
 unfold j2 at h
 refine au func92 z z ?_
 have s:=Sep.start w
 refine .g (.qn z (.seq (.g (.q z (.s (a8 (s.keep q_0) u78 z z) z (.q z (.s (a8 (s.keep q_1) u78 z z) z (.q z (.nil ?_)))))))))
 refine .cs z h ?_ ?_ <;> intro h
 ·obtain rfl:=o9 h
  exact .g (.qn z (.ret (ac () (rt z rn) z (s.to []))))
 refine .skip (.seq (.g (.qn z (.block (bv h λy1 hy1 h=>?_)))))
 refine .via (.iter (λs1 E' W'=>aD E' [(0,(sv v_0)),(1,(sv v_1)),(5,vi s1)]/\Sep No w W' []) (λy2 x E' W'=>(match y2 with | .inl o1=>x=.ret/\uH w o1 E' W' | .inr o2=>x=.exit 0/\aD E' []/\Sep No w W' [])) hy1 ⟨sb rfl,s.to [] rfl⟩ ?_) ?_
 ·intro s1 y3 E W h hI
  obtain ⟨hE,s⟩:=hI
  refine CW.sub hE ?_
  unfold gx at h
  refine .seq (.g (.q z (.q z (.s (a8 (s.keep q_0) u78 z z) z (.q z (.nil ?_))))))
  refine .cs z h ?_ ?_ <;> intro h
  ·refine .skip (.seq (.block (.seq (.rk 9 s [] T.mix ?_))))
   intro W s
   have t:=s.to []
   refine .tp' 0 z z t (.tp' 1 z z t (bv h λx1 hx1 h=>.ts' 2 z (λW t=>ixv (s.keep q_0) hx1 u78 t102 z z z) t z (.ts' 3 z (λW t=>lde (RV.flat (t.keep q_0) hx1 z) t102 z z z z z) t z (.tp' 4 z z t (.tp' 5 z z t (bv h λx2 hx2 h=>.ts' 6 z (λW t=>ixv (s.keep q_1) hx2 u78 t102 z z z) t z (.ts' 7 z (λW t=>lde (RV.flat (t.keep q_1) hx2 z) t102 z z z z z) t z (.ts' 8 z (λW t=>nes T.e102 z z z z) t z (.done ?_)))))))))
   refine .cs z h ?_ ?_ <;> intro h
   ·refine .g (.qn z (.ret ?_))
    cases h
    exact ⟨by simp,z,ac (vs:=[_]) () (rt z rn) z (s.to [])⟩
   refine .skip (.region (.q z (.q z (.q z (.nil ?_)))))
   cases h
   exact ⟨z,sb z,s.to []⟩
  refine .exit ?_
  cases h
  exact ⟨by simp,z,sb z,s.to []⟩
 intro x E W hJ
 rcases y1 with o3 | o4
 ·obtain ⟨rfl,hF⟩:=hJ
  refine ⟨_,λ_ _ h=>h,?_⟩
  cases h
  exact hF
 obtain ⟨rfl,hE,s⟩:=hJ
 refine ⟨_,hE.sub,?_⟩
 obtain rfl:=o9 h
 exact .g (.qn z (.ret (ac () (rt z rn) z (s.to []))))
def tV (w:World) (r:Bool):Env->World->Prop:=Fin Tryz.prog Tryz.f47 No w (λs:Unit=>.bool r) (λs=>[]) .ret
theorem sA {a0:List (List ah)} {a1:List (List ah)} {v_0:Hd} {v_1:Hd} {w:World} {r:Bool} (h:i5 a0 a1=some r) (q_0:RO w v_0 78 1 (λ(l:List ah)=>D.row 102 5 (l.map aq)) a0) (q_1:RO w v_1 78 1 (λ(l:List ah)=>D.row 102 5 (l.map aq)) a1):CL 47 #[sv v_0,sv v_1] w (RU w (.bool r)):=by
 unfold i5 at h
 refine au func47 z z ?_
 have s:=Sep.start w
 refine .g (.qn z (.seq (.g (.q z (.s (a8 (s.keep q_0) u36 z z) z (.q z (.s (a8 (s.keep q_1) u36 z z) z (.q z (.nil ?_)))))))))
 refine .cs z h ?_ ?_ <;> intro h
 ·obtain rfl:=o9 h
  exact .g (.qn z (.ret (ac () (rt z rn) z (s.to []))))
 refine .skip (.seq (.g (.qn z (.block (bv h λy1 hy1 h=>?_)))))
 refine .via (.iter (λs1 E' W'=>aD E' [(0,(sv v_0)),(1,(sv v_1)),(5,vi s1)]/\Sep No w W' []) (λy2 x E' W'=>(match y2 with | .inl o1=>x=.ret/\tV w o1 E' W' | .inr o2=>x=.exit 0/\aD E' []/\Sep No w W' [])) hy1 ⟨sb rfl,s.to [] rfl⟩ ?_) ?_
 ·intro s1 y3 E W h hI
  obtain ⟨hE,s⟩:=hI
  refine CW.sub hE ?_
  unfold fS at h
  refine .seq (.g (.q z (.q z (.s (a8 (s.keep q_0) u36 z z) z (.q z (.nil ?_))))))
  refine .cs z h ?_ ?_ <;> intro h
  ·refine .skip (.seq (.block (.seq (.rk 10 s [] T.mix ?_))))
   intro W s
   have t:=s.to []
   refine .tp' 0 z z t (.tp' 1 z z t (bv h λx1 hx1 h=>?_))
   obtain ⟨k1,hd,hck1⟩:=RV.el2 q_0 hx1
   obtain ⟨v1,k1,rfl,q1,hd1⟩:=c9 q_0 hd
   obtain rfl:=iq q_0 hd1
   refine .ts' 2 z (λW t=>ixv (s.keep q_0) hx1 u36 t78 z z z) t z (.ts' 3 z (λW t=>lde (hck1 _ t.agree) t78 z z z z z) t z (.tp' 4 z z t (.tp' 5 z z t (bv h λx2 hx2 h=>?_))))
   obtain ⟨k2,hd,hck2⟩:=RV.el2 q_1 hx2
   obtain ⟨v2,k2,rfl,q2,hd1⟩:=c9 q_1 hd
   obtain rfl:=iq q_1 hd1
   refine .ts' 6 z (λW t=>ixv (s.keep q_1) hx2 u36 t78 z z z) t z (.ts' 7 z (λW t=>lde (hck2 _ t.agree) t78 z z z z z) t z (bv h λy4 hy4 h=>.by1 8 z (.cO s func92 (tU hy4 (s.keep (q1 _ q_0)) (s.keep (q2 _ q_1))) z z ?_)))
   intro W s
   refine s.an [] λt=>.tp' 9 z z t (.done ?_)
   refine .cs z h ?_ ?_ <;> intro h
   ·refine .g (.qn z (.ret ?_))
    cases h
    exact ⟨by simp,z,ac (vs:=[_]) () (rt z rn) z (s.to [])⟩
   refine .skip (.region (.q z (.q z (.q z (.nil ?_)))))
   cases h
   exact ⟨z,sb z,s.to []⟩
  refine .exit ?_
  cases h
  exact ⟨by simp,z,sb z,s.to []⟩
 intro x E W hJ
 rcases y1 with o3 | o4
 ·obtain ⟨rfl,hF⟩:=hJ
  refine ⟨_,λ_ _ h=>h,?_⟩
  cases h
  exact hF
 obtain ⟨rfl,hE,s⟩:=hJ
 refine ⟨_,hE.sub,?_⟩
 obtain rfl:=o9 h
 exact .g (.qn z (.ret (ac () (rt z rn) z (s.to []))))
theorem rF {a0:bk} {a1:bk} {ao:Hd} {ym:Hd} {w:World} {r:Bool} (h:j5 a0 a1=some r) (dK:RO w ao 3 1 (D.int .i64) a0.Regs) (B5:RO w ym 3 1 (D.int .i64) a1.Regs):CL 93 #[.agg #[sv ao,vi a0.Pc],.agg #[sv ym,vi a1.Pc]] w (RU w (.bool r)):=by
 unfold j5 at h
 refine au func93 z z ?_
 have s:=Sep.start w
 refine .g (.c (.box s z z ?_))
 intro g1 W s
 refine .c (.box s z z ?_)
 intro g2 W s
 refine .qn z (.g (.s (fa f60_1 z z z) z (.s (ld T.t3 s.p1 z z z z z) z (.s (fa f60_1 z z z) z (.s (ld T.t3 s z z z z z) z (.q z (.q z (bv h λb1 hb1 h=>.cu 6 16 (b1) s ?_ ?_))))))))
 ·refine .both (a0.Pc==a1.Pc) (λb=>?_) (λb=>?_)
  ·have hg1:=b
   have h:=aK b hb1
   refine .g hg1 (.s (fa f60_0 z z z) z (.g hg1 (.s (ld t23 s.p1 z z z z z) z (.g hg1 (.s (fa f60_0 z z z) z (.g hg1 (.s (ld t23 s z z z z z) z (bv h λy1 hy1 h=>.g hg1 (.c (.cO s func15 (mj hy1 (s.keep dK) (s.keep B5)) z z ?_))))))))))
   intro W s
   refine .s (pkt hg1 z z z) z ?_
   cases h
   exact .nil (ck 6 s)
  refine .xx b z (.xx b z (.xx b z (.xx b z (.xx b z ?_))))
  cases aL b hb1
  exact .s (pkf b z z z) z (.nil (ck 6 s))
 intro W s
 obtain rfl:=o9 h
 exact .qn z (.ret (ac () (rt z rn) z (s.to [])))
theorem uI {a0:Box} {a1:Box} {dL:Hd} {wT:Hd} {w:World} {r:Bool} (h:lf a0 a1=some r) (kw:RO w dL 3 1 (D.int .i64) a0.Items) (Ay:RO w wT 3 1 (D.int .i64) a1.Items):CL 180 #[.agg #[vi a0.Room,sv dL],.agg #[vi a1.Room,sv wT]] w (RU w (.bool r)):=by
 unfold lf at h
 refine au func180 z z ?_
 have s:=Sep.start w
 refine .g (.c (.box s z z ?_))
 intro g1 W s
 refine .c (.box s z z ?_)
 intro g2 W s
 refine .qn z (.g (.s (fa f95_0 z z z) z (.s (ld T.t3 s.p1 z z z z z) z (.s (fa f95_0 z z z) z (.s (ld T.t3 s z z z z z) z (.q z (.q z (bv h λb1 hb1 h=>.cu 6 16 (b1) s ?_ ?_))))))))
 ·refine .both (a0.Room==a1.Room) (λb=>?_) (λb=>?_)
  ·have hg1:=b
   have h:=aK b hb1
   refine .g hg1 (.s (fa f95_1 z z z) z (.g hg1 (.s (ld t23 s.p1 z z z z z) z (.g hg1 (.s (fa f95_1 z z z) z (.g hg1 (.s (ld t23 s z z z z z) z (bv h λy1 hy1 h=>.g hg1 (.c (.cO s func15 (mj hy1 (s.keep kw) (s.keep Ay)) z z ?_))))))))))
   intro W s
   refine .s (pkt hg1 z z z) z ?_
   cases h
   exact .nil (ck 6 s)
  refine .xx b z (.xx b z (.xx b z (.xx b z (.xx b z ?_))))
  cases aL b hb1
  exact .s (pkf b z z z) z (.nil (ck 6 s))
 intro W s
 obtain rfl:=o9 h
 exact .qn z (.ret (ac () (rt z rn) z (s.to [])))
def tW (w:World) (r:Bool):Env->World->Prop:=Fin Tryz.prog Tryz.f141 No w (λs:Unit=>.bool r) (λs=>[]) .ret
theorem sB {a0:List Box} {a1:List Box} {v_0:Hd} {v_1:Hd} {w:World} {r:Bool} (h:i6 a0 a1=some r) (q_0:RO w v_0 95 2 aR a0) (q_1:RO w v_1 95 2 aR a1):CL 141 #[sv v_0,sv v_1] w (RU w (.bool r)):=by
 unfold i6 at h
 refine au func141 z z ?_
 have s:=Sep.start w
 refine .g (.qn z (.seq (.g (.q z (.s (a8 (s.keep q_0) u40 z z) z (.q z (.s (a8 (s.keep q_1) u40 z z) z (.q z (.nil ?_)))))))))
 refine .cs z h ?_ ?_ <;> intro h
 ·obtain rfl:=o9 h
  exact .g (.qn z (.ret (ac () (rt z rn) z (s.to []))))
 refine .skip (.seq (.g (.qn z (.block (bv h λy1 hy1 h=>?_)))))
 refine .via (.iter (λs1 E' W'=>aD E' [(0,(sv v_0)),(1,(sv v_1)),(5,vi s1)]/\Sep No w W' []) (λy2 x E' W'=>(match y2 with | .inl o1=>x=.ret/\tW w o1 E' W' | .inr o2=>x=.exit 0/\aD E' []/\Sep No w W' [])) hy1 ⟨sb rfl,s.to [] rfl⟩ ?_) ?_
 ·intro s1 y3 E W h hI
  obtain ⟨hE,s⟩:=hI
  refine CW.sub hE ?_
  unfold fT at h
  refine .seq (.g (.q z (.q z (.s (a8 (s.keep q_0) u40 z z) z (.q z (.nil ?_))))))
  refine .cs z h ?_ ?_ <;> intro h
  ·refine .skip (.seq (.block (.seq (.rk 10 s [] T.mix ?_))))
   intro W s
   have t:=s.to []
   refine .tp' 0 z z t (.tp' 1 z z t (bv h λx1 hx1 h=>?_))
   obtain ⟨k1,hd,hck1⟩:=RV.el2 q_0 hx1
   have hd1:=ri hd
   obtain ⟨k1,rfl,hd2⟩:=dJ q_0 z hd1
   obtain ⟨v1,k1,rfl,q1,hd3⟩:=c9 q_0 hd2
   obtain rfl:=iq q_0 hd3
   refine .ts' 2 z (λW t=>ixv (s.keep q_0) hx1 u40 t95 z z z) t z (.ts' 3 z (λW t=>lde (hck1 _ t.agree) t95 z z z z z) t z (.tp' 4 z z t (.tp' 5 z z t (bv h λx2 hx2 h=>?_))))
   obtain ⟨k2,hd,hck2⟩:=RV.el2 q_1 hx2
   have hd1:=ri hd
   obtain ⟨k2,rfl,hd2⟩:=dJ q_1 z hd1
   obtain ⟨v2,k2,rfl,q2,hd3⟩:=c9 q_1 hd2
   obtain rfl:=iq q_1 hd3
   refine .ts' 6 z (λW t=>ixv (s.keep q_1) hx2 u40 t95 z z z) t z (.ts' 7 z (λW t=>lde (hck2 _ t.agree) t95 z z z z z) t z (bv h λy4 hy4 h=>.by1 8 z (.cO s func180 (uI hy4 (s.keep (q1 _ q_0)) (s.keep (q2 _ q_1))) z z ?_)))
   intro W s
   refine s.an [] λt=>.tp' 9 z z t (.done ?_)
   refine .cs z h ?_ ?_ <;> intro h
   ·refine .g (.qn z (.ret ?_))
    cases h
    exact ⟨by simp,z,ac (vs:=[_]) () (rt z rn) z (s.to [])⟩
   refine .skip (.region (.q z (.q z (.q z (.nil ?_)))))
   cases h
   exact ⟨z,sb z,s.to []⟩
  refine .exit ?_
  cases h
  exact ⟨by simp,z,sb z,s.to []⟩
 intro x E W hJ
 rcases y1 with o3 | o4
 ·obtain ⟨rfl,hF⟩:=hJ
  refine ⟨_,λ_ _ h=>h,?_⟩
  cases h
  exact hF
 obtain ⟨rfl,hE,s⟩:=hJ
 refine ⟨_,hE.sub,?_⟩
 obtain rfl:=o9 h
 exact .g (.qn z (.ret (ac () (rt z rn) z (s.to []))))
def uJ (w:World) (r:Bool):Env->World->Prop:=Fin Tryz.prog Tryz.f94 No w (λs:Unit=>.bool r) (λs=>[]) .ret
theorem tX {a0:cI} {a1:cI} {bt:Hd} {aY:Hd} {ba:Hd} {bZ:Hd} {bV:Hd} {aM:Hd} {aI:Hd} {cq:Hd} {w:World} {r:Bool} (h:mq a0 a1=some r) (bz:RO w bt 78 1 (λ(l:List ah)=>D.row 102 5 (l.map aq)) a0.Codes) (aH:RO w aY 60 2 ay a0.Threads) (cR:RO w ba 95 2 aR a0.Boxes) (dU:RO w bZ 3 1 (D.int .i64) a0.Out) (bC:RO w bV 78 1 (λ(l:List ah)=>D.row 102 5 (l.map aq)) a1.Codes) (cQ:RO w aM 60 2 ay a1.Threads) (oS:RO w aI 95 2 aR a1.Boxes) (sC:RO w cq 3 1 (D.int .i64) a1.Out):CL 94 #[.agg #[sv bt,sv aY,sv ba,vi a0.Turn,vi a0.Idle,sv bZ],.agg #[sv bV,sv aM,sv aI,vi a1.Turn,vi a1.Idle,sv cq]] w (RU w (.bool r)):=by
 unfold mq at h
 refine au func94 z z ?_
 have s:=Sep.start w
 refine .g (.c (.box s z z ?_))
 intro g1 W s
 refine .c (.box s z z ?_)
 intro g2 W s
 refine .qn z (.seq (.g (.s (fa f42_1 z z z) z (.s (ld t39 s.p1 z z z z z) z (.s (a8 (s.keep aH) u39 z z) z (.s (fa f42_1 z z z) z (.s (ld t39 s z z z z z) z (.s (a8 (s.keep cQ) u39 z z) z (.q z (.q z (.cu 6 19 (((a0.Threads.length:Int) !=(a1.Threads.length:Int))||(a0.Turn !=a1.Turn)) s ?_ ?_)))))))))))
 ·refine .both ((a0.Threads.length:Int) !=(a1.Threads.length:Int)) (λb=>?_) (λb=>?_)
  ·exact .xx b z (.xx b z (.xx b z (.xx b z (.xx b z (.s (pkt b z z z) z (.nil (ck 6 s z (ff b))))))))
  have hg1:=b
  exact .g hg1 (.s (fa f42_3 z z z) z (.g hg1 (.s (ld T.t3 s.p1 z z z z z) z (.g hg1 (.s (fa f42_3 z z z) z (.g hg1 (.s (ld T.t3 s z z z z z) z (.g hg1 (.q z (.s (pkf hg1 z z z) z (.nil (ck 6 s z (fg hg1)))))))))))))
 intro W s
 refine .q z (.cu 6 26 ((((a0.Threads.length:Int) !=(a1.Threads.length:Int))||(a0.Turn !=a1.Turn))||(a0.Idle !=a1.Idle)) s ?_ ?_)
 ·refine .both (((a0.Threads.length:Int) !=(a1.Threads.length:Int))||(a0.Turn !=a1.Turn)) (λb=>?_) (λb=>?_)
  ·exact .xx b z (.xx b z (.xx b z (.xx b z (.xx b z (.s (pkt b z z z) z (.nil (ck 6 s z (ff b))))))))
  have hg2:=b
  exact .g hg2 (.s (fa f42_4 z z z) z (.g hg2 (.s (ld T.t3 s.p1 z z z z z) z (.g hg2 (.s (fa f42_4 z z z) z (.g hg2 (.s (ld T.t3 s z z z z z) z (.g hg2 (.q z (.s (pkf hg2 z z z) z (.nil (ck 6 s z (fg hg2)))))))))))))
 intro W s
 refine .nil ?_
 refine .cs z h ?_ ?_ <;> intro h
 ·obtain rfl:=o9 h
  exact .g (.qn z (.ret (ac () (rt z rn) z (s.to []))))
 refine .skip (.seq (.g (.qn z (.block (bv h λy1 hy1 h=>?_)))))
 refine .via (.iter (λs1 E' W'=>aD E' [(2,Pt g1),(3,Pt g2),(5,vi s1)]/\Sep No w W' [.box g2 42 [sv bV,sv aM,sv aI,vi a1.Turn,vi a1.Idle,sv cq],.box g1 42 [sv bt,sv aY,sv ba,vi a0.Turn,vi a0.Idle,sv bZ]]) (λy2 x E' W'=>(match y2 with | .inl o1=>x=.ret/\uJ w o1 E' W' | .inr o2=>x=.exit 0/\aD E' [(2,Pt g1),(3,Pt g2)]/\Sep No w W' [.box g2 42 [sv bV,sv aM,sv aI,vi a1.Turn,vi a1.Idle,sv cq],.box g1 42 [sv bt,sv aY,sv ba,vi a0.Turn,vi a0.Idle,sv bZ]])) hy1 ⟨sb rfl,s.to [0,0] rfl⟩ ?_) ?_
 ·intro s1 y3 E W h hI
  obtain ⟨hE,s⟩:=hI
  refine CW.sub hE ?_
  unfold gy at h
  refine .seq (.g (.q z (.s (fa f42_1 z z z) z (.s (ld t39 s.p1 z z z z z) z (.s (a8 (s.keep aH) u39 z z) z (.q z (.nil ?_)))))))
  refine .cs z h ?_ ?_ <;> intro h
  ·refine .skip (.seq (.block (.seq (.rk 13 s [0,0] T.mix ?_))))
   intro W s
   have t:=s.to [0,0]
   refine .ts' 0 z (λW t=>fa f42_1 z z z) t z (.ts' 1 z (λW t=>ld t39 t.p1 z z z z z) t z (.tp' 2 z z t (bv h λx1 hx1 h=>?_)))
   obtain ⟨k1,hd,hck1⟩:=RV.el2 aH hx1
   have hd1:=ri hd
   obtain ⟨v1,k1,rfl,q1,hd2⟩:=c9 aH hd1
   obtain ⟨k1,rfl,hd3⟩:=dJ aH z hd2
   obtain rfl:=iq aH hd3
   refine .ts' 3 z (λW t=>ixv (s.keep aH) hx1 u39 t60 z z z) t z (.ts' 4 z (λW t=>fe f60_1 z z z) t z (.ts' 5 z (λW t=>lde (hck1 _ t.agree) T.t3 z z z z z) t z (.ts' 6 z (λW t=>fa f42_1 z z z) t z (.ts' 7 z (λW t=>ld t39 t z z z z z) t z (.tp' 8 z z t (bv h λx2 hx2 h=>?_))))))
   obtain ⟨k2,hd,hck2⟩:=RV.el2 cQ hx2
   have hd1:=ri hd
   obtain ⟨v2,k2,rfl,q2,hd2⟩:=c9 cQ hd1
   obtain ⟨k2,rfl,hd3⟩:=dJ cQ z hd2
   obtain rfl:=iq cQ hd3
   refine .ts' 9 z (λW t=>ixv (s.keep cQ) hx2 u39 t60 z z z) t z (.ts' 10 z (λW t=>fe f60_1 z z z) t z (.ts' 11 z (λW t=>lde (hck2 _ t.agree) T.t3 z z z z z) t z (.tp' 12 z z t (.done ?_))))
   refine .cs z h ?_ ?_ <;> intro h
   ·refine .g (.qn z (.ret ?_))
    cases h
    exact ⟨by simp,z,ac (vs:=[_]) () (rt z rn) z (s.to [])⟩
   refine .skip (.region (.q z (.q z (.q z (.nil ?_)))))
   cases h
   exact ⟨z,sb z,s.to [0,0]⟩
  refine .exit ?_
  cases h
  exact ⟨by simp,z,sb z,s.to [0,0]⟩
 intro x E W hJ
 rcases y1 with o3 | o4
 ·obtain ⟨rfl,hF⟩:=hJ
  refine ⟨_,λ_ _ h=>h,?_⟩
  cases h
  exact hF
 obtain ⟨rfl,hE,s⟩:=hJ
 refine ⟨_,hE.sub,?_⟩
 refine .g (.s (fa f42_2 z z z) z (.s (ld t40 s.p1 z z z z z) z (.s (fa f42_2 z z z) z (.s (ld t40 s z z z z z) z (bv h λy4 hy4 h=>.c (.cO s func141 (sB hy4 (s.keep cR) (s.keep oS)) z z ?_))))))
 intro W s
 refine .q z (bv h λb1 hb1 h=>.cu 6 58 (b1) s ?_ ?_)
 ·refine .both (y4) (λb=>?_) (λb=>?_)
  ·have hg3:=b
   have h:=aK b hb1
   refine .g hg3 (.s (fa f42_5 z z z) z (.g hg3 (.s (ld t23 s.p1 z z z z z) z (.g hg3 (.s (fa f42_5 z z z) z (.g hg3 (.s (ld t23 s z z z z z) z (bv h λy5 hy5 h=>.g hg3 (.c (.cO s func15 (mj hy5 (s.keep dU) (s.keep sC)) z z ?_))))))))))
   intro W s
   refine .s (pkt hg3 z z z) z ?_
   cases h
   exact .nil (ck 6 s)
  refine .xx b z (.xx b z (.xx b z (.xx b z (.xx b z ?_))))
  cases aL b hb1
  exact .s (pkf b z z z) z (.nil (ck 6 s))
 intro W s
 obtain rfl:=o9 h
 exact .qn z (.ret (ac () (rt z rn) z (s.to [])))
def tY (w:World) (r:Bool):Env->World->Prop:=Fin Tryz.prog Tryz.f48 No w (λs:Unit=>.bool r) (λs=>[]) .ret
end

end Go.Proofs.YtgcmopfhafoabaaGreatDoor.N
