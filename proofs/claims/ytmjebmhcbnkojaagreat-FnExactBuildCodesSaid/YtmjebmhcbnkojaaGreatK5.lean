/- Printed by a program of mine: that the program's functions compute it. -/
import Derived.Test.YtmjebmhcbnkojaaGreatK4
set_option linter.unusedVariables false
set_option linter.unusedSimpArgs false
set_option maxRecDepth 100000
set_option maxHeartbeats 4000000
namespace Go.Proofs.YtmjebmhcbnkojaaGreat.N
open Go.Proofs.YtmjebmhcbnkojaaGreat.X
open T Tryz
noncomputable section
theorem nC {a0:Int} {w:World} {r:Bool} (h:kL a0=some r):CL 95 #[vi a0] w (RU w (.bool r)):=by
 unfold kL at h
 refine aw func95 z z ?_
 have s:=Sep.start w
 refine .g (.qn z (.g (.q z (.q z (.q z (.cu 3 8 ((decide (a0>=0))&&(decide (a0<12))) s ?_ ?_))))))
 ·refine .both (decide (a0>=0)) (λb=>?_) (λb=>?_)
  ·have hg1:=b
   exact .g hg1 (.q z (.g hg1 (.q z (.s (pkt hg1 z z z) z (.nil (ck 3 s z (bc hg1)))))))
  exact .xx b z (.xx b z (.s (pkf b z z z) z (.nil (ck 3 s z (be b)))))
 intro W s
 cases h
 exact .qn z (.ret (aa () (rt z rn) z (s.to [])))
theorem rl {a0:Int} {w:World} {r:Bool} (h:iK a0=some r):CL 96 #[vi a0] w (RU w (.bool r)):=by
 unfold iK at h
 refine aw func96 z z ?_
 have s:=Sep.start w
 refine .g (.qn z (.g (.q z (.q z (.q z (.cu 3 8 ((decide (a0>=(-2147483648)))&&(decide (a0<=2147483647))) s ?_ ?_))))))
 ·refine .both (decide (a0>=(-2147483648))) (λb=>?_) (λb=>?_)
  ·have hg1:=b
   exact .g hg1 (.q z (.g hg1 (.q z (.s (pkt hg1 z z z) z (.nil (ck 3 s z (bc hg1)))))))
  exact .xx b z (.xx b z (.s (pkf b z z z) z (.nil (ck 3 s z (be b)))))
 intro W s
 cases h
 exact .qn z (.ret (aa () (rt z rn) z (s.to [])))
theorem ol {a0:Int} {w:World} {r:Bool} (h:ju a0=some r):CL 97 #[vi a0] w (RU w (.bool r)):=by
 unfold ju at h
 refine aw func97 z z ?_
 have s:=Sep.start w
 refine .g (.qn z (.g (.q z (.q z (.q z (.cu 3 8 ((decide (a0>=1))&&(decide (a0<=12))) s ?_ ?_))))))
 ·refine .both (decide (a0>=1)) (λb=>?_) (λb=>?_)
  ·have hg1:=b
   exact .g hg1 (.q z (.g hg1 (.q z (.s (pkt hg1 z z z) z (.nil (ck 3 s z (bc hg1)))))))
  exact .xx b z (.xx b z (.s (pkf b z z z) z (.nil (ck 3 s z (be b)))))
 intro W s
 cases h
 exact .qn z (.ret (aa () (rt z rn) z (s.to [])))
theorem rm {a0:ab} {a1:Int} {w:World} {r:Bool} (h:iL a0 a1=some r):CL 62 #[.agg #[vi a0.Op,vi a0.Dst,vi a0.A,vi a0.B,vi a0.N],vi a1] w (RU w (.bool r)):=by
 unfold iL at h
 refine aw func62 z z ?_
 have s:=Sep.start w
 refine .g (.c (.box s z z ?_))
 intro g1 W s
 refine .qn z (.seq (.rk 15 s [0] T.mix ?_))
 intro W s
 have t:=s.to [0]
 refine .ts' 0 z (λW t=>fa f62_1 z z z) t z (.ts' 1 z (λW t=>ld t3 t z z z z z) t z (.ts' 3 z (λW t=>fa f62_2 z z z) t z (.ts' 4 z (λW t=>ld t3 t z z z z z) t z (.ts' 6 z (λW t=>fa f62_3 z z z) t z (.ts' 7 z (λW t=>ld t3 t z z z z z) t z (.ts' 9 z (λW t=>fa f62_4 z z z) t z (.ts' 10 z (λW t=>ld t3 t z z z z z) t z (bv h λy1 hy1 h=>.by1 2 z (.cO s func95 (nC hy1) z z ?_)))))))))
 intro W s
 refine s.an [0] λt=>bv h λy2 hy2 h=>.by1 5 z (.cO s func95 (nC hy2) z z ?_)
 intro W s
 refine s.an [0] λt=>bv h λy3 hy3 h=>.by1 8 z (.cO s func95 (nC hy3) z z ?_)
 intro W s
 refine s.an [0] λt=>.tp' 11 z z t (.tp' 12 z z t (.tp' 13 z z t (.tp' 14 z z t (.done (.seq (.g (.s (fa f62_0 z z z) z (.s (ld t3 s z z z z z) z (.nil (.block (.g (.q z (.q z (.nil ?_))))))))))))))
 refine .cs z h ?_ ?_ <;> intro h
 ·refine .g (.s (ld t62 s z z z z z) z (.s (fa f62_1 z z z) z (.s (ld t3 s z z z z z) z (.q z (.s (bs T.s62 z z) z (.s (eqs T.e62 z z z z) z (.q z (.cu 2 32 (((a0.Op==1)&&((a0.Dst==a0.Dst)&&((a0.A==0)&&((a0.B==0)&&((a0.N==a0.N)&&true)))))&&y1) s ?_ ?_))))))))
  ·refine .both (((a0.Op==1)&&((a0.Dst==a0.Dst)&&((a0.A==0)&&((a0.B==0)&&((a0.N==a0.N)&&true)))))) (λb=>?_) (λb=>?_)
   ·have hg1:=b
    exact .g hg1 (.q z (.s (pkt hg1 z z z) z (.nil (ck 2 s z (bc hg1)))))
   exact .xx b z (.s (pkf b z z z) z (.nil (ck 2 s z (be b))))
  intro W s
  refine .q z (bv h λb1 hb1 h=>.cu 3 36 (b1) s ?_ ?_)
  ·refine .both (((a0.Op==1)&&((a0.Dst==a0.Dst)&&((a0.A==0)&&((a0.B==0)&&((a0.N==a0.N)&&true)))))&&y1) (λb=>?_) (λb=>?_)
   ·have hg2:=b
    have h:=aW b hb1
    refine .g hg2 (.q z (bv h λy4 hy4 h=>.g hg2 (.c (.cO s func96 (rl hy4) z z ?_))))
    intro W s
    refine .s (pkt hg2 z z z) z ?_
    cases h
    exact .nil (ck 3 s)
   refine .xx b z (.xx b z ?_)
   cases aX b hb1
   exact .s (pkf b z z z) z (.nil (ck 3 s))
  intro W s
  obtain rfl:=o9 h
  exact .qn z (.ret (aa () (rt z rn) z (s.to [])))
 refine .g (.q z (.q z (.nil ?_)))
 refine .cs z h ?_ ?_ <;> intro h
 ·refine .g (.s (ld t62 s z z z z z) z (.s (fa f62_1 z z z) z (.s (ld t3 s z z z z z) z (.s (fa f62_2 z z z) z (.s (ld t3 s z z z z z) z (.s (bs T.s62 z z) z (.s (eqs T.e62 z z z z) z (.q z (.cu 2 48 (((a0.Op==2)&&((a0.Dst==a0.Dst)&&((a0.A==a0.A)&&((a0.B==0)&&((a0.N==0)&&true)))))&&y1) s ?_ ?_)))))))))
  ·refine .both (((a0.Op==2)&&((a0.Dst==a0.Dst)&&((a0.A==a0.A)&&((a0.B==0)&&((a0.N==0)&&true)))))) (λb=>?_) (λb=>?_)
   ·have hg3:=b
    exact .g hg3 (.q z (.s (pkt hg3 z z z) z (.nil (ck 2 s z (bc hg3)))))
   exact .xx b z (.s (pkf b z z z) z (.nil (ck 2 s z (be b))))
  intro W s
  refine .q z (.cu 2 51 ((((a0.Op==2)&&((a0.Dst==a0.Dst)&&((a0.A==a0.A)&&((a0.B==0)&&((a0.N==0)&&true)))))&&y1)&&y2) s ?_ ?_)
  ·refine .both (((a0.Op==2)&&((a0.Dst==a0.Dst)&&((a0.A==a0.A)&&((a0.B==0)&&((a0.N==0)&&true)))))&&y1) (λb=>?_) (λb=>?_)
   ·have hg4:=b
    exact .g hg4 (.q z (.s (pkt hg4 z z z) z (.nil (ck 2 s z (bc hg4)))))
   exact .xx b z (.s (pkf b z z z) z (.nil (ck 2 s z (be b))))
  intro W s
  cases h
  exact .qn z (.ret (aa () (rt z rn) z (s.to [])))
 refine .g (.q z (.q z (.nil ?_)))
 refine .cs z h ?_ ?_ <;> intro h
 ·refine .g (.q z (.q z (.cu 2 57 (y1&&y2) s ?_ ?_)))
  ·refine .both (y1) (λb=>?_) (λb=>?_)
   ·have hg5:=b
    exact .g hg5 (.q z (.s (pkt hg5 z z z) z (.nil (ck 2 s z (bc hg5)))))
   exact .xx b z (.s (pkf b z z z) z (.nil (ck 2 s z (be b))))
  intro W s
  refine .q z (.cu 2 60 ((y1&&y2)&&y3) s ?_ ?_)
  ·refine .both (y1&&y2) (λb=>?_) (λb=>?_)
   ·have hg6:=b
    exact .g hg6 (.q z (.s (pkt hg6 z z z) z (.nil (ck 2 s z (bc hg6)))))
   exact .xx b z (.s (pkf b z z z) z (.nil (ck 2 s z (be b))))
  intro W s
  refine .q z (bv h λb2 hb2 h=>.cu 3 64 (b2) s ?_ ?_)
  ·refine .both ((y1&&y2)&&y3) (λb=>?_) (λb=>?_)
   ·have hg7:=b
    have h:=aW b hb2
    refine .g hg7 (.q z (bv h λy5 hy5 h=>.g hg7 (.c (.cO s func97 (ol hy5) z z ?_))))
    intro W s
    refine .s (pkt hg7 z z z) z ?_
    cases h
    exact .nil (ck 3 s)
   refine .xx b z (.xx b z ?_)
   cases aX b hb2
   exact .s (pkf b z z z) z (.nil (ck 3 s))
  intro W s
  obtain rfl:=o9 h
  exact .qn z (.ret (aa () (rt z rn) z (s.to [])))
 refine .g (.q z (.q z (.nil ?_)))
 refine .cs z h ?_ ?_ <;> intro h
 ·refine .g (.s (ld t62 s z z z z z) z (.q z (.s (bs T.s62 z z) z (.s (eqs T.e62 z z z z) z (.q z (.cu 3 74 (((a0.Op==4)&&((a0.Dst==0)&&((a0.A==0)&&((a0.B==0)&&((a0.N==a0.N)&&true)))))&&(decide (a0.N>=0))) s ?_ ?_))))))
  ·refine .both (((a0.Op==4)&&((a0.Dst==0)&&((a0.A==0)&&((a0.B==0)&&((a0.N==a0.N)&&true)))))) (λb=>?_) (λb=>?_)
   ·have hg8:=b
    exact .g hg8 (.q z (.g hg8 (.q z (.s (pkt hg8 z z z) z (.nil (ck 3 s z (bc hg8)))))))
   exact .xx b z (.xx b z (.s (pkf b z z z) z (.nil (ck 3 s z (be b)))))
  intro W s
  refine .q z (.cu 4 79 ((((a0.Op==4)&&((a0.Dst==0)&&((a0.A==0)&&((a0.B==0)&&((a0.N==a0.N)&&true)))))&&(decide (a0.N>=0)))&&(decide (a0.N<a1))) s ?_ ?_)
  ·refine .both (((a0.Op==4)&&((a0.Dst==0)&&((a0.A==0)&&((a0.B==0)&&((a0.N==a0.N)&&true)))))&&(decide (a0.N>=0))) (λb=>?_) (λb=>?_)
   ·have hg9:=b
    exact .g hg9 (.q z (.g hg9 (.q z (.g hg9 (.q z (.s (pkt hg9 z z z) z (.nil (ck 4 s z (bc hg9)))))))))
   exact .xx b z (.xx b z (.xx b z (.s (pkf b z z z) z (.nil (ck 4 s z (be b))))))
  intro W s
  cases h
  exact .qn z (.ret (aa () (rt z rn) z (s.to [])))
 refine .g (.q z (.q z (.nil ?_)))
 refine .cs z h ?_ ?_ <;> intro h
 ·refine .g (.s (ld t62 s z z z z z) z (.s (fa f62_2 z z z) z (.s (ld t3 s z z z z z) z (.q z (.s (bs T.s62 z z) z (.s (eqs T.e62 z z z z) z (.q z (.cu 2 90 (((a0.Op==5)&&((a0.Dst==0)&&((a0.A==a0.A)&&((a0.B==0)&&((a0.N==a0.N)&&true)))))&&y2) s ?_ ?_))))))))
  ·refine .both (((a0.Op==5)&&((a0.Dst==0)&&((a0.A==a0.A)&&((a0.B==0)&&((a0.N==a0.N)&&true)))))) (λb=>?_) (λb=>?_)
   ·have hg10:=b
    exact .g hg10 (.q z (.s (pkt hg10 z z z) z (.nil (ck 2 s z (bc hg10)))))
   exact .xx b z (.s (pkf b z z z) z (.nil (ck 2 s z (be b))))
  intro W s
  refine .q z (.cu 3 94 ((((a0.Op==5)&&((a0.Dst==0)&&((a0.A==a0.A)&&((a0.B==0)&&((a0.N==a0.N)&&true)))))&&y2)&&(decide (a0.N>=0))) s ?_ ?_)
  ·refine .both (((a0.Op==5)&&((a0.Dst==0)&&((a0.A==a0.A)&&((a0.B==0)&&((a0.N==a0.N)&&true)))))&&y2) (λb=>?_) (λb=>?_)
   ·have hg11:=b
    exact .g hg11 (.q z (.g hg11 (.q z (.s (pkt hg11 z z z) z (.nil (ck 3 s z (bc hg11)))))))
   exact .xx b z (.xx b z (.s (pkf b z z z) z (.nil (ck 3 s z (be b)))))
  intro W s
  refine .q z (.cu 4 99 (((((a0.Op==5)&&((a0.Dst==0)&&((a0.A==a0.A)&&((a0.B==0)&&((a0.N==a0.N)&&true)))))&&y2)&&(decide (a0.N>=0)))&&(decide (a0.N<a1))) s ?_ ?_)
  ·refine .both ((((a0.Op==5)&&((a0.Dst==0)&&((a0.A==a0.A)&&((a0.B==0)&&((a0.N==a0.N)&&true)))))&&y2)&&(decide (a0.N>=0))) (λb=>?_) (λb=>?_)
   ·have hg12:=b
    exact .g hg12 (.q z (.g hg12 (.q z (.g hg12 (.q z (.s (pkt hg12 z z z) z (.nil (ck 4 s z (bc hg12)))))))))
   exact .xx b z (.xx b z (.xx b z (.s (pkf b z z z) z (.nil (ck 4 s z (be b))))))
  intro W s
  cases h
  exact .qn z (.ret (aa () (rt z rn) z (s.to [])))
 refine .g (.q z (.q z (.nil ?_)))
 refine .cs z h ?_ ?_ <;> intro h
 ·refine .g (.s (ld t62 s z z z z z) z (.s (fa f62_2 z z z) z (.s (ld t3 s z z z z z) z (.q z (.s (bs T.s62 z z) z (.s (eqs T.e62 z z z z) z (.q z (.cu 2 110 (((a0.Op==6)&&((a0.Dst==0)&&((a0.A==a0.A)&&((a0.B==0)&&((a0.N==a0.N)&&true)))))&&y2) s ?_ ?_))))))))
  ·refine .both (((a0.Op==6)&&((a0.Dst==0)&&((a0.A==a0.A)&&((a0.B==0)&&((a0.N==a0.N)&&true)))))) (λb=>?_) (λb=>?_)
   ·have hg13:=b
    exact .g hg13 (.q z (.s (pkt hg13 z z z) z (.nil (ck 2 s z (bc hg13)))))
   exact .xx b z (.s (pkf b z z z) z (.nil (ck 2 s z (be b))))
  intro W s
  refine .q z (.cu 3 114 ((((a0.Op==6)&&((a0.Dst==0)&&((a0.A==a0.A)&&((a0.B==0)&&((a0.N==a0.N)&&true)))))&&y2)&&(decide (a0.N>=0))) s ?_ ?_)
  ·refine .both (((a0.Op==6)&&((a0.Dst==0)&&((a0.A==a0.A)&&((a0.B==0)&&((a0.N==a0.N)&&true)))))&&y2) (λb=>?_) (λb=>?_)
   ·have hg14:=b
    exact .g hg14 (.q z (.g hg14 (.q z (.s (pkt hg14 z z z) z (.nil (ck 3 s z (bc hg14)))))))
   exact .xx b z (.xx b z (.s (pkf b z z z) z (.nil (ck 3 s z (be b)))))
  intro W s
  refine .q z (.cu 3 118 (((((a0.Op==6)&&((a0.Dst==0)&&((a0.A==a0.A)&&((a0.B==0)&&((a0.N==a0.N)&&true)))))&&y2)&&(decide (a0.N>=0)))&&(decide (a0.N<3))) s ?_ ?_)
  ·refine .both ((((a0.Op==6)&&((a0.Dst==0)&&((a0.A==a0.A)&&((a0.B==0)&&((a0.N==a0.N)&&true)))))&&y2)&&(decide (a0.N>=0))) (λb=>?_) (λb=>?_)
   ·have hg15:=b
    exact .g hg15 (.q z (.g hg15 (.q z (.s (pkt hg15 z z z) z (.nil (ck 3 s z (bc hg15)))))))
   exact .xx b z (.xx b z (.s (pkf b z z z) z (.nil (ck 3 s z (be b)))))
  intro W s
  cases h
  exact .qn z (.ret (aa () (rt z rn) z (s.to [])))
 refine .g (.q z (.q z (.nil ?_)))
 refine .cs z h ?_ ?_ <;> intro h
 ·refine .g (.s (ld t62 s z z z z z) z (.s (fa f62_1 z z z) z (.s (ld t3 s z z z z z) z (.q z (.s (bs T.s62 z z) z (.s (eqs T.e62 z z z z) z (.q z (.cu 2 129 (((a0.Op==7)&&((a0.Dst==a0.Dst)&&((a0.A==0)&&((a0.B==0)&&((a0.N==a0.N)&&true)))))&&y1) s ?_ ?_))))))))
  ·refine .both (((a0.Op==7)&&((a0.Dst==a0.Dst)&&((a0.A==0)&&((a0.B==0)&&((a0.N==a0.N)&&true)))))) (λb=>?_) (λb=>?_)
   ·have hg16:=b
    exact .g hg16 (.q z (.s (pkt hg16 z z z) z (.nil (ck 2 s z (bc hg16)))))
   exact .xx b z (.s (pkf b z z z) z (.nil (ck 2 s z (be b))))
  intro W s
  refine .q z (.cu 3 133 ((((a0.Op==7)&&((a0.Dst==a0.Dst)&&((a0.A==0)&&((a0.B==0)&&((a0.N==a0.N)&&true)))))&&y1)&&(decide (a0.N>=0))) s ?_ ?_)
  ·refine .both (((a0.Op==7)&&((a0.Dst==a0.Dst)&&((a0.A==0)&&((a0.B==0)&&((a0.N==a0.N)&&true)))))&&y1) (λb=>?_) (λb=>?_)
   ·have hg17:=b
    exact .g hg17 (.q z (.g hg17 (.q z (.s (pkt hg17 z z z) z (.nil (ck 3 s z (bc hg17)))))))
   exact .xx b z (.xx b z (.s (pkf b z z z) z (.nil (ck 3 s z (be b)))))
  intro W s
  refine .q z (.cu 3 137 (((((a0.Op==7)&&((a0.Dst==a0.Dst)&&((a0.A==0)&&((a0.B==0)&&((a0.N==a0.N)&&true)))))&&y1)&&(decide (a0.N>=0)))&&(decide (a0.N<3))) s ?_ ?_)
  ·refine .both ((((a0.Op==7)&&((a0.Dst==a0.Dst)&&((a0.A==0)&&((a0.B==0)&&((a0.N==a0.N)&&true)))))&&y1)&&(decide (a0.N>=0))) (λb=>?_) (λb=>?_)
   ·have hg18:=b
    exact .g hg18 (.q z (.g hg18 (.q z (.s (pkt hg18 z z z) z (.nil (ck 3 s z (bc hg18)))))))
   exact .xx b z (.xx b z (.s (pkf b z z z) z (.nil (ck 3 s z (be b)))))
  intro W s
  cases h
  exact .qn z (.ret (aa () (rt z rn) z (s.to [])))
 refine .g (.q z (.q z (.nil ?_)))
 refine .cs z h ?_ ?_ <;> intro h
 ·refine .g (.s (ld t62 s z z z z z) z (.s (fa f62_2 z z z) z (.s (ld t3 s z z z z z) z (.s (bs T.s62 z z) z (.s (eqs T.e62 z z z z) z (.q z (.cu 2 147 (((a0.Op==9)&&((a0.Dst==0)&&((a0.A==a0.A)&&((a0.B==0)&&((a0.N==0)&&true)))))&&y2) s ?_ ?_)))))))
  ·refine .both (((a0.Op==9)&&((a0.Dst==0)&&((a0.A==a0.A)&&((a0.B==0)&&((a0.N==0)&&true)))))) (λb=>?_) (λb=>?_)
   ·have hg19:=b
    exact .g hg19 (.q z (.s (pkt hg19 z z z) z (.nil (ck 2 s z (bc hg19)))))
   exact .xx b z (.s (pkf b z z z) z (.nil (ck 2 s z (be b))))
  intro W s
  cases h
  exact .qn z (.ret (aa () (rt z rn) z (s.to [])))
 refine bv h λy6 hy6 h=>?_
 refine .seq (CW.via (R':=λx E' W'=>x=.normal/\ao E' [(2,Pt g1),(148,.bool y6)]/\Sep No w W' [.box g1 62 [vi a0.Op,vi a0.Dst,vi a0.A,vi a0.B,vi a0.N]]) ?_ ?_)
 ·have h:=hy6
  refine .g (.q z (.q z (.nil ?_)))
  refine .cs z h ?_ ?_ <;> intro h
  ·refine .skip ?_
   cases h
   exact ⟨z,sb z,s.tk [0]⟩
  refine .region (.q z (.q z (.nil ?_)))
  cases h
  exact ⟨z,sb z,s.tk [0]⟩
 intro x E W hJ
 obtain ⟨rfl,hE,s⟩:=hJ
 refine ⟨_,hE.sub,?_⟩
 refine .cs z h ?_ ?_ <;> intro h
 ·cases h
  exact .g (.s (ld t62 s z z z z z) z (.s (fa f62_0 z z z) z (.s (ld t3 s z z z z z) z (.s (bs T.s62 z z) z (.s (eqs T.e62 z z z z) z (.qn z (.ret (aa () (rt z rn) z (s.to [])))))))))
 obtain rfl:=o9 h
 exact .skip (.g (.qn z (.ret (aa () (rt z rn) z (s.to [])))))
def sw (w:World) (r:Bool):Env->World->Prop:=Fin Tryz.prog Tryz.f31 No w (λs:Unit=>.bool r) (λs=>[]) .ret
theorem bU {a0:List ab} {v_0:Hd} {w:World} {r:Bool} (h:ba a0=some r) (q_0:RO w v_0 62 5 ah a0):CL 31 #[sv v_0] w (RU w (.bool r)):=by
 unfold ba at h
 refine aw func31 z z ?_
 have s:=Sep.start w
 refine .g (.qn z (.seq (.g (.q z (.s (aD (s.keep q_0) u33 z z) z (.q z (.q z (.cu 4 13 ((decide ((a0.length:Int)<1))||(decide ((a0.length:Int)>600))) s ?_ ?_))))))))
 ·refine .both (decide ((a0.length:Int)<1)) (λb=>?_) (λb=>?_)
  ·exact .xx b z (.xx b z (.xx b z (.s (pkt b z z z) z (.nil (ck 4 s z (kK b))))))
  have hg1:=b
  exact .g hg1 (.q z (.g hg1 (.s (aD (s.keep q_0) u33 z z) z (.g hg1 (.q z (.s (pkf hg1 z z z) z (.nil (ck 4 s z (jT hg1)))))))))
 intro W s
 refine .nil ?_
 refine .cs z h ?_ ?_ <;> intro h
 ·obtain rfl:=o9 h
  exact .g (.qn z (.ret (aa () (rt z rn) z (s.to []))))
 refine .skip (.seq (.g (.q z (.s (aD (s.keep q_0) u33 z z) z (.qn z (.block (bv h λy1 hy1 h=>?_)))))))
 refine .via (.iter (λs1 E' W'=>ao E' [(0,(sv v_0)),(14,(sv v_0)),(15,vi (a0.length:Int)),(16,vi s1)]/\Sep No w W' []) (λy2 x E' W'=>(match y2 with | .inl o1=>x=.ret/\sw w o1 E' W' | .inr o2=>x=.exit 0/\ao E' [(0,(sv v_0))]/\Sep No w W' [])) hy1 ⟨sb rfl,s.to [] rfl⟩ ?_) ?_
 ·intro s1 y3 E W h hI
  obtain ⟨hE,s⟩:=hI
  refine CW.sub hE ?_
  unfold kW at h
  refine .g (.qn z (.seq ?_))
  refine .cs z h ?_ ?_ <;> intro h
  ·refine .skip (.seq (.block (.g (bv h λx1 hx1 h=>.s (ixv (s.keep q_0) hx1 u33 t62 z z z) z (.s (lde (RV.flat (s.keep q_0) hx1 z) t62 z z z z z) z (.c (.alloc t62 s ?_)))))))
   intro g1 W s
   refine .c (.st t62 s z z z ?_)
   intro W s
   refine .nil (.g (.s (ld t62 s z z z z z) z (.q z (.s (aD (s.keep q_0) u33 z z) z (bv h λy4 hy4 h=>.c (.cO s func62 (rm hy4) z z ?_))))))
   intro W s
   refine .q z (.nil ?_)
   refine .cs z h ?_ ?_ <;> intro h
   ·refine .g (.qn z (.ret ?_))
    cases h
    exact ⟨by simp,z,aa (vs:=[_]) () (rt z rn) z (s.to [])⟩
   refine .skip (.region (.q z (.q z (.nil ?_))))
   cases h
   exact ⟨z,sb z,s.to []⟩
  refine .exit ?_
  cases h
  exact ⟨by simp,z,sb z,s.to []⟩
 intro x E W hJ
 rcases y1 with o3 | o4
 ·have h:=bQ h
  obtain ⟨rfl,hF⟩:=hJ
  refine ⟨_,λ_ _ h=>h,?_⟩
  cases h
  exact hF
 have h:=bR h
 obtain ⟨rfl,hE,s⟩:=hJ
 refine ⟨_,hE.sub,?_⟩
 refine .g (.q z (.q z (.s (aD (s.keep q_0) u33 z z) z (.q z (bv h λx2 hx2 h=>.s (ixv (s.keep q_0) hx2 u33 t62 z z z) z (.s (fe f62_0 z z z) z (.s (lde (RV.flat (s.keep q_0) hx2 z) t3 z z z z z) z (.qn z (.g (.q z (.q z (.q z (.cu 3 38 ((x2.Op==10)||(x2.Op==4)) s ?_ ?_)))))))))))))
 ·refine .both (x2.Op==10) (λb=>?_) (λb=>?_)
  ·exact .xx b z (.xx b z (.s (pkt b z z z) z (.nil (ck 3 s z (kK b)))))
  have hg2:=b
  exact .g hg2 (.q z (.g hg2 (.q z (.s (pkf hg2 z z z) z (.nil (ck 3 s z (jT hg2)))))))
 intro W s
 cases h
 exact .qn z (.ret (aa () (rt z rn) z (s.to [])))
theorem aU {a0:List ab} {v_0:Hd} {w:World} {r:(List ab)} (h:aA a0=some r) (q_0:RO w v_0 62 5 ah a0):CL 32 #[sv v_0] w (Ret No w (λs:Hd=>(sv s)) (λs=>[ac (sv s) 62 5 ah r])):=by
 unfold aA at h
 refine aw func32 z z ?_
 have s:=Sep.start w
 refine .g (.qn z (.seq (.g (.q z (.s (Dp u33 z z) z (.nil (.cond z (λb=>?_) (λb=>?_))))))))
 ·have hl:=RV.isnil q_0 b
  subst hl
  refine .g (.qn z (.ret ?_))
  have s:=s.nilv 62 5 ah
  have h:some []=some r:=h
  cases h
  exact aa lN (rt z rn) z (s.tk [0])
 refine .skip (.g (.c (.liv [] ah u33 t62 s z z z z ?_ z (λ_=>z))))
 intro v1 W s
 refine .q z (bv h λr1 hr1 h=>.c (.av hr1 s (s.keep q_0) (λ_=>z) u33 t62 z z z ?_))
 intro v2 W s
 obtain rfl:=o9 h
 exact .qn z (.ret (aa v2 (rt z rn) z (s.tk [0])))
theorem pe {a0:ab} {w:World} {r:Int} (h:iM a0=some r):CL 66 #[.agg #[vi a0.Op,vi a0.Dst,vi a0.A,vi a0.B,vi a0.N]] w (RU w (.int .u16 r)):=by
 unfold iM at h
 refine aw func66 z z ?_
 have s:=Sep.start w
 refine .g (.c (.box s z z ?_))
 intro g1 W s
 refine .qn z (.seq (.g (.s (fa f62_0 z z z) z (.s (ld t3 s z z z z z) z (.nil (.block (bv h λy1 hy1 h=>?_)))))))
 refine .seq (CW.via (R':=λx E' W'=>x=.normal/\ao E' [(1,Pt g1),(4,vi a0.Op),(5,.bool y1)]/\Sep No w W' [.box g1 62 [vi a0.Op,vi a0.Dst,vi a0.A,vi a0.B,vi a0.N]]) ?_ ?_)
 ·have h:=hy1
  refine .g (.q z (.q z (.nil ?_)))
  refine .cs z h ?_ ?_ <;> intro h
  ·refine .skip ?_
   cases h
   exact ⟨z,sb z,s.tk [0]⟩
  refine .g (.q z (.q z (.nil ?_)))
  refine .cs z h ?_ ?_ <;> intro h
  ·refine .skip ?_
   cases h
   exact ⟨z,sb z,s.tk [0]⟩
  refine .g (.q z (.q z (.nil ?_)))
  refine .cs z h ?_ ?_ <;> intro h
  ·refine .skip ?_
   cases h
   exact ⟨z,sb z,s.tk [0]⟩
  refine .region (.q z (.q z (.nil ?_)))
  cases h
  exact ⟨z,sb z,s.tk [0]⟩
 intro x E W hJ
 obtain ⟨rfl,hE,s⟩:=hJ
 refine ⟨_,hE.sub,?_⟩
 refine .cs z h ?_ ?_ <;> intro h
 ·refine .g (.s (fa f62_2 z z z) z (.s (ld t3 s z z z z z) z (bv h λd1 hd1 h=>.s (jt hd1 z z z) z (.qn z (.ret ?_)))))
  obtain rfl:=o9 h
  exact aa () (rt z rn) z (s.to [])
 refine .g (.q z (.q z (.nil ?_)))
 refine .cs z h ?_ ?_ <;> intro h
 ·refine .seq (.rk 8 s [0] T.mix ?_)
  intro W s
  have t:=s.to [0]
  refine .ts' 0 z (λW t=>fa f62_2 z z z) t z (.ts' 1 z (λW t=>ld t3 t z z z z z) t z (bv h λd2 hd2 h=>.ts' 2 z (λW t=>jt hd2 z z z) t z (.ts' 3 z (λW t=>fa f62_3 z z z) t z (.ts' 4 z (λW t=>ld t3 t z z z z z) t z (bv h λd3 hd3 h=>.ts' 5 z (λW t=>jt hd3 z z z) t z (.tp' 6 z z t (.tp' 7 z z t (.done (.ret ?_)))))))))
  cases h
  exact aa () (rt z rn) z (s.to [])
 cases h
 exact .skip (.g (.qn z (.ret (aa () (rt z rn) z (s.to [])))))
theorem jn {a0:ab} {w:World} {r:Int} (h:dU a0=some r):CL 108 #[.agg #[vi a0.Op,vi a0.Dst,vi a0.A,vi a0.B,vi a0.N]] w (RU w (.int .i64 r)):=by
 unfold dU at h
 refine aw func108 z z ?_
 have s:=Sep.start w
 refine .g (.c (.box s z z ?_))
 intro g1 W s
 refine .qn z (.seq (.g (.s (fa f62_0 z z z) z (.s (ld t3 s z z z z z) z (.nil (.block (bv h λy1 hy1 h=>?_)))))))
 refine .seq (CW.via (R':=λx E' W'=>x=.normal/\ao E' [(1,Pt g1),(5,.bool y1)]/\Sep No w W' [.box g1 62 [vi a0.Op,vi a0.Dst,vi a0.A,vi a0.B,vi a0.N]]) ?_ ?_)
 ·have h:=hy1
  refine .g (.q z (.q z (.nil ?_)))
  refine .cs z h ?_ ?_ <;> intro h
  ·refine .skip ?_
   cases h
   exact ⟨z,sb z,s.tk [0]⟩
  refine .g (.q z (.q z (.nil ?_)))
  refine .cs z h ?_ ?_ <;> intro h
  ·refine .skip ?_
   cases h
   exact ⟨z,sb z,s.tk [0]⟩
  refine .g (.q z (.q z (.nil ?_)))
  refine .cs z h ?_ ?_ <;> intro h
  ·refine .skip ?_
   cases h
   exact ⟨z,sb z,s.tk [0]⟩
  refine .region (.q z (.q z (.nil ?_)))
  cases h
  exact ⟨z,sb z,s.tk [0]⟩
 intro x E W hJ
 obtain ⟨rfl,hE,s⟩:=hJ
 refine ⟨_,hE.sub,?_⟩
 refine .cs z h ?_ ?_ <;> intro h
 ·cases h
  exact .g (.s (fa f62_1 z z z) z (.s (ld t3 s z z z z z) z (.qn z (.ret (aa () (rt z rn) z (s.to []))))))
 cases h
 exact .skip (.g (.qn z (.ret (aa () (rt z rn) z (s.to [])))))
theorem ly {a0:ab} {a1:Int} {w:World} {r:(List Int)} (h:gP a0 a1=some r):CL 105 #[.agg #[vi a0.Op,vi a0.Dst,vi a0.A,vi a0.B,vi a0.N],vi a1] w (Ret No w (λs:Hd=>(sv s)) (λs=>[ac (sv s) 3 1 (D.int .i64) r])):=by
 unfold gP at h
 refine aw func105 z z ?_
 have s:=Sep.start w
 refine .g (.c (.box s z z ?_))
 intro g1 W s
 refine .qn z (.seq (.block (.g (.s (fa f62_0 z z z) z (.s (ld t3 s z z z z z) z (.q z (.q z (.nil ?_))))))))
 refine .cs z h ?_ ?_ <;> intro h
 ·refine .g (.qn z (.ret ?_))
  have s:=s.nilv 3 1 (D.int .i64)
  cases h
  exact aa lN (rt z rn) z (s.tk [0])
 refine .g (.s (fa f62_0 z z z) z (.s (ld t3 s z z z z z) z (.q z (.q z (.nil ?_)))))
 refine .cs z h ?_ ?_ <;> intro h
 ·refine .g (.s (fa f62_4 z z z) z (.s (ld t3 s z z z z z) z (.c (.liv [a0.N] (D.int .i64) u23 t3 s z z z z ?_ z (λ_=>z)))))
  intro v1 W s
  cases h
  exact .qn z (.ret (aa v1 (rt z rn) z (s.tk [0])))
 refine .g (.s (fa f62_0 z z z) z (.s (ld t3 s z z z z z) z (.q z (.q z (.cu 6 26 ((a0.Op==5)&&(decide (a0.N<(w64 (a1+1))))) s ?_ ?_)))))
 ·refine .both (a0.Op==5) (λb=>?_) (λb=>?_)
  ·have hg1:=b
   exact .g hg1 (.s (fa f62_4 z z z) z (.g hg1 (.s (ld t3 s z z z z z) z (.g hg1 (.q z (.g hg1 (.q z (.g hg1 (.q z (.s (pkt hg1 z z z) z (.nil (ck 6 s z (bc hg1)))))))))))))
  exact .xx b z (.xx b z (.xx b z (.xx b z (.xx b z (.s (pkf b z z z) z (.nil (ck 6 s z (be b))))))))
 intro W s
 refine .q z (.nil ?_)
 refine .cs z h ?_ ?_ <;> intro h
 ·refine .g (.s (fa f62_4 z z z) z (.s (ld t3 s z z z z z) z (.q z (.q z (.c (.liv [a0.N,w64 (a1+1)] (D.int .i64) u23 t3 s z z z z ?_ z (λ_=>z)))))))
  intro v2 W s
  cases h
  exact .qn z (.ret (aa v2 (rt z rn) z (s.tk [0])))
 refine .g (.s (fa f62_0 z z z) z (.s (ld t3 s z z z z z) z (.q z (.q z (.cu 6 42 ((a0.Op==5)&&(decide (a0.N>(w64 (a1+1))))) s ?_ ?_)))))
 ·refine .both (a0.Op==5) (λb=>?_) (λb=>?_)
  ·have hg2:=b
   exact .g hg2 (.s (fa f62_4 z z z) z (.g hg2 (.s (ld t3 s z z z z z) z (.g hg2 (.q z (.g hg2 (.q z (.g hg2 (.q z (.s (pkt hg2 z z z) z (.nil (ck 6 s z (bc hg2)))))))))))))
  exact .xx b z (.xx b z (.xx b z (.xx b z (.xx b z (.s (pkf b z z z) z (.nil (ck 6 s z (be b))))))))
 intro W s
 refine .q z (.nil ?_)
 refine .cs z h ?_ ?_ <;> intro h
 ·refine .g (.q z (.q z (.s (fa f62_4 z z z) z (.s (ld t3 s z z z z z) z (.c (.liv [w64 (a1+1),a0.N] (D.int .i64) u23 t3 s z z z z ?_ z (λ_=>z)))))))
  intro v3 W s
  cases h
  exact .qn z (.ret (aa v3 (rt z rn) z (s.tk [0])))
 refine .skip (.g (.q z (.q z (.c (.liv [w64 (a1+1)] (D.int .i64) u23 t3 s z z z z ?_ z (λ_=>z))))))
 intro v4 W s
 cases h
 exact .qn z (.ret (aa v4 (rt z rn) z (s.tk [0])))
theorem kP {a0:List ab} {a1:List Int} {a2:Int} {v_0:Hd} {v_1:Hd} {w:World} {r:Int} (h:dC a0 a1 a2=some r) (q_0:RO w v_0 62 5 ah a0) (q_1:RO w v_1 99 1 (D.int .u16) a1):CL 109 #[sv v_0,sv v_1,vi a2] w (RU w (.int .u16 r)):=by
 unfold dC at h
 refine aw func109 z z ?_
 have s:=Sep.start w
 refine .g (.qn z (.g (.qn z (.seq (.g (.q z (.q z (bv h λx1 hx1 h=>.s (ixv (s.keep q_0) hx1 u33 t62 z z z) z (.s (lde (RV.flat (s.keep q_0) hx1 z) t62 z z z z z) z (.q z (bv h λy1 hy1 h=>.c (.cV s func105 (ly hy1) z z ?_))))))))))))
 intro v1 W s
 refine .s (aD s.lv u23 z z) z (.qn z (.block (bv h λy2 hy2 h=>?_)))
 refine .via (.iter (λs1 E' W'=>ao E' [(1,(sv v_1)),(7,.int .u16 s1.1),(15,(sv v1)),(16,vi (y1.length:Int)),(17,vi s1.2)]/\Sep No w W' [ac (sv v1) 3 1 (D.int .i64) y1]) (λy3 x E' W'=>x=.exit 0/\ao E' [(7,.int .u16 y3)]/\Sep No w W' [ac (sv v1) 3 1 (D.int .i64) y1]) hy2 ⟨sb z,s.tk [0]⟩ ?_) ?_
 ·intro s1 y4 E W h hI
  obtain ⟨hE,s⟩:=hI
  refine CW.sub hE ?_
  unfold kM at h
  refine .g (.qn z (.seq ?_))
  refine .cs z h ?_ ?_ <;> intro h
  ·refine .skip (.seq (.block (.g (bv h λx2 hx2 h=>.s (ixv s.lv hx2 u23 t3 z z z) z (.s (lde (RV.flat s.lv hx2 z) t3 z z z z z) z (.qn z (.region (.q z (.q z (.q z (bv h λx3 hx3 h=>.s (ixv (s.keep q_1) hx3 u134 t99 z z z) z (.s (lde (RV.flat (s.keep q_1) hx3 z) t99 z z z z z) z (.q z (.qn z (.region (.q z (.q z (.nil ?_))))))))))))))))))
   cases h
   exact ⟨z,sb z,s.tk [0]⟩
  refine .exit ?_
  cases h
  exact ⟨by simp,z,sb z,s.tk [0]⟩
 intro x E W hJ
 obtain ⟨rfl,hE,s⟩:=hJ
 refine ⟨_,hE.sub,?_⟩
 obtain rfl:=o9 h
 exact .g (.q z (.qn z (.ret (aa () (rt z rn) z (s.to [])))))
theorem nf {a0:List ab} {v_0:Hd} {w:World} {r:(List Int)} (h:dD a0=some r) (q_0:RO w v_0 62 5 ah a0):CL 107 #[sv v_0] w (Ret No w (λs:Hd=>(sv s)) (λs=>[ac (sv s) 99 1 (D.int .u16) r])):=by
 unfold dD at h
 refine aw func107 z z ?_
 have s:=Sep.start w
 refine .g (.qn z (.g (.q z (.s (aD (s.keep q_0) u33 z z) z (bv h λr1 hr1 h=>.c (.mkv 0 (D.int .u16) hr1 u134 t99 s z z z z z (λ_=>z) ?_))))))
 intro v1 W s
 refine .qn z (.seq (.g (.qn z (.block (bv h λy1 hy1 h=>?_)))))
 refine .via (.iter (λs1 E' W'=>ao E' [(0,(sv v_0)),(3,(sv v1)),(4,.bool s1.1)]/\Sep No w W' [ac (sv v1) 99 1 (D.int .u16) s1.2]) (λy2 x E' W'=>x=.exit 0/\ao E' [(3,(sv v1))]/\Sep No w W' [ac (sv v1) 99 1 (D.int .u16) y2]) hy1 ⟨sb z,s.tk [0]⟩ ?_) ?_
 ·intro s1 y3 E W h hI
  obtain ⟨hE,s⟩:=hI
  refine CW.sub hE ?_
  unfold bz at h
  refine .seq (.g (.q z (.nil ?_)))
  refine .cs z h ?_ ?_ <;> intro h
  ·refine .skip (.block (.g (.qn z (.g (.q z (.s (aD (s.keep q_0) u33 z z) z (.q z (.qn z (.block (bv h λy4 hy4 h=>?_))))))))))
   refine .via (.iter (λs2 E' W'=>ao E' [(0,(sv v_0)),(3,(sv v1)),(4,.bool s2.1),(5,vi s2.2.1)]/\Sep No w W' [ac (sv v1) 99 1 (D.int .u16) s2.2.2]) (λy5 x E' W'=>x=.exit 2/\ao E' [(0,(sv v_0)),(3,(sv v1)),(4,.bool y5.1)]/\Sep No w W' [ac (sv v1) 99 1 (D.int .u16) y5.2]) hy4 ⟨sb z,s.tk [0]⟩ ?_) ?_
   ·intro s2 y6 E W h hI
    obtain ⟨hE,s⟩:=hI
    refine CW.sub hE ?_
    unfold cU at h
    refine .seq (.g (.q z (.q z (.nil ?_))))
    refine .cs z h ?_ ?_ <;> intro h
    ·refine .skip (bv h λy7 hy7 h=>?_)
     refine .seq (CW.via (R':=λx E' W'=>x=.normal/\ao E' [(0,(sv v_0)),(3,(sv v1)),(4,.bool y7.1),(5,vi s2.2.1)]/\Sep No w W' [ac (sv v1) 99 1 (D.int .u16) y7.2]) ?_ ?_)
     ·have h:=hy7
      refine .block (.g (.q z (.q z (.q z (bv h λy8 hy8 h=>.c (.cO s func109 (kP hy8 (s.keep q_0) s.lv) z z ?_))))))
      intro W s
      refine .qn z (bv h λy9 hy9 h=>?_)
      refine .seq (CW.via (R':=λx E' W'=>x=.normal/\ao E' [(0,(sv v_0)),(3,(sv v1)),(4,.bool s2.1),(5,vi s2.2.1),(6,.int .u16 y9)]/\Sep No w W' [ac (sv v1) 99 1 (D.int .u16) s2.2.2]) ?_ ?_)
      ·have h:=hy9
       refine .g (.q z (.q z (bv h λx1 hx1 h=>.s (ixv (s.keep q_0) hx1 u33 t62 z z z) z (.s (lde (RV.flat (s.keep q_0) hx1 z) t62 z z z z z) z (bv h λy10 hy10 h=>.c (.cO s func108 (jn hy10) z z ?_))))))
       intro W s
       refine .qn z (.g (.q z (.q z (.nil ?_))))
       refine .cs z h ?_ ?_ <;> intro h
       ·refine .region (.q z (.q z (bv h λd1 hd1 h=>.s (jt hd1 z z z) z (.q z (.q z (.nil ?_))))))
        cases h
        exact ⟨z,sb z,s.tk [0]⟩
       refine .skip ?_
       obtain rfl:=o9 h
       exact ⟨z,sb z,s.tk [0]⟩
      intro x E W hJ
      obtain ⟨rfl,hE,s⟩:=hJ
      refine ⟨_,hE.sub,?_⟩
      refine .g (.q z (.q z (.q z (bv h λx2 hx2 h=>.s (ixv (s.keep q_0) hx2 u33 t62 z z z) z (.s (lde (RV.flat (s.keep q_0) hx2 z) t62 z z z z z) z (bv h λy11 hy11 h=>.c (.cO s func66 (pe hy11) z z ?_)))))))
      intro W s
      refine .q z (.qn z (.g (.q z (.q z (.q z (bv h λx3 hx3 h=>.s (ixv s.lv hx3 u134 t99 z z z) z (.s (lde (RV.flat s.lv hx3 z) t99 z z z z z) z (.q z (.nil ?_)))))))))
      refine .cs z h ?_ ?_ <;> intro h
      ·refine .g (.q z (.q z (.q z (bv h λx4 hx4 h=>.s (ixv s.lv hx4 u134 t99 z z z) z (bv h λr2 hr2 h=>.c (.sev hr2 hx4 s t99 z z z z z z ?_))))))
       intro W s
       refine .nil (.region (.q z (.nil ?_)))
       cases h
       exact ⟨z,sb z,s.tk [0]⟩
      refine .skip ?_
      cases h
      exact ⟨z,sb z,s.tk [0]⟩
     intro x E W hJ
     obtain ⟨rfl,hE,s⟩:=hJ
     refine ⟨_,hE.sub,?_⟩
     refine .region (.q z (.q z (.q z (.nil ?_))))
     cases h
     exact ⟨z,sb z,s.tk [0]⟩
    refine .exit ?_
    cases h
    exact ⟨by simp,z,sb z,s.tk [0]⟩
   intro x E W hJ
   obtain ⟨rfl,hE,s⟩:=hJ
   refine ⟨_,hE.sub,?_⟩
   cases h
   exact ⟨z,sb z,s.tk [0]⟩
  refine .exit ?_
  cases h
  exact ⟨by simp,z,sb z,s.tk [0]⟩
 intro x E W hJ
 obtain ⟨rfl,hE,s⟩:=hJ
 refine ⟨_,hE.sub,?_⟩
 obtain rfl:=o9 h
 exact .g (.q z (.qn z (.ret (aa v1 (rt z rn) z (s.tk [0])))))
theorem hU {a0:Int} {a1:Int} {w:World} {r:Bool} (h:cQ a0 a1=some r):CL 73 #[.int .u16 a0,vi a1] w (RU w (.bool r)):=by
 unfold cQ at h
 refine aw func73 z z ?_
 have s:=Sep.start w
 refine .g (.qn z (.g (.q z (.q z (bv h λd1 hd1 h=>.s (jt hd1 z z z) z (.q z (.q z (.qn z (.ret ?_)))))))))
 cases h
 exact aa () (rt z rn) z (s.to [])
theorem pN {a0:Int} {w:World} {r:(List Int)} (h:gg a0=some r):CL 110 #[.int .u16 a0] w (Ret No w (λs:Hd=>(sv s)) (λs=>[ac (sv s) 3 1 (D.int .i64) r])):=by
 unfold gg at h
 refine aw func110 z z ?_
 have s:=Sep.start w
 refine .g (.qn z (.g (.qn z (.seq (.g (.qn z (.block ?_)))))))
 have s:=s.nilv 3 1 (D.int .i64)
 refine bv h λy1 hy1 h=>?_
 refine .via (.iter (λs1 E' W'=>∃ (v3:Hd),ao E' [(0,.int .u16 a0),(3,(sv v3)),(5,vi s1.2)]/\Sep No w W' [ac (sv v3) 3 1 (D.int .i64) s1.1]) (λy2 x E' W'=>x=.exit 0/\∃ (v4:Hd),ao E' [(3,(sv v4))]/\Sep No w W' [ac (sv v4) 3 1 (D.int .i64) y2]) hy1 ⟨lN,sb z,s.tk [0]⟩ ?_) ?_
 ·intro s1 y3 E W h hI
  obtain ⟨v2,hE,s⟩:=hI
  refine CW.sub hE ?_
  unfold jU at h
  refine .g (.qn z (.seq ?_))
  refine .cs z h ?_ ?_ <;> intro h
  ·refine .skip (bv h λy4 hy4 h=>?_)
   refine .seq (CW.via (R':=λx E' W'=>x=.normal/\∃ (v5:Hd),ao E' [(0,.int .u16 a0),(3,(sv v5)),(5,vi s1.2)]/\Sep No w W' [ac (sv v5) 3 1 (D.int .i64) y4]) ?_ ?_)
   ·have h:=hy4
    refine .block (.g (.q z (.qn z (.g (.q z (.q z (bv h λy5 hy5 h=>.c (.cO s func73 (hU hy5) z z ?_))))))))
    intro W s
    refine .nil ?_
    refine .cs z h ?_ ?_ <;> intro h
    ·refine .region (.q z (.q z (.c (.liv [s1.2] (D.int .i64) u23 t3 s z z z z ?_ z (λ_=>z)))))
     intro v6 W s
     refine bv h λr1 hr1 h=>?_
     have hT0:=s.p1
     refine .c (.av hr1 hT0 hT0.p1.lv (λ_=>z) u23 t3 z z z ?_)
     intro v7 W s
     refine .q z (.nil ?_)
     obtain rfl:=o9 h
     exact ⟨z,v7,sb z,s.tk [0]⟩
    refine .skip ?_
    cases h
    exact ⟨z,v2,sb z,s.tk [0]⟩
   intro x E W hJ
   obtain ⟨rfl,v8,hE,s⟩:=hJ
   refine ⟨_,hE.sub,?_⟩
   refine .region (.q z (.q z (.nil ?_)))
   cases h
   exact ⟨z,v8,sb z,s.tk [0]⟩
  refine .exit ?_
  cases h
  exact ⟨by simp,z,v2,sb z,s.tk [0]⟩
 intro x E W hJ
 obtain ⟨rfl,v9,hE,s⟩:=hJ
 refine ⟨_,hE.sub,?_⟩
 obtain rfl:=o9 h
 exact .g (.q z (.qn z (.ret (aa v9 (rt z rn) z (s.tk [0])))))
theorem sA {a0:List ab} {v_0:Hd} {w:World} {r:(Ar Int)} (h:ip a0=some r) (q_0:RO w v_0 62 5 ah a0):CL 72 #[sv v_0] w (RU w (.agg (ib r).toArray)):=by
 unfold ip at h
 refine aw func72 z z ?_
 have s:=Sep.start w
 refine .g (.c (.alloc t104 s ?_))
 intro g1 W s
 have s:Sep _ _ _ [.box g1 104 (ib (λ_=>0))]:=id s
 refine .nil (.g (.c (.alloc t104 s ?_)))
 intro g2 W s
 have s:Sep _ _ _ [.box g2 104 (ib (λ_=>0)),.box g1 104 (ib (λ_=>0))]:=id s
 refine .nil (.g (.q z (bv h λy1 hy1 h=>.c (.cV s func107 (nf hy1 (s.keep q_0)) z z ?_))))
 intro v1 W s
 refine .qn z (.seq (.g (.q z (.s (aD (s.keep q_0) u33 z z) z (.qn z (.block (bv h λy2 hy2 h=>?_)))))))
 refine .via (.iter (λs1 E' W'=>ao E' [(0,(sv v_0)),(2,Pt g1),(3,Pt g2),(4,(sv v1)),(13,(sv v_0)),(14,vi (a0.length:Int)),(15,vi s1.1)]/\Sep No w W' [ac (sv v1) 99 1 (D.int .u16) y1,.box g2 104 (ib s1.2),.box g1 104 (ib (λ_=>0))]) (λy3 x E' W'=>x=.exit 0/\ao E' [(2,Pt g1),(3,Pt g2)]/\Sep No w W' [ac (sv v1) 99 1 (D.int .u16) y1,.box g2 104 (ib y3),.box g1 104 (ib (λ_=>0))]) hy2 ⟨sb z,s.tk [0,0,0]⟩ ?_) ?_
 ·intro s1 y4 E W h hI
  obtain ⟨hE,s⟩:=hI
  refine CW.sub hE ?_
  unfold lS at h
  refine .g (.qn z (.seq ?_))
  refine .cs z h ?_ ?_ <;> intro h
  ·refine .skip (bv h λy5 hy5 h=>?_)
   refine .seq (CW.via (R':=λx E' W'=>x=.normal/\ao E' [(0,(sv v_0)),(2,Pt g1),(3,Pt g2),(4,(sv v1)),(13,(sv v_0)),(14,vi (a0.length:Int)),(15,vi s1.1)]/\Sep No w W' [ac (sv v1) 99 1 (D.int .u16) y1,.box g2 104 (ib y5),.box g1 104 (ib (λ_=>0))]) ?_ ?_)
   ·have h:=hy5
    refine .block (.g (.q z (bv h λx1 hx1 h=>.s (ixv (s.keep q_0) hx1 u33 t62 z z z) z (.s (lde (RV.flat (s.keep q_0) hx1 z) t62 z z z z z) z (.c (.alloc t62 s ?_))))))
    intro g3 W s
    refine .q z (.c (.st t62 s z z z ?_))
    intro W s
    refine .nil (.g (.s (ld t62 s z z z z z) z (bv h λy6 hy6 h=>.c (.cO s func108 (jn hy6) z z ?_))))
    intro W s
    refine .qn z (.seq (.g (.q z (.q z (.nil ?_)))))
    refine .cs z h ?_ ?_ <;> intro h
    ·refine .exit ?_
     cases h
     exact ⟨z,sb z,s.tk [1,1,1]⟩
    refine .skip (.seq (.rk 8 s [0,0,0,0] T.mix ?_))
    intro W s
    have t:=s.to [0,0,0,0]
    refine .tp' 0 z z t (.tp' 1 z z t (.tp' 2 z z t (.tp' 4 z z t (bv h λd1 hd1 h=>.ts' 5 z (λW t=>jt hd1 z z z) t z (bv h λy7 hy7 h=>.by1 3 z (.cO s func109 (kP hy7 (s.keep q_0) s.p1.lv) z z ?_))))))
    intro W s
    refine s.an [0,0,0,0] λt=>.tp' 6 z z t (.tp' 7 z z t (.done (bv h λy8 hy8 h=>?_)))
    refine .seq (CW.via (R':=λx E' W'=>x=.normal/\ao E' [(0,(sv v_0)),(2,Pt g1),(3,Pt g2),(4,(sv v1)),(7,vi y6),(8,.int .u16 y8),(13,(sv v_0)),(14,vi (a0.length:Int)),(15,vi s1.1)]/\Sep No w W' [.box g3 62 [vi x1.Op,vi x1.Dst,vi x1.A,vi x1.B,vi x1.N],ac (sv v1) 99 1 (D.int .u16) y1,.box g2 104 (ib s1.2),.box g1 104 (ib (λ_=>0))]) ?_ ?_)
    ·have h:=hy8
     refine .g (.s (fa f62_0 z z z) z (.s (ld t3 s z z z z z) z (.q z (.nil ?_))))
     refine .cs z h ?_ ?_ <;> intro h
     ·refine .region (.q z (.s (fa f62_2 z z z) z (.s (ld t3 s z z z z z) z (bv h λd2 hd2 h=>.s (jt hd2 z z z) z (.q z (.q z (.nil ?_)))))))
      cases h
      exact ⟨z,sb z,s.tk [0,0,0,0]⟩
     refine .skip ?_
     cases h
     exact ⟨z,sb z,s.tk [0,0,0,0]⟩
    intro x E W hJ
    obtain ⟨rfl,hE,s⟩:=hJ
    refine ⟨_,hE.sub,?_⟩
    refine .g (.q z (bv h λx2 hx2 h=>.s (ixa hx2 u104 t99 z z z) z (.s (ldx s.p2 hx2 (λ_=>z) t99 z z z z z) z (.q z (.q z (bv h λx3 hx3 h=>.s (ixa hx3 u104 t99 z z z) z (.c (.stx (x1:=bj .or .u16 x2 y8) hx3 s.p2 (λ_=>z) t99 z z z z ?_))))))))
    intro W s
    refine .nil (.g (.q z (bv h λy9 hy9 h=>.c (.cV s func110 (pN hy9) z z ?_))))
    intro v2 W s
    refine .s (aD s.lv u23 z z) z (.qn z (.block (bv h λy10 hy10 h=>?_)))
    refine .via (.iter (λs2 E' W'=>ao E' [(0,(sv v_0)),(2,Pt g1),(3,Pt g2),(4,(sv v1)),(7,vi y6),(13,(sv v_0)),(14,vi (a0.length:Int)),(15,vi s1.1),(46,(sv v2)),(47,vi (y9.length:Int)),(48,vi s2.1)]/\Sep No w W' [ac (sv v2) 3 1 (D.int .i64) y9,.box g2 104 (ib s2.2),.box g3 62 [vi x1.Op,vi x1.Dst,vi x1.A,vi x1.B,vi x1.N],ac (sv v1) 99 1 (D.int .u16) y1,.box g1 104 (ib (λ_=>0))]) (λy11 x E' W'=>x=.exit 2/\ao E' [(0,(sv v_0)),(2,Pt g1),(3,Pt g2),(4,(sv v1)),(13,(sv v_0)),(14,vi (a0.length:Int)),(15,vi s1.1)]/\Sep No w W' [ac (sv v2) 3 1 (D.int .i64) y9,.box g2 104 (ib y11),.box g3 62 [vi x1.Op,vi x1.Dst,vi x1.A,vi x1.B,vi x1.N],ac (sv v1) 99 1 (D.int .u16) y1,.box g1 104 (ib (λ_=>0))]) hy10 ⟨sb z,s.tk [0,0,0,0,0]⟩ ?_) ?_
    ·intro s2 y12 E W h hI
     obtain ⟨hE,s⟩:=hI
     refine CW.sub hE ?_
     unfold jv at h
     refine .g (.qn z (.seq ?_))
     refine .cs z h ?_ ?_ <;> intro h
     ·refine .skip (.seq (.block (.g (bv h λx4 hx4 h=>.s (ixv s.lv hx4 u23 t3 z z z) z (.s (lde (RV.flat s.lv hx4 z) t3 z z z z z) z (.qn z (.rk 7 s [0,0,0,0,0] T.mix ?_)))))))
      intro W s
      have t:=s.to [0,0,0,0,0]
      refine .tp' 0 z z t (bv h λx5 hx5 h=>.ts' 1 z (λW t=>ixa hx5 u104 t99 z z z) t z (.ts' 2 z (λW t=>ldx t.p1 hx5 (λ_=>z) t99 z z z z z) t z (.tp' 3 z z t (bv h λd3 hd3 h=>.ts' 4 z (λW t=>jt hd3 z z z) t z (.tp' 5 z z t (bv h λx6 hx6 h=>.ts' 6 z (λW t=>ixa hx6 u104 t99 z z z) t z (.by1 7 z (.stx (x1:=bj .or .u16 x5 d3) hx6 s.p1 (λ_=>z) t99 z z z z ?_))))))))
      intro W s
      refine ⟨λh=>absurd z h,?_⟩
      refine .done (.region (.q z (.q z (.nil ?_))))
      cases h
      exact ⟨z,sb z,s.tk [1,0,0,0,0]⟩
     refine .exit ?_
     cases h
     exact ⟨by simp,z,sb z,s.tk [0,0,0,0,0]⟩
    intro x E W hJ
    obtain ⟨rfl,hE,s⟩:=hJ
    refine ⟨_,hE.sub,?_⟩
    obtain rfl:=o9 h
    exact ⟨z,sb z,s.tk [3,1,2]⟩
   intro x E W hJ
   obtain ⟨rfl,hE,s⟩:=hJ
   refine ⟨_,hE.sub,?_⟩
   refine .region (.q z (.q z (.nil ?_)))
   cases h
   exact ⟨z,sb z,s.tk [0,0,0]⟩
  refine .exit ?_
  cases h
  exact ⟨by simp,z,sb z,s.tk [0,0,0]⟩
 intro x E W hJ
 obtain ⟨rfl,hE,s⟩:=hJ
 refine ⟨_,hE.sub,?_⟩
 refine .g (.s (lda t104 s.p1 (wH _) z z) z (.c (.sta t104 s.p2 wH AD z z z ?_)))
 intro W s
 obtain rfl:=o9 h
 exact .nil (.ret (aa () (rc s t104 z rn (wH _) z) z (s.to [])))
theorem sB {a0:List ab} {v_0:Hd} {w:World} {r:(List Int)} (h:iq a0=some r) (q_0:RO w v_0 62 5 ah a0):CL 38 #[sv v_0] w (Ret No w (λs:Hd=>(sv s)) (λs=>[ac (sv s) 3 1 (D.int .i64) r])):=by
 unfold iq at h
 refine aw func38 z z ?_
 have s:=Sep.start w
 refine .g (.qn z (.g (.q z (bv h λy1 hy1 h=>.c (.cO s func72 (sA hy1 (s.keep q_0)) z z ?_)))))
 intro W s
 refine .c (.alloc t104 s ?_)
 intro g1 W s
 have s:Sep _ _ _ [.box g1 104 (ib (λ_=>0))]:=id s
 refine .c (.sta t104 s wH AD z z z ?_)
 intro W s
 refine .nil (.g (bv h λr1 hr1 h=>.c (.mkv 0 (D.int .i64) hr1 u23 t3 s z z z z z (λ_=>z) ?_)))
 intro v1 W s
 refine .qn z (.seq (.g (.q z (.s (aD s.lv u23 z z) z (.qn z (.block (bv h λy2 hy2 h=>?_)))))))
 refine .via (.iter (λs1 E' W'=>ao E' [(3,Pt g1),(4,(sv v1)),(12,vi (r1.length:Int)),(13,vi s1.1)]/\Sep No w W' [ac (sv v1) 3 1 (D.int .i64) s1.2,.box g1 104 (ib y1)]) (λy3 x E' W'=>x=.exit 0/\ao E' [(4,(sv v1))]/\Sep No w W' [ac (sv v1) 3 1 (D.int .i64) y3,.box g1 104 (ib y1)]) hy2 ⟨sb z,s.tk [0,0]⟩ ?_) ?_
 ·intro s1 y4 E W h hI
  obtain ⟨hE,s⟩:=hI
  refine CW.sub hE ?_
  unfold lW at h
  refine .g (.qn z (.seq ?_))
  refine .cs z h ?_ ?_ <;> intro h
  ·refine .skip (.seq (.block (.g (.q z (.qn z (.g (.qn z (.seq (.g (.q z (.qn z (.block (bv h λy5 hy5 h=>?_)))))))))))))
   refine .via (.iter (λs2 E' W'=>ao E' [(3,Pt g1),(4,(sv v1)),(5,vi s1.1),(6,.int .u16 s2.1),(12,vi (r1.length:Int)),(13,vi s1.1),(16,vi s1.1),(17,vi s2.2)]/\Sep No w W' [ac (sv v1) 3 1 (D.int .i64) s1.2,.box g1 104 (ib y1)]) (λy6 x E' W'=>x=.exit 2/\ao E' [(3,Pt g1),(4,(sv v1)),(5,vi s1.1),(6,.int .u16 y6),(12,vi (r1.length:Int)),(13,vi s1.1)]/\Sep No w W' [ac (sv v1) 3 1 (D.int .i64) s1.2,.box g1 104 (ib y1)]) hy5 ⟨sb z,s.tk [0,0]⟩ ?_) ?_
   ·intro s2 y7 E W h hI
    obtain ⟨hE,s⟩:=hI
    refine CW.sub hE ?_
    unfold lU at h
    refine .g (.qn z (.seq ?_))
    refine .cs z h ?_ ?_ <;> intro h
    ·refine .skip (bv h λy8 hy8 h=>?_)
     refine .seq (CW.via (R':=λx E' W'=>x=.normal/\ao E' [(3,Pt g1),(4,(sv v1)),(5,vi s1.1),(6,.int .u16 y8),(12,vi (r1.length:Int)),(13,vi s1.1),(16,vi s1.1),(17,vi s2.2)]/\Sep No w W' [ac (sv v1) 3 1 (D.int .i64) s1.2,.box g1 104 (ib y1)]) ?_ ?_)
     ·have h:=hy8
      refine .block (.g (.q z (.qn z (.g (.q z (bv h λx1 hx1 h=>.s (ixa hx1 u104 t99 z z z) z (.s (ldx s.p1 hx1 (λ_=>z) t99 z z z z z) z (.q z (bv h λy9 hy9 h=>.c (.cO s func73 (hU hy9) z z ?_))))))))))
      intro W s
      refine .nil ?_
      refine .cs z h ?_ ?_ <;> intro h
      ·refine .region (.q z (.q z (.q z (bv h λx2 hx2 h=>.s (ixv s.lv hx2 u23 t3 z z z) z (.s (lde (RV.flat s.lv hx2 z) t3 z z z z z) z (bv h λd1 hd1 h=>.s (jt hd1 z z z) z (.q z (.q z (.nil ?_)))))))))
       cases h
       exact ⟨z,sb z,s.tk [0,0]⟩
      refine .skip ?_
      cases h
      exact ⟨z,sb z,s.tk [0,0]⟩
     intro x E W hJ
     obtain ⟨rfl,hE,s⟩:=hJ
     refine ⟨_,hE.sub,?_⟩
     refine .region (.q z (.q z (.nil ?_)))
     cases h
     exact ⟨z,sb z,s.tk [0,0]⟩
    refine .exit ?_
    cases h
    exact ⟨by simp,z,sb z,s.tk [0,0]⟩
   intro x E W hJ
   obtain ⟨rfl,hE,s⟩:=hJ
   refine ⟨_,hE.sub,?_⟩
   refine .block (bv h λy10 hy10 h=>?_)
   refine .via (.iter (λs3 E' W'=>ao E' [(3,Pt g1),(4,(sv v1)),(5,vi s1.1),(6,.int .u16 y5),(12,vi (r1.length:Int)),(13,vi s1.1)]/\Sep No w W' [ac (sv v1) 3 1 (D.int .i64) s3,.box g1 104 (ib y1)]) (λy11 x E' W'=>x=.exit 4/\ao E' [(3,Pt g1),(4,(sv v1)),(12,vi (r1.length:Int)),(13,vi s1.1)]/\Sep No w W' [ac (sv v1) 3 1 (D.int .i64) y11,.box g1 104 (ib y1)]) hy10 ⟨sb z,s.tk [0,0]⟩ ?_) ?_
   ·intro s3 y12 E W h hI
    obtain ⟨hE,s⟩:=hI
    refine CW.sub hE ?_
    unfold lV at h
    refine .seq (.g (.q z (.q z (.q z (bv h λx3 hx3 h=>.s (ixv s.lv hx3 u23 t3 z z z) z (.s (lde (RV.flat s.lv hx3 z) t3 z z z z z) z (bv h λy13 hy13 h=>.c (.cO s func73 (hU hy13) z z ?_))))))))
    intro W s
    refine .nil ?_
    refine .cs z h ?_ ?_ <;> intro h
    ·refine .skip (.block (.region (.q z (.q z (bv h λx4 hx4 h=>.s (ixv s.lv hx4 u23 t3 z z z) z (.s (lde (RV.flat s.lv hx4 z) t3 z z z z z) z (.q z (bv h λx5 hx5 h=>.s (ixv s.lv hx5 u23 t3 z z z) z (bv h λr2 hr2 h=>.c (.sev hr2 hx5 s t3 z z z z z z ?_))))))))))
     intro W s
     refine .nil ?_
     cases h
     exact ⟨z,sb z,s.tk [0,0]⟩
    refine .exit ?_
    cases h
    exact ⟨by simp,z,sb z,s.tk [0,0]⟩
   intro x E W hJ
   obtain ⟨rfl,hE,s⟩:=hJ
   refine ⟨_,hE.sub,?_⟩
   refine .region (.q z (.q z (.nil ?_)))
   cases h
   exact ⟨z,sb z,s.tk [0,0]⟩
  refine .exit ?_
  cases h
  exact ⟨by simp,z,sb z,s.tk [0,0]⟩
 intro x E W hJ
 obtain ⟨rfl,hE,s⟩:=hJ
 refine ⟨_,hE.sub,?_⟩
 obtain rfl:=o9 h
 exact .g (.q z (.qn z (.ret (aa v1 (rt z rn) z (s.tk [0])))))
theorem ro {a0:List ab} {v_0:Hd} {w:World} {r:(List ab)×Bool} (h:eE a0=some r) (q_0:RO w v_0 62 5 ah a0):CL 11 #[sv v_0] w (Ret No w (λs:Hd=>.tuple #[sv s,.bool r.2]) (λs=>[ac (sv s) 62 5 ah r.1])):=by
 unfold eE at h
 refine aw func11 z z ?_
 have s:=Sep.start w
 refine .g (.q z (.qn z (.seq (.g (.q z (bv h λy1 hy1 h=>.c (.cO s func31 (bU hy1 (s.keep q_0)) z z ?_)))))))
 intro W s
 refine .q z (.nil ?_)
 refine .cs z h ?_ ?_ <;> intro h
 ·refine .g (.q z (.qn z (.ret ?_)))
  have s:=s.nilv 62 5 ah
  cases h
  exact aa (vs:=[_,_]) lN (rt z (rt z rn)) z (s.tk [0])
 refine .skip (.g (.q z (bv h λy2 hy2 h=>.c (.cV s func38 (sB hy2 (s.keep q_0)) z z ?_))))
 intro v1 W s
 refine .qn z (.g (.q z (bv h λy3 hy3 h=>.c (.cV s func32 (aU hy3 (s.keep q_0)) z z ?_))))
 intro v2 W s
 refine .qn z (.seq (.g (.q z (.s (aD (s.keep q_0) u33 z z) z (.qn z (.block (bv h λy4 hy4 h=>?_)))))))
 refine .via (.iter (λs1 E' W'=>ao E' [(4,(sv v1)),(5,(sv v2)),(15,(sv v_0)),(16,vi (a0.length:Int)),(17,vi s1.1)]/\Sep No w W' [ac (sv v2) 62 5 ah s1.2,ac (sv v1) 3 1 (D.int .i64) y2]) (λy5 x E' W'=>x=.exit 0/\ao E' [(5,(sv v2))]/\Sep No w W' [ac (sv v2) 62 5 ah y5,ac (sv v1) 3 1 (D.int .i64) y2]) hy4 ⟨sb z,s.tk [0,0]⟩ ?_) ?_
 ·intro s1 y6 E W h hI
  obtain ⟨hE,s⟩:=hI
  refine CW.sub hE ?_
  unfold fh at h
  refine .g (.qn z (.seq ?_))
  refine .cs z h ?_ ?_ <;> intro h
  ·refine .skip (.seq (.block (.g (.q z (bv h λx1 hx1 h=>.s (ixv (s.keep q_0) hx1 u33 t62 z z z) z (.s (lde (RV.flat (s.keep q_0) hx1 z) t62 z z z z z) z (.c (.alloc t62 s ?_))))))))
   intro g1 W s
   refine .q z (.c (.st t62 s z z z ?_))
   intro W s
   refine .nil (.rk 29 s [0,1] T.mix ?_)
   intro W s
   have t:=s.to [0,1]
   refine .tp' 0 z z t (.tp' 1 z z t (.tp' 2 z z t (.tp' 3 z z t (.tp' 4 z z t (.tp' 5 z z t (.tp' 6 z z t (.ts' 7 z (λW t=>fa f62_1 z z z) t z (.ts' 8 z (λW t=>ld t3 t z z z z z) t z (bv h λx2 hx2 h=>.ts' 9 z (λW t=>ixv s.p2.lv hx2 u23 t3 z z z) t z (.ts' 10 z (λW t=>lde (RV.flat t.p1.lv hx2 z) t3 z z z z z) t z (.tp' 11 z z t (.ts' 12 z (λW t=>fa f62_2 z z z) t z (.ts' 13 z (λW t=>ld t3 t z z z z z) t z (bv h λx3 hx3 h=>.ts' 14 z (λW t=>ixv s.p2.lv hx3 u23 t3 z z z) t z (.ts' 15 z (λW t=>lde (RV.flat t.p1.lv hx3 z) t3 z z z z z) t z (.tp' 16 z z t (.ts' 17 z (λW t=>fa f62_3 z z z) t z (.ts' 18 z (λW t=>ld t3 t z z z z z) t z (bv h λx4 hx4 h=>.ts' 19 z (λW t=>ixv s.p2.lv hx4 u23 t3 z z z) t z (.ts' 20 z (λW t=>lde (RV.flat t.p1.lv hx4 z) t3 z z z z z) t z (bv h λx5 hx5 h=>.ts' 21 z (λW t=>ixv s.p1.lv hx5 u33 t62 z z z) t z (.ts' 22 z (λW t=>fe f62_1 z z z) t z (bv h λr1 hr1 h=>.by1 23 z (.sev hr1 hx5 s.p1 t3 z z z z z z ?_))))))))))))))))))))))))
   intro W s
   refine s.an [1,1] λt=>bv h λx6 hx6 h=>.ts' 24 z (λW t=>ixv s.lv hx6 u33 t62 z z z) t z (.ts' 25 z (λW t=>fe f62_2 z z z) t z (bv h λr2 hr2 h=>.by1 26 z (.sev hr2 hx6 s t3 z z z z z z ?_)))
   intro W s
   refine s.an [1,1] λt=>bv h λx7 hx7 h=>.by1 27 z (.runs (ixv s.lv hx7 u33 t62 z z z) z z ?_)
   refine s.an [1,1] λt=>.ts' 28 z (λW t=>fe f62_3 z z z) t z (bv h λr3 hr3 h=>.by1 29 z (.sev hr3 hx7 s t3 z z z z z z ?_))
   intro W s
   refine ⟨λh=>absurd z h,?_⟩
   refine .done (.region (.q z (.q z (.nil ?_))))
   cases h
   exact ⟨z,sb z,s.tk [0,1]⟩
  refine .exit ?_
  cases h
  exact ⟨by simp,z,sb z,s.tk [0,0]⟩
 intro x E W hJ
 obtain ⟨rfl,hE,s⟩:=hJ
 refine ⟨_,hE.sub,?_⟩
 cases h
 exact .g (.q z (.q z (.qn z (.ret (aa (vs:=[_,_]) v2 (rt z (rt z rn)) z (s.tk [0]))))))
def hY (F:Expr->Int->List ab->Option ((List ab))):Prop:=∀ {a0:Expr} {a1:Int} {a2:List ab} {aP:Hd} {v_2:Hd} {S:Nat->Prop} {w:World} {r:(List ab)} (h:F a0 a1 a2=some r) (ar:RV w (Old S w) (sv aP) 77 3 bB a0.Args) (hO:bG w [ac (sv v_2) 62 5 ah a2] S) (hlt:∀ b,S b->b<w.heap.size) , CL 131 #[.agg #[vi a0.Op,vi a0.N,sv aP],vi a1,sv v_2] w (Ret S w (λs:Hd=>(sv s)) (λs=>[ac (sv s) 62 5 ah r]))
theorem qK {k:Nat} {eG:Expr->Int->List ab->Option ((List ab))} (mM:hY eG):hY (eF k eG):=by
 intro a0 a1 a2 aP v_2 S w r h ar hO hlt
 unfold eF at h
 refine aw func131 z z ?_
 have s:=Sep.sm hO hlt
 refine .g (.c (.box s z z ?_))
 intro g1 W s
 refine .qn z (.seq (.g (.s (fa f77_0 z z z) z (.s (ld t3 s z z z z z) z (.nil (.block (.g (.q z (.q z (.nil ?_))))))))))
 refine .cs z h ?_ ?_ <;> intro h
 ·refine .g (.q z (.q z (.s (fa f77_1 z z z) z (.s (ld t3 s z z z z z) z (.s (bs T.s62 z z) z (.c (.liv [(ab.mk 1 a1 0 0 a0.N)] ah u33 t62 s z z z z ?_ z (λ_=>z))))))))
  intro v1 W s
  refine bv h λr1 hr1 h=>?_
  have hT0:=s.p2
  refine .c (.av hr1 hT0 hT0.p1.lv (λ_=>z) u33 t62 z z z ?_)
  intro v2 W s
  obtain rfl:=o9 h
  exact .qn z (.ret (aa v2 (rt z rn) z (s.tk [0])))
 refine .g (.q z (.qn z (.cond z (λb=>?_) (λb=>?_))))
 ·have h:=aW b h
  refine .g (.q z (.q z (.s (fa f77_1 z z z) z (.s (ld t3 s z z z z z) z (.s (bs T.s62 z z) z (.c (.liv [(ab.mk 2 a1 a0.N 0 0)] ah u33 t62 s z z z z ?_ z (λ_=>z))))))))
  intro v3 W s
  refine bv h λr2 hr2 h=>?_
  have hT0:=s.p2
  refine .c (.av hr2 hT0 hT0.p1.lv (λ_=>z) u33 t62 z z z ?_)
  intro v4 W s
  obtain rfl:=o9 h
  exact .qn z (.ret (aa v4 (rt z rn) z (s.tk [0])))
 have h:=aX b h
 refine .skip (.g (.s (fa f77_2 z z z) z (.s (ld t75 s z z z z z) z (bv h λx1 hx1 h=>?_))))
 obtain ⟨k1,hd,hck1⟩:=RV.el2 ar hx1
 have hd1:=dx (f9 _) hd
 obtain ⟨k1,rfl,hd2⟩:=aY ar z hd1
 obtain ⟨k1,rfl,hd3⟩:=aY ar z hd2
 obtain ⟨v5,k1,rfl,q1,hd4⟩:=bf ar hd3
 obtain rfl:=gc ar hd4
 refine .s (ixv (s.keep ar) hx1 u75 t77 z z z) z (.s (lde (hck1 _ s.agree) t77 z z z z z) z (.q z (.q z (bv h λy1 hy1 h=>?_))))
 have s:=s.p1
 refine .c (.cS (L0:=[ac (sv v_2) 62 5 ah a2]) s func131 (λS h1 h2 h3=>(mM hy1 (s.ks (q1 _ ar) h1) h2 (zz h1))) z z ?_)
 rintro v6 W s
 refine .qn z (.g (.s (fa f77_2 z z z) z (.s (ld t75 s.p1 z z z z z) z (bv h λx2 hx2 h=>?_))))
 obtain ⟨k2,hd,hck2⟩:=RV.el2 ar hx2
 have hd1:=dx (f9 _) hd
 obtain ⟨k2,rfl,hd2⟩:=aY ar z hd1
 obtain ⟨k2,rfl,hd3⟩:=aY ar z hd2
 obtain ⟨v7,k2,rfl,q2,hd4⟩:=bf ar hd3
 obtain rfl:=gc ar hd4
 refine .s (ixv (s.keep ar) hx2 u75 t77 z z z) z (.s (lde (hck2 _ s.agree) t77 z z z z z) z (.q z (.q z (.q z (bv h λy2 hy2 h=>.c (.cS (L0:=[ac (sv v6) 62 5 ah y1]) s func131 (λS h1 h2 h3=>(mM hy2 (s.ks (q2 _ ar) h1) h2 (zz h1))) z z ?_))))))
 rintro v8 W s
 refine .qn z (.g (.q z (.q z (.q z (.q z (.q z (.s (fa f77_0 z z z) z (.s (ld t3 s.p1 z z z z z) z (.s (bs T.s62 z z) z (.c (.liv [(ab.mk 3 a1 a1 (w64 (a1+1)) a0.Op)] ah u33 t62 s z z z z ?_ z (λ_=>z))))))))))))
 intro v9 W s
 refine bv h λr3 hr3 h=>?_
 have hT0:=s.p1
 refine .c (.av hr3 hT0 hT0.p1.lv (λ_=>z) u33 t62 z z z ?_)
 intro v10 W s
 obtain rfl:=o9 h
 exact .qn z (.ret (aa v10 (rt z rn) z (s.tk [0])))
theorem nS (k:Nat):hY (d7 k):=by
  induction k with
  | zero=>exact by intro a0 a1 a2 aP v_2 S w r h ar hO hlt; exact no h
  | succ k ih=>exact qK (k:=k) ih
theorem pO {k:Nat}:hY (d7 k):=(nS k)
def dM (F:List ae->List ab->Option ((List ab))):Prop:=∀ {a0:List ae} {a1:List ab} {v_0:Hd} {v_1:Hd} {S:Nat->Prop} {w:World} {r:(List ab)} (h:F a0 a1=some r) (q_0:RV w (Old S w) (sv v_0) 80 8 aL a0) (hO:bG w [ac (sv v_1) 62 5 ah a1] S) (hlt:∀ b,S b->b<w.heap.size) , CL 61 #[sv v_0,sv v_1] w (Ret S w (λs:Hd=>(sv s)) (λs=>[ac (sv s) 62 5 ah r]))
def hZ (F:ae->List ab->Option ((List ab))):Prop:=∀ {a0:ae} {a1:List ab} {al:Hd} {aE:Hd} {aF:Hd} {v_1:Hd} {S:Nat->Prop} {w:World} {r:(List ab)} (h:F a0 a1=some r) (ak:RV w (Old S w) (sv al) 77 3 bB a0.Expr.Args) (aI:RV w (Old S w) (sv aE) 80 8 aL a0.Body) (aG:RV w (Old S w) (sv aF) 80 8 aL a0.Else) (hO:bG w [ac (sv v_1) 62 5 ah a1] S) (hlt:∀ b,S b->b<w.heap.size) , CL 94 #[.agg #[vi a0.Kind,vi a0.Var,vi a0.Box,vi a0.Expr.Op,vi a0.Expr.N,sv al,sv aE,sv aF],sv v_1] w (Ret S w (λs:Hd=>(sv s)) (λs=>[ac (sv s) 62 5 ah r]))
end
noncomputable section
theorem pP {k:Nat} {bp:List ae->List ab->Option ((List ab))} {bk:ae->List ab->Option ((List ab))} (jo:dM bp) (mN:hZ bk):dM (dI k bp bk):=by
 intro a0 a1 v_0 v_1 S w r h q_0 hO hlt
 unfold dI at h
 refine aw func61 z z ?_
 have s:=Sep.sm hO hlt
 refine .g (.qn z (.seq (.g (.q z (.s (aD (s.keep q_0) u36 z z) z (.qn z (.block (bv h λy1 hy1 h=>?_))))))))
 refine .via (.iter (λs1 E' W'=>∃ (v3:Hd),ao E' [(1,(sv v3)),(7,(sv v_0)),(8,vi (a0.length:Int)),(9,vi s1.2)]/\Sep S w W' [ac (sv v3) 62 5 ah s1.1]) (λy2 x E' W'=>x=.exit 0/\∃ (v4:Hd),ao E' [(1,(sv v4))]/\Sep S w W' [ac (sv v4) 62 5 ah y2]) hy1 ⟨v_1,sb z,s.tk [0]⟩ ?_) ?_
 ·intro s1 y3 E W h hI
  obtain ⟨v2,hE,s⟩:=hI
  refine CW.sub hE ?_
  unfold iO at h
  refine .g (.qn z (.seq (.cond z (λb=>?_) (λb=>?_))))
  ·have h:=aW b h
   refine .skip (.seq (.block (.g (bv h λx1 hx1 h=>?_))))
   obtain ⟨k1,hd,hck1⟩:=RV.el2 q_0 hx1
   have hd1:=dx (np _) hd
   obtain ⟨k1,rfl,hd2⟩:=aY q_0 z hd1
   obtain ⟨k1,rfl,hd3⟩:=aY q_0 z hd2
   obtain ⟨k1,rfl,hd4⟩:=aY q_0 z hd3
   have hd5:=dx (f9 _) hd4
   obtain ⟨k1,rfl,hd6⟩:=aY q_0 z hd5
   obtain ⟨k1,rfl,hd7⟩:=aY q_0 z hd6
   obtain ⟨v5,k1,rfl,q5,hd8⟩:=bf q_0 hd7
   obtain ⟨v6,k1,rfl,q6,hd9⟩:=bf q_0 hd8
   obtain ⟨v7,k1,rfl,q7,hd10⟩:=bf q_0 hd9
   obtain rfl:=gc q_0 hd10
   refine .s (ixv (s.keep q_0) hx1 u36 t80 z z z) z (.s (lde (hck1 _ s.agree) t80 z z z z z) z (.c (.alloc t80 s ?_)))
   intro g1 W s
   refine .c (.st t80 s z z z ?_)
   intro W s
   refine .nil (.region (.s (ld t80 s z z z z z) z (.q z (bv h λy4 hy4 h=>?_))))
   have s:=s.p1
   refine .c (.cS (L0:=[ac (sv v2) 62 5 ah s1.1]) s func94 (λS h1 h2 h3=>(mN hy4 (s.ks (q5 _ q_0) h1) (s.ks (q6 _ q_0) h1) (s.ks (q7 _ q_0) h1) h2 (zz h1))) z z ?_)
   rintro v8 W s
   refine .qn z (.region (.q z (.q z (.nil ?_))))
   cases h
   exact ⟨z,v8,sb z,s.tk [0]⟩
  have h:=aX b h
  refine .exit ?_
  cases h
  exact ⟨by simp,z,v2,sb z,s.tk [0]⟩
 intro x E W hJ
 obtain ⟨rfl,v9,hE,s⟩:=hJ
 refine ⟨_,hE.sub,?_⟩
 obtain rfl:=o9 h
 exact .g (.q z (.qn z (.ret (aa v9 (rt z rn) z (s.tk [0])))))
theorem qL {k:Nat} {bp:List ae->List ab->Option ((List ab))} {bk:ae->List ab->Option ((List ab))} (jo:dM bp) (mN:hZ bk):hZ (cj k bp bk):=by
 intro a0 a1 al aE aF v_1 S w r h ak aI aG hO hlt
 unfold cj at h
 refine aw func94 z z ?_
 have s:=Sep.sm hO hlt
 refine .g (.c (.box s z z ?_))
 intro g1 W s
 refine .qn z (.g (.q z (.s (aD s.p1.lv u33 z z) z (.qn z (bv h λy1 hy1 h=>?_)))))
 refine .seq (CW.via (R':=λx E' W'=>x=.normal/\∃ (v1:Hd),ao E' [(1,(sv v1)),(2,Pt g1),(5,vi (a1.length:Int))]/\Sep S w W' [.box g1 80 [vi a0.Kind,vi a0.Var,vi a0.Box,vi a0.Expr.Op,vi a0.Expr.N,sv al,sv aE,sv aF],ac (sv v1) 62 5 ah y1]) ?_ ?_)
 ·have h:=hy1
  refine .g (.s (fa f80_0 z z z) z (.s (ld t3 s z z z z z) z (.q z (.q z (.cu 4 17 ((a0.Kind !=5)&&(a0.Kind !=6)) s ?_ ?_)))))
  ·refine .both (a0.Kind !=5) (λb=>?_) (λb=>?_)
   ·have hg1:=b
    exact .g hg1 (.s (fa f80_0 z z z) z (.g hg1 (.s (ld t3 s z z z z z) z (.g hg1 (.q z (.s (pkt hg1 z z z) z (.nil (ck 4 s z (bc hg1)))))))))
   exact .xx b z (.xx b z (.xx b z (.s (pkf b z z z) z (.nil (ck 4 s z (be b))))))
  intro W s
  refine .nil (.cond z (λb=>?_) (λb=>?_))
  ·have h:=aW b h
   refine .region (.s (fa f80_3 z z z) z (.s (ld t77 s z z z z z) z (.q z (bv h λy2 hy2 h=>?_))))
   have s:=s.p1
   refine .c (.cS (L0:=[ac (sv v_1) 62 5 ah a1]) s func131 (λS h1 h2 h3=>(pO hy2 (s.ks ak h1) h2 (zz h1))) z z ?_)
   rintro v2 W s
   refine .q z (.nil ?_)
   obtain rfl:=o9 h
   exact ⟨z,v2,sb z,s.tk [1,0]⟩
  have h:=aX b h
  refine .skip ?_
  obtain rfl:=o9 h
  exact ⟨z,v_1,sb z,s.tk [0,0]⟩
 intro x E W hJ
 obtain ⟨rfl,v3,hE,s⟩:=hJ
 refine ⟨_,hE.sub,?_⟩
 refine .seq (.g (.s (fa f80_0 z z z) z (.s (ld t3 s z z z z z) z (.nil (.block (.g (.q z (.q z (.nil ?_)))))))))
 refine .cs z h ?_ ?_ <;> intro h
 ·refine .g (.q z (.s (fa f80_1 z z z) z (.s (ld t3 s z z z z z) z (.s (bs T.s62 z z) z (.c (.liv [(ab.mk 2 a0.Var 4 0 0)] ah u33 t62 s z z z z ?_ z (λ_=>z)))))))
  intro v4 W s
  refine bv h λr1 hr1 h=>?_
  have hT0:=s.p2
  refine .c (.av hr1 hT0 hT0.p1.lv (λ_=>z) u33 t62 z z z ?_)
  intro v5 W s
  obtain rfl:=o9 h
  exact .qn z (.ret (aa v5 (rt z rn) z (s.tk [0])))
 refine .g (.q z (.q z (.nil ?_)))
 refine .cs z h ?_ ?_ <;> intro h
 ·refine .g (.q z (.s (fa f80_2 z z z) z (.s (ld t3 s z z z z z) z (.s (bs T.s62 z z) z (.c (.liv [(ab.mk 6 0 4 0 a0.Box)] ah u33 t62 s z z z z ?_ z (λ_=>z)))))))
  intro v6 W s
  refine bv h λr2 hr2 h=>?_
  have hT0:=s.p2
  refine .c (.av hr2 hT0 hT0.p1.lv (λ_=>z) u33 t62 z z z ?_)
  intro v7 W s
  obtain rfl:=o9 h
  exact .qn z (.ret (aa v7 (rt z rn) z (s.tk [0])))
 refine .g (.q z (.q z (.nil ?_)))
 refine .cs z h ?_ ?_ <;> intro h
 ·refine .g (.q z (.s (fa f80_1 z z z) z (.s (ld t3 s z z z z z) z (.s (fa f80_2 z z z) z (.s (ld t3 s z z z z z) z (.s (bs T.s62 z z) z (.c (.liv [(ab.mk 7 a0.Var 0 0 a0.Box)] ah u33 t62 s z z z z ?_ z (λ_=>z)))))))))
  intro v8 W s
  refine bv h λr3 hr3 h=>?_
  have hT0:=s.p2
  refine .c (.av hr3 hT0 hT0.p1.lv (λ_=>z) u33 t62 z z z ?_)
  intro v9 W s
  obtain rfl:=o9 h
  exact .qn z (.ret (aa v9 (rt z rn) z (s.tk [0])))
 refine .g (.q z (.q z (.nil ?_)))
 refine .cs z h ?_ ?_ <;> intro h
 ·refine .g (.q z (.s (bs T.s62 z z) z (.c (.liv [(ab.mk 8 0 0 0 0)] ah u33 t62 s z z z z ?_ z (λ_=>z)))))
  intro v10 W s
  refine bv h λr4 hr4 h=>?_
  have hT0:=s.p2
  refine .c (.av hr4 hT0 hT0.p1.lv (λ_=>z) u33 t62 z z z ?_)
  intro v11 W s
  obtain rfl:=o9 h
  exact .qn z (.ret (aa v11 (rt z rn) z (s.tk [0])))
 refine .g (.q z (.qn z (.cond z (λb=>?_) (λb=>?_))))
 ·have h:=aW b h
  refine .g (.q z (.s (bs T.s62 z z) z (.c (.liv [(ab.mk 9 0 4 0 0)] ah u33 t62 s z z z z ?_ z (λ_=>z)))))
  intro v12 W s
  refine bv h λr5 hr5 h=>?_
  have hT0:=s.p2
  refine .c (.av hr5 hT0 hT0.p1.lv (λ_=>z) u33 t62 z z z ?_)
  intro v13 W s
  obtain rfl:=o9 h
  exact .qn z (.ret (aa v13 (rt z rn) z (s.tk [0])))
 have h:=aX b h
 refine .skip (.g (.q z (.s (aD s.p1.lv u33 z z) z (.qn z (.seq (.rk 8 s [0] T.mix ?_))))))
 intro W s
 have t:=s.to [0]
 refine .ts' 0 z (λW t=>fa f80_4 z z z) t z (.ts' 1 z (λW t=>ld t36 t z z z z z) t z (.tp' 2 z z t (.ts' 3 z (λW t=>bs T.s62 z z) t z (.by1 4 z (.liv [(ab.mk 5 0 4 0 0)] ah u33 t62 s z z z z ?_ z (λ_=>z))))))
 intro v14 W s
 refine s.an [1] λt=>bv h λr6 hr6 h=>?_
 have hT0:=s.p2
 refine .by1 5 z (.av hr6 hT0 hT0.p1.lv (λ_=>z) u33 t62 z z z ?_)
 intro v15 W s
 refine s.an [2] λt=>bv h λy3 hy3 h=>.by1 6 z (.cS (L0:=[ac (sv v15) 62 5 ah r6]) s func61 (λS h1 h2 h3=>(jo hy3 (s.ks aI h1) h2 (zz h1))) z z ?_)
 rintro v16 W s
 refine s.an [2] λt=>.tp' 7 z z t (.done (bv h λy4 hy4 h=>?_))
 refine .seq (CW.via (R':=λx E' W'=>x=.normal/\∃ (v17:Hd),ao E' [(1,(sv v17)),(2,Pt g1),(6,vi (y1.length:Int))]/\Sep S w W' [ac (sv v14) 62 5 ah [(ab.mk 5 0 4 0 0)],.box g1 80 [vi a0.Kind,vi a0.Var,vi a0.Box,vi a0.Expr.Op,vi a0.Expr.N,sv al,sv aE,sv aF],ac (sv v17) 62 5 ah y4]) ?_ ?_)
 ·have h:=hy4
  refine .g (.s (fa f80_0 z z z) z (.s (ld t3 s.p2 z z z z z) z (.q z (.nil ?_))))
  refine .cs z h ?_ ?_ <;> intro h
  ·refine .region (.q z (.q z (.s (bs T.s62 z z) z (.c (.liv [(ab.mk 4 0 0 0 (a1.length:Int))] ah u33 t62 s z z z z ?_ z (λ_=>z))))))
   intro v18 W s
   refine bv h λr7 hr7 h=>?_
   have hT0:=s.p1
   refine .c (.av hr7 hT0 hT0.p1.lv (λ_=>z) u33 t62 z z z ?_)
   intro v19 W s
   refine .q z (.nil ?_)
   obtain rfl:=o9 h
   exact ⟨z,v19,sb z,s.tk [2,2,0]⟩
  refine .skip ?_
  obtain rfl:=o9 h
  exact ⟨z,v16,sb z,s.tk [1,1,0]⟩
 intro x E W hJ
 obtain ⟨rfl,v20,hE,s⟩:=hJ
 refine ⟨_,hE.sub,?_⟩
 refine .g (.q z (.s (aD s.p2.lv u33 z z) z (.qn z (bv h λy5 hy5 h=>?_))))
 refine .seq (CW.via (R':=λx E' W'=>x=.normal/\∃ (v21:Hd),ao E' [(1,(sv v21)),(2,Pt g1),(6,vi (y1.length:Int)),(7,vi (y4.length:Int))]/\Sep S w W' [ac (sv v14) 62 5 ah [(ab.mk 5 0 4 0 0)],.box g1 80 [vi a0.Kind,vi a0.Var,vi a0.Box,vi a0.Expr.Op,vi a0.Expr.N,sv al,sv aE,sv aF],ac (sv v21) 62 5 ah y5]) ?_ ?_)
 ·have h:=hy5
  refine .g (.s (fa f80_5 z z z) z (.s (ld t36 s.p1 z z z z z) z (.s (aD (s.keep aG) u36 z z) z (.q z (.nil ?_)))))
  refine .cs z h ?_ ?_ <;> intro h
  ·refine .region (.q z (.s (bs T.s62 z z) z (.c (.liv [(ab.mk 4 0 0 0 0)] ah u33 t62 s z z z z ?_ z (λ_=>z)))))
   intro v22 W s
   refine bv h λr8 hr8 h=>?_
   have hT0:=s.p3
   refine .c (.av hr8 hT0 hT0.p1.lv (λ_=>z) u33 t62 z z z ?_)
   intro v23 W s
   refine .q z (.nil ?_)
   obtain rfl:=o9 h
   exact ⟨z,v23,sb z,s.tk [2,2,0]⟩
  refine .skip ?_
  obtain rfl:=o9 h
  exact ⟨z,v20,sb z,s.tk [0,0,0]⟩
 intro x E W hJ
 obtain ⟨rfl,v24,hE,s⟩:=hJ
 refine ⟨_,hE.sub,?_⟩
 refine .g (.q z (.q z (.q z (.s (aD s.p2.lv u33 z z) z (bv h λx1 hx1 h=>.s (ixv s.p2.lv hx1 u33 t62 z z z) z (.s (fe f62_4 z z z) z (bv h λr9 hr9 h=>.c (.sev hr9 hx1 s.p2 t3 z z z z z z ?_))))))))
 intro W s
 refine .nil (.seq (.g (.s (fa f80_5 z z z) z (.s (ld t36 s.p2 z z z z z) z (.s (aD (s.keep aG) u36 z z) z (.qn z (.cond z (λb=>?_) (λb=>?_))))))))
 ·have h:=aW b h
  refine .g (.s (fa f80_5 z z z) z (.s (ld t36 s.p2 z z z z z) z (.q z (bv h λy6 hy6 h=>.c (.cS (L0:=[ac (sv v24) 62 5 ah r9]) s func61 (λS h1 h2 h3=>(jo hy6 (s.ks aG h1) h2 (zz h1))) z z ?_)))))
  rintro v25 W s
  refine .qn z (.region (.q z (.q z (.q z (.s (aD s.lv u33 z z) z (bv h λx2 hx2 h=>.s (ixv s.lv hx2 u33 t62 z z z) z (.s (fe f62_4 z z z) z (bv h λr10 hr10 h=>.c (.sev hr10 hx2 s t3 z z z z z z ?_)))))))))
  intro W s
  obtain rfl:=o9 h
  exact .nil (.g (.q z (.qn z (.ret (aa v25 (rt z rn) z (s.tk [0]))))))
 have h:=aX b h
 obtain rfl:=o9 h
 exact .skip (.g (.q z (.qn z (.ret (aa v24 (rt z rn) z (s.tk [0]))))))
theorem nD (k:Nat):dM (bS k)/\hZ (d8 k):=by
  induction k with
  | zero=>exact ⟨by intro a0 a1 v_0 v_1 S w r h q_0 hO hlt; exact no h,by intro a0 a1 al aE aF v_1 S w r h ak aI aG hO hlt; exact no h⟩
  | succ k ih=>exact ⟨pP (k:=k) ih.1 ih.2,qL (k:=k) ih.1 ih.2⟩
theorem pf {k:Nat}:dM (bS k):=(nD k).1
theorem pQ {k:Nat} {a0:List ae} {v_0:Hd} {w:World} {r:(List ab)} (h:gh k a0=some r) (q_0:RO w v_0 80 8 aL a0):CL 30 #[sv v_0] w (Ret No w (λs:Hd=>(sv s)) (λs=>[ac (sv s) 62 5 ah r])):=by
 unfold gh at h
 refine aw func30 z z ?_
 have s:=Sep.start w
 refine .g (.qn z (.g (.q z ?_)))
 have s:=s.nilv 62 5 ah
 refine bv h λy1 hy1 h=>.c (.cS (L0:=[ac (sv lN) 62 5 ah []]) s func61 (λS h1 h2 h3=>(pf hy1 (s.ks q_0 h1) h2 (zz h1))) z z ?_)
 rintro v1 W s
 refine .s (bs T.s62 z z) z (.c (.liv [(ab.mk 10 0 0 0 0)] ah u33 t62 s z z z z ?_ z (λ_=>z)))
 intro v2 W s
 refine bv h λr1 hr1 h=>?_
 have hT0:=s.p1
 refine .c (.av hr1 hT0 hT0.p1.lv (λ_=>z) u33 t62 z z z ?_)
 intro v3 W s
 obtain rfl:=o9 h
 exact .qn z (.ret (aa v3 (rt z rn) z (s.tk [0])))
def jO (F:Expr->Int->Option (Bool)):Prop:=∀ {a0:Expr} {a1:Int} {aP:Hd} {w:World} {r:Bool} (h:F a0 a1=some r) (ar:RO w aP 77 3 bB a0.Args) , CL 179 #[.agg #[vi a0.Op,vi a0.N,sv aP],vi a1] w (RU w (.bool r))
theorem sC {k:Nat} {gj:Expr->Int->Option (Bool)} (nw:jO gj):jO (gi k gj):=by
 intro a0 a1 aP w r h ar
 unfold gi at h
 refine aw func179 z z ?_
 have s:=Sep.start w
 refine .g (.c (.box s z z ?_))
 intro g1 W s
 refine .qn z (.seq (.block (.g (.s (fa f77_0 z z z) z (.s (ld t3 s z z z z z) z (.q z (.q z (.nil ?_))))))))
 refine .cs z h ?_ ?_ <;> intro h
 ·refine .g (.s (fa f77_1 z z z) z (.s (ld t3 s z z z z z) z (.q z (.q z (.cu 4 16 ((decide (a0.N>=0))&&(decide (a0.N<=99999))) s ?_ ?_)))))
  ·refine .both (decide (a0.N>=0)) (λb=>?_) (λb=>?_)
   ·have hg1:=b
    exact .g hg1 (.s (fa f77_1 z z z) z (.g hg1 (.s (ld t3 s z z z z z) z (.g hg1 (.q z (.s (pkt hg1 z z z) z (.nil (ck 4 s z (bc hg1)))))))))
   exact .xx b z (.xx b z (.xx b z (.s (pkf b z z z) z (.nil (ck 4 s z (be b))))))
  intro W s
  refine .q z (.cu 5 22 (((decide (a0.N>=0))&&(decide (a0.N<=99999)))&&((a0.Args.length:Int)==0)) s ?_ ?_)
  ·refine .both ((decide (a0.N>=0))&&(decide (a0.N<=99999))) (λb=>?_) (λb=>?_)
   ·have hg2:=b
    exact .g hg2 (.s (fa f77_2 z z z) z (.g hg2 (.s (ld t75 s z z z z z) z (.g hg2 (.s (aD (s.keep ar) u75 z z) z (.g hg2 (.q z (.s (pkt hg2 z z z) z (.nil (ck 5 s z (bc hg2)))))))))))
   exact .xx b z (.xx b z (.xx b z (.xx b z (.s (pkf b z z z) z (.nil (ck 5 s z (be b)))))))
  intro W s
  refine .q z (.cu 3 26 ((((decide (a0.N>=0))&&(decide (a0.N<=99999)))&&((a0.Args.length:Int)==0))&&(decide (a1>0))) s ?_ ?_)
  ·refine .both (((decide (a0.N>=0))&&(decide (a0.N<=99999)))&&((a0.Args.length:Int)==0)) (λb=>?_) (λb=>?_)
   ·have hg3:=b
    exact .g hg3 (.q z (.g hg3 (.q z (.s (pkt hg3 z z z) z (.nil (ck 3 s z (bc hg3)))))))
   exact .xx b z (.xx b z (.s (pkf b z z z) z (.nil (ck 3 s z (be b)))))
  intro W s
  cases h
  exact .qn z (.ret (aa () (rt z rn) z (s.to [])))
 refine .g (.s (fa f77_0 z z z) z (.s (ld t3 s z z z z z) z (.q z (.q z (.nil ?_)))))
 refine .cs z h ?_ ?_ <;> intro h
 ·refine .g (.s (fa f77_1 z z z) z (.s (ld t3 s z z z z z) z (.q z (.q z (.cu 4 38 ((decide (a0.N>=0))&&(decide (a0.N<4))) s ?_ ?_)))))
  ·refine .both (decide (a0.N>=0)) (λb=>?_) (λb=>?_)
   ·have hg4:=b
    exact .g hg4 (.s (fa f77_1 z z z) z (.g hg4 (.s (ld t3 s z z z z z) z (.g hg4 (.q z (.s (pkt hg4 z z z) z (.nil (ck 4 s z (bc hg4)))))))))
   exact .xx b z (.xx b z (.xx b z (.s (pkf b z z z) z (.nil (ck 4 s z (be b))))))
  intro W s
  refine .q z (.cu 5 44 (((decide (a0.N>=0))&&(decide (a0.N<4)))&&((a0.Args.length:Int)==0)) s ?_ ?_)
  ·refine .both ((decide (a0.N>=0))&&(decide (a0.N<4))) (λb=>?_) (λb=>?_)
   ·have hg5:=b
    exact .g hg5 (.s (fa f77_2 z z z) z (.g hg5 (.s (ld t75 s z z z z z) z (.g hg5 (.s (aD (s.keep ar) u75 z z) z (.g hg5 (.q z (.s (pkt hg5 z z z) z (.nil (ck 5 s z (bc hg5)))))))))))
   exact .xx b z (.xx b z (.xx b z (.xx b z (.s (pkf b z z z) z (.nil (ck 5 s z (be b)))))))
  intro W s
  refine .q z (.cu 3 48 ((((decide (a0.N>=0))&&(decide (a0.N<4)))&&((a0.Args.length:Int)==0))&&(decide (a1>0))) s ?_ ?_)
  ·refine .both (((decide (a0.N>=0))&&(decide (a0.N<4)))&&((a0.Args.length:Int)==0)) (λb=>?_) (λb=>?_)
   ·have hg6:=b
    exact .g hg6 (.q z (.g hg6 (.q z (.s (pkt hg6 z z z) z (.nil (ck 3 s z (bc hg6)))))))
   exact .xx b z (.xx b z (.s (pkf b z z z) z (.nil (ck 3 s z (be b)))))
  intro W s
  cases h
  exact .qn z (.ret (aa () (rt z rn) z (s.to [])))
 refine .skip (.g (.s (fa f77_0 z z z) z (.s (ld t3 s z z z z z) z (bv h λy1 hy1 h=>.c (.cO s func97 (ol hy1) z z ?_)))))
 intro W s
 refine .q z (.cu 4 56 (y1&&(a0.N==0)) s ?_ ?_)
 ·refine .both (y1) (λb=>?_) (λb=>?_)
  ·have hg7:=b
   exact .g hg7 (.s (fa f77_1 z z z) z (.g hg7 (.s (ld t3 s z z z z z) z (.g hg7 (.q z (.s (pkt hg7 z z z) z (.nil (ck 4 s z (bc hg7)))))))))
  exact .xx b z (.xx b z (.xx b z (.s (pkf b z z z) z (.nil (ck 4 s z (be b))))))
 intro W s
 refine .q z (.cu 5 62 ((y1&&(a0.N==0))&&((a0.Args.length:Int)==2)) s ?_ ?_)
 ·refine .both (y1&&(a0.N==0)) (λb=>?_) (λb=>?_)
  ·have hg8:=b
   exact .g hg8 (.s (fa f77_2 z z z) z (.g hg8 (.s (ld t75 s z z z z z) z (.g hg8 (.s (aD (s.keep ar) u75 z z) z (.g hg8 (.q z (.s (pkt hg8 z z z) z (.nil (ck 5 s z (bc hg8)))))))))))
  exact .xx b z (.xx b z (.xx b z (.xx b z (.s (pkf b z z z) z (.nil (ck 5 s z (be b)))))))
 intro W s
 refine .q z (.cu 3 66 (((y1&&(a0.N==0))&&((a0.Args.length:Int)==2))&&(decide (a1>1))) s ?_ ?_)
 ·refine .both ((y1&&(a0.N==0))&&((a0.Args.length:Int)==2)) (λb=>?_) (λb=>?_)
  ·have hg9:=b
   exact .g hg9 (.q z (.g hg9 (.q z (.s (pkt hg9 z z z) z (.nil (ck 3 s z (bc hg9)))))))
  exact .xx b z (.xx b z (.s (pkf b z z z) z (.nil (ck 3 s z (be b)))))
 intro W s
 refine .q z (bv h λb1 hb1 h=>.cu 8 75 (b1) s ?_ ?_)
 ·refine .both (((y1&&(a0.N==0))&&((a0.Args.length:Int)==2))&&(decide (a1>1))) (λb=>?_) (λb=>?_)
  ·have hg10:=b
   have h:=aW b hb1
   refine .g hg10 (.s (fa f77_2 z z z) z (.g hg10 (.s (ld t75 s z z z z z) z (bv h λx1 hx1 h=>?_))))
   obtain ⟨k1,hd,hck1⟩:=RV.el2 ar hx1
   have hd1:=dx (f9 _) hd
   obtain ⟨k1,rfl,hd2⟩:=aY ar z hd1
   obtain ⟨k1,rfl,hd3⟩:=aY ar z hd2
   obtain ⟨v1,k1,rfl,q1,hd4⟩:=bf ar hd3
   obtain rfl:=gc ar hd4
   refine .g hg10 (.s (ixv (s.keep ar) hx1 u75 t77 z z z) z (.g hg10 (.s (lde (hck1 _ s.agree) t77 z z z z z) z (.g hg10 (.q z (.g hg10 (.q z (bv h λy2 hy2 h=>.g hg10 (.c (.cO s func179 (nw hy2 (s.keep (q1 _ ar))) z z ?_))))))))))
   intro W s
   refine .s (pkt hg10 z z z) z ?_
   cases h
   exact .nil (ck 8 s)
  refine .xx b z (.xx b z (.xx b z (.xx b z (.xx b z (.xx b z (.xx b z ?_))))))
  cases aX b hb1
  exact .s (pkf b z z z) z (.nil (ck 8 s))
 intro W s
 refine .q z (bv h λb2 hb2 h=>.cu 8 84 (b2) s ?_ ?_)
 ·refine .both (b1) (λb=>?_) (λb=>?_)
  ·have hg11:=b
   have h:=aW b hb2
   refine .g hg11 (.s (fa f77_2 z z z) z (.g hg11 (.s (ld t75 s z z z z z) z (bv h λx2 hx2 h=>?_))))
   obtain ⟨k2,hd,hck2⟩:=RV.el2 ar hx2
   have hd1:=dx (f9 _) hd
   obtain ⟨k2,rfl,hd2⟩:=aY ar z hd1
   obtain ⟨k2,rfl,hd3⟩:=aY ar z hd2
   obtain ⟨v2,k2,rfl,q2,hd4⟩:=bf ar hd3
   obtain rfl:=gc ar hd4
   refine .g hg11 (.s (ixv (s.keep ar) hx2 u75 t77 z z z) z (.g hg11 (.s (lde (hck2 _ s.agree) t77 z z z z z) z (.g hg11 (.q z (.g hg11 (.q z (bv h λy3 hy3 h=>.g hg11 (.c (.cO s func179 (nw hy3 (s.keep (q2 _ ar))) z z ?_))))))))))
   intro W s
   refine .s (pkt hg11 z z z) z ?_
   cases h
   exact .nil (ck 8 s)
  refine .xx b z (.xx b z (.xx b z (.xx b z (.xx b z (.xx b z (.xx b z ?_))))))
  cases aX b hb2
  exact .s (pkf b z z z) z (.nil (ck 8 s))
 intro W s
 obtain rfl:=o9 h
 exact .qn z (.ret (aa () (rt z rn) z (s.to [])))
theorem oB (k:Nat):jO (iP k):=by
  induction k with
  | zero=>exact by intro a0 a1 aP w r h ar; exact no h
  | succ k ih=>exact sC (k:=k) ih
theorem rp {k:Nat}:jO (iP k):=(oB k)
theorem rq {k:Nat} {a0:Expr} {aP:Hd} {w:World} {r:Bool} (h:gk k a0=some r) (ar:RO w aP 77 3 bB a0.Args):CL 156 #[.agg #[vi a0.Op,vi a0.N,sv aP]] w (RU w (.bool r)):=by
 unfold gk at h
 refine aw func156 z z ?_
 have s:=Sep.start w
 refine .g (.c (.box s z z ?_))
 intro g1 W s
 refine .qn z (.g (.s (ld t77 s z z z z z) z (bv h λy1 hy1 h=>.c (.cO s func179 (rp hy1 (s.keep ar)) z z ?_))))
 intro W s
 obtain rfl:=o9 h
 exact .qn z (.ret (aa () (rt z rn) z (s.to [])))
theorem mO {a0:Int} {a1:Int} {a2:Bool} {w:World} {r:Bool} (h:cW a0 a1 a2=some r):CL 155 #[vi a0,vi a1,.bool a2] w (RU w (.bool r)):=by
 unfold cW at h
 refine aw func155 z z ?_
 have s:=Sep.start w
 refine .g (.qn z (.g (.q z (.q z (.q z (.cu 11 20 ((a0==0)||((a2&&(decide (a0>0)))&&(decide (a0<a1)))) s ?_ ?_))))))
 ·refine .both (a0==0) (λb=>?_) (λb=>?_)
  ·exact .xx b z (.xx b z (.xu (.xu (.xx b z (.xx b z (.xu (.xu (.xu (.xx b z (.s (pkt b z z z) z (.nil (ck 11 s z (kK b)))))))))))))
  have hg1:=b
  refine .g hg1 (.q z (.g hg1 (.q z (.cu 3 14 (a2&&(decide (a0>0))) s ?_ ?_))))
  ·refine .both (a2) (λb=>?_) (λb=>?_)
   ·have hg2:=b
    exact .g hg2 (.q z (.g hg2 (.q z (.g hg1 (.s (pkt hg2 z z z) z (.nil (ck 3 s z (bc hg2))))))))
   exact .xx b z (.xx b z (.g hg1 (.s (pkf b z z z) z (.nil (ck 3 s z (be b))))))
  intro W s
  refine .g hg1 (.q z (.cu 4 19 ((a2&&(decide (a0>0)))&&(decide (a0<a1))) s ?_ ?_))
  ·refine .both (a2&&(decide (a0>0))) (λb=>?_) (λb=>?_)
   ·have hg3:=b
    exact .g hg3 (.q z (.g hg3 (.q z (.g hg3 (.q z (.g hg1 (.s (pkt hg3 z z z) z (.nil (ck 4 s z (bc hg3))))))))))
   exact .xx b z (.xx b z (.xx b z (.g hg1 (.s (pkf b z z z) z (.nil (ck 4 s z (be b)))))))
  intro W s
  exact .s (pkf hg1 z z z) z (.nil (ck 6 s z (jT hg1)))
 intro W s
 cases h
 exact .qn z (.ret (aa () (rt z rn) z (s.to [])))
def pR (w:World) (r:Bool):Env->World->Prop:=Fin Tryz.prog Tryz.f130 No w (λs:Unit=>.bool r) (λs=>[]) .ret
theorem pg {k:Nat} {a0:ae} {a1:Int} {al:Hd} {aE:Hd} {aF:Hd} {h_0:Hd} {k_0:Nat} {w:World} {r:Bool} (h:iQ k a0 a1=some r) (ak:RO w al 77 3 bB a0.Expr.Args) (aI:RO w aE 80 8 aL a0.Body) (aG:RO w aF 80 8 aL a0.Else) (c_0:EC w (Old No w) (adr (sv h_0)) k_0 [vi a0.Kind,vi a0.Var,vi a0.Box,vi a0.Expr.Op,vi a0.Expr.N,sv al,sv aE,sv aF]):CL 130 #[.pointer (some (bC (adr (sv h_0)) (k_0+0))),vi a1] w (RU w (.bool r)):=by
 unfold iQ at h
 refine aw func130 z z ?_
 have s:=Sep.start w
 refine .g (.qn z (.g (.c (.alloc t175 s ?_))))
 intro g1 W s
 refine .nil (bv h λy1 hy1 h=>?_)
 refine .seq (CW.via (R':=λx E' W'=>(match y1 with | .inl o1=>x=.normal/\ao E' [(0,.pointer (some (bC (adr (sv h_0)) (k_0+0)))),(1,vi a1),(5,Pt g1)]/\Sep No w W' [.box g1 175 [.bool o1.variable_,.bool o1.box,.bool o1.expr,.bool o1.body,.bool o1.other]] | .inr o2=>x=.ret/\pR w o2 E' W')) ?_ ?_)
 ·have h:=hy1
  refine .g (.q z (.q z (.s (fe f80_0 z z z) z (.s (lde (c_0 _ s.agree) t3 z z z z z) z (.nil (.block (.g (.q z (.q z (.nil ?_))))))))))
  refine .cs z h ?_ ?_ <;> intro h
  ·refine .region (.s (fa f175_0 z z z) z (.c (.st t4 s z z z ?_)))
   intro W s
   refine .s (fa f175_2 z z z) z (.c (.st t4 s z z z ?_))
   intro W s
   refine .nil ?_
   cases h
   exact ⟨z,sb z,s.tk [0]⟩
  refine .g (.q z (.q z (.nil ?_)))
  refine .cs z h ?_ ?_ <;> intro h
  ·refine .region (.s (fa f175_2 z z z) z (.c (.st t4 s z z z ?_)))
   intro W s
   refine .s (fa f175_3 z z z) z (.c (.st t4 s z z z ?_))
   intro W s
   refine .s (fa f175_4 z z z) z (.c (.st t4 s z z z ?_))
   intro W s
   refine .nil ?_
   cases h
   exact ⟨z,sb z,s.tk [0]⟩
  refine .g (.q z (.q z (.nil ?_)))
  refine .cs z h ?_ ?_ <;> intro h
  ·refine .region (.s (fa f175_2 z z z) z (.c (.st t4 s z z z ?_)))
   intro W s
   refine .s (fa f175_3 z z z) z (.c (.st t4 s z z z ?_))
   intro W s
   refine .nil ?_
   cases h
   exact ⟨z,sb z,s.tk [0]⟩
  refine .g (.q z (.q z (.nil ?_)))
  refine .cs z h ?_ ?_ <;> intro h
  ·refine .region (.s (fa f175_1 z z z) z (.c (.st t4 s z z z ?_)))
   intro W s
   refine .s (fa f175_2 z z z) z (.c (.st t4 s z z z ?_))
   intro W s
   refine .nil ?_
   cases h
   exact ⟨z,sb z,s.tk [0]⟩
  refine .g (.q z (.q z (.nil ?_)))
  refine .cs z h ?_ ?_ <;> intro h
  ·refine .region (.s (fa f175_1 z z z) z (.c (.st t4 s z z z ?_)))
   intro W s
   refine .s (fa f175_0 z z z) z (.c (.st t4 s z z z ?_))
   intro W s
   refine .nil ?_
   cases h
   exact ⟨z,sb z,s.tk [0]⟩
  refine .g (.q z (.q z (.nil ?_)))
  refine .cs z h ?_ ?_ <;> intro h
  ·refine .region (.s (fa f175_2 z z z) z (.c (.st t4 s z z z ?_)))
   intro W s
   refine .nil ?_
   cases h
   exact ⟨z,sb z,s.tk [0]⟩
  refine .g (.q z (.q z (.nil ?_)))
  refine .cs z h ?_ ?_ <;> intro h
  ·refine .skip ?_
   cases h
   exact ⟨z,sb z,s.tk [0]⟩
  refine .g (.qn z (.ret ?_))
  cases h
  exact ⟨z,aa (vs:=[_]) () (rt z rn) z (s.to [])⟩
 intro x E W hJ
 rcases y1 with o3 | o4
 ·have h:=bQ h
  obtain ⟨rfl,hE,s⟩:=hJ
  refine ⟨_,hE.sub,?_⟩
  refine .g (.qn z (.seq (.seq (bv h λy2 hy2 h=>bv h λb1 hb1 h=>?_))))
  refine .via (R':=λx E' W'=>x=.normal/\ao E' [(0,.pointer (some (bC (adr (sv h_0)) (k_0+0)))),(5,Pt g1),(69,.bool (b1||(o3.box&&(decide (a0.Box>=a1)))))]/\Sep No w W' [.box g1 175 [.bool o3.variable_,.bool o3.box,.bool o3.expr,.bool o3.body,.bool o3.other]]) ?_ ?_
  ·refine .rk 33 s [0] T.mix ?_
   intro W s
   have t:=s.to [0]
   refine .tp' 0 z z t (.tp' 1 z z t (.tp' 2 z z t (.ts' 3 z (λW t=>fe f80_1 z z z) t z (.ts' 4 z (λW t=>lde (c_0 _ t.agree) t3 z z z z z) t z (.ts' 5 z (λW t=>fa f175_0 z z z) t z (.ts' 6 z (λW t=>ld t4 t z z z z z) t z (.by1 7 z (.callv (vs:=[vi a0.Var,vi 4,.bool o3.variable_]) (cap:=#[]) s ⟨_,func155,z,by kernel_rfl⟩ (mO hy2) z z z ?_))))))))
   rintro ⟨⟩ W s
   refine s.an [0] λt=>.tp' 8 z z t (.tp' 9 z z t (.both (!y2) (λb=>?_) (λb=>?_)))
   ·refine .off 10 z b t (.off 11 z b t (.off 12 z b t (.off 13 z b t (.off 14 z b t (.off 15 z b t (.off 16 z b t (.off 17 z b t (.off 18 z b t (.off 19 z b t (.ts' 20 z (λW t=>pkt b z z z) t z (.eqv 57 z (me (aW b hb1)) (.tp' 21 z z t (.both (b1) (λb=>?_) (λb=>?_))))) (by kernel_rfl) z z) (by kernel_rfl) z z) (by kernel_rfl) z z) (by kernel_rfl) z z) (by kernel_rfl) z z) (by kernel_rfl) z z) (by kernel_rfl) z z) (by kernel_rfl) z z) (by kernel_rfl) z z) (by kernel_rfl) z z
    ·exact .off 22 z b t (.off 23 z b t (.off 24 z b t (.offu 25 z t (.offu 26 z t (.offu 27 z t (.offu 28 z t (.offu 29 z t (.offu 30 z t (.off 31 z b t (.ts' 32 z (λW t=>pkt b z z z) t z (.eqv 69 z (congrArg Value.bool (show true=(b1||(o3.box&&(decide (a0.Box>=a1)))) from kK b)) (.done (⟨z,sb z,s.tk [0]⟩)))) (by kernel_rfl) z z) (by kernel_rfl) z z) (by kernel_rfl) z z) (by kernel_rfl) z z) (by kernel_rfl) z z) (by kernel_rfl) z z) (by kernel_rfl) z z) (by kernel_rfl) z z) (by kernel_rfl) z z) (by kernel_rfl) z z
    have hg2:=b
    refine .t1g 22 z hg2 (λW t=>fa f175_1 z z z) t (.t1g 23 z hg2 (λW t=>ld t4 t z z z z z) t (.t1g 24 z hg2 (λW t=>pr z) t (.both (o3.box) (λb=>?_) (λb=>?_)) (by kernel_rfl) z z) (by kernel_rfl) z z) (by kernel_rfl) z z
    ·have hg3:=b
     exact .t1g 25 z hg3 (λW t=>pr z) t (.t1g 26 z hg3 (λW t=>pr z) t (.t1g 27 z hg3 (λW t=>fe f80_2 z z z) t (.t1g 28 z hg3 (λW t=>lde (c_0 _ t.agree) t3 z z z z z) t (.t1g 29 z hg3 (λW t=>pr z) t (.t1g 30 z hg3 (λW t=>pr z) t (.t1g 31 z hg2 (λW t=>pkt hg3 z z z) t (.eqv 68 z (congrArg Value.bool (bc hg3)) (.ts' 32 z (λW t=>pkf hg2 z z z) t z (.eqv 69 z (congrArg Value.bool (jT hg2)) (.done (⟨z,sb z,s.tk [0]⟩))))) (by kernel_rfl) z z) (by kernel_rfl) z z) (by kernel_rfl) z z) (by kernel_rfl) z z) (by kernel_rfl) z z) (by kernel_rfl) z z) (by kernel_rfl) z z
    exact .off 25 z b t (.off 26 z b t (.off 27 z b t (.off 28 z b t (.off 29 z b t (.off 30 z b t (.t1g 31 z hg2 (λW t=>pkf b z z z) t (.eqv 68 z (congrArg Value.bool (show false=(o3.box&&(decide (a0.Box>=a1))) from be b)) (.ts' 32 z (λW t=>pkf hg2 z z z) t z (.eqv 69 z (congrArg Value.bool (jT hg2)) (.done (⟨z,sb z,s.tk [0]⟩))))) (by kernel_rfl) z z) (by kernel_rfl) z z) (by kernel_rfl) z z) (by kernel_rfl) z z) (by kernel_rfl) z z) (by kernel_rfl) z z) (by kernel_rfl) z z
   have hg1:=b
   have h_b1:=aX b hb1
   refine .t1g 10 z hg1 (λW t=>pr z) t (.t1g 11 z hg1 (λW t=>pr z) t (.t1g 12 z hg1 (λW t=>pr z) t (.t1g 13 z hg1 (λW t=>fe f80_2 z z z) t (.t1g 14 z hg1 (λW t=>lde (c_0 _ t.agree) t3 z z z z z) t (.t1g 15 z hg1 (λW t=>pr z) t (.t1g 16 z hg1 (λW t=>fa f175_1 z z z) t (.t1g 17 z hg1 (λW t=>ld t4 t z z z z z) t (bv h_b1 λy3 hy3 h_b1=>.by1 18 z (.gd hg1 (.callv (vs:=[vi a0.Box,vi a1,.bool o3.box]) (cap:=#[]) s ⟨_,func155,z,by kernel_rfl⟩ (mO hy3) z z z ?_))) (by kernel_rfl) z z) (by kernel_rfl) z z) (by kernel_rfl) z z) (by kernel_rfl) z z) (by kernel_rfl) z z) (by kernel_rfl) z z) (by kernel_rfl) z z) (by kernel_rfl) z z
   rintro ⟨⟩ W s
   refine s.an [0] λt=>.t1g 19 z hg1 (λW t=>pr z) t (.ts' 20 z (λW t=>pkf hg1 z z z) t z (.eqv 57 z (me h_b1) (.tp' 21 z z t (.both (b1) (λb=>?_) (λb=>?_))))) (by kernel_rfl) z z
   ·exact .off 22 z b t (.off 23 z b t (.off 24 z b t (.offu 25 z t (.offu 26 z t (.offu 27 z t (.offu 28 z t (.offu 29 z t (.offu 30 z t (.off 31 z b t (.ts' 32 z (λW t=>pkt b z z z) t z (.eqv 69 z (congrArg Value.bool (show true=(b1||(o3.box&&(decide (a0.Box>=a1)))) from kK b)) (.done (⟨z,sb z,s.tk [0]⟩)))) (by kernel_rfl) z z) (by kernel_rfl) z z) (by kernel_rfl) z z) (by kernel_rfl) z z) (by kernel_rfl) z z) (by kernel_rfl) z z) (by kernel_rfl) z z) (by kernel_rfl) z z) (by kernel_rfl) z z) (by kernel_rfl) z z
   have hg4:=b
   refine .t1g 22 z hg4 (λW t=>fa f175_1 z z z) t (.t1g 23 z hg4 (λW t=>ld t4 t z z z z z) t (.t1g 24 z hg4 (λW t=>pr z) t (.both (o3.box) (λb=>?_) (λb=>?_)) (by kernel_rfl) z z) (by kernel_rfl) z z) (by kernel_rfl) z z
   ·have hg5:=b
    exact .t1g 25 z hg5 (λW t=>pr z) t (.t1g 26 z hg5 (λW t=>pr z) t (.t1g 27 z hg5 (λW t=>fe f80_2 z z z) t (.t1g 28 z hg5 (λW t=>lde (c_0 _ t.agree) t3 z z z z z) t (.t1g 29 z hg5 (λW t=>pr z) t (.t1g 30 z hg5 (λW t=>pr z) t (.t1g 31 z hg4 (λW t=>pkt hg5 z z z) t (.eqv 68 z (congrArg Value.bool (bc hg5)) (.ts' 32 z (λW t=>pkf hg4 z z z) t z (.eqv 69 z (congrArg Value.bool (jT hg4)) (.done (⟨z,sb z,s.tk [0]⟩))))) (by kernel_rfl) z z) (by kernel_rfl) z z) (by kernel_rfl) z z) (by kernel_rfl) z z) (by kernel_rfl) z z) (by kernel_rfl) z z) (by kernel_rfl) z z
   exact .off 25 z b t (.off 26 z b t (.off 27 z b t (.off 28 z b t (.off 29 z b t (.off 30 z b t (.t1g 31 z hg4 (λW t=>pkf b z z z) t (.eqv 68 z (congrArg Value.bool (show false=(o3.box&&(decide (a0.Box>=a1))) from be b)) (.ts' 32 z (λW t=>pkf hg4 z z z) t z (.eqv 69 z (congrArg Value.bool (jT hg4)) (.done (⟨z,sb z,s.tk [0]⟩))))) (by kernel_rfl) z z) (by kernel_rfl) z z) (by kernel_rfl) z z) (by kernel_rfl) z z) (by kernel_rfl) z z) (by kernel_rfl) z z) (by kernel_rfl) z z
  intro x E W hJ
  obtain ⟨rfl,hE,s⟩:=hJ
  refine ⟨_,hE.sub,?_⟩
  refine .cs z h ?_ ?_ <;> intro h
  ·obtain rfl:=o9 h
   exact .g (.qn z (.ret (aa () (rt z rn) z (s.to []))))
  refine .skip (.seq (.g (.s (fa f175_2 z z z) z (.s (ld t4 s z z z z z) z (.q z (bv h λb2 hb2 h=>.cu 7 79 (b2) s ?_ ?_))))))
  ·refine .both (o3.expr) (λb=>?_) (λb=>?_)
   ·have hg6:=b
    have h:=aW b hb2
    refine .g hg6 (.q z (.g hg6 (.q z (.g hg6 (.s (fe f80_3 z z z) z (.g hg6 (.s (lde (c_0 _ s.agree) t77 z z z z z) z (bv h λy4 hy4 h=>.g hg6 (.c (.cO s func156 (rq hy4 (s.keep ak)) z z ?_))))))))))
    intro W s
    refine .g hg6 (.q z (.s (pkt hg6 z z z) z ?_))
    cases h
    exact .nil (ck 7 s)
   refine .xx b z (.xx b z (.xx b z (.xx b z (.xx b z (.xx b z ?_)))))
   cases aX b hb2
   exact .s (pkf b z z z) z (.nil (ck 7 s))
  intro W s
  refine .q z (.cu 29 109 (b2||((!o3.expr)&&(((a0.Expr.Op !=0)||(a0.Expr.N !=0))||(decide ((a0.Expr.Args.length:Int)>0))))) s ?_ ?_)
  ·refine .both (b2) (λb=>?_) (λb=>?_)
   ·exact .xx b z (.xx b z (.xx b z (.xx b z (.xu (.xu (.xu (.xu (.xu (.xu (.xu (.xu (.xu (.xu (.xu (.xu (.xu (.xu (.xu (.xu (.xu (.xu (.xu (.xu (.xu (.xu (.xu (.xx b z (.s (pkt b z z z) z (.nil (ck 29 s z (kK b)))))))))))))))))))))))))))))))
   have hg7:=b
   refine .g hg7 (.s (fa f175_2 z z z) z (.g hg7 (.s (ld t4 s z z z z z) z (.g hg7 (.q z (.g hg7 (.q z (.cu 24 108 ((!o3.expr)&&(((a0.Expr.Op !=0)||(a0.Expr.N !=0))||(decide ((a0.Expr.Args.length:Int)>0)))) s ?_ ?_))))))))
   ·refine .both (!o3.expr) (λb=>?_) (λb=>?_)
    ·have hg8:=b
     refine .g hg8 (.q z (.g hg8 (.q z (.g hg8 (.s (fe f80_3 z z z) z (.g hg8 (.s (fe f77_0 z z z) z (.g hg8 (.s (lde (c_0 _ s.agree) t3 z z z z z) z (.g hg8 (.q z (.g hg8 (.q z (.cu 7 98 ((a0.Expr.Op !=0)||(a0.Expr.N !=0)) s ?_ ?_))))))))))))))
     ·refine .both (a0.Expr.Op !=0) (λb=>?_) (λb=>?_)
      ·exact .xx b z (.xx b z (.xx b z (.xx b z (.xx b z (.xx b z (.g hg8 (.s (pkt b z z z) z (.nil (ck 7 s z (kK b))))))))))
      have hg9:=b
      exact .g hg9 (.q z (.g hg9 (.q z (.g hg9 (.s (fe f80_3 z z z) z (.g hg9 (.s (fe f77_1 z z z) z (.g hg9 (.s (lde (c_0 _ s.agree) t3 z z z z z) z (.g hg9 (.q z (.g hg8 (.s (pkf hg9 z z z) z (.nil (ck 7 s z (jT hg9))))))))))))))))
     intro W s
     refine .g hg8 (.q z (.cu 8 107 (((a0.Expr.Op !=0)||(a0.Expr.N !=0))||(decide ((a0.Expr.Args.length:Int)>0))) s ?_ ?_))
     ·refine .both ((a0.Expr.Op !=0)||(a0.Expr.N !=0)) (λb=>?_) (λb=>?_)
      ·exact .xx b z (.xx b z (.xx b z (.xx b z (.xx b z (.xx b z (.xx b z (.g hg8 (.s (pkt b z z z) z (.nil (ck 8 s z (kK b)))))))))))
      have hg10:=b
      exact .g hg10 (.q z (.g hg10 (.q z (.g hg10 (.s (fe f80_3 z z z) z (.g hg10 (.s (fe f77_2 z z z) z (.g hg10 (.s (lde (c_0 _ s.agree) t75 z z z z z) z (.g hg10 (.s (aD (s.keep ak) u75 z z) z (.g hg10 (.q z (.g hg8 (.s (pkf hg10 z z z) z (.nil (ck 8 s z (jT hg10))))))))))))))))))
     intro W s
     exact .g hg7 (.s (pkt hg8 z z z) z (.nil (ck 11 s z (bc hg8))))
    exact .xx b z (.xx b z (.xx b z (.xx b z (.xx b z (.xx b z (.xx b z (.xu (.xu (.xu (.xu (.xu (.xu (.xx b z (.xx b z (.xu (.xu (.xu (.xu (.xu (.xu (.xu (.xx b z (.g hg7 (.s (pkf b z z z) z (.nil (ck 24 s z (be b)))))))))))))))))))))))))))
   intro W s
   exact .s (pkf hg7 z z z) z (.nil (ck 6 s z (jT hg7)))
  intro W s
  refine .nil ?_
  refine .cs z h ?_ ?_ <;> intro h
  ·obtain rfl:=o9 h
   exact .g (.qn z (.ret (aa () (rt z rn) z (s.to []))))
  refine .skip (.g (.s (fa f175_3 z z z) z (.s (ld t4 s z z z z z) z (.q z (.cu 7 119 (o3.body||((a0.Body.length:Int)==0)) s ?_ ?_)))))
  ·refine .both (o3.body) (λb=>?_) (λb=>?_)
   ·exact .xx b z (.xx b z (.xx b z (.xx b z (.xx b z (.xx b z (.s (pkt b z z z) z (.nil (ck 7 s z (kK b)))))))))
   have hg11:=b
   exact .g hg11 (.q z (.g hg11 (.q z (.g hg11 (.s (fe f80_4 z z z) z (.g hg11 (.s (lde (c_0 _ s.agree) t36 z z z z z) z (.g hg11 (.s (aD (s.keep aI) u36 z z) z (.g hg11 (.q z (.s (pkf hg11 z z z) z (.nil (ck 7 s z (jT hg11)))))))))))))))
  intro W s
  refine .q z (.cu 11 131 ((o3.body||((a0.Body.length:Int)==0))&&(o3.other||((a0.Else.length:Int)==0))) s ?_ ?_)
  ·refine .both (o3.body||((a0.Body.length:Int)==0)) (λb=>?_) (λb=>?_)
   ·have hg12:=b
    refine .g hg12 (.s (fa f175_4 z z z) z (.g hg12 (.s (ld t4 s z z z z z) z (.g hg12 (.q z (.cu 7 130 (o3.other||((a0.Else.length:Int)==0)) s ?_ ?_))))))
    ·refine .both (o3.other) (λb=>?_) (λb=>?_)
     ·exact .xx b z (.xx b z (.xx b z (.xx b z (.xx b z (.xx b z (.g hg12 (.s (pkt b z z z) z (.nil (ck 7 s z (kK b))))))))))
     have hg13:=b
     exact .g hg13 (.q z (.g hg13 (.q z (.g hg13 (.s (fe f80_5 z z z) z (.g hg13 (.s (lde (c_0 _ s.agree) t36 z z z z z) z (.g hg13 (.s (aD (s.keep aG) u36 z z) z (.g hg13 (.q z (.g hg12 (.s (pkf hg13 z z z) z (.nil (ck 7 s z (jT hg13))))))))))))))))
    intro W s
    exact .s (pkt hg12 z z z) z (.nil (ck 5 s z (bc hg12)))
   exact .xx b z (.xx b z (.xx b z (.xu (.xu (.xu (.xu (.xu (.xu (.xx b z (.s (pkf b z z z) z (.nil (ck 11 s z (be b)))))))))))))
  intro W s
  cases h
  exact .qn z (.ret (aa () (rt z rn) z (s.to [])))
 have h:=bR h
 obtain ⟨rfl,hF⟩:=hJ
 refine ⟨_,λ_ _ h=>h,?_⟩
 cases h
 exact hF
def iH (F:List ae->Int->Int->Int->Option (Bool×Int)):Prop:=∀ {a0:List ae} {a1:Int} {a2:Int} {a3:Int} {v_0:Hd} {g_3:Nat} {S:Nat->Prop} {w:World} {r:Bool×Int} (h:F a0 a1 a2 a3=some r) (q_0:RV w (Old S w) (sv v_0) 80 8 aL a0) (hO:bG w [.box g_3 3 [vi a3]] S) (hlt:∀ b,S b->b<w.heap.size) , CL 93 #[sv v_0,vi a1,vi a2,Pt g_3] w (Ret S w (λs:Unit=>.bool r.1) (λs=>[.box g_3 3 [vi r.2]]))
def ny (w:World) (S:Nat->Prop) (v_0:Hd) (g_3:Nat) (a0:List ae) (a1:Int) (a2:Int) (a3:Int) (r:Bool×Int):Env->World->Prop:=Fin Tryz.prog Tryz.f93 S w (λs:Unit=>.bool r.1) (λs=>[.box g_3 3 [vi r.2]]) .ret
theorem rr {k:Nat} {cD:List ae->Int->Int->Int->Option (Bool×Int)} (ng:iH cD):iH (fi k cD):=by
 intro a0 a1 a2 a3 v_0 g_3 S w r h q_0 hO hlt
 unfold fi at h
 refine aw func93 z z ?_
 have s:=Sep.sm hO hlt
 refine .g (.qn z (.g (.q z (.q z (.s (ld t3 s z z z z z) z (.q z (.s (aD (s.keep q_0) u36 z z) z (.q z (.q z (.c (.st t3 s z z z ?_)))))))))))
 intro W s
 refine .nil (.seq (.g (.q z (.q z (.s (ld t3 s z z z z z) z (.q z (.nil ?_)))))))
 refine .cs z h ?_ ?_ <;> intro h
 ·cases h
  exact .g (.qn z (.ret (aa () (rt z rn) z (s.tk [0]))))
 refine .skip (.seq (.g (.q z (.s (aD (s.keep q_0) u36 z z) z (.qn z (.block (bv h λy1 hy1 h=>?_)))))))
 refine .via (.iter (λs1 E' W'=>ao E' [(0,(sv v_0)),(1,vi a1),(2,vi a2),(3,Pt g_3),(23,vi (a0.length:Int)),(24,vi s1.1)]/\Sep S w W' [.box g_3 3 [vi s1.2]]) (λy2 x E' W'=>(match y2 with | .inl o1=>x=.ret/\ny w S v_0 g_3 a0 a1 a2 a3 o1 E' W' | .inr o2=>x=.exit 0/\ao E' []/\Sep S w W' [.box g_3 3 [vi o2]])) hy1 ⟨sb rfl,s.tk [0]⟩ ?_) ?_
 ·intro s1 y3 E W h hI
  obtain ⟨hE,s⟩:=hI
  refine CW.sub hE ?_
  unfold gU at h
  refine .g (.qn z (.seq ?_))
  refine .cs z h ?_ ?_ <;> intro h
  ·refine .skip (bv h λy4 hy4 h=>?_)
   refine .seq (CW.via (R':=λx E' W'=>(match y4 with | .inl o3=>x=.normal/\ao E' [(0,(sv v_0)),(1,vi a1),(2,vi a2),(3,Pt g_3),(23,vi (a0.length:Int)),(24,vi s1.1)]/\Sep S w W' [.box g_3 3 [vi o3]] | .inr o4=>x=.ret/\ny w S v_0 g_3 a0 a1 a2 a3 o4 E' W')) ?_ ?_)
   ·have h:=hy4
    refine .block (.g (.q z (.qn z (.g (.q z (.q z (bv h λx1 hx1 h=>?_)))))))
    obtain ⟨k1,hd,hck1⟩:=RV.el2 q_0 hx1
    have hd1:=dx (np _) hd
    obtain ⟨k1,rfl,hd2⟩:=aY q_0 z hd1
    obtain ⟨k1,rfl,hd3⟩:=aY q_0 z hd2
    obtain ⟨k1,rfl,hd4⟩:=aY q_0 z hd3
    have hd5:=dx (f9 _) hd4
    obtain ⟨k1,rfl,hd6⟩:=aY q_0 z hd5
    obtain ⟨k1,rfl,hd7⟩:=aY q_0 z hd6
    obtain ⟨v1,k1,rfl,q1,hd8⟩:=bf q_0 hd7
    obtain ⟨v2,k1,rfl,q2,hd9⟩:=bf q_0 hd8
    obtain ⟨v3,k1,rfl,q3,hd10⟩:=bf q_0 hd9
    obtain rfl:=gc q_0 hd10
    refine .s (ixv (s.keep q_0) hx1 u36 t80 z z z) z (.qn z (.seq (.g (.q z (.q z (bv h λy5 hy5 h=>.c (.cO s func130 (pg hy5 (s.keep (q1 _ q_0)) (s.keep (q2 _ q_0)) (s.keep (q3 _ q_0)) (s.keepE hck1)) z z ?_)))))))
    intro W s
    refine .q z (.q z (.cu 3 37 ((!y5)||(decide (a2>3))) s ?_ ?_))
    ·refine .both (!y5) (λb=>?_) (λb=>?_)
     ·exact .xx b z (.xx b z (.s (pkt b z z z) z (.nil (ck 3 s z (kK b)))))
     have hg1:=b
     exact .g hg1 (.q z (.g hg1 (.q z (.s (pkf hg1 z z z) z (.nil (ck 3 s z (jT hg1)))))))
    intro W s
    refine .nil ?_
    refine .cs z h ?_ ?_ <;> intro h
    ·refine .g (.qn z (.ret ?_))
     cases h
     exact ⟨z,aa (vs:=[_]) () (rt z rn) z (s.tk [0])⟩
    refine .skip (.seq (.g (.q z (.q z (.s (fe f80_0 z z z) z (.s (lde (hck1 _ s.agree) t3 z z z z z) z (.q z (.q z (.cu 6 49 ((x1.Kind !=2)&&(x1.Kind !=3)) s ?_ ?_)))))))))
    ·refine .both (x1.Kind !=2) (λb=>?_) (λb=>?_)
     ·have hg2:=b
      exact .g hg2 (.q z (.g hg2 (.q z (.g hg2 (.s (fe f80_0 z z z) z (.g hg2 (.s (lde (hck1 _ s.agree) t3 z z z z z) z (.g hg2 (.q z (.s (pkt hg2 z z z) z (.nil (ck 6 s z (bc hg2)))))))))))))
     exact .xx b z (.xx b z (.xx b z (.xx b z (.xx b z (.s (pkf b z z z) z (.nil (ck 6 s z (be b))))))))
    intro W s
    refine .nil ?_
    refine .cs z h ?_ ?_ <;> intro h
    ·refine .exit ?_
     cases h
     exact ⟨z,sb z,s.tk [0]⟩
    refine .skip (.g (.q z (.q z (.q z (bv h λb1 hb1 h=>.chunkL 11 63 (b1.1) (M:=S) (w0:=w) (L:=[.box g_3 3 [vi b1.2]]) ?_ ?_)))))
    ·refine .both (decide (a2>=3)) (λb=>?_) (λb=>?_)
     ·refine .xx b z (.xx b z (.xx b z (.xx b z (.xx b z (.xx b z (.xx b z (.xx b z (.xx b z (.xx b z ?_)))))))))
      cases aW b hb1
      exact .s (pkt b z z z) z (.nil (ck 11 (s.to [0])))
     have hg3:=b
     have h:=aX b hb1
     refine .g hg3 (.q z (.g hg3 (.q z (.g hg3 (.s (fe f80_4 z z z) z (.g hg3 (.s (lde (hck1 _ s.agree) t36 z z z z z) z (.g hg3 (.q z (.g hg3 (.q z (.g hg3 (.q z (.g hg3 (.q z (bv h λy6 hy6 h=>.g hg3 (.c (.cS (L0:=[.box g_3 3 [vi s1.2]]) s func93 (λS h1 h2 h3=>(ng hy6 (s.ks (q2 _ q_0) h1) h2 (zz h1))) z z ?_))))))))))))))))))
     rintro ⟨⟩ W s
     refine .g hg3 (.q z (.s (pkf hg3 z z z) z ?_))
     cases h
     exact .nil (ck 11 (s.to [0]))
    intro W s
    refine .q z (bv h λb2 hb2 h=>.chunkL 11 75 (b2.1) (M:=S) (w0:=w) (L:=[.box g_3 3 [vi b2.2]]) ?_ ?_)
    ·refine .both (b1.1) (λb=>?_) (λb=>?_)
     ·refine .xx b z (.xx b z (.xx b z (.xx b z (.xx b z (.xx b z (.xx b z (.xx b z (.xx b z (.xx b z ?_)))))))))
      cases aW b hb2
      exact .s (pkt b z z z) z (.nil (ck 11 (s.to [0])))
     have hg4:=b
     have h:=aX b hb2
     refine .g hg4 (.q z (.g hg4 (.q z (.g hg4 (.s (fe f80_5 z z z) z (.g hg4 (.s (lde (hck1 _ s.agree) t36 z z z z z) z (.g hg4 (.q z (.g hg4 (.q z (.g hg4 (.q z (.g hg4 (.q z (bv h λy7 hy7 h=>.g hg4 (.c (.cS (L0:=[.box g_3 3 [vi b1.2]]) s func93 (λS h1 h2 h3=>(ng hy7 (s.ks (q3 _ q_0) h1) h2 (zz h1))) z z ?_))))))))))))))))))
     rintro ⟨⟩ W s
     refine .g hg4 (.q z (.s (pkf hg4 z z z) z ?_))
     cases h
     exact .nil (ck 11 (s.to [0]))
    intro W s
    refine .nil ?_
    refine .cs z h ?_ ?_ <;> intro h
    ·refine .g (.qn z (.ret ?_))
     cases h
     exact ⟨z,aa (vs:=[_]) () (rt z rn) z (s.tk [0])⟩
    refine .skip ?_
    cases h
    exact ⟨z,sb z,s.tk [0]⟩
   intro x E W hJ
   rcases y4 with o5 | o6
   ·have h:=bQ h
    obtain ⟨rfl,hE,s⟩:=hJ
    refine ⟨_,hE.sub,?_⟩
    refine .region (.q z (.q z (.nil ?_)))
    cases h
    exact ⟨z,sb z,s.tk [0]⟩
   have h:=bR h
   obtain ⟨rfl,hF⟩:=hJ
   refine ⟨_,λ_ _ h=>h,?_⟩
   cases h
   exact ⟨by simp,z,hF⟩
  refine .exit ?_
  cases h
  exact ⟨by simp,z,sb z,s.tk [0]⟩
 intro x E W hJ
 rcases y1 with o7 | o8
 ·have h:=bQ h
  obtain ⟨rfl,hF⟩:=hJ
  refine ⟨_,λ_ _ h=>h,?_⟩
  cases h
  exact hF
 have h:=bR h
 obtain ⟨rfl,hE,s⟩:=hJ
 refine ⟨_,hE.sub,?_⟩
 cases h
 exact .g (.qn z (.ret (aa () (rt z rn) z (s.tk [0]))))
theorem n8 (k:Nat):iH (eW k):=by
  induction k with
  | zero=>exact by intro a0 a1 a2 a3 v_0 g_3 S w r h q_0 hO hlt; exact no h
  | succ k ih=>exact rr (k:=k) ih
theorem qM {k:Nat}:iH (eW k):=(n8 k)
theorem qN {k:Nat} {a0:List ae} {a1:Int} {v_0:Hd} {w:World} {r:Bool} (h:ic k a0 a1=some r) (q_0:RO w v_0 80 8 aL a0):CL 60 #[sv v_0,vi a1] w (RU w (.bool r)):=by
 unfold ic at h
 refine aw func60 z z ?_
 have s:=Sep.start w
 refine .g (.qn z (.g (.c (.alloc t3 s ?_))))
 intro g1 W s
 refine .c (.st t3 s z z z ?_)
 intro W s
 refine .nil (.g (.q z (.q z (bv h λy1 hy1 h=>.c (.cS (L0:=[.box g1 3 [vi 0]]) s func93 (λS h1 h2 h3=>(qM hy1 (s.ks q_0 h1) h2 (zz h1))) z z ?_)))))
 rintro ⟨⟩ W s
 cases h
 exact .qn z (.ret (aa () (rt z rn) z (s.to [])))
def ru (w:World) (r:Bool):Env->World->Prop:=Fin Tryz.prog Tryz.f83 No w (λs:Unit=>.bool r) (λs=>[]) .ret
theorem qO {a0:List Int} {v_0:Hd} {w:World} {r:Bool} (h:ie a0=some r) (q_0:RO w v_0 3 1 (D.int .i64) a0):CL 83 #[sv v_0] w (RU w (.bool r)):=by
 unfold ie at h
 refine aw func83 z z ?_
 have s:=Sep.start w
 refine .g (.qn z (.seq (.g (.q z (.s (aD (s.keep q_0) u23 z z) z (.qn z (.block (bv h λy1 hy1 h=>?_))))))))
 refine .via (.iter (λs1 E' W'=>ao E' [(0,(sv v_0)),(5,(sv v_0)),(6,vi (a0.length:Int)),(7,vi s1)]/\Sep No w W' []) (λy2 x E' W'=>(match y2 with | .inl o1=>x=.ret/\ru w o1 E' W' | .inr o2=>x=.exit 0/\ao E' [(0,(sv v_0))]/\Sep No w W' [])) hy1 ⟨sb rfl,s.to [] rfl⟩ ?_) ?_
 ·intro s1 y3 E W h hI
  obtain ⟨hE,s⟩:=hI
  refine CW.sub hE ?_
  unfold gV at h
  refine .g (.qn z (.seq ?_))
  refine .cs z h ?_ ?_ <;> intro h
  ·refine .skip (.seq (.block (.g (bv h λx1 hx1 h=>.s (ixv (s.keep q_0) hx1 u23 t3 z z z) z (.s (lde (RV.flat (s.keep q_0) hx1 z) t3 z z z z z) z (.qn z (.g (.q z (.q z (.q z (.cu 3 16 ((decide (x1<1))||(decide (x1>4))) s ?_ ?_)))))))))))
   ·refine .both (decide (x1<1)) (λb=>?_) (λb=>?_)
    ·exact .xx b z (.xx b z (.s (pkt b z z z) z (.nil (ck 3 s z (kK b)))))
    have hg1:=b
    exact .g hg1 (.q z (.g hg1 (.q z (.s (pkf hg1 z z z) z (.nil (ck 3 s z (jT hg1)))))))
   intro W s
   refine .nil ?_
   refine .cs z h ?_ ?_ <;> intro h
   ·refine .g (.qn z (.ret ?_))
    cases h
    exact ⟨by simp,z,aa (vs:=[_]) () (rt z rn) z (s.to [])⟩
   refine .skip (.region (.q z (.q z (.nil ?_))))
   cases h
   exact ⟨z,sb z,s.to []⟩
  refine .exit ?_
  cases h
  exact ⟨by simp,z,sb z,s.to []⟩
 intro x E W hJ
 rcases y1 with o3 | o4
 ·have h:=bQ h
  obtain ⟨rfl,hF⟩:=hJ
  refine ⟨_,λ_ _ h=>h,?_⟩
  cases h
  exact hF
 have h:=bR h
 obtain ⟨rfl,hE,s⟩:=hJ
 refine ⟨_,hE.sub,?_⟩
 cases h
 exact .g (.q z (.s (aD (s.keep q_0) u23 z z) z (.q z (.qn z (.ret (aa () (rt z rn) z (s.to [])))))))
def pS (w:World) (r:Bool):Env->World->Prop:=Fin Tryz.prog Tryz.f52 No w (λs:Unit=>.bool r) (λs=>[]) .ret
theorem ph {k:Nat} {a0:aJ} {aC:Hd} {az:Hd} {w:World} {r:Bool} (h:fk k a0=some r) (bi:RO w aC 3 1 (D.int .i64) a0.Rooms) (ay:RO w az 36 1 (λ(l:List ae)=>D.row 80 8 (l.map aL)) a0.Tasks):CL 52 #[.agg #[sv aC,sv az]] w (RU w (.bool r)):=by
 unfold fk at h
 refine aw func52 z z ?_
 have s:=Sep.start w
 refine .g (.c (.box s z z ?_))
 intro g1 W s
 refine .qn z (.seq (.g (.s (fa f26_0 z z z) z (.s (ld t23 s z z z z z) z (bv h λy1 hy1 h=>.c (.cO s func83 (qO hy1 (s.keep bi)) z z ?_))))))
 intro W s
 refine .q z (.q z (.cu 5 14 ((!y1)||(decide ((a0.Tasks.length:Int)<1))) s ?_ ?_))
 ·refine .both (!y1) (λb=>?_) (λb=>?_)
  ·exact .xx b z (.xx b z (.xx b z (.xx b z (.s (pkt b z z z) z (.nil (ck 5 s z (kK b)))))))
  have hg1:=b
  exact .g hg1 (.s (fa f26_1 z z z) z (.g hg1 (.s (ld t24 s z z z z z) z (.g hg1 (.s (aD (s.keep ay) u24 z z) z (.g hg1 (.q z (.s (pkf hg1 z z z) z (.nil (ck 5 s z (jT hg1)))))))))))
 intro W s
 refine .q z (.cu 5 20 (((!y1)||(decide ((a0.Tasks.length:Int)<1)))||(decide ((a0.Tasks.length:Int)>3))) s ?_ ?_)
 ·refine .both ((!y1)||(decide ((a0.Tasks.length:Int)<1))) (λb=>?_) (λb=>?_)
  ·exact .xx b z (.xx b z (.xx b z (.xx b z (.s (pkt b z z z) z (.nil (ck 5 s z (kK b)))))))
  have hg2:=b
  exact .g hg2 (.s (fa f26_1 z z z) z (.g hg2 (.s (ld t24 s z z z z z) z (.g hg2 (.s (aD (s.keep ay) u24 z z) z (.g hg2 (.q z (.s (pkf hg2 z z z) z (.nil (ck 5 s z (jT hg2)))))))))))
 intro W s
 refine .nil ?_
 refine .cs z h ?_ ?_ <;> intro h
 ·obtain rfl:=o9 h
  exact .g (.qn z (.ret (aa () (rt z rn) z (s.to []))))
 refine .skip (.seq (.g (.s (fa f26_1 z z z) z (.s (ld t24 s z z z z z) z (.s (aD (s.keep ay) u24 z z) z (.qn z (.block (bv h λy2 hy2 h=>?_))))))))
 refine .via (.iter (λs1 E' W'=>ao E' [(1,Pt g1),(22,(sv az)),(23,vi (a0.Tasks.length:Int)),(24,vi s1)]/\Sep No w W' [.box g1 26 [sv aC,sv az]]) (λy3 x E' W'=>(match y3 with | .inl o1=>x=.ret/\pS w o1 E' W' | .inr o2=>x=.exit 0/\ao E' []/\Sep No w W' [.box g1 26 [sv aC,sv az]])) hy2 ⟨sb rfl,s.tk [0]⟩ ?_) ?_
 ·intro s1 y4 E W h hI
  obtain ⟨hE,s⟩:=hI
  refine CW.sub hE ?_
  unfold fj at h
  refine .g (.qn z (.seq ?_))
  refine .cs z h ?_ ?_ <;> intro h
  ·refine .skip (.seq (.block (.g (bv h λx1 hx1 h=>?_))))
   obtain ⟨k1,hd,hck1⟩:=RV.el2 ay hx1
   obtain ⟨v1,k1,rfl,q1,hd1⟩:=bf ay hd
   obtain rfl:=gc ay hd1
   refine .s (ixv (s.keep ay) hx1 u24 t36 z z z) z (.s (lde (hck1 _ s.agree) t36 z z z z z) z (.qn z (.g (.q z (.s (fa f26_0 z z z) z (.s (ld t23 s z z z z z) z (.s (aD (s.keep bi) u23 z z) z (bv h λy5 hy5 h=>.c (.cO s func60 (qN hy5 (s.keep (q1 _ ay))) z z ?_)))))))))
   intro W s
   refine .q z (.nil ?_)
   refine .cs z h ?_ ?_ <;> intro h
   ·refine .g (.qn z (.ret ?_))
    cases h
    exact ⟨by simp,z,aa (vs:=[_]) () (rt z rn) z (s.to [])⟩
   refine .skip (.region (.q z (.q z (.nil ?_))))
   cases h
   exact ⟨z,sb z,s.tk [0]⟩
  refine .exit ?_
  cases h
  exact ⟨by simp,z,sb z,s.tk [0]⟩
 intro x E W hJ
 rcases y2 with o3 | o4
 ·have h:=bQ h
  obtain ⟨rfl,hF⟩:=hJ
  refine ⟨_,λ_ _ h=>h,?_⟩
  cases h
  exact hF
 have h:=bR h
 obtain ⟨rfl,hE,s⟩:=hJ
 refine ⟨_,hE.sub,?_⟩
 obtain rfl:=o9 h
 exact .g (.qn z (.ret (aa () (rt z rn) z (s.to []))))
theorem n9 {k:Nat} {a0:aJ} {aC:Hd} {az:Hd} {w:World} {r:(List (List ab))×Bool} (h:cL k a0=some r) (bi:RO w aC 3 1 (D.int .i64) a0.Rooms) (ay:RO w az 36 1 (λ(l:List ae)=>D.row 80 8 (l.map aL)) a0.Tasks):CL 24 #[.agg #[sv aC,sv az]] w (Ret No w (λs:Hd=>.tuple #[sv s,.bool r.2]) (λs=>[ac (sv s) 33 1 (λ(l:List ab)=>D.row 62 5 (l.map ah)) r.1])):=by
 unfold cL at h
 refine aw func24 z z ?_
 have s:=Sep.start w
 refine .g (.c (.box s z z ?_))
 intro g1 W s
 refine .q z (.qn z (.seq (.g (.s (ld t26 s z z z z z) z (bv h λy1 hy1 h=>.c (.cO s func52 (ph hy1 (s.keep bi) (s.keep ay)) z z ?_))))))
 intro W s
 refine .q z (.nil ?_)
 refine .cs z h ?_ ?_ <;> intro h
 ·refine .g (.q z (.qn z (.ret ?_)))
  have s:=s.nilv 33 1 (λ(l:List ab)=>D.row 62 5 (l.map ah))
  cases h
  exact aa (vs:=[_,_]) lN (rt z (rt z rn)) z (s.tk [0])
 refine .skip (.g (.qn z (.seq (.g (.s (fa f26_1 z z z) z (.s (ld t24 s z z z z z) z (.s (aD (s.keep ay) u24 z z) z (.qn z (.block ?_)))))))))
 have s:=s.nilv 33 1 (λ(l:List ab)=>D.row 62 5 (l.map ah))
 refine bv h λy2 hy2 h=>?_
 refine .via (.iter (λs1 E' W'=>∃ (v3:Hd),ao E' [(4,(sv v3)),(11,(sv az)),(12,vi (a0.Tasks.length:Int)),(13,vi s1.2)]/\Sep No w W' [.box g1 26 [sv aC,sv az],ac (sv v3) 33 1 (λ(l:List ab)=>D.row 62 5 (l.map ah)) s1.1]) (λy3 x E' W'=>x=.exit 0/\∃ (v4:Hd),ao E' [(4,(sv v4))]/\Sep No w W' [.box g1 26 [sv aC,sv az],ac (sv v4) 33 1 (λ(l:List ab)=>D.row 62 5 (l.map ah)) y3]) hy2 ⟨lN,sb z,s.tk [1,0]⟩ ?_) ?_
 ·intro s1 y4 E W h hI
  obtain ⟨v2,hE,s⟩:=hI
  refine CW.sub hE ?_
  unfold dN at h
  refine .g (.qn z (.seq ?_))
  refine .cs z h ?_ ?_ <;> intro h
  ·refine .skip (.seq (.block (.g (bv h λx1 hx1 h=>?_))))
   obtain ⟨k1,hd,hck1⟩:=RV.el2 ay hx1
   obtain ⟨v5,k1,rfl,q5,hd1⟩:=bf ay hd
   obtain rfl:=gc ay hd1
   refine .s (ixv (s.keep ay) hx1 u24 t36 z z z) z (.s (lde (hck1 _ s.agree) t36 z z z z z) z (.qn z (.region (.q z (.q z (bv h λy5 hy5 h=>.c (.cV s func30 (pQ hy5 (s.keep (q5 _ ay))) z z ?_)))))))
   intro v6 W s
   refine .c (.lg (L1:=[ac (sv v6) 62 5 ah y5]) [y5] (λ(l:List ab)=>D.row 62 5 (l.map ah)) u29 t33 (s.to [0,0,0]) z z z (.row (.nil)) ?_ z (λ_=>z))
   intro v7 W s
   refine bv h λr1 hr1 h=>.c (.appv hr1 (s.to [2,0,0]) u29 t33 z z z ?_)
   intro v8 W s
   refine .qn z (.region (.q z (.q z (.nil ?_))))
   cases h
   exact ⟨z,v8,sb z,s.tk [1,0]⟩
  refine .exit ?_
  cases h
  exact ⟨by simp,z,v2,sb z,s.tk [0,0]⟩
 intro x E W hJ
 obtain ⟨rfl,v9,hE,s⟩:=hJ
 refine ⟨_,hE.sub,?_⟩
 cases h
 exact .g (.q z (.q z (.qn z (.ret (aa (vs:=[_,_]) v9 (rt z (rt z rn)) z (s.tk [1]))))))
theorem qp {a0:Bool} {w:World} {r:Int} (h:lX a0=some r):CL 157 #[.bool a0] w (RU w (.int .i64 r)):=by
 unfold lX at h
 refine aw func157 z z ?_
 have s:=Sep.start w
 refine .g (.qn z (.seq (.g (.q z (.nil ?_)))))
 refine .cs z h ?_ ?_ <;> intro h
 ·cases h
  exact .g (.qn z (.ret (aa () (rt z rn) z (s.to []))))
 cases h
 exact .skip (.g (.qn z (.ret (aa () (rt z rn) z (s.to [])))))
theorem lz {a0:Int} {w:World} {r:Int} (h:ir a0=some r):CL 158 #[vi a0] w (RU w (.int .i64 r)):=by
 unfold ir at h
 refine aw func158 z z ?_
 have s:=Sep.start w
 cases h
 exact .g (.qn z (.g (.q z (.s (cv u3 u21 z z) z (.s (cv u21 u3 z z) z (.qn z (.ret (aa () (rt z rn) z (s.to [])))))))))
end
noncomputable section
theorem qq {a0:Int} {a1:Int} {a2:Int} {w:World} {r:Int} (h:iR a0 a1 a2=some r):CL 132 #[vi a0,vi a1,vi a2] w (RU w (.int .i64 r)):=by
 unfold iR at h
 refine aw func132 z z ?_
 have s:=Sep.start w
 refine .g (.qn z (.seq (.g (.qn z (.block (.g (.q z (.q z (.nil ?_)))))))))
 refine .cs z h ?_ ?_ <;> intro h
 ·cases h
  exact .g (.q z (.q z (.q z (.qn z (.ret (aa () (rt z rn) z (s.to [])))))))
 refine .g (.q z (.q z (.nil ?_)))
 refine .cs z h ?_ ?_ <;> intro h
 ·cases h
  exact .g (.q z (.q z (.q z (.qn z (.ret (aa () (rt z rn) z (s.to [])))))))
 refine .g (.q z (.q z (.nil ?_)))
 refine .cs z h ?_ ?_ <;> intro h
 ·cases h
  exact .g (.q z (.q z (.q z (.qn z (.ret (aa () (rt z rn) z (s.to [])))))))
 refine .g (.q z (.q z (.nil ?_)))
 refine .cs z h ?_ ?_ <;> intro h
 ·refine .g (.q z (.q z (.q z (bv h λy1 hy1 h=>.c (.cO s func157 (qp hy1) z z ?_)))))
  intro W s
  obtain rfl:=o9 h
  exact .qn z (.ret (aa () (rt z rn) z (s.to [])))
 refine .g (.q z (.q z (.nil ?_)))
 refine .cs z h ?_ ?_ <;> intro h
 ·refine .g (.q z (.q z (.q z (bv h λy2 hy2 h=>.c (.cO s func157 (qp hy2) z z ?_)))))
  intro W s
  obtain rfl:=o9 h
  exact .qn z (.ret (aa () (rt z rn) z (s.to [])))
 refine .g (.q z (.q z (.nil ?_)))
 refine .cs z h ?_ ?_ <;> intro h
 ·refine .g (.q z (.q z (.q z (bv h λd1 hd1 h=>.s (jt hd1 z z z) z (bv h λy3 hy3 h=>.c (.cO s func158 (lz hy3) z z ?_))))))
  intro W s
  obtain rfl:=o9 h
  exact .qn z (.ret (aa () (rt z rn) z (s.to [])))
 refine .g (.q z (.q z (.nil ?_)))
 refine .cs z h ?_ ?_ <;> intro h
 ·refine .g (.q z (.q z (.q z (bv h λd2 hd2 h=>.s (jt hd2 z z z) z (.qn z (.ret ?_))))))
  obtain rfl:=o9 h
  exact aa () (rt z rn) z (s.to [])
 refine .g (.q z (.q z (.nil ?_)))
 refine .cs z h ?_ ?_ <;> intro h
 ·refine .g (.q z (.q z (.q z (bv h λy4 hy4 h=>.c (.cO s func158 (lz hy4) z z ?_)))))
  intro W s
  obtain rfl:=o9 h
  exact .qn z (.ret (aa () (rt z rn) z (s.to [])))
 refine .g (.q z (.q z (.nil ?_)))
 refine .cs z h ?_ ?_ <;> intro h
 ·refine .g (.q z (.q z (.q z (bv h λy5 hy5 h=>.c (.cO s func158 (lz hy5) z z ?_)))))
  intro W s
  obtain rfl:=o9 h
  exact .qn z (.ret (aa () (rt z rn) z (s.to [])))
 refine .g (.q z (.q z (.nil ?_)))
 refine .cs z h ?_ ?_ <;> intro h
 ·refine .g (.q z (.q z (.q z (bv h λy6 hy6 h=>.c (.cO s func158 (lz hy6) z z ?_)))))
  intro W s
  obtain rfl:=o9 h
  exact .qn z (.ret (aa () (rt z rn) z (s.to [])))
 refine .g (.q z (.q z (.nil ?_)))
 refine .cs z h ?_ ?_ <;> intro h
 ·refine .seq (.g (.q z (.q z (.nil ?_))))
  refine .cs z h ?_ ?_ <;> intro h
  ·cases h
   exact .g (.qn z (.ret (aa () (rt z rn) z (s.to []))))
  refine .skip (.g (.q z (.q z (bv h λd3 hd3 h=>.s (dq hd3 z z z) z (bv h λy7 hy7 h=>.c (.cO s func158 (lz hy7) z z ?_))))))
  intro W s
  obtain rfl:=o9 h
  exact .qn z (.ret (aa () (rt z rn) z (s.to [])))
 refine .skip (.seq (.g (.q z (.q z (.nil ?_)))))
 refine .cs z h ?_ ?_ <;> intro h
 ·obtain rfl:=o9 h
  exact .g (.q z (.qn z (.ret (aa () (rt z rn) z (s.to [])))))
 refine .skip (.g (.q z (.q z (bv h λd4 hd4 h=>.s (dr hd4 z z z) z (.qn z (.ret ?_))))))
 obtain rfl:=o9 h
 exact aa () (rt z rn) z (s.to [])
theorem mz {a0:Ar ai} {a1:ab} {w:World} {r:(Ar ai)} (h:fp a0 a1=some r):CL 98 #[.agg (kS a0).toArray,.agg #[vi a1.Op,vi a1.Dst,vi a1.A,vi a1.B,vi a1.N]] w (RU w (.agg (kS r).toArray)):=by
 unfold fp at h
 refine aw func98 z z ?_
 have s:=Sep.start w
 refine .g (.c (.box s z z ?_))
 intro g1 W s
 have s:Sep _ _ _ [.box g1 92 (kS a0)]:=id s
 refine .c (.box s z z ?_)
 intro g2 W s
 refine .c (.alloc t92 s ?_)
 intro g3 W s
 have s:Sep _ _ _ [.box g3 92 (kS (λ_=>(ai.mk 0 0))),.box g2 62 [vi a1.Op,vi a1.Dst,vi a1.A,vi a1.B,vi a1.N],.box g1 92 (kS a0)]:=id s
 refine .nil (.g (.s (ld t62 s.p1 z z z z z) z (bv h λy1 hy1 h=>.c (.cO s func108 (jn hy1) z z ?_))))
 intro W s
 refine .qn z (.seq (.g (.q z (.q z (.nil ?_)))))
 refine .cs z h ?_ ?_ <;> intro h
 ·refine .g (.s (lda t92 s.p2 (kV _) z z) z (.c (.sta t92 s kV uy z z z ?_)))
  intro W s
  obtain rfl:=o9 h
  exact .nil (.ret (aa () (rc s t92 z rn (kV _) z) z (s.to [])))
 refine .skip (.g (.s (bs T.s90 z z) z (.c (.alloc t90 s ?_))))
 intro g4 W s
 refine .c (.st t90 s z z z ?_)
 intro W s
 refine .nil (bv h λy2 hy2 h=>?_)
 refine .seq (CW.via (R':=λx E' W'=>x=.normal/\ao E' [(2,Pt g1),(4,Pt g3),(5,vi y1),(6,Pt g4)]/\Sep No w W' [.box g4 90 [vi y2.Kind,vi y2.N],.box g3 92 (kS (λ_=>(ai.mk 0 0))),.box g2 62 [vi a1.Op,vi a1.Dst,vi a1.A,vi a1.B,vi a1.N],.box g1 92 (kS a0)]) ?_ ?_)
 ·have h:=hy2
  refine .g (.s (fa f62_0 z z z) z (.s (ld t3 s.p2 z z z z z) z (.nil (.block (.g (.q z (.q z (.nil ?_))))))))
  refine .cs z h ?_ ?_ <;> intro h
  ·refine .region (.s (fa f62_4 z z z) z (.s (ld t3 s.p2 z z z z z) z (.s (bs T.s90 z z) z (.c (.st t90 s z z z ?_)))))
   intro W s
   refine .nil ?_
   cases h
   exact ⟨z,sb z,s.tk [0,0,0,0]⟩
  refine .g (.q z (.q z (.nil ?_)))
  refine .cs z h ?_ ?_ <;> intro h
  ·refine .region (.s (fa f62_2 z z z) z (.s (ld t3 s.p2 z z z z z) z (bv h λx1 hx1 h=>.s (ixa hx1 u92 t90 z z z) z (.s (ldx s.p3 hx1 (λ_=>z) t90 z z z z z) z (.c (.st t90 s z z z ?_))))))
   intro W s
   refine .nil ?_
   obtain rfl:=o9 h
   exact ⟨z,sb z,s.tk [0,0,0,0]⟩
  refine .g (.q z (.q z (.nil ?_)))
  refine .cs z h ?_ ?_ <;> intro h
  ·refine .g (.s (fa f62_2 z z z) z (.s (ld t3 s.p2 z z z z z) z (bv h λx2 hx2 h=>.s (ixa hx2 u92 t90 z z z) z (.s (fa f90_0 z z z) z (.s (ldx s.p3 hx2 (λ_=>z) t3 z z z z z) z (.q z (.q z (bv h λb1 hb1 h=>.cu 7 41 (b1) s ?_ ?_))))))))
   ·refine .both (x2.Kind==1) (λb=>?_) (λb=>?_)
    ·have hg1:=b
     have h:=aW b hb1
     refine .g hg1 (.s (fa f62_3 z z z) z (.g hg1 (.s (ld t3 s.p2 z z z z z) z (bv h λx3 hx3 h=>.g hg1 (.s (ixa hx3 u92 t90 z z z) z (.g hg1 (.s (fa f90_0 z z z) z (.g hg1 (.s (ldx s.p3 hx3 (λ_=>z) t3 z z z z z) z (.g hg1 (.q z (.s (pkt hg1 z z z) z ?_))))))))))))
     cases h
     exact .nil (ck 7 s)
    refine .xx b z (.xx b z (.xx b z (.xx b z (.xx b z (.xx b z ?_)))))
    cases aX b hb1
    exact .s (pkf b z z z) z (.nil (ck 7 s))
   intro W s
   refine .nil ?_
   refine .cs z h ?_ ?_ <;> intro h
   ·refine .rk 14 s [0,0,0,0] T.mix ?_
    intro W s
    have t:=s.to [0,0,0,0]
    refine .ts' 0 z (λW t=>fa f62_4 z z z) t z (.ts' 1 z (λW t=>ld t3 t.p2 z z z z z) t z (.ts' 2 z (λW t=>fa f62_2 z z z) t z (.ts' 3 z (λW t=>ld t3 t.p2 z z z z z) t z (bv h λx4 hx4 h=>.ts' 4 z (λW t=>ixa hx4 u92 t90 z z z) t z (.ts' 5 z (λW t=>fa f90_1 z z z) t z (.ts' 6 z (λW t=>ldx t.p3 hx4 (λ_=>z) t3 z z z z z) t z (.ts' 7 z (λW t=>fa f62_3 z z z) t z (.ts' 8 z (λW t=>ld t3 t.p2 z z z z z) t z (bv h λx5 hx5 h=>.ts' 9 z (λW t=>ixa hx5 u92 t90 z z z) t z (.ts' 10 z (λW t=>fa f90_1 z z z) t z (.ts' 11 z (λW t=>ldx t.p3 hx5 (λ_=>z) t3 z z z z z) t z (bv h λy3 hy3 h=>.by1 12 z (.cO s func132 (qq hy3) z z ?_)))))))))))))
    intro W s
    refine s.an [0,0,0,0] λt=>.ts' 13 z (λW t=>bs T.s90 z z) t z (.by1 14 z (.st t90 s z z z ?_))
    intro W s
    refine ⟨λh=>absurd z h,?_⟩
    refine .done ?_
    cases h
    exact ⟨z,sb z,s.tk [0,0,0,0]⟩
   refine .skip ?_
   cases h
   exact ⟨z,sb z,s.tk [0,0,0,0]⟩
  refine .skip ?_
  cases h
  exact ⟨z,sb z,s.tk [0,0,0,0]⟩
 intro x E W hJ
 obtain ⟨rfl,hE,s⟩:=hJ
 refine ⟨_,hE.sub,?_⟩
 refine .g (.q z (.s (ld t90 s z z z z z) z (bv h λx6 hx6 h=>.s (ixa hx6 u92 t90 z z z) z (.c (.stx (x1:=y2) hx6 s.p3 (λ_=>z) t90 z z z z ?_)))))
 intro W s
 refine .nil (.g (.s (lda t92 s (kV _) z z) z (.c (.sta t92 s.p2 kV uy z z z ?_))))
 intro W s
 cases h
 exact .nil (.ret (aa () (rc s t92 z rn (kV _) z) z (s.to [])))
theorem tG {a0:ab} {a1:Int} {a2:Ar ai} {w:World} {r:(List Int)} (h:kX a0 a1 a2=some r):CL 99 #[.agg #[vi a0.Op,vi a0.Dst,vi a0.A,vi a0.B,vi a0.N],vi a1,.agg (kS a2).toArray] w (Ret No w (λs:Hd=>(sv s)) (λs=>[ac (sv s) 3 1 (D.int .i64) r])):=by
 unfold kX at h
 refine aw func99 z z ?_
 have s:=Sep.start w
 refine .g (.c (.box s z z ?_))
 intro g1 W s
 refine .c (.box s z z ?_)
 intro g2 W s
 have s:Sep _ _ _ [.box g2 92 (kS a2),.box g1 62 [vi a0.Op,vi a0.Dst,vi a0.A,vi a0.B,vi a0.N]]:=id s
 refine .qn z (.seq (.g (.s (fa f62_0 z z z) z (.s (ld t3 s.p1 z z z z z) z (.q z (.q z (bv h λb1 hb1 h=>.cu 7 17 (b1) s ?_ ?_)))))))
 ·refine .both (a0.Op==5) (λb=>?_) (λb=>?_)
  ·have hg1:=b
   have h:=aW b hb1
   refine .g hg1 (.s (fa f62_2 z z z) z (.g hg1 (.s (ld t3 s.p1 z z z z z) z (bv h λx1 hx1 h=>.g hg1 (.s (ixa hx1 u92 t90 z z z) z (.g hg1 (.s (fa f90_0 z z z) z (.g hg1 (.s (ldx s hx1 (λ_=>z) t3 z z z z z) z (.g hg1 (.q z (.s (pkt hg1 z z z) z ?_))))))))))))
   cases h
   exact .nil (ck 7 s)
  refine .xx b z (.xx b z (.xx b z (.xx b z (.xx b z (.xx b z ?_)))))
  cases aX b hb1
  exact .s (pkf b z z z) z (.nil (ck 7 s))
 intro W s
 refine .nil ?_
 refine .cs z h ?_ ?_ <;> intro h
 ·refine .seq (.g (.s (fa f62_2 z z z) z (.s (ld t3 s.p1 z z z z z) z (bv h λx2 hx2 h=>.s (ixa hx2 u92 t90 z z z) z (.s (fa f90_1 z z z) z (.s (ldx s hx2 (λ_=>z) t3 z z z z z) z (.q z (.nil ?_))))))))
  refine .cs z h ?_ ?_ <;> intro h
  ·refine .g (.s (fa f62_4 z z z) z (.s (ld t3 s.p1 z z z z z) z (.c (.liv [a0.N] (D.int .i64) u23 t3 s z z z z ?_ z (λ_=>z)))))
   intro v1 W s
   cases h
   exact .qn z (.ret (aa v1 (rt z rn) z (s.tk [0])))
  refine .skip (.g (.q z (.q z (.c (.liv [w64 (a1+1)] (D.int .i64) u23 t3 s z z z z ?_ z (λ_=>z))))))
  intro v2 W s
  cases h
  exact .qn z (.ret (aa v2 (rt z rn) z (s.tk [0])))
 refine .skip (.g (.s (ld t62 s.p1 z z z z z) z (.q z (bv h λy1 hy1 h=>.c (.cV s func105 (ly hy1) z z ?_)))))
 intro v3 W s
 obtain rfl:=o9 h
 exact .qn z (.ret (aa v3 (rt z rn) z (s.tk [0])))
theorem rv {a0:ai} {a1:ai} {w:World} {r:ai} (h:iU a0 a1=some r):CL 100 #[.agg #[vi a0.Kind,vi a0.N],.agg #[vi a1.Kind,vi a1.N]] w (RU w (.agg #[vi r.Kind,vi r.N])):=by
 unfold iU at h
 refine aw func100 z z ?_
 have s:=Sep.start w
 refine .g (.c (.box s z z ?_))
 intro g1 W s
 refine .c (.box s z z ?_)
 intro g2 W s
 refine .c (.alloc t90 s ?_)
 intro g3 W s
 refine .nil (.seq (.block (.g (.s (fa f90_0 z z z) z (.s (ld t3 s.p2 z z z z z) z (.q z (.q z (.cu 4 13 ((a0.Kind==0)||((a0.Kind==a1.Kind)&&((a0.N==a1.N)&&true))) s ?_ ?_))))))))
 ·refine .both (a0.Kind==0) (λb=>?_) (λb=>?_)
  ·exact .xx b z (.xx b z (.xx b z (.s (pkt b z z z) z (.nil (ck 4 s z (kK b))))))
  have hg1:=b
  exact .g hg1 (.s (ld t90 s.p2 z z z z z) z (.g hg1 (.s (ld t90 s.p1 z z z z z) z (.g hg1 (.s (eqs T.e90 z z z z) z (.s (pkf hg1 z z z) z (.nil (ck 4 s z (jT hg1)))))))))
 intro W s
 refine .q z (.nil ?_)
 refine .cs z h ?_ ?_ <;> intro h
 ·refine .g (.s (ld t90 s.p1 z z z z z) z (.c (.st t90 s z z z ?_)))
  intro W s
  obtain rfl:=o9 h
  exact .nil (.ret (aa () (rc s t90 z rn z z) z (s.to [])))
 refine .g (.s (fa f90_0 z z z) z (.s (ld t3 s.p1 z z z z z) z (.q z (.q z (.nil ?_)))))
 refine .cs z h ?_ ?_ <;> intro h
 ·refine .g (.s (ld t90 s.p2 z z z z z) z (.c (.st t90 s z z z ?_)))
  intro W s
  obtain rfl:=o9 h
  exact .nil (.ret (aa () (rc s t90 z rn z z) z (s.to [])))
 refine .skip (.g (.s (bs T.s90 z z) z (.c (.st t90 s z z z ?_))))
 intro W s
 cases h
 exact .nil (.ret (aa () (rc s t90 z rn z z) z (s.to [])))
theorem pT {a0:List ab} {v_0:Hd} {w:World} {r:(List (Ar ai))} (h:d9 a0=some r) (q_0:RO w v_0 62 5 ah a0):CL 63 #[sv v_0] w (Ret No w (λs:Hd=>(sv s)) (λs=>[ac (sv s) 92 24 (arD 12 aV) r])):=by
 unfold d9 at h
 refine aw func63 z z ?_
 have s:=Sep.start w
 refine .g (.qn z (.g (.q z (.s (aD (s.keep q_0) u33 z z) z (bv h λr1 hr1 h=>.c (.mkv (λ_=>(ai.mk 0 0)) (arD 12 aV) hr1 u87 t92 s z z z z z (λ_=>z) ?_))))))
 intro v1 W s
 refine .qn z (.seq (.g (.qn z (.block (bv h λy1 hy1 h=>?_)))))
 refine .via (.iter (λs1 E' W'=>ao E' [(0,(sv v_0)),(3,(sv v1)),(15,vi s1.1)]/\Sep No w W' [ac (sv v1) 92 24 (arD 12 aV) s1.2]) (λy2 x E' W'=>x=.exit 0/\ao E' [(0,(sv v_0)),(3,(sv v1))]/\Sep No w W' [ac (sv v1) 92 24 (arD 12 aV) y2]) hy1 ⟨sb z,s.tk [0]⟩ ?_) ?_
 ·intro s1 y3 E W h hI
  obtain ⟨hE,s⟩:=hI
  refine CW.sub hE ?_
  unfold jV at h
  refine .g (.qn z (.seq ?_))
  refine .cs z h ?_ ?_ <;> intro h
  ·refine .skip (.seq (.block (.g (.q z (.qn z (.region (.q z (.q z (.s (bs T.s90 z z) z (bv h λx1 hx1 h=>.s (ixv s.lv hx1 u87 t92 z z z) z (bv h λx2 hx2 h=>.s (Ds hx2 u92 t90 z z z) z (bv h λr2 hr2 h=>.c (.sevx hr2 hx1 hx2 s t90 (λ_=>z) (λ_=>z) z z z z ?_)))))))))))))
   intro W s
   refine .nil (.region (.q z (.q z (.nil ?_))))
   cases h
   exact ⟨z,sb z,s.tk [0]⟩
  refine .exit ?_
  cases h
  exact ⟨by simp,z,sb z,s.tk [0]⟩
 intro x E W hJ
 obtain ⟨rfl,hE,s⟩:=hJ
 refine ⟨_,hE.sub,?_⟩
 refine .seq (.g (.c (.liv [0] (D.int .i64) u23 t3 s z z z z ?_ z (λ_=>z))))
 intro v2 W s
 refine .qn z (.block (bv h λy4 hy4 h=>?_))
 refine .via (.iter (λs2 E' W'=>∃ (v5:Hd),ao E' [(0,(sv v_0)),(3,(sv v1)),(5,(sv v5))]/\Sep No w W' [ac (sv v1) 92 24 (arD 12 aV) s2.2,ac (sv v5) 3 1 (D.int .i64) s2.1]) (λy5 x E' W'=>x=.exit 2/\ao E' [(3,(sv v1))]/\Sep No w W' [ac (sv v1) 92 24 (arD 12 aV) y5]) hy4 ⟨v2,sb z,s.tk [1,0]⟩ ?_) ?_
 ·intro s2 y6 E W h hI
  obtain ⟨v4,hE,s⟩:=hI
  refine CW.sub hE ?_
  unfold iV at h
  refine .seq (.g (.q z (.s (aD s.p1.lv u23 z z) z (.q z (.nil ?_)))))
  refine .cs z h ?_ ?_ <;> intro h
  ·refine .skip (.block (.g (.q z (.q z (.s (aD s.p1.lv u23 z z) z (.q z (bv h λx3 hx3 h=>.s (ixv s.p1.lv hx3 u23 t3 z z z) z (.s (lde (RV.flat s.p1.lv hx3 z) t3 z z z z z) z (.qn z (.g (.q z (.q z (.s (aD s.p1.lv u23 z z) z (.q z (bv h λr3 hr3 h=>.c (.cuto hr3 s.p1 u23 t3 z z z z ?_))))))))))))))))
   intro v6 s
   refine .qn z (.seq (bv h λx4 hx4 h=>bv h λx5 hx5 h=>bv h λy7 hy7 h=>?_))
   refine .via (R':=λx E' W'=>x=.normal/\∃ (g1:Nat),ao E' [(0,(sv v_0)),(3,(sv v1)),(5,(sv v6)),(6,vi x3),(7,Pt g1)]/\Sep No w W' [ac (sv v6) 3 1 (D.int .i64) r3,ac (sv v1) 92 24 (arD 12 aV) s2.2,.box g1 92 (kS y7)]) ?_ ?_
   ·refine .rk 10 s [0,0] T.mix ?_
    intro W s
    have t:=s.to [0,0]
    refine .tp' 0 z z t (.tp' 1 z z t (.ts' 2 z (λW t=>ixv s.p1.lv hx4 u87 t92 z z z) t z (.ts' 3 z (λW t=>wF (RV.flat (cs:=kS x4) t.p1.lv hx4 (si λ_=>z)) t92 (kV _) z z) t z (.tp' 4 z z t (.tp' 5 z z t (.ts' 6 z (λW t=>ixv (s.keep q_0) hx5 u33 t62 z z z) t z (.ts' 7 z (λW t=>lde (RV.flat (t.keep q_0) hx5 z) t62 z z z z z) t z (.by [8,9] ⟨⟨_,z,?_⟩,⟨_,z,?_⟩,trivial⟩))))))))
    ·refine (.cO s func98 (mz hy7) z z ?_)
     intro W s
     refine s.an [0,0] λt=>.by1 9 z (.alloc t92 s ?_)
     intro g2 W s
     have s:Sep _ _ _ [.box g2 92 (kS (λ_=>(ai.mk 0 0))),ac (sv v6) 3 1 (D.int .i64) r3,ac (sv v1) 92 24 (arD 12 aV) s2.2]:=id s
     refine s.an [1,1] λt=>.by1 10 z (.sta t92 s kV uy z z z ?_)
     intro W s
     refine ⟨λh=>absurd z h,?_⟩
     exact .done (⟨z,g2,sb z,s.tk [1,1,0]⟩)
    refine (.alloc t92 s ?_)
    intro g3 W s
    have s:Sep _ _ _ [.box g3 92 (kS (λ_=>(ai.mk 0 0))),ac (sv v6) 3 1 (D.int .i64) r3,ac (sv v1) 92 24 (arD 12 aV) s2.2]:=id s
    refine s.an [1,1] λt=>.by1 8 z (.cO s func98 (mz hy7) z z ?_)
    intro W s
    refine s.an [1,1] λt=>.by1 10 z (.sta t92 s kV uy z z z ?_)
    intro W s
    refine ⟨λh=>absurd z h,?_⟩
    exact .done (⟨z,g3,sb z,s.tk [1,1,0]⟩)
   intro x E W hJ
   obtain ⟨rfl,g4,hE,s⟩:=hJ
   refine ⟨_,hE.sub,?_⟩
   refine .seq (.rk 12 s [0,0,0] T.mix ?_)
   intro W s
   have t:=s.to [0,0,0]
   refine .tp' 0 z z t (.tp' 1 z z t (bv h λx6 hx6 h=>.ts' 2 z (λW t=>ixv (s.keep q_0) hx6 u33 t62 z z z) t z (.ts' 3 z (λW t=>lde (RV.flat (t.keep q_0) hx6 z) t62 z z z z z) t z (.tp' 4 z z t (.tp' 5 z z t (.tp' 6 z z t (bv h λx7 hx7 h=>.ts' 7 z (λW t=>ixv s.p1.lv hx7 u87 t92 z z z) t z (.ts' 8 z (λW t=>wF (RV.flat (cs:=kS x7) t.p1.lv hx7 (si λ_=>z)) t92 (kV _) z z) t z (.tp' 11 z z t (bv h λy8 hy8 h=>.by1 9 z (.cV s func99 (tG hy8) z z ?_)))))))))))
   intro v7 W s
   refine s.an [1,1,1] λt=>.ts' 10 z (λW t=>aD s.lv u23 z z) t z (.done (.block (bv h λy9 hy9 h=>?_)))
   refine .via (.iter (λs3 E' W'=>∃ (v10:Hd),ao E' [(0,(sv v_0)),(3,(sv v1)),(5,(sv v10)),(7,Pt g4),(57,(sv v7)),(58,vi (y8.length:Int)),(59,vi s3.2.1)]/\Sep No w W' [ac (sv v7) 3 1 (D.int .i64) y8,ac (sv v1) 92 24 (arD 12 aV) s3.2.2,.box g4 92 (kS y7),ac (sv v10) 3 1 (D.int .i64) s3.1]) (λy10 x E' W'=>x=.exit 4/\∃ (v11:Hd),ao E' [(0,(sv v_0)),(3,(sv v1)),(5,(sv v11))]/\Sep No w W' [ac (sv v7) 3 1 (D.int .i64) y8,ac (sv v1) 92 24 (arD 12 aV) y10.2,.box g4 92 (kS y7),ac (sv v11) 3 1 (D.int .i64) y10.1]) hy9 ⟨v6,sb z,s.tk [0,1,1,0]⟩ ?_) ?_
   ·intro s3 y11 E W h hI
    obtain ⟨v9,hE,s⟩:=hI
    refine CW.sub hE ?_
    unfold fr at h
    refine .g (.qn z (.seq ?_))
    refine .cs z h ?_ ?_ <;> intro h
    ·refine .skip (bv h λy12 hy12 h=>?_)
     refine .seq (CW.via (R':=λx E' W'=>x=.normal/\∃ (v12:Hd),ao E' [(0,(sv v_0)),(3,(sv v1)),(5,(sv v12)),(7,Pt g4),(57,(sv v7)),(58,vi (y8.length:Int)),(59,vi s3.2.1)]/\Sep No w W' [ac (sv v7) 3 1 (D.int .i64) y8,ac (sv v1) 92 24 (arD 12 aV) y12.2,.box g4 92 (kS y7),ac (sv v12) 3 1 (D.int .i64) y12.1]) ?_ ?_)
     ·have h:=hy12
      refine .block (.g (bv h λx8 hx8 h=>.s (ixv s.lv hx8 u23 t3 z z z) z (.s (lde (RV.flat s.lv hx8 z) t3 z z z z z) z (.qn z (.g (.q z (.q z (bv h λx9 hx9 h=>.s (ixv s.p1.lv hx9 u87 t92 z z z) z (.s (wF (RV.flat (cs:=kS x9) s.p1.lv hx9 (si λ_=>z)) t92 (kV _) z z) z (.c (.alloc t92 s ?_)))))))))))
      intro g5 W s
      have s:Sep _ _ _ [.box g5 92 (kS (λ_=>(ai.mk 0 0))),ac (sv v7) 3 1 (D.int .i64) y8,ac (sv v1) 92 24 (arD 12 aV) s3.2.2,.box g4 92 (kS y7),ac (sv v9) 3 1 (D.int .i64) s3.1]:=id s
      refine .c (.sta t92 s kV uy z z z ?_)
      intro W s
      refine .nil (.seq (.g (.qn z (.block (bv h λy13 hy13 h=>?_)))))
      refine .via (.iter (λs4 E' W'=>ao E' [(0,(sv v_0)),(3,(sv v1)),(5,(sv v9)),(7,Pt g4),(9,vi x8),(10,Pt g5),(57,(sv v7)),(58,vi (y8.length:Int)),(59,vi s3.2.1),(67,vi s4.1)]/\Sep No w W' [.box g5 92 (kS s4.2),ac (sv v7) 3 1 (D.int .i64) y8,ac (sv v1) 92 24 (arD 12 aV) s3.2.2,.box g4 92 (kS y7),ac (sv v9) 3 1 (D.int .i64) s3.1]) (λy14 x E' W'=>x=.exit 6/\ao E' [(0,(sv v_0)),(3,(sv v1)),(5,(sv v9)),(7,Pt g4),(9,vi x8),(10,Pt g5),(57,(sv v7)),(58,vi (y8.length:Int)),(59,vi s3.2.1)]/\Sep No w W' [.box g5 92 (kS y14),ac (sv v7) 3 1 (D.int .i64) y8,ac (sv v1) 92 24 (arD 12 aV) s3.2.2,.box g4 92 (kS y7),ac (sv v9) 3 1 (D.int .i64) s3.1]) hy13 ⟨sb z,s.tk [0,0,0,0,0]⟩ ?_) ?_
      ·intro s4 y15 E W h hI
       obtain ⟨hE,s⟩:=hI
       refine CW.sub hE ?_
       unfold fq at h
       refine .g (.qn z (.seq ?_))
       refine .cs z h ?_ ?_ <;> intro h
       ·refine .skip (.seq (.block (.g (.q z (.qn z (.rk 9 s [0,0,0,0,0] T.mix ?_))))))
        intro W s
        have t:=s.to [0,0,0,0,0]
        refine .tp' 0 z z t (.tp' 1 z z t (bv h λx10 hx10 h=>.ts' 2 z (λW t=>ixa hx10 u92 t90 z z z) t z (.ts' 3 z (λW t=>ldx t hx10 (λ_=>z) t90 z z z z z) t z (.tp' 4 z z t (bv h λx11 hx11 h=>.ts' 5 z (λW t=>ixa hx11 u92 t90 z z z) t z (.ts' 6 z (λW t=>ldx t.p3 hx11 (λ_=>z) t90 z z z z z) t z (bv h λy16 hy16 h=>.by1 7 z (.cO s func100 (rv hy16) z z ?_))))))))
        intro W s
        refine s.an [0,0,0,0,0] λt=>bv h λx12 hx12 h=>.ts' 8 z (λW t=>ixa hx12 u92 t90 z z z) t z (.by1 9 z (.stx (x1:=y16) hx12 s (λ_=>z) t90 z z z z ?_))
        intro W s
        refine ⟨λh=>absurd z h,?_⟩
        refine .done (.region (.q z (.q z (.nil ?_))))
        cases h
        exact ⟨z,sb z,s.tk [0,0,0,0,0]⟩
       refine .exit ?_
       cases h
       exact ⟨by simp,z,sb z,s.tk [0,0,0,0,0]⟩
      intro x E W hJ
      obtain ⟨rfl,hE,s⟩:=hJ
      refine ⟨_,hE.sub,?_⟩
      refine .seq (.rk 6 s [0,0,0,0,0] T.mix ?_)
      intro W s
      have t:=s.to [0,0,0,0,0]
      refine .ts' 0 z (λW t=>lda t92 t (kV _) z z) t z (.tp' 1 z z t (.tp' 2 z z t (bv h λx13 hx13 h=>.ts' 3 z (λW t=>ixv s.p2.lv hx13 u87 t92 z z z) t z (.ts' 4 z (λW t=>wF (RV.flat (cs:=kS x13) t.p2.lv hx13 (si λ_=>z)) t92 (kV _) z z) t z (.ts' 5 z (λW t=>nea (q:=(λx y:ai=>(x.Kind==y.Kind&&(x.N==y.N&&true)))) T.q92 u92 t90 (λ_=>z) z (eqS T.e90 λ_ _=>z) z z z) t z (.done ?_))))))
      refine .cs z h ?_ ?_ <;> intro h
      ·refine .g (.q z (.q z (.s (lda t92 s (kV _) z z) z (bv h λx14 hx14 h=>.s (ixv s.p2.lv hx14 u87 t92 z z z) z (bv h λr4 hr4 h=>.c (.seva hr4 hx14 s.p2 t92 (λ_=>z) kV uy z z z ?_))))))
       intro W s
       refine .nil (.region (.q z (.q z (.c (.liv [x8] (D.int .i64) u23 t3 s z z z z ?_ z (λ_=>z))))))
       intro v13 W s
       refine bv h λr5 hr5 h=>?_
       have hT0:=s.p5
       refine .c (.av hr5 hT0 hT0.p1.lv (λ_=>z) u23 t3 z z z ?_)
       intro v14 W s
       refine .q z (.nil ?_)
       cases h
       exact ⟨z,v14,sb z,s.tk [4,2,3,0]⟩
      refine .skip ?_
      cases h
      exact ⟨z,v9,sb z,s.tk [1,1,1,1]⟩
     intro x E W hJ
     obtain ⟨rfl,v15,hE,s⟩:=hJ
     refine ⟨_,hE.sub,?_⟩
     refine .region (.q z (.q z (.nil ?_)))
     cases h
     exact ⟨z,v15,sb z,s.tk [0,0,0,0]⟩
    refine .exit ?_
    cases h
    exact ⟨by simp,z,v9,sb z,s.tk [0,0,0,0]⟩
   intro x E W hJ
   obtain ⟨rfl,v16,hE,s⟩:=hJ
   refine ⟨_,hE.sub,?_⟩
   cases h
   exact ⟨z,v16,sb z,s.tk [1,2]⟩
  refine .exit ?_
  cases h
  exact ⟨by simp,z,sb z,s.tk [0]⟩
 intro x E W hJ
 obtain ⟨rfl,hE,s⟩:=hJ
 refine ⟨_,hE.sub,?_⟩
 obtain rfl:=o9 h
 exact .g (.q z (.qn z (.ret (aa v1 (rt z rn) z (s.tk [0])))))
theorem cf {a0:ai} {a1:Int} {w:World} {r:Bool} (h:bM a0 a1=some r):CL 102 #[.agg #[vi a0.Kind,vi a0.N],vi a1] w (RU w (.bool r)):=by
 unfold bM at h
 refine aw func102 z z ?_
 have s:=Sep.start w
 refine .g (.c (.box s z z ?_))
 intro g1 W s
 refine .qn z (.g (.s (fa f90_0 z z z) z (.s (ld t3 s z z z z z) z (.q z (.q z (.cu 5 13 ((a0.Kind==1)&&(a0.N==a1)) s ?_ ?_))))))
 ·refine .both (a0.Kind==1) (λb=>?_) (λb=>?_)
  ·have hg1:=b
   exact .g hg1 (.s (fa f90_1 z z z) z (.g hg1 (.s (ld t3 s z z z z z) z (.g hg1 (.q z (.g hg1 (.q z (.s (pkt hg1 z z z) z (.nil (ck 5 s z (bc hg1)))))))))))
  exact .xx b z (.xx b z (.xx b z (.xx b z (.s (pkf b z z z) z (.nil (ck 5 s z (be b)))))))
 intro W s
 cases h
 exact .qn z (.ret (aa () (rt z rn) z (s.to [])))
theorem dA {a0:Int} {a1:ab} {g_1:Nat} {w:World} {r:ab} (h:cF a0 a1=some r) (b_1:BR w (Old No w) g_1 62 [vi a1.Op,vi a1.Dst,vi a1.A,vi a1.B,vi a1.N]):CL 133 #[vi a0,Pt g_1] w (RU w (.agg #[vi r.Op,vi r.Dst,vi r.A,vi r.B,vi r.N])):=by
 unfold cF at h
 refine aw func133 z z ?_
 have s:=Sep.start w
 refine .g (.c (.alloc t62 s ?_))
 intro g1 W s
 refine .nil (.g (.s (fa f62_1 z z z) z (.s (ldb t3 (s.keepB b_1) z z z z z) z (.q z (.s (bs T.s62 z z) z (.c (.st t62 s z z z ?_)))))))
 intro W s
 cases h
 exact .nil (.ret (aa () (rc s t62 z rn z z) z (s.to [])))
def ve (w:World) (r:ab):Env->World->Prop:=Fin Tryz.prog Tryz.f101 No w (λs:Unit=>.agg #[vi r.Op,vi r.Dst,vi r.A,vi r.B,vi r.N]) (λs=>[]) .ret
theorem tH {a0:ab} {a1:ai} {a2:ai} {w:World} {r:ab} (h:kY a0 a1 a2=some r):CL 101 #[.agg #[vi a0.Op,vi a0.Dst,vi a0.A,vi a0.B,vi a0.N],.agg #[vi a1.Kind,vi a1.N],.agg #[vi a2.Kind,vi a2.N]] w (RU w (.agg #[vi r.Op,vi r.Dst,vi r.A,vi r.B,vi r.N])):=by
 unfold kY at h
 refine aw func101 z z ?_
 have s:=Sep.start w
 refine .g (.c (.box s z z ?_))
 intro g1 W s
 refine .c (.box s z z ?_)
 intro g2 W s
 refine .c (.box s z z ?_)
 intro g3 W s
 refine .c (.alloc t62 s ?_)
 intro g4 W s
 refine .nil (.g (.s (mf z z) z (.qn z (.seq (.g (.s (fa f90_0 z z z) z (.s (ld t3 s.p2 z z z z z) z (.q z (.q z (.cu 4 16 ((a1.Kind==1)&&(a2.Kind==1)) s ?_ ?_))))))))))
 ·refine .both (a1.Kind==1) (λb=>?_) (λb=>?_)
  ·have hg1:=b
   exact .g hg1 (.s (fa f90_0 z z z) z (.g hg1 (.s (ld t3 s.p1 z z z z z) z (.g hg1 (.q z (.s (pkt hg1 z z z) z (.nil (ck 4 s z (bc hg1)))))))))
  exact .xx b z (.xx b z (.xx b z (.s (pkf b z z z) z (.nil (ck 4 s z (be b))))))
 intro W s
 refine .nil ?_
 refine .cs z h ?_ ?_ <;> intro h
 ·refine .seq (.rk 10 s [0,0,0,0] T.mix ?_)
  intro W s
  have t:=s.to [0,0,0,0]
  refine .ts' 0 z (λW t=>fa f62_1 z z z) t z (.ts' 1 z (λW t=>ld t3 t.p3 z z z z z) t z (.ts' 2 z (λW t=>fa f62_4 z z z) t z (.ts' 3 z (λW t=>ld t3 t.p3 z z z z z) t z (.ts' 4 z (λW t=>fa f90_1 z z z) t z (.ts' 5 z (λW t=>ld t3 t.p2 z z z z z) t z (.ts' 6 z (λW t=>fa f90_1 z z z) t z (.ts' 7 z (λW t=>ld t3 t.p1 z z z z z) t z (bv h λy1 hy1 h=>.by1 8 z (.cO s func132 (qq hy1) z z ?_)))))))))
  intro W s
  refine s.an [0,0,0,0] λt=>.ts' 9 z (λW t=>bs T.s62 z z) t z (.by1 10 z (.st t62 s z z z ?_))
  intro W s
  refine ⟨λh=>absurd z h,?_⟩
  cases h
  exact .done (.ret (aa () (rc s t62 z rn z z) z (s.to [])))
 refine .skip (bv h λy2 hy2 h=>?_)
 refine .seq (CW.via (R':=λx E' W'=>(match y2 with | .inl o1=>x=.normal/\ao E' [(3,Pt g1),(4,Pt g2),(5,Pt g3),(6,Pt g4)]/\Sep No w W' [.box g4 62 [vi 0,vi 0,vi 0,vi 0,vi 0],.box g3 90 [vi a2.Kind,vi a2.N],.box g2 90 [vi a1.Kind,vi a1.N],.box g1 62 [vi a0.Op,vi a0.Dst,vi a0.A,vi a0.B,vi a0.N]] | .inr o2=>x=.ret/\ve w o2 E' W')) ?_ ?_)
 ·have h:=hy2
  refine .g (.s (fa f62_4 z z z) z (.s (ld t3 s.p3 z z z z z) z (.nil (.block (bv h λy3 hy3 h=>?_)))))
  refine .seq (CW.via (R':=λx E' W'=>x=.normal/\ao E' [(3,Pt g1),(4,Pt g2),(5,Pt g3),(6,Pt g4),(7,.func (.func 133) #[] #[Pt g1]),(28,vi a0.N),(29,.bool y3)]/\Sep No w W' [.box g4 62 [vi 0,vi 0,vi 0,vi 0,vi 0],.box g3 90 [vi a2.Kind,vi a2.N],.box g2 90 [vi a1.Kind,vi a1.N],.box g1 62 [vi a0.Op,vi a0.Dst,vi a0.A,vi a0.B,vi a0.N]]) ?_ ?_)
  ·have h:=hy3
   refine .g (.q z (.q z (.nil ?_)))
   refine .cs z h ?_ ?_ <;> intro h
   ·refine .skip ?_
    cases h
    exact ⟨z,sb z,s.tk [0,0,0,0]⟩
   refine .g (.q z (.q z (.nil ?_)))
   refine .cs z h ?_ ?_ <;> intro h
   ·refine .skip ?_
    cases h
    exact ⟨z,sb z,s.tk [0,0,0,0]⟩
   refine .region (.q z (.q z (.nil ?_)))
   cases h
   exact ⟨z,sb z,s.tk [0,0,0,0]⟩
  intro x E W hJ
  obtain ⟨rfl,hE,s⟩:=hJ
  refine ⟨_,hE.sub,?_⟩
  refine .cs z h ?_ ?_ <;> intro h
  ·refine .seq (.g (.s (ld t90 s.p1 z z z z z) z (bv h λy4 hy4 h=>.c (.cO s func102 (cf hy4) z z ?_))))
   intro W s
   refine .nil ?_
   refine .cs z h ?_ ?_ <;> intro h
   ·refine .g (.q z (.s (fa f62_2 z z z) z (.s (ld t3 s.p3 z z z z z) z (bv h λy5 hy5 h=>.c (.callv (vs:=[vi a0.A]) (cap:=#[Pt g1]) s ⟨_,func133,z,by kernel_rfl⟩ (dA hy5 s.p3.boxB) z z z ?_)))))
    rintro ⟨⟩ W s
    refine .c (.st t62 s z z z ?_)
    intro W s
    refine .nil (.ret ?_)
    cases h
    exact ⟨z,aa (vs:=[_]) () (rc s t62 z rn z z) z (s.to [])⟩
   refine .skip (.g (.s (ld t90 s.p2 z z z z z) z (bv h λy6 hy6 h=>.c (.cO s func102 (cf hy6) z z ?_))))
   intro W s
   refine .nil ?_
   refine .cs z h ?_ ?_ <;> intro h
   ·refine .g (.q z (.s (fa f62_3 z z z) z (.s (ld t3 s.p3 z z z z z) z (bv h λy7 hy7 h=>.c (.callv (vs:=[vi a0.B]) (cap:=#[Pt g1]) s ⟨_,func133,z,by kernel_rfl⟩ (dA hy7 s.p3.boxB) z z z ?_)))))
    rintro ⟨⟩ W s
    refine .c (.st t62 s z z z ?_)
    intro W s
    refine .nil (.ret ?_)
    cases h
    exact ⟨z,aa (vs:=[_]) () (rc s t62 z rn z z) z (s.to [])⟩
   refine .skip ?_
   cases h
   exact ⟨z,sb z,s.tk [0,0,0,0]⟩
  refine bv h λy8 hy8 h=>?_
  refine .seq (CW.via (R':=λx E' W'=>x=.normal/\ao E' [(3,Pt g1),(4,Pt g2),(5,Pt g3),(6,Pt g4),(7,.func (.func 133) #[] #[Pt g1]),(28,vi a0.N),(45,.bool y8)]/\Sep No w W' [.box g4 62 [vi 0,vi 0,vi 0,vi 0,vi 0],.box g3 90 [vi a2.Kind,vi a2.N],.box g2 90 [vi a1.Kind,vi a1.N],.box g1 62 [vi a0.Op,vi a0.Dst,vi a0.A,vi a0.B,vi a0.N]]) ?_ ?_)
  ·have h:=hy8
   refine .g (.q z (.q z (.nil ?_)))
   refine .cs z h ?_ ?_ <;> intro h
   ·refine .skip ?_
    cases h
    exact ⟨z,sb z,s.tk [0,0,0,0]⟩
   refine .g (.q z (.q z (.nil ?_)))
   refine .cs z h ?_ ?_ <;> intro h
   ·refine .skip ?_
    cases h
    exact ⟨z,sb z,s.tk [0,0,0,0]⟩
   refine .region (.q z (.q z (.nil ?_)))
   cases h
   exact ⟨z,sb z,s.tk [0,0,0,0]⟩
  intro x E W hJ
  obtain ⟨rfl,hE,s⟩:=hJ
  refine ⟨_,hE.sub,?_⟩
  refine .cs z h ?_ ?_ <;> intro h
  ·refine .g (.s (ld t90 s.p1 z z z z z) z (bv h λy9 hy9 h=>.c (.cO s func102 (cf hy9) z z ?_)))
   intro W s
   refine .nil ?_
   refine .cs z h ?_ ?_ <;> intro h
   ·refine .g (.q z (.s (fa f62_2 z z z) z (.s (ld t3 s.p3 z z z z z) z (bv h λy10 hy10 h=>.c (.callv (vs:=[vi a0.A]) (cap:=#[Pt g1]) s ⟨_,func133,z,by kernel_rfl⟩ (dA hy10 s.p3.boxB) z z z ?_)))))
    rintro ⟨⟩ W s
    refine .c (.st t62 s z z z ?_)
    intro W s
    refine .nil (.ret ?_)
    cases h
    exact ⟨z,aa (vs:=[_]) () (rc s t62 z rn z z) z (s.to [])⟩
   refine .skip ?_
   cases h
   exact ⟨z,sb z,s.tk [0,0,0,0]⟩
  refine .g (.q z (.q z (.nil ?_)))
  refine .cs z h ?_ ?_ <;> intro h
  ·refine .seq (.g (.s (ld t90 s.p1 z z z z z) z (bv h λy11 hy11 h=>.c (.cO s func102 (cf hy11) z z ?_))))
   intro W s
   refine .nil ?_
   refine .cs z h ?_ ?_ <;> intro h
   ·refine .g (.q z (.s (fa f62_2 z z z) z (.s (ld t3 s.p3 z z z z z) z (bv h λy12 hy12 h=>.c (.callv (vs:=[vi a0.A]) (cap:=#[Pt g1]) s ⟨_,func133,z,by kernel_rfl⟩ (dA hy12 s.p3.boxB) z z z ?_)))))
    rintro ⟨⟩ W s
    refine .c (.st t62 s z z z ?_)
    intro W s
    refine .nil (.ret ?_)
    cases h
    exact ⟨z,aa (vs:=[_]) () (rc s t62 z rn z z) z (s.to [])⟩
   refine .skip (.g (.s (ld t90 s.p2 z z z z z) z (bv h λy13 hy13 h=>.c (.cO s func102 (cf hy13) z z ?_))))
   intro W s
   refine .nil ?_
   refine .cs z h ?_ ?_ <;> intro h
   ·refine .g (.q z (.s (fa f62_3 z z z) z (.s (ld t3 s.p3 z z z z z) z (bv h λy14 hy14 h=>.c (.callv (vs:=[vi a0.B]) (cap:=#[Pt g1]) s ⟨_,func133,z,by kernel_rfl⟩ (dA hy14 s.p3.boxB) z z z ?_)))))
    rintro ⟨⟩ W s
    refine .c (.st t62 s z z z ?_)
    intro W s
    refine .nil (.ret ?_)
    cases h
    exact ⟨z,aa (vs:=[_]) () (rc s t62 z rn z z) z (s.to [])⟩
   refine .skip ?_
   cases h
   exact ⟨z,sb z,s.tk [0,0,0,0]⟩
  refine .g (.q z (.q z (.nil ?_)))
  refine .cs z h ?_ ?_ <;> intro h
  ·refine .g (.s (ld t90 s.p1 z z z z z) z (bv h λy15 hy15 h=>.c (.cO s func102 (cf hy15) z z ?_)))
   intro W s
   refine .nil ?_
   refine .cs z h ?_ ?_ <;> intro h
   ·refine .g (.q z (.s (fa f62_2 z z z) z (.s (ld t3 s.p3 z z z z z) z (bv h λy16 hy16 h=>.c (.callv (vs:=[vi a0.A]) (cap:=#[Pt g1]) s ⟨_,func133,z,by kernel_rfl⟩ (dA hy16 s.p3.boxB) z z z ?_)))))
    rintro ⟨⟩ W s
    refine .c (.st t62 s z z z ?_)
    intro W s
    refine .nil (.ret ?_)
    cases h
    exact ⟨z,aa (vs:=[_]) () (rc s t62 z rn z z) z (s.to [])⟩
   refine .skip ?_
   cases h
   exact ⟨z,sb z,s.tk [0,0,0,0]⟩
  refine .skip ?_
  cases h
  exact ⟨z,sb z,s.tk [0,0,0,0]⟩
 intro x E W hJ
 rcases y2 with o3 | o4
 ·have h:=bQ h
  obtain ⟨rfl,hE,s⟩:=hJ
  refine ⟨_,hE.sub,?_⟩
  refine .seq (.g (.s (fa f62_4 z z z) z (.s (ld t3 s.p3 z z z z z) z (.q z (.q z (.cu 4 84 ((a0.N==3)||(a0.N==10)) s ?_ ?_))))))
  ·refine .both (a0.N==3) (λb=>?_) (λb=>?_)
   ·exact .xx b z (.xx b z (.xx b z (.s (pkt b z z z) z (.nil (ck 4 s z (kK b))))))
   have hg2:=b
   exact .g hg2 (.s (fa f62_4 z z z) z (.g hg2 (.s (ld t3 s.p3 z z z z z) z (.g hg2 (.q z (.s (pkf hg2 z z z) z (.nil (ck 4 s z (jT hg2)))))))))
  intro W s
  refine .q z (bv h λb1 hb1 h=>.cu 7 92 (b1) s ?_ ?_)
  ·refine .both ((a0.N==3)||(a0.N==10)) (λb=>?_) (λb=>?_)
   ·have hg3:=b
    have h:=aW b hb1
    refine .g hg3 (.s (ld t90 s.p2 z z z z z) z (bv h λy17 hy17 h=>.g hg3 (.c (.cO s func102 (cf hy17) z z ?_))))
    intro W s
    refine .g hg3 (.q z (bv h λb2 hb2 h=>.cu 3 91 (b2) s ?_ ?_))
    ·refine .both (y17) (λb=>?_) (λb=>?_)
     ·refine .xx b z (.xx b z ?_)
      cases aW b hb2
      exact .g hg3 (.s (pkt b z z z) z (.nil (ck 3 s)))
     have hg4:=b
     have h:=aX b hb2
     refine .g hg4 (.s (ld t90 s.p1 z z z z z) z (bv h λy18 hy18 h=>.g hg4 (.c (.cO s func102 (cf hy18) z z ?_))))
     intro W s
     refine .g hg3 (.s (pkf hg4 z z z) z ?_)
     cases h
     exact .nil (ck 3 s)
    intro W s
    refine .s (pkt hg3 z z z) z ?_
    cases h
    exact .nil (ck 5 s)
   refine .xx b z (.xx b z (.xx b z (.xu (.xu (.xx b z ?_)))))
   cases aX b hb1
   exact .s (pkf b z z z) z (.nil (ck 7 s))
  intro W s
  refine .nil ?_
  refine .cs z h ?_ ?_ <;> intro h
  ·refine .g (.s (fa f62_1 z z z) z (.s (ld t3 s.p3 z z z z z) z (.s (bs T.s62 z z) z (.c (.st t62 s z z z ?_)))))
   intro W s
   cases h
   exact .nil (.ret (aa () (rc s t62 z rn z z) z (s.to [])))
  refine .skip (.g (.s (ld t62 s.p3 z z z z z) z (.c (.st t62 s z z z ?_))))
  intro W s
  obtain rfl:=o9 h
  exact .nil (.ret (aa () (rc s t62 z rn z z) z (s.to [])))
 have h:=bR h
 obtain ⟨rfl,hF⟩:=hJ
 refine ⟨_,λ_ _ h=>h,?_⟩
 cases h
 exact hF
theorem sD {a0:ab} {a1:Int} {a2:Ar ai} {w:World} {r:ab} (h:jY a0 a1 a2=some r):CL 64 #[.agg #[vi a0.Op,vi a0.Dst,vi a0.A,vi a0.B,vi a0.N],vi a1,.agg (kS a2).toArray] w (RU w (.agg #[vi r.Op,vi r.Dst,vi r.A,vi r.B,vi r.N])):=by
 unfold jY at h
 refine aw func64 z z ?_
 have s:=Sep.start w
 refine .g (.c (.box s z z ?_))
 intro g1 W s
 refine .c (.box s z z ?_)
 intro g2 W s
 have s:Sep _ _ _ [.box g2 92 (kS a2),.box g1 62 [vi a0.Op,vi a0.Dst,vi a0.A,vi a0.B,vi a0.N]]:=id s
 refine .c (.alloc t62 s ?_)
 intro g3 W s
 refine .nil (.seq (.block (.g (.s (fa f62_0 z z z) z (.s (ld t3 s.p2 z z z z z) z (.q z (.q z (bv h λb1 hb1 h=>.cu 7 18 (b1) s ?_ ?_))))))))
 ·refine .both (a0.Op==2) (λb=>?_) (λb=>?_)
  ·have hg1:=b
   have h:=aW b hb1
   refine .g hg1 (.s (fa f62_2 z z z) z (.g hg1 (.s (ld t3 s.p2 z z z z z) z (bv h λx1 hx1 h=>.g hg1 (.s (ixa hx1 u92 t90 z z z) z (.g hg1 (.s (fa f90_0 z z z) z (.g hg1 (.s (ldx s.p1 hx1 (λ_=>z) t3 z z z z z) z (.g hg1 (.q z (.s (pkt hg1 z z z) z ?_))))))))))))
   cases h
   exact .nil (ck 7 s)
  refine .xx b z (.xx b z (.xx b z (.xx b z (.xx b z (.xx b z ?_)))))
  cases aX b hb1
  exact .s (pkf b z z z) z (.nil (ck 7 s))
 intro W s
 refine .q z (.nil ?_)
 refine .cs z h ?_ ?_ <;> intro h
 ·refine .seq (.rk 8 s [0,0,0] T.mix ?_)
  intro W s
  have t:=s.to [0,0,0]
  refine .ts' 0 z (λW t=>fa f62_1 z z z) t z (.ts' 1 z (λW t=>ld t3 t.p2 z z z z z) t z (.ts' 2 z (λW t=>fa f62_2 z z z) t z (.ts' 3 z (λW t=>ld t3 t.p2 z z z z z) t z (bv h λx2 hx2 h=>.ts' 4 z (λW t=>ixa hx2 u92 t90 z z z) t z (.ts' 5 z (λW t=>fa f90_1 z z z) t z (.ts' 6 z (λW t=>ldx t.p1 hx2 (λ_=>z) t3 z z z z z) t z (.ts' 7 z (λW t=>bs T.s62 z z) t z (.by1 8 z (.st t62 s z z z ?_)))))))))
  intro W s
  refine ⟨λh=>absurd z h,?_⟩
  cases h
  exact .done (.ret (aa () (rc s t62 z rn z z) z (s.to [])))
 refine .g (.s (fa f62_0 z z z) z (.s (ld t3 s.p2 z z z z z) z (.q z (.q z (.nil ?_)))))
 refine .cs z h ?_ ?_ <;> intro h
 ·refine .seq (.rk 10 s [0,0,0] T.mix ?_)
  intro W s
  have t:=s.to [0,0,0]
  refine .ts' 0 z (λW t=>ld t62 t.p2 z z z z z) t z (.ts' 1 z (λW t=>fa f62_2 z z z) t z (.ts' 2 z (λW t=>ld t3 t.p2 z z z z z) t z (bv h λx3 hx3 h=>.ts' 3 z (λW t=>ixa hx3 u92 t90 z z z) t z (.ts' 4 z (λW t=>ldx t.p1 hx3 (λ_=>z) t90 z z z z z) t z (.ts' 5 z (λW t=>fa f62_3 z z z) t z (.ts' 6 z (λW t=>ld t3 t.p2 z z z z z) t z (bv h λx4 hx4 h=>.ts' 7 z (λW t=>ixa hx4 u92 t90 z z z) t z (.ts' 8 z (λW t=>ldx t.p1 hx4 (λ_=>z) t90 z z z z z) t z (bv h λy1 hy1 h=>.by1 9 z (.cO s func101 (tH hy1) z z ?_))))))))))
  intro W s
  refine s.an [0,0,0] λt=>.by1 10 z (.st t62 s z z z ?_)
  intro W s
  refine ⟨λh=>absurd z h,?_⟩
  obtain rfl:=o9 h
  exact .done (.ret (aa () (rc s t62 z rn z z) z (s.to [])))
 refine .g (.s (fa f62_0 z z z) z (.s (ld t3 s.p2 z z z z z) z (.q z (.q z (bv h λb2 hb2 h=>.cu 6 51 (b2) s ?_ ?_)))))
 ·refine .both (a0.Op==5) (λb=>?_) (λb=>?_)
  ·have hg2:=b
   have h:=aW b hb2
   refine .g hg2 (.s (fa f62_2 z z z) z (.g hg2 (.s (ld t3 s.p2 z z z z z) z (bv h λx5 hx5 h=>.g hg2 (.s (ixa hx5 u92 t90 z z z) z (.g hg2 (.s (ldx s.p1 hx5 (λ_=>z) t90 z z z z z) z (bv h λy2 hy2 h=>.g hg2 (.c (.cO s func102 (cf hy2) z z ?_))))))))))
   intro W s
   refine .s (pkt hg2 z z z) z ?_
   cases h
   exact .nil (ck 6 s)
  refine .xx b z (.xx b z (.xx b z (.xx b z (.xx b z ?_))))
  cases aX b hb2
  exact .s (pkf b z z z) z (.nil (ck 6 s))
 intro W s
 refine .q z (.nil ?_)
 refine .cs z h ?_ ?_ <;> intro h
 ·refine .g (.s (fa f62_4 z z z) z (.s (ld t3 s.p2 z z z z z) z (.s (bs T.s62 z z) z (.c (.st t62 s z z z ?_)))))
  intro W s
  cases h
  exact .nil (.ret (aa () (rc s t62 z rn z z) z (s.to [])))
 refine .g (.s (fa f62_0 z z z) z (.s (ld t3 s.p2 z z z z z) z (.q z (.q z (bv h λb3 hb3 h=>.cu 7 66 (b3) s ?_ ?_)))))
 ·refine .both (a0.Op==5) (λb=>?_) (λb=>?_)
  ·have hg3:=b
   have h:=aW b hb3
   refine .g hg3 (.s (fa f62_2 z z z) z (.g hg3 (.s (ld t3 s.p2 z z z z z) z (bv h λx6 hx6 h=>.g hg3 (.s (ixa hx6 u92 t90 z z z) z (.g hg3 (.s (fa f90_0 z z z) z (.g hg3 (.s (ldx s.p1 hx6 (λ_=>z) t3 z z z z z) z (.g hg3 (.q z (.s (pkt hg3 z z z) z ?_))))))))))))
   cases h
   exact .nil (ck 7 s)
  refine .xx b z (.xx b z (.xx b z (.xx b z (.xx b z (.xx b z ?_)))))
  cases aX b hb3
  exact .s (pkf b z z z) z (.nil (ck 7 s))
 intro W s
 refine .q z (.nil ?_)
 refine .cs z h ?_ ?_ <;> intro h
 ·refine .g (.q z (.q z (.s (bs T.s62 z z) z (.c (.st t62 s z z z ?_)))))
  intro W s
  cases h
  exact .nil (.ret (aa () (rc s t62 z rn z z) z (s.to [])))
 refine .skip (.g (.s (ld t62 s.p2 z z z z z) z (.c (.st t62 s z z z ?_))))
 intro W s
 obtain rfl:=o9 h
 exact .nil (.ret (aa () (rc s t62 z rn z z) z (s.to [])))
theorem sE {a0:List ab} {v_0:Hd} {w:World} {r:(List ab)×Bool} (h:jZ a0=some r) (q_0:RO w v_0 62 5 ah a0):CL 33 #[sv v_0] w (Ret No w (λs:Hd=>.tuple #[sv s,.bool r.2]) (λs=>[ac (sv s) 62 5 ah r.1])):=by
 unfold jZ at h
 refine aw func33 z z ?_
 have s:=Sep.start w
 refine .g (.q z (.qn z (.seq (.g (.q z (bv h λy1 hy1 h=>.c (.cO s func31 (bU hy1 (s.keep q_0)) z z ?_)))))))
 intro W s
 refine .q z (.nil ?_)
 refine .cs z h ?_ ?_ <;> intro h
 ·refine .g (.q z (.qn z (.ret ?_)))
  have s:=s.nilv 62 5 ah
  cases h
  exact aa (vs:=[_,_]) lN (rt z (rt z rn)) z (s.tk [0])
 refine .skip (.g (.q z (bv h λy2 hy2 h=>.c (.cV s func32 (aU hy2 (s.keep q_0)) z z ?_))))
 intro v1 W s
 refine .qn z (.seq (.g (.q z (bv h λy3 hy3 h=>.c (.cV s func63 (pT hy3 (s.keep q_0)) z z ?_)))))
 intro v2 W s
 refine .s (aD s.lv u87 z z) z (.qn z (.block (bv h λy4 hy4 h=>?_)))
 refine .via (.iter (λs1 E' W'=>ao E' [(0,(sv v_0)),(4,(sv v1)),(13,(sv v2)),(14,vi (y3.length:Int)),(15,vi s1.1)]/\Sep No w W' [ac (sv v2) 92 24 (arD 12 aV) y3,ac (sv v1) 62 5 ah s1.2]) (λy5 x E' W'=>x=.exit 0/\ao E' [(4,(sv v1))]/\Sep No w W' [ac (sv v2) 92 24 (arD 12 aV) y3,ac (sv v1) 62 5 ah y5]) hy4 ⟨sb z,s.tk [0,0]⟩ ?_) ?_
 ·intro s1 y6 E W h hI
  obtain ⟨hE,s⟩:=hI
  refine CW.sub hE ?_
  unfold gm at h
  refine .g (.qn z (.seq ?_))
  refine .cs z h ?_ ?_ <;> intro h
  ·refine .skip (bv h λy7 hy7 h=>?_)
   refine .seq (CW.via (R':=λx E' W'=>x=.normal/\ao E' [(0,(sv v_0)),(4,(sv v1)),(13,(sv v2)),(14,vi (y3.length:Int)),(15,vi s1.1)]/\Sep No w W' [ac (sv v2) 92 24 (arD 12 aV) y3,ac (sv v1) 62 5 ah y7]) ?_ ?_)
   ·have h:=hy7
    refine .block (.g (.q z (bv h λx1 hx1 h=>.s (ixv s.lv hx1 u87 t92 z z z) z (.s (wF (RV.flat (cs:=kS x1) s.lv hx1 (si λ_=>z)) t92 (kV _) z z) z (.c (.alloc t92 s ?_))))))
    intro g1 W s
    have s:Sep _ _ _ [.box g1 92 (kS (λ_=>(ai.mk 0 0))),ac (sv v2) 92 24 (arD 12 aV) y3,ac (sv v1) 62 5 ah s1.2]:=id s
    refine .q z (.c (.sta t92 s kV uy z z z ?_))
    intro W s
    refine .nil (.g (bv h λx2 hx2 h=>.s (ixa hx2 u92 t90 z z z) z (.s (fa f90_0 z z z) z (.s (ldx s hx2 (λ_=>z) t3 z z z z z) z (.q z (.nil ?_))))))
    refine .cs z h ?_ ?_ <;> intro h
    ·refine .rk 10 s [0,0,0] T.mix ?_
     intro W s
     have t:=s.to [0,0,0]
     refine .tp' 0 z z t (.tp' 1 z z t (.tp' 2 z z t (.tp' 3 z z t (bv h λx3 hx3 h=>.ts' 4 z (λW t=>ixv (s.keep q_0) hx3 u33 t62 z z z) t z (.ts' 5 z (λW t=>lde (RV.flat (t.keep q_0) hx3 z) t62 z z z z z) t z (.tp' 6 z z t (.ts' 7 z (λW t=>lda t92 t (kV _) z z) t z (bv h λy8 hy8 h=>.by1 8 z (.cO s func64 (sD hy8) z z ?_)))))))))
     intro W s
     refine s.an [0,0,0] λt=>bv h λx4 hx4 h=>.ts' 9 z (λW t=>ixv s.p2.lv hx4 u33 t62 z z z) t z (bv h λr1 hr1 h=>.by1 10 z (.sev hr1 hx4 s.p2 t62 z z z z z z ?_))
     intro W s
     refine ⟨λh=>absurd z h,?_⟩
     refine .done ?_
     obtain rfl:=o9 h
     exact ⟨z,sb z,s.tk [2,0]⟩
    refine .skip ?_
    cases h
    exact ⟨z,sb z,s.tk [1,1]⟩
   intro x E W hJ
   obtain ⟨rfl,hE,s⟩:=hJ
   refine ⟨_,hE.sub,?_⟩
   refine .region (.q z (.q z (.nil ?_)))
   cases h
   exact ⟨z,sb z,s.tk [0,0]⟩
  refine .exit ?_
  cases h
  exact ⟨by simp,z,sb z,s.tk [0,0]⟩
 intro x E W hJ
 obtain ⟨rfl,hE,s⟩:=hJ
 refine ⟨_,hE.sub,?_⟩
 cases h
 exact .g (.q z (.q z (.qn z (.ret (aa (vs:=[_,_]) v1 (rt z (rt z rn)) z (s.tk [1]))))))
theorem sF {w:World} {r:(Ar Int)} (h:j1=some r):CL 103 #[] w (RU w (.agg (cT r).toArray)):=by
 unfold j1 at h
 refine aw func103 z z ?_
 have s:=Sep.start w
 refine .g (.c (.alloc t97 s ?_))
 intro g1 W s
 have s:Sep _ _ _ [.box g1 97 (cT (λ_=>0))]:=id s
 refine .nil (.g (.c (.alloc t97 s ?_)))
 intro g2 W s
 have s:Sep _ _ _ [.box g2 97 (cT (λ_=>0)),.box g1 97 (cT (λ_=>0))]:=id s
 refine .nil (.seq (.g (.qn z (.block (bv h λy1 hy1 h=>?_)))))
 refine .via (.iter (λs1 E' W'=>ao E' [(0,Pt g1),(1,Pt g2),(3,vi s1.1)]/\Sep No w W' [.box g2 97 (cT s1.2),.box g1 97 (cT (λ_=>0))]) (λy2 x E' W'=>x=.exit 0/\ao E' [(0,Pt g1),(1,Pt g2)]/\Sep No w W' [.box g2 97 (cT y2),.box g1 97 (cT (λ_=>0))]) hy1 ⟨sb z,s.tk [0,0]⟩ ?_) ?_
 ·intro s1 y3 E W h hI
  obtain ⟨hE,s⟩:=hI
  refine CW.sub hE ?_
  unfold lY at h
  refine .g (.qn z (.seq ?_))
  refine .cs z h ?_ ?_ <;> intro h
  ·refine .skip (.seq (.block (.g (.q z (.qn z (.region (.q z (.q z (bv h λx1 hx1 h=>.s (ixa hx1 u97 t3 z z z) z (.c (.stx (x1:=s1.1) hx1 s (λ_=>z) t3 z z z z ?_)))))))))))
   intro W s
   refine .nil (.region (.q z (.q z (.nil ?_))))
   cases h
   exact ⟨z,sb z,s.tk [0,0]⟩
  refine .exit ?_
  cases h
  exact ⟨by simp,z,sb z,s.tk [0,0]⟩
 intro x E W hJ
 obtain ⟨rfl,hE,s⟩:=hJ
 refine ⟨_,hE.sub,?_⟩
 refine .g (.s (lda t97 s (eV _) z z) z (.c (.sta t97 s.p1 eV oe z z z ?_)))
 intro W s
 obtain rfl:=o9 h
 exact .nil (.ret (aa () (rc s t97 z rn (eV _) z) z (s.to [])))
theorem lP {a0:Ar Int} {a1:ab} {w:World} {r:(Ar Int)} (h:eH a0 a1=some r):CL 104 #[.agg (cT a0).toArray,.agg #[vi a1.Op,vi a1.Dst,vi a1.A,vi a1.B,vi a1.N]] w (RU w (.agg (cT r).toArray)):=by
 unfold eH at h
 refine aw func104 z z ?_
 have s:=Sep.start w
 refine .g (.c (.box s z z ?_))
 intro g1 W s
 have s:Sep _ _ _ [.box g1 97 (cT a0)]:=id s
 refine .c (.box s z z ?_)
 intro g2 W s
 refine .c (.alloc t97 s ?_)
 intro g3 W s
 have s:Sep _ _ _ [.box g3 97 (cT (λ_=>0)),.box g2 62 [vi a1.Op,vi a1.Dst,vi a1.A,vi a1.B,vi a1.N],.box g1 97 (cT a0)]:=id s
 refine .nil (.g (.s (ld t62 s.p1 z z z z z) z (bv h λy1 hy1 h=>.c (.cO s func108 (jn hy1) z z ?_))))
 intro W s
 refine .qn z (.seq (.g (.q z (.q z (.nil ?_)))))
 refine .cs z h ?_ ?_ <;> intro h
 ·refine .g (.s (lda t97 s.p2 (eV _) z z) z (.c (.sta t97 s eV oe z z z ?_)))
  intro W s
  obtain rfl:=o9 h
  exact .nil (.ret (aa () (rc s t97 z rn (eV _) z) z (s.to [])))
 refine .skip (.seq (.g (.qn z (.block (bv h λy2 hy2 h=>?_)))))
 refine .via (.iter (λs1 E' W'=>ao E' [(2,Pt g1),(3,Pt g2),(4,Pt g3),(5,vi y1),(12,vi s1.1)]/\Sep No w W' [.box g3 97 (cT (λ_=>0)),.box g2 62 [vi a1.Op,vi a1.Dst,vi a1.A,vi a1.B,vi a1.N],.box g1 97 (cT s1.2)]) (λy3 x E' W'=>x=.exit 0/\ao E' [(2,Pt g1),(3,Pt g2),(4,Pt g3),(5,vi y1)]/\Sep No w W' [.box g3 97 (cT (λ_=>0)),.box g2 62 [vi a1.Op,vi a1.Dst,vi a1.A,vi a1.B,vi a1.N],.box g1 97 (cT y3)]) hy2 ⟨sb z,s.tk [0,0,0]⟩ ?_) ?_
 ·intro s1 y4 E W h hI
  obtain ⟨hE,s⟩:=hI
  refine CW.sub hE ?_
  unfold iy at h
  refine .g (.qn z (.seq ?_))
  refine .cs z h ?_ ?_ <;> intro h
  ·refine .skip (bv h λy5 hy5 h=>?_)
   refine .seq (CW.via (R':=λx E' W'=>x=.normal/\ao E' [(2,Pt g1),(3,Pt g2),(4,Pt g3),(5,vi y1),(12,vi s1.1)]/\Sep No w W' [.box g3 97 (cT (λ_=>0)),.box g2 62 [vi a1.Op,vi a1.Dst,vi a1.A,vi a1.B,vi a1.N],.box g1 97 (cT y5)]) ?_ ?_)
   ·have h:=hy5
    refine .block (.g (.q z (.qn z (.g (.q z (.q z (.q z (.q z (bv h λb1 hb1 h=>.cu 6 24 (b1) s ?_ ?_)))))))))
    ·refine .both (s1.1==y1) (λb=>?_) (λb=>?_)
     ·refine .xx b z (.xx b z (.xx b z (.xx b z (.xx b z ?_))))
      cases aW b hb1
      exact .s (pkt b z z z) z (.nil (ck 6 s))
     have hg1:=b
     have h:=aX b hb1
     refine .g hg1 (.q z (bv h λx1 hx1 h=>.g hg1 (.s (ixa hx1 u97 t3 z z z) z (.g hg1 (.s (ldx s.p2 hx1 (λ_=>z) t3 z z z z z) z (.g hg1 (.q z (.g hg1 (.q z (.s (pkf hg1 z z z) z ?_))))))))))
     cases h
     exact .nil (ck 6 s)
    intro W s
    refine .nil ?_
    refine .cs z h ?_ ?_ <;> intro h
    ·refine .region (.q z (.q z (bv h λx2 hx2 h=>.s (ixa hx2 u97 t3 z z z) z (.c (.stx (x1:=s1.1) hx2 s.p2 (λ_=>z) t3 z z z z ?_)))))
     intro W s
     refine .nil ?_
     cases h
     exact ⟨z,sb z,s.tk [1,1,0]⟩
    refine .skip ?_
    cases h
    exact ⟨z,sb z,s.tk [0,0,0]⟩
   intro x E W hJ
   obtain ⟨rfl,hE,s⟩:=hJ
   refine ⟨_,hE.sub,?_⟩
   refine .region (.q z (.q z (.nil ?_)))
   cases h
   exact ⟨z,sb z,s.tk [0,0,0]⟩
  refine .exit ?_
  cases h
  exact ⟨by simp,z,sb z,s.tk [0,0,0]⟩
 intro x E W hJ
 obtain ⟨rfl,hE,s⟩:=hJ
 refine ⟨_,hE.sub,?_⟩
 refine .seq (.g (.s (fa f62_0 z z z) z (.s (ld t3 s.p1 z z z z z) z (.q z (.nil ?_)))))
 refine .cs z h ?_ ?_ <;> intro h
 ·refine .region (.q z (.s (fa f62_2 z z z) z (.s (ld t3 s.p1 z z z z z) z (bv h λx3 hx3 h=>.s (ixa hx3 u97 t3 z z z) z (.c (.stx (x1:=a1.A) hx3 s.p2 (λ_=>z) t3 z z z z ?_))))))
  intro W s
  refine .nil (.g (.s (lda t97 s (eV _) z z) z (.c (.sta t97 s.p1 eV oe z z z ?_))))
  intro W s
  cases h
  exact .nil (.ret (aa () (rc s t97 z rn (eV _) z) z (s.to [])))
 refine .skip (.g (.s (lda t97 s.p2 (eV _) z z) z (.c (.sta t97 s eV oe z z z ?_))))
 intro W s
 obtain rfl:=o9 h
 exact .nil (.ret (aa () (rc s t97 z rn (eV _) z) z (s.to [])))
theorem pU {a0:Ar Int} {a1:Ar Int} {w:World} {r:(Ar Int)} (h:gn a0 a1=some r):CL 106 #[.agg (cT a0).toArray,.agg (cT a1).toArray] w (RU w (.agg (cT r).toArray)):=by
 unfold gn at h
 refine aw func106 z z ?_
 have s:=Sep.start w
 refine .g (.c (.box s z z ?_))
 intro g1 W s
 have s:Sep _ _ _ [.box g1 97 (cT a0)]:=id s
 refine .c (.box s z z ?_)
 intro g2 W s
 have s:Sep _ _ _ [.box g2 97 (cT a1),.box g1 97 (cT a0)]:=id s
 refine .c (.alloc t97 s ?_)
 intro g3 W s
 have s:Sep _ _ _ [.box g3 97 (cT (λ_=>0)),.box g2 97 (cT a1),.box g1 97 (cT a0)]:=id s
 refine .nil (.seq (.g (.qn z (.block (bv h λy1 hy1 h=>?_)))))
 refine .via (.iter (λs1 E' W'=>ao E' [(2,Pt g1),(3,Pt g2),(4,Pt g3),(6,vi s1.1)]/\Sep No w W' [.box g3 97 (cT (λ_=>0)),.box g2 97 (cT a1),.box g1 97 (cT s1.2)]) (λy2 x E' W'=>x=.exit 0/\ao E' [(2,Pt g1),(4,Pt g3)]/\Sep No w W' [.box g3 97 (cT (λ_=>0)),.box g2 97 (cT a1),.box g1 97 (cT y2)]) hy1 ⟨sb z,s.tk [0,0,0]⟩ ?_) ?_
 ·intro s1 y3 E W h hI
  obtain ⟨hE,s⟩:=hI
  refine CW.sub hE ?_
  unfold jW at h
  refine .g (.qn z (.seq ?_))
  refine .cs z h ?_ ?_ <;> intro h
  ·refine .skip (bv h λy4 hy4 h=>?_)
   refine .seq (CW.via (R':=λx E' W'=>x=.normal/\ao E' [(2,Pt g1),(3,Pt g2),(4,Pt g3),(6,vi s1.1)]/\Sep No w W' [.box g3 97 (cT (λ_=>0)),.box g2 97 (cT a1),.box g1 97 (cT y4)]) ?_ ?_)
   ·have h:=hy4
    refine .block (.g (.q z (.qn z (.seq (.rk 7 s [0,0,0] T.mix ?_)))))
    intro W s
    have t:=s.to [0,0,0]
    refine .tp' 0 z z t (bv h λx1 hx1 h=>.ts' 1 z (λW t=>ixa hx1 u97 t3 z z z) t z (.ts' 2 z (λW t=>ldx t.p2 hx1 (λ_=>z) t3 z z z z z) t z (.tp' 3 z z t (bv h λx2 hx2 h=>.ts' 4 z (λW t=>ixa hx2 u97 t3 z z z) t z (.ts' 5 z (λW t=>ldx t.p1 hx2 (λ_=>z) t3 z z z z z) t z (.tp' 6 z z t (.done ?_)))))))
    refine .cs z h ?_ ?_ <;> intro h
    ·refine .region (.q z (.q z (bv h λx3 hx3 h=>.s (ixa hx3 u97 t3 z z z) z (.c (.stx (x1:=s1.1) hx3 s.p2 (λ_=>z) t3 z z z z ?_)))))
     intro W s
     refine .nil ?_
     cases h
     exact ⟨z,sb z,s.tk [1,1,0]⟩
    refine .skip ?_
    cases h
    exact ⟨z,sb z,s.tk [0,0,0]⟩
   intro x E W hJ
   obtain ⟨rfl,hE,s⟩:=hJ
   refine ⟨_,hE.sub,?_⟩
   refine .region (.q z (.q z (.nil ?_)))
   cases h
   exact ⟨z,sb z,s.tk [0,0,0]⟩
  refine .exit ?_
  cases h
  exact ⟨by simp,z,sb z,s.tk [0,0,0]⟩
 intro x E W hJ
 obtain ⟨rfl,hE,s⟩:=hJ
 refine ⟨_,hE.sub,?_⟩
 refine .g (.s (lda t97 s.p2 (eV _) z z) z (.c (.sta t97 s eV oe z z z ?_)))
 intro W s
 obtain rfl:=o9 h
 exact .nil (.ret (aa () (rc s t97 z rn (eV _) z) z (s.to [])))
theorem pi {a0:List ab} {v_0:Hd} {w:World} {r:(List (Ar Int))} (h:dy a0=some r) (q_0:RO w v_0 62 5 ah a0):CL 65 #[sv v_0] w (Ret No w (λs:Hd=>(sv s)) (λs=>[ac (sv s) 97 12 (arD 12 (D.int .i64)) r])):=by
 unfold dy at h
 refine aw func65 z z ?_
 have s:=Sep.start w
 refine .g (.qn z (.g (.q z (.s (aD (s.keep q_0) u33 z z) z (bv h λr1 hr1 h=>.c (.mkv (λ_=>0) (arD 12 (D.int .i64)) hr1 u94 t97 s z z z z z (λ_=>z) ?_))))))
 intro v1 W s
 refine .qn z (.g (.q z (.s (aD (s.keep q_0) u33 z z) z (bv h λr2 hr2 h=>.c (.mkv false D.bool hr2 u102 t4 s z z z z z (λ_=>z) ?_)))))
 intro v2 W s
 refine .qn z (.seq (.g (.q z (.s (aD s.p1.lv u94 z z) z (.qn z (.block (bv h λy1 hy1 h=>?_)))))))
 refine .via (.iter (λs1 E' W'=>ao E' [(0,(sv v_0)),(3,(sv v1)),(4,(sv v2)),(19,vi (r1.length:Int)),(20,vi s1.1)]/\Sep No w W' [ac (sv v2) 4 1 D.bool r2,ac (sv v1) 97 12 (arD 12 (D.int .i64)) s1.2]) (λy2 x E' W'=>x=.exit 0/\ao E' [(0,(sv v_0)),(3,(sv v1)),(4,(sv v2))]/\Sep No w W' [ac (sv v2) 4 1 D.bool r2,ac (sv v1) 97 12 (arD 12 (D.int .i64)) y2]) hy1 ⟨sb z,s.tk [0,0]⟩ ?_) ?_
 ·intro s1 y3 E W h hI
  obtain ⟨hE,s⟩:=hI
  refine CW.sub hE ?_
  unfold iW at h
  refine .g (.qn z (.seq ?_))
  refine .cs z h ?_ ?_ <;> intro h
  ·refine .skip (.seq (.block (.g (.q z (.qn z (.region (.q z (.q z (bv h λy4 hy4 h=>.c (.cO s func103 (sF hy4) z z ?_))))))))))
   intro W s
   refine bv h λx1 hx1 h=>.s (ixv s.p1.lv hx1 u94 t97 z z z) z (bv h λr3 hr3 h=>.c (.seva hr3 hx1 s.p1 t97 (λ_=>z) eV oe z z z ?_))
   intro W s
   refine .nil (.region (.q z (.q z (.nil ?_))))
   cases h
   exact ⟨z,sb z,s.tk [1,0]⟩
  refine .exit ?_
  cases h
  exact ⟨by simp,z,sb z,s.tk [0,0]⟩
 intro x E W hJ
 obtain ⟨rfl,hE,s⟩:=hJ
 refine ⟨_,hE.sub,?_⟩
 refine .g (.q z (bv h λx2 hx2 h=>.s (ixv s.lv hx2 u102 t4 z z z) z (bv h λr4 hr4 h=>.c (.sev hr4 hx2 s t4 z z z z z z ?_))))
 intro W s
 refine .nil (.seq (.g (.c (.liv [0] (D.int .i64) u23 t3 s z z z z ?_ z (λ_=>z)))))
 intro v3 W s
 refine .qn z (.block (bv h λy5 hy5 h=>?_))
 refine .via (.iter (λs2 E' W'=>∃ (v6:Hd),ao E' [(0,(sv v_0)),(3,(sv v1)),(4,(sv v2)),(6,(sv v6))]/\Sep No w W' [ac (sv v2) 4 1 D.bool s2.2.1,ac (sv v1) 97 12 (arD 12 (D.int .i64)) s2.2.2,ac (sv v6) 3 1 (D.int .i64) s2.1]) (λy6 x E' W'=>x=.exit 2/\ao E' [(3,(sv v1))]/\Sep No w W' [ac (sv v2) 4 1 D.bool y6.1,ac (sv v1) 97 12 (arD 12 (D.int .i64)) y6.2]) hy5 ⟨v3,sb z,s.tk [1,1,0]⟩ ?_) ?_
 ·intro s2 y7 E W h hI
  obtain ⟨v5,hE,s⟩:=hI
  refine CW.sub hE ?_
  unfold iX at h
  refine .seq (.g (.q z (.s (aD s.p2.lv u23 z z) z (.q z (.nil ?_)))))
  refine .cs z h ?_ ?_ <;> intro h
  ·refine .skip (.block (.g (.q z (.q z (.s (aD s.p2.lv u23 z z) z (.q z (bv h λx3 hx3 h=>.s (ixv s.p2.lv hx3 u23 t3 z z z) z (.s (lde (RV.flat s.p2.lv hx3 z) t3 z z z z z) z (.qn z (.g (.q z (.q z (.s (aD s.p2.lv u23 z z) z (.q z (bv h λr5 hr5 h=>.c (.cuto hr5 s.p2 u23 t3 z z z z ?_))))))))))))))))
   intro v7 s
   refine .qn z (.seq (bv h λx4 hx4 h=>bv h λx5 hx5 h=>bv h λy8 hy8 h=>?_))
   refine .via (R':=λx E' W'=>x=.normal/\∃ (g1:Nat),ao E' [(0,(sv v_0)),(3,(sv v1)),(4,(sv v2)),(6,(sv v7)),(7,vi x3),(8,Pt g1)]/\Sep No w W' [ac (sv v7) 3 1 (D.int .i64) r5,ac (sv v2) 4 1 D.bool s2.2.1,ac (sv v1) 97 12 (arD 12 (D.int .i64)) s2.2.2,.box g1 97 (cT y8)]) ?_ ?_
   ·refine .rk 10 s [0,0,0] T.mix ?_
    intro W s
    have t:=s.to [0,0,0]
    refine .tp' 0 z z t (.tp' 1 z z t (.ts' 2 z (λW t=>ixv s.p2.lv hx4 u94 t97 z z z) t z (.ts' 3 z (λW t=>wF (RV.flat (cs:=cT x4) t.p2.lv hx4 (si λ_=>z)) t97 (eV _) z z) t z (.tp' 4 z z t (.tp' 5 z z t (.ts' 6 z (λW t=>ixv (s.keep q_0) hx5 u33 t62 z z z) t z (.ts' 7 z (λW t=>lde (RV.flat (t.keep q_0) hx5 z) t62 z z z z z) t z (.by [8,9] ⟨⟨_,z,?_⟩,⟨_,z,?_⟩,trivial⟩))))))))
    ·refine (.cO s func104 (lP hy8) z z ?_)
     intro W s
     refine s.an [0,0,0] λt=>.by1 9 z (.alloc t97 s ?_)
     intro g2 W s
     have s:Sep _ _ _ [.box g2 97 (cT (λ_=>0)),ac (sv v7) 3 1 (D.int .i64) r5,ac (sv v2) 4 1 D.bool s2.2.1,ac (sv v1) 97 12 (arD 12 (D.int .i64)) s2.2.2]:=id s
     refine s.an [1,1,1] λt=>.by1 10 z (.sta t97 s eV oe z z z ?_)
     intro W s
     refine ⟨λh=>absurd z h,?_⟩
     exact .done (⟨z,g2,sb z,s.tk [1,1,1,0]⟩)
    refine (.alloc t97 s ?_)
    intro g3 W s
    have s:Sep _ _ _ [.box g3 97 (cT (λ_=>0)),ac (sv v7) 3 1 (D.int .i64) r5,ac (sv v2) 4 1 D.bool s2.2.1,ac (sv v1) 97 12 (arD 12 (D.int .i64)) s2.2.2]:=id s
    refine s.an [1,1,1] λt=>.by1 8 z (.cO s func104 (lP hy8) z z ?_)
    intro W s
    refine s.an [1,1,1] λt=>.by1 10 z (.sta t97 s eV oe z z z ?_)
    intro W s
    refine ⟨λh=>absurd z h,?_⟩
    exact .done (⟨z,g3,sb z,s.tk [1,1,1,0]⟩)
   intro x E W hJ
   obtain ⟨rfl,g4,hE,s⟩:=hJ
   refine ⟨_,hE.sub,?_⟩
   refine .g (.q z (.q z (bv h λx6 hx6 h=>.s (ixv (s.keep q_0) hx6 u33 t62 z z z) z (.s (lde (RV.flat (s.keep q_0) hx6 z) t62 z z z z z) z (.q z (bv h λy9 hy9 h=>.c (.cV s func105 (ly hy9) z z ?_)))))))
   intro v8 W s
   refine .s (aD s.lv u23 z z) z (.qn z (.block (bv h λy10 hy10 h=>?_)))
   refine .via (.iter (λs3 E' W'=>∃ (v11:Hd),ao E' [(0,(sv v_0)),(3,(sv v1)),(4,(sv v2)),(6,(sv v11)),(8,Pt g4),(59,(sv v8)),(60,vi (y9.length:Int)),(61,vi s3.2.1)]/\Sep No w W' [ac (sv v8) 3 1 (D.int .i64) y9,ac (sv v2) 4 1 D.bool s3.2.2.1,ac (sv v1) 97 12 (arD 12 (D.int .i64)) s3.2.2.2,.box g4 97 (cT y8),ac (sv v11) 3 1 (D.int .i64) s3.1]) (λy11 x E' W'=>x=.exit 4/\∃ (v12:Hd),ao E' [(0,(sv v_0)),(3,(sv v1)),(4,(sv v2)),(6,(sv v12))]/\Sep No w W' [ac (sv v8) 3 1 (D.int .i64) y9,ac (sv v2) 4 1 D.bool y11.2.1,ac (sv v1) 97 12 (arD 12 (D.int .i64)) y11.2.2,.box g4 97 (cT y8),ac (sv v12) 3 1 (D.int .i64) y11.1]) hy10 ⟨v7,sb z,s.tk [0,1,1,1,0]⟩ ?_) ?_
   ·intro s3 y12 E W h hI
    obtain ⟨v10,hE,s⟩:=hI
    refine CW.sub hE ?_
    unfold ft at h
    refine .g (.qn z (.seq ?_))
    refine .cs z h ?_ ?_ <;> intro h
    ·refine .skip (bv h λy13 hy13 h=>?_)
     refine .seq (CW.via (R':=λx E' W'=>x=.normal/\∃ (v13:Hd),ao E' [(0,(sv v_0)),(3,(sv v1)),(4,(sv v2)),(6,(sv v13)),(8,Pt g4),(59,(sv v8)),(60,vi (y9.length:Int)),(61,vi s3.2.1)]/\Sep No w W' [ac (sv v8) 3 1 (D.int .i64) y9,ac (sv v2) 4 1 D.bool y13.2.1,ac (sv v1) 97 12 (arD 12 (D.int .i64)) y13.2.2,.box g4 97 (cT y8),ac (sv v13) 3 1 (D.int .i64) y13.1]) ?_ ?_)
     ·have h:=hy13
      refine .block (.g (bv h λx7 hx7 h=>.s (ixv s.lv hx7 u23 t3 z z z) z (.s (lde (RV.flat s.lv hx7 z) t3 z z z z z) z (.qn z (.g (.s (lda t97 s.p3 (eV _) z z) z (.c (.alloc t97 s ?_))))))))
      intro g5 W s
      have s:Sep _ _ _ [.box g5 97 (cT (λ_=>0)),ac (sv v8) 3 1 (D.int .i64) y9,ac (sv v2) 4 1 D.bool s3.2.2.1,ac (sv v1) 97 12 (arD 12 (D.int .i64)) s3.2.2.2,.box g4 97 (cT y8),ac (sv v10) 3 1 (D.int .i64) s3.1]:=id s
      refine .c (.sta t97 s eV oe z z z ?_)
      intro W s
      refine .nil (bv h λy14 hy14 h=>?_)
      refine .seq (CW.via (R':=λx E' W'=>x=.normal/\ao E' [(0,(sv v_0)),(3,(sv v1)),(4,(sv v2)),(6,(sv v10)),(8,Pt g4),(10,vi x7),(11,Pt g5),(59,(sv v8)),(60,vi (y9.length:Int)),(61,vi s3.2.1)]/\Sep No w W' [.box g5 97 (cT y14),ac (sv v8) 3 1 (D.int .i64) y9,ac (sv v2) 4 1 D.bool s3.2.2.1,ac (sv v1) 97 12 (arD 12 (D.int .i64)) s3.2.2.2,.box g4 97 (cT y8),ac (sv v10) 3 1 (D.int .i64) s3.1]) ?_ ?_)
      ·have h:=hy14
       refine .g (.q z (.q z (bv h λx8 hx8 h=>.s (ixv s.p2.lv hx8 u102 t4 z z z) z (.s (lde (RV.flat s.p2.lv hx8 z) t4 z z z z z) z (.nil ?_)))))
       refine .cs z h ?_ ?_ <;> intro h
       ·refine .rk 6 s [0,0,0,0,0,0] T.mix ?_
        intro W s
        have t:=s.to [0,0,0,0,0,0]
        refine .tp' 0 z z t (.tp' 1 z z t (bv h λx9 hx9 h=>.ts' 2 z (λW t=>ixv s.p3.lv hx9 u94 t97 z z z) t z (.ts' 3 z (λW t=>wF (RV.flat (cs:=cT x9) t.p3.lv hx9 (si λ_=>z)) t97 (eV _) z z) t z (.ts' 4 z (λW t=>lda t97 t.p4 (eV _) z z) t z (bv h λy15 hy15 h=>.by1 5 z (.cO s func106 (pU hy15) z z ?_))))))
        intro W s
        refine s.an [0,0,0,0,0,0] λt=>.by1 6 z (.sta t97 s eV oe z z z ?_)
        intro W s
        refine ⟨λh=>absurd z h,?_⟩
        refine .done ?_
        obtain rfl:=o9 h
        exact ⟨z,sb z,s.tk [0,0,0,0,0,0]⟩
       refine .skip ?_
       obtain rfl:=o9 h
       exact ⟨z,sb z,s.tk [0,0,0,0,0,0]⟩
      intro x E W hJ
      obtain ⟨rfl,hE,s⟩:=hJ
      refine ⟨_,hE.sub,?_⟩
      refine .seq (bv h λx10 hx10 h=>bv h λb1 hb1 h=>?_)
      refine .via (R':=λx E' W'=>x=.normal/\ao E' [(0,(sv v_0)),(3,(sv v1)),(4,(sv v2)),(6,(sv v10)),(8,Pt g4),(10,vi x7),(11,Pt g5),(59,(sv v8)),(60,vi (y9.length:Int)),(61,vi s3.2.1),(88,.bool b1)]/\Sep No w W' [.box g5 97 (cT y14),ac (sv v8) 3 1 (D.int .i64) y9,ac (sv v2) 4 1 D.bool s3.2.2.1,ac (sv v1) 97 12 (arD 12 (D.int .i64)) s3.2.2.2,.box g4 97 (cT y8),ac (sv v10) 3 1 (D.int .i64) s3.1]) ?_ ?_
      ·refine .rk 13 s [0,0,0,0,0,0] T.mix ?_
       intro W s
       have t:=s.to [0,0,0,0,0,0]
       refine .tp' 0 z z t (.tp' 1 z z t (.ts' 2 z (λW t=>ixv s.p2.lv hx10 u102 t4 z z z) t z (.ts' 3 z (λW t=>lde (RV.flat t.p2.lv hx10 z) t4 z z z z z) t z (.tp' 4 z z t (.tp' 5 z z t (.both (!x10) (λb=>?_) (λb=>?_)))))))
       ·exact .off 6 z b t (.off 7 z b t (.off 8 z b t (.off 9 z b t (.off 10 z b t (.off 11 z b t (.ts' 12 z (λW t=>pkt b z z z) t z (.eqv 88 z (me (aW b hb1)) (.done (⟨z,sb z,s.tk [0,0,0,0,0,0]⟩)))) (by kernel_rfl) z z) (by kernel_rfl) z z) (by kernel_rfl) z z) (by kernel_rfl) z z) (by kernel_rfl) z z) (by kernel_rfl) z z
       have hg1:=b
       have h_b1:=aX b hb1
       exact .t1g 6 z hg1 (λW t=>lda t97 t (eV _) z z) t (.t1g 7 z hg1 (λW t=>pr z) t (.t1g 8 z hg1 (λW t=>pr z) t (bv h_b1 λx11 hx11 h_b1=>.t1g 9 z hg1 (λW t=>ixv s.p3.lv hx11 u94 t97 z z z) t (.t1g 10 z hg1 (λW t=>wF (RV.flat (cs:=cT x11) t.p3.lv hx11 (si λ_=>z)) t97 (eV _) z z) t (.t1g 11 z hg1 (λW t=>nea (q:=(λ(x y:Int)=>x==y)) T.q97 u97 t3 (λ_=>z) z (eqI u3) z z z) t (.ts' 12 z (λW t=>pkf hg1 z z z) t z (.eqv 88 z (me h_b1) (.done (⟨z,sb z,s.tk [0,0,0,0,0,0]⟩)))) (by kernel_rfl) z z) (by kernel_rfl) z z) (by kernel_rfl) z z) (by kernel_rfl) z z) (by kernel_rfl) z z) (by kernel_rfl) z z
      intro x E W hJ
      obtain ⟨rfl,hE,s⟩:=hJ
      refine ⟨_,hE.sub,?_⟩
      refine .cs z h ?_ ?_ <;> intro h
      ·refine .g (.q z (.q z (bv h λx12 hx12 h=>.s (ixv s.p2.lv hx12 u102 t4 z z z) z (bv h λr6 hr6 h=>.c (.sev hr6 hx12 s.p2 t4 z z z z z z ?_)))))
       intro W s
       refine .nil (.g (.q z (.q z (.s (lda t97 s.p1 (eV _) z z) z (bv h λx13 hx13 h=>.s (ixv s.p3.lv hx13 u94 t97 z z z) z (bv h λr7 hr7 h=>.c (.seva hr7 hx13 s.p3 t97 (λ_=>z) eV oe z z z ?_)))))))
       intro W s
       refine .nil (.region (.q z (.q z (.c (.liv [x7] (D.int .i64) u23 t3 s z z z z ?_ z (λ_=>z))))))
       intro v14 W s
       refine bv h λr8 hr8 h=>?_
       have hT0:=s.p6
       refine .c (.av hr8 hT0 hT0.p1.lv (λ_=>z) u23 t3 z z z ?_)
       intro v15 W s
       refine .q z (.nil ?_)
       cases h
       exact ⟨z,v15,sb z,s.tk [5,3,2,3,0]⟩
      refine .skip ?_
      cases h
      exact ⟨z,v10,sb z,s.tk [1,1,1,1,1]⟩
     intro x E W hJ
     obtain ⟨rfl,v16,hE,s⟩:=hJ
     refine ⟨_,hE.sub,?_⟩
     refine .region (.q z (.q z (.nil ?_)))
     cases h
     exact ⟨z,v16,sb z,s.tk [0,0,0,0,0]⟩
    refine .exit ?_
    cases h
    exact ⟨by simp,z,v10,sb z,s.tk [0,0,0,0,0]⟩
   intro x E W hJ
   obtain ⟨rfl,v17,hE,s⟩:=hJ
   refine ⟨_,hE.sub,?_⟩
   cases h
   exact ⟨z,v17,sb z,s.tk [1,1,2]⟩
  refine .exit ?_
  cases h
  exact ⟨by simp,z,sb z,s.tk [0,0]⟩
 intro x E W hJ
 obtain ⟨rfl,hE,s⟩:=hJ
 refine ⟨_,hE.sub,?_⟩
 cases h
 exact .g (.q z (.qn z (.ret (aa v1 (rt z rn) z (s.tk [1])))))
theorem sG {a0:List ab} {v_0:Hd} {w:World} {r:(List ab)×Bool} (h:j2 a0=some r) (q_0:RO w v_0 62 5 ah a0):CL 34 #[sv v_0] w (Ret No w (λs:Hd=>.tuple #[sv s,.bool r.2]) (λs=>[ac (sv s) 62 5 ah r.1])):=by
 unfold j2 at h
 refine aw func34 z z ?_
 have s:=Sep.start w
 refine .g (.q z (.qn z (.seq (.g (.q z (bv h λy1 hy1 h=>.c (.cO s func31 (bU hy1 (s.keep q_0)) z z ?_)))))))
 intro W s
 refine .q z (.nil ?_)
 refine .cs z h ?_ ?_ <;> intro h
 ·refine .g (.q z (.qn z (.ret ?_)))
  have s:=s.nilv 62 5 ah
  cases h
  exact aa (vs:=[_,_]) lN (rt z (rt z rn)) z (s.tk [0])
 refine .skip (.g (.q z (bv h λy2 hy2 h=>.c (.cV s func32 (aU hy2 (s.keep q_0)) z z ?_))))
 intro v1 W s
 refine .qn z (.seq (.g (.q z (bv h λy3 hy3 h=>.c (.cV s func65 (pi hy3 (s.keep q_0)) z z ?_)))))
 intro v2 W s
 refine .s (aD s.lv u94 z z) z (.qn z (.block (bv h λy4 hy4 h=>?_)))
 refine .via (.iter (λs1 E' W'=>ao E' [(0,(sv v_0)),(4,(sv v1)),(14,(sv v2)),(15,vi (y3.length:Int)),(16,vi s1.1)]/\Sep No w W' [ac (sv v2) 97 12 (arD 12 (D.int .i64)) y3,ac (sv v1) 62 5 ah s1.2]) (λy5 x E' W'=>x=.exit 0/\ao E' [(4,(sv v1))]/\Sep No w W' [ac (sv v2) 97 12 (arD 12 (D.int .i64)) y3,ac (sv v1) 62 5 ah y5]) hy4 ⟨sb z,s.tk [0,0]⟩ ?_) ?_
 ·intro s1 y6 E W h hI
  obtain ⟨hE,s⟩:=hI
  refine CW.sub hE ?_
  unfold gp at h
  refine .g (.qn z (.seq ?_))
  refine .cs z h ?_ ?_ <;> intro h
  ·refine .skip (bv h λy7 hy7 h=>?_)
   refine .seq (CW.via (R':=λx E' W'=>x=.normal/\ao E' [(0,(sv v_0)),(4,(sv v1)),(14,(sv v2)),(15,vi (y3.length:Int)),(16,vi s1.1)]/\Sep No w W' [ac (sv v2) 97 12 (arD 12 (D.int .i64)) y3,ac (sv v1) 62 5 ah y7]) ?_ ?_)
   ·have h:=hy7
    refine .block (.g (.q z (bv h λx1 hx1 h=>.s (ixv s.lv hx1 u94 t97 z z z) z (.s (wF (RV.flat (cs:=cT x1) s.lv hx1 (si λ_=>z)) t97 (eV _) z z) z (.c (.alloc t97 s ?_))))))
    intro g1 W s
    have s:Sep _ _ _ [.box g1 97 (cT (λ_=>0)),ac (sv v2) 97 12 (arD 12 (D.int .i64)) y3,ac (sv v1) 62 5 ah s1.2]:=id s
    refine .q z (.c (.sta t97 s eV oe z z z ?_))
    intro W s
    refine .nil (.g (.q z (.q z (bv h λx2 hx2 h=>.s (ixv (s.keep q_0) hx2 u33 t62 z z z) z (.s (lde (RV.flat (s.keep q_0) hx2 z) t62 z z z z z) z (bv h λy8 hy8 h=>.c (.cO s func66 (pe hy8) z z ?_)))))))
    intro W s
    refine .qn z (bv h λy9 hy9 h=>?_)
    refine .seq (CW.via (R':=λx E' W'=>x=.normal/\ao E' [(0,(sv v_0)),(4,(sv v1)),(5,vi s1.1),(6,Pt g1),(14,(sv v2)),(15,vi (y3.length:Int)),(16,vi s1.1)]/\Sep No w W' [.box g1 97 (cT x1),ac (sv v2) 97 12 (arD 12 (D.int .i64)) y3,ac (sv v1) 62 5 ah y9]) ?_ ?_)
    ·have h:=hy9
     refine .g (.q z (.q z (.nil ?_)))
     refine .cs z h ?_ ?_ <;> intro h
     ·refine .region (.q z (.q z (.q z (.q z (bv h λx3 hx3 h=>.s (ixv (s.keep q_0) hx3 u33 t62 z z z) z (.s (fe f62_2 z z z) z (.s (lde (RV.flat (s.keep q_0) hx3 z) t3 z z z z z) z (bv h λx4 hx4 h=>.s (ixa hx4 u97 t3 z z z) z (.s (ldx s hx4 (λ_=>z) t3 z z z z z) z (bv h λx5 hx5 h=>.s (ixv s.p2.lv hx5 u33 t62 z z z) z (.s (fe f62_2 z z z) z (bv h λr1 hr1 h=>.c (.sev hr1 hx5 s.p2 t3 z z z z z z ?_)))))))))))))
      intro W s
      refine .nil ?_
      obtain rfl:=o9 h
      exact ⟨z,sb z,s.tk [1,1,0]⟩
     refine .skip ?_
     cases h
     exact ⟨z,sb z,s.tk [0,0,0]⟩
    intro x E W hJ
    obtain ⟨rfl,hE,s⟩:=hJ
    refine ⟨_,hE.sub,?_⟩
    refine .g (.q z (.q z (bv h λx6 hx6 h=>.s (ixv (s.keep q_0) hx6 u33 t62 z z z) z (.s (fe f62_0 z z z) z (.s (lde (RV.flat (s.keep q_0) hx6 z) t3 z z z z z) z (.q z (.nil ?_)))))))
    refine .cs z h ?_ ?_ <;> intro h
    ·refine .region (.q z (.q z (.q z (.q z (bv h λx7 hx7 h=>.s (ixv (s.keep q_0) hx7 u33 t62 z z z) z (.s (fe f62_3 z z z) z (.s (lde (RV.flat (s.keep q_0) hx7 z) t3 z z z z z) z (bv h λx8 hx8 h=>.s (ixa hx8 u97 t3 z z z) z (.s (ldx s hx8 (λ_=>z) t3 z z z z z) z (bv h λx9 hx9 h=>.s (ixv s.p2.lv hx9 u33 t62 z z z) z (.s (fe f62_3 z z z) z (bv h λr2 hr2 h=>.c (.sev hr2 hx9 s.p2 t3 z z z z z z ?_)))))))))))))
     intro W s
     refine .nil ?_
     obtain rfl:=o9 h
     exact ⟨z,sb z,s.tk [2,0]⟩
    refine .skip ?_
    obtain rfl:=o9 h
    exact ⟨z,sb z,s.tk [1,1]⟩
   intro x E W hJ
   obtain ⟨rfl,hE,s⟩:=hJ
   refine ⟨_,hE.sub,?_⟩
   refine .region (.q z (.q z (.nil ?_)))
   cases h
   exact ⟨z,sb z,s.tk [0,0]⟩
  refine .exit ?_
  cases h
  exact ⟨by simp,z,sb z,s.tk [0,0]⟩
 intro x E W hJ
 obtain ⟨rfl,hE,s⟩:=hJ
 refine ⟨_,hE.sub,?_⟩
 cases h
 exact .g (.q z (.q z (.qn z (.ret (aa (vs:=[_,_]) v1 (rt z (rt z rn)) z (s.tk [1]))))))
theorem lC {a0:ab} {w:World} {r:Bool} (h:dl a0=some r):CL 67 #[.agg #[vi a0.Op,vi a0.Dst,vi a0.A,vi a0.B,vi a0.N]] w (RU w (.bool r)):=by
 unfold dl at h
 refine aw func67 z z ?_
 have s:=Sep.start w
 refine .g (.c (.box s z z ?_))
 intro g1 W s
 refine .qn z (.g (.s (fa f62_0 z z z) z (.s (ld t3 s z z z z z) z (.q z (.q z (.cu 4 10 ((a0.Op==4)||(a0.Op==5)) s ?_ ?_))))))
 ·refine .both (a0.Op==4) (λb=>?_) (λb=>?_)
  ·exact .xx b z (.xx b z (.xx b z (.s (pkt b z z z) z (.nil (ck 4 s z (kK b))))))
  have hg1:=b
  exact .g hg1 (.s (fa f62_0 z z z) z (.g hg1 (.s (ld t3 s z z z z z) z (.g hg1 (.q z (.s (pkf hg1 z z z) z (.nil (ck 4 s z (jT hg1)))))))))
 intro W s
 cases h
 exact .qn z (.ret (aa () (rt z rn) z (s.to [])))
def rx (w:World) (r:Int):Env->World->Prop:=Fin Tryz.prog Tryz.f68 No w (λs:Unit=>.int .i64 r) (λs=>[]) .ret
theorem qP {a0:List ab} {a1:Int} {v_0:Hd} {w:World} {r:Int} (h:kw a0 a1=some r) (q_0:RO w v_0 62 5 ah a0):CL 68 #[sv v_0,vi a1] w (RU w (.int .i64 r)):=by
 unfold kw at h
 refine aw func68 z z ?_
 have s:=Sep.start w
 refine .g (.qn z (.g (.q z (.qn z (.seq (.g (.q z (.s (aD (s.keep q_0) u33 z z) z (.qn z (.block (bv h λy1 hy1 h=>?_)))))))))))
 refine .via (.iter (λs1 E' W'=>ao E' [(0,(sv v_0)),(1,vi a1),(5,vi s1.1),(8,vi (a0.length:Int)),(9,vi s1.2)]/\Sep No w W' []) (λy2 x E' W'=>(match y2 with | .inl o1=>x=.ret/\rx w o1 E' W' | .inr o2=>x=.exit 0/\ao E' [(1,vi a1)]/\Sep No w W' [])) hy1 ⟨sb rfl,s.to [] rfl⟩ ?_) ?_
 ·intro s1 y3 E W h hI
  obtain ⟨hE,s⟩:=hI
  refine CW.sub hE ?_
  unfold m7 at h
  refine .g (.qn z (.seq ?_))
  refine .cs z h ?_ ?_ <;> intro h
  ·refine .skip (.seq (.block (.seq (.g (.q z (.q z (bv h λx1 hx1 h=>.s (ixv (s.keep q_0) hx1 u33 t62 z z z) z (.s (fe f62_0 z z z) z (.s (lde (RV.flat (s.keep q_0) hx1 z) t3 z z z z z) z (.q z (.nil ?_)))))))))))
   refine .cs z h ?_ ?_ <;> intro h
   ·refine .g (.q z (.qn z (.ret ?_)))
    cases h
    exact ⟨by simp,z,aa (vs:=[_]) () (rt z rn) z (s.to [])⟩
   refine .skip (.region (.q z (.q z (bv h λx2 hx2 h=>.s (ixv (s.keep q_0) hx2 u33 t62 z z z) z (.s (fe f62_4 z z z) z (.s (lde (RV.flat (s.keep q_0) hx2 z) t3 z z z z z) z (.qn z (.region (.q z (.q z (.nil ?_)))))))))))
   cases h
   exact ⟨z,sb z,s.to []⟩
  refine .exit ?_
  cases h
  exact ⟨by simp,z,sb z,s.to []⟩
 intro x E W hJ
 rcases y1 with o3 | o4
 ·have h:=bQ h
  obtain ⟨rfl,hF⟩:=hJ
  refine ⟨_,λ_ _ h=>h,?_⟩
  cases h
  exact hF
 have h:=bR h
 obtain ⟨rfl,hE,s⟩:=hJ
 refine ⟨_,hE.sub,?_⟩
 obtain rfl:=o9 h
 exact .g (.q z (.qn z (.ret (aa () (rt z rn) z (s.to [])))))
end

end Go.Proofs.YtmjebmhcbnkojaaGreat.N
