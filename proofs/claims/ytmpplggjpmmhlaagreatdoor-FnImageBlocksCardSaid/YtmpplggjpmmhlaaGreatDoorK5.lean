/- Printed by a program of mine: that the program's functions compute it. -/
import Derived.Test.YtmpplggjpmmhlaaGreatDoorK4
set_option linter.unusedVariables false
set_option linter.unusedSimpArgs false
set_option maxRecDepth 100000
set_option maxHeartbeats 4000000
namespace Go.Proofs.YtmpplggjpmmhlaaGreatDoor.N
open Go.Proofs.YtmpplggjpmmhlaaGreatDoor.X
theorem f6a {a0 : List Quad} {a1 : Int} {v_0 : Hd} {w : World} {r : (List Int)} (h : f1q a0 a1 = some r) (q_0 : RV w (Old No w) (sv v_0) 126 5 dQuad a0) : Calls Tryz.prog 206 #[(sv v_0),.int .i64 a1] w (Ret No w (fun s : Hd=>(sv s)) (fun s=>[rowV (sv s) 3 1 (D.int .i64) r])):=by
 unfold f1q at h
 refine enter Tryz.func206 z z ?_
 have hS:=Sep.start w
 refine .g (.qn z (.g (.q z (.q z ?_))))
 have ⟨x1,hx1,h⟩:=bnd h
 refine .s (ixv (hS.keep q_0) hx1 T.u104 T.t126 z z z) z (.s (lde (RV.flat (hS.keep q_0) hx1 z) T.t126 z z z z z) z (.c (.alloc T.t126 hS ?_ z z z)))
 intro g1 W hS
 refine .c (.st T.t126 hS z z z ?_ z z z z z)
 intro W hS
 refine .nil (.seq (.block (.g (.s (fa T.f126_0 z z z) z (.s (ld T.t3 hS z z z z z) z (.q z (.q z (.nil ?_))))))))
 refine .cs z h ?_ ?_ <;> intro h
 ·refine .g (.c (.liv [] (D.int .i64) T.u25 T.t3 hS z z z z ?_ z (fun _=>z) z z z z))
  intro v1 W hS
  cases h
  exact .qn z (.ret (fin_ret (vs:=[_]) v1 (rt z rn) z (hS.to [0] z)))
 refine .g (.s (fa T.f126_0 z z z) z (.s (ld T.t3 hS z z z z z) z (.q z (.q z (.nil ?_)))))
 refine .cs z h ?_ ?_ <;> intro h
 ·refine .g (.s (fa T.f126_4 z z z) z (.s (ld T.t3 hS z z z z z) z (.c (.liv [x1.N] (D.int .i64) T.u25 T.t3 hS z z z z ?_ z (fun _=>z) z z z z))))
  intro v2 W hS
  cases h
  exact .qn z (.ret (fin_ret (vs:=[_]) v2 (rt z rn) z (hS.to [0] z)))
 refine .g (.s (fa T.f126_0 z z z) z (.s (ld T.t3 hS z z z z z) z (.q z (.q z (.chunk 6 32 ((x1.Op == 5) && (decide (x1.N < (w64 (a1 + 1))))) hS ?_ ?_)))))
 ·refine .both (x1.Op == 5) (fun hb=>?_) (fun hb=>?_)
  ·have hg1:=hb
   exact .g hg1 (.s (fa T.f126_4 z z z) z (.g hg1 (.s (ld T.t3 hS z z z z z) z (.g hg1 (.q z (.g hg1 (.q z (.g hg1 (.q z (.s (pkt hg1 z z z) z (.nil (ck 6 hS z (and_t hg1) z z)))) z)) z)) z)) z)) z
  exact .xx hb z (.xx hb z (.xx hb z (.xx hb z (.xx hb z (.s (pkf hb z z z) z (.nil (ck 6 hS z (and_f hb) z z)))))))
 intro W hS
 refine .q z (.nil ?_)
 refine .cs z h ?_ ?_ <;> intro h
 ·refine .g (.s (fa T.f126_4 z z z) z (.s (ld T.t3 hS z z z z z) z (.q z (.q z (.c (.liv [x1.N,w64 (a1 + 1)] (D.int .i64) T.u25 T.t3 hS z z z z ?_ z (fun _=>z) z z z z))))))
  intro v3 W hS
  cases h
  exact .qn z (.ret (fin_ret (vs:=[_]) v3 (rt z rn) z (hS.to [0] z)))
 refine .g (.s (fa T.f126_0 z z z) z (.s (ld T.t3 hS z z z z z) z (.q z (.q z (.chunk 6 48 ((x1.Op == 5) && (decide (x1.N > (w64 (a1 + 1))))) hS ?_ ?_)))))
 ·refine .both (x1.Op == 5) (fun hb=>?_) (fun hb=>?_)
  ·have hg2:=hb
   exact .g hg2 (.s (fa T.f126_4 z z z) z (.g hg2 (.s (ld T.t3 hS z z z z z) z (.g hg2 (.q z (.g hg2 (.q z (.g hg2 (.q z (.s (pkt hg2 z z z) z (.nil (ck 6 hS z (and_t hg2) z z)))) z)) z)) z)) z)) z
  exact .xx hb z (.xx hb z (.xx hb z (.xx hb z (.xx hb z (.s (pkf hb z z z) z (.nil (ck 6 hS z (and_f hb) z z)))))))
 intro W hS
 refine .q z (.nil ?_)
 refine .cs z h ?_ ?_ <;> intro h
 ·refine .g (.q z (.q z (.s (fa T.f126_4 z z z) z (.s (ld T.t3 hS z z z z z) z (.c (.liv [w64 (a1 + 1),x1.N] (D.int .i64) T.u25 T.t3 hS z z z z ?_ z (fun _=>z) z z z z))))))
  intro v4 W hS
  cases h
  exact .qn z (.ret (fin_ret (vs:=[_]) v4 (rt z rn) z (hS.to [0] z)))
 refine .skip (.g (.q z (.q z (.c (.liv [w64 (a1 + 1)] (D.int .i64) T.u25 T.t3 hS z z z z ?_ z (fun _=>z) z z z z)))))
 intro v5 W hS
 cases h
 exact .qn z (.ret (fin_ret (vs:=[_]) v5 (rt z rn) z (hS.to [0] z)))
theorem fca {a0 : List Quad} {a1 : List Fact} {a2 : Int} {v_0 : Hd} {v_1 : Hd} {w : World} {r : (List Int)} (h : f5m a0 a1 a2 = some r) (q_0 : RV w (Old No w) (sv v_0) 126 5 dQuad a0) (q_1 : RV w (Old No w) (sv v_1) 193 2 dFact a1) : Calls Tryz.prog 210 #[(sv v_0),(sv v_1),.int .i64 a2] w (Ret No w (fun s : Hd=>(sv s)) (fun s=>[rowV (sv s) 3 1 (D.int .i64) r])):=by
 unfold f5m at h
 refine enter Tryz.func210 z z ?_
 have hS:=Sep.start w
 refine .g (.qn z (.g (.q z (.q z ?_))))
 have ⟨x1,hx1,h⟩:=bnd h
 refine .s (ixv (hS.keep q_0) hx1 T.u104 T.t126 z z z) z (.s (lde (RV.flat (hS.keep q_0) hx1 z) T.t126 z z z z z) z (.c (.alloc T.t126 hS ?_ z z z)))
 intro g1 W hS
 refine .c (.st T.t126 hS z z z ?_ z z z z z)
 intro W hS
 refine .nil (.seq (.g (.s (fa T.f126_0 z z z) z (.s (ld T.t3 hS z z z z z) z (.q z (.q z ?_))))))
 have ⟨b1,hb1,h⟩:=bnd h
 refine .chunk 8 23 (b1) hS ?_ ?_
 ·refine .both (x1.Op != 5) (fun hb=>?_) (fun hb=>?_)
  ·refine .xx hb z (.xx hb z (.xx hb z (.xx hb z (.xx hb z (.xx hb z (.xx hb z ?_))))))
   cases sel_t hb hb1
   exact .s (pkt hb z z z) z (.nil (ck 8 hS z z z z))
  have hg1:=hb
  have h:=sel_f hb hb1
  refine .g hg1 (.q z (.g hg1 (.s (fa T.f126_2 z z z) z (.g hg1 (.s (ld T.t3 hS z z z z z) z ?_) z)) z)) z
  have ⟨x2,hx2,h⟩:=bnd h
  refine .g hg1 (.s (ixv (hS.keep q_1) hx2 T.u175 T.t193 z z z) z (.g hg1 (.s (fe T.f193_0 z z z) z (.g hg1 (.s (lde (RV.flat (hS.keep q_1) hx2 z) T.t3 z z z z z) z (.g hg1 (.q z (.s (pkf hg1 z z z) z ?_)) z)) z)) z)) z
  cases h
  exact .nil (ck 8 hS z z z z)
 intro W hS
 refine .nil ?_
 refine .cs z h ?_ ?_ <;> intro h
 ·refine .g (.q z (.q z ?_))
  have ⟨y1,hy1,h⟩:=bnd h
  refine .c (.call1v hS Tryz.func206 (f6a hy1 (hS.keep q_0)) z z ?_ z z z z)
  intro v1 W hS
  obtain rfl:=Option.some.inj h
  exact .qn z (.ret (fin_ret (vs:=[_]) v1 (rt z rn) z (hS.to [0] z)))
 refine .skip (.seq (.g (.q z (.s (fa T.f126_2 z z z) z (.s (ld T.t3 hS z z z z z) z ?_)))))
 have ⟨x3,hx3,h⟩:=bnd h
 refine .s (ixv (hS.keep q_1) hx3 T.u175 T.t193 z z z) z (.s (fe T.f193_1 z z z) z (.s (lde (RV.flat (hS.keep q_1) hx3 z) T.t3 z z z z z) z (.q z (.nil ?_))))
 refine .cs z h ?_ ?_ <;> intro h
 ·refine .g (.s (fa T.f126_4 z z z) z (.s (ld T.t3 hS z z z z z) z (.c (.liv [x1.N] (D.int .i64) T.u25 T.t3 hS z z z z ?_ z (fun _=>z) z z z z))))
  intro v2 W hS
  cases h
  exact .qn z (.ret (fin_ret (vs:=[_]) v2 (rt z rn) z (hS.to [0] z)))
 refine .skip (.g (.q z (.q z (.c (.liv [w64 (a2 + 1)] (D.int .i64) T.u25 T.t3 hS z z z z ?_ z (fun _=>z) z z z z)))))
 intro v3 W hS
 cases h
 exact .qn z (.ret (fin_ret (vs:=[_]) v3 (rt z rn) z (hS.to [0] z)))
theorem fa5 {a0 : Bool} {w : World} {r : Int} (h : f95 a0 = some r) : Calls Tryz.prog 117 #[.bool a0] w (Ret No w (fun s : Unit=>.int .i64 r) (fun s=>[])):=by
 unfold f95 at h
 refine enter Tryz.func117 z z ?_
 have hS:=Sep.start w
 refine .g (.qn z (.seq (.g (.q z (.nil ?_)))))
 refine .cs z h ?_ ?_ <;> intro h
 ·cases h
  exact .g (.qn z (.ret (fin_ret (vs:=[_]) () (rt z rn) z (hS.to [] z))))
 cases h
 exact .skip (.g (.qn z (.ret (fin_ret (vs:=[_]) () (rt z rn) z (hS.to [] z)))))
theorem f9v {a0 : Int} {a1 : Int} {a2 : Bool} {w : World} {r : Int} (h : f51 a0 a1 a2 = some r) : Calls Tryz.prog 156 #[.int .i64 a0,.int .i64 a1,.bool a2] w (Ret No w (fun s : Unit=>.int .i64 r) (fun s=>[])):=by
 unfold f51 at h
 refine enter Tryz.func156 z z ?_
 have hS:=Sep.start w
 refine .g (.qn z (.seq (.g (.q z (.nil ?_)))))
 refine .cs z h ?_ ?_ <;> intro h
 ·refine .g (.q z (.q z (.q z ?_)))
  have ⟨d1,hd1,h⟩:=bnd h
  obtain rfl:=Option.some.inj h
  exact .s (shr_run hd1 z z z) z (.qn z (.ret (fin_ret (vs:=[_]) () (rt z rn) z (hS.to [] z))))
 refine .skip (.g (.q z (.q z (.q z ?_))))
 have ⟨d2,hd2,h⟩:=bnd h
 refine .s (shr_run hd2 z z z) z ?_
 have ⟨y1,hy1,h⟩:=bnd h
 refine .c (.call0 hS Tryz.func68 (f2v hy1) z z ?_ z z z z)
 intro W hS
 obtain rfl:=Option.some.inj h
 exact .qn z (.ret (fin_ret (vs:=[_]) () (rt z rn) z (hS.to [] z)))
theorem fce {a0 : Int} {a1 : Int} {w : World} {r : Int} (h : f7r a0 a1 = some r) : Calls Tryz.prog 157 #[.int .i64 a0,.int .i64 a1] w (Ret No w (fun s : Unit=>.int .i64 r) (fun s=>[])):=by
 unfold f7r at h
 refine enter Tryz.func157 z z ?_
 have hS:=Sep.start w
 refine .g (.qn z (.seq (.g (.q z (.q z (.nil ?_))))))
 refine .cs z h ?_ ?_ <;> intro h
 ·cases h
  exact .g (.qn z (.ret (fin_ret (vs:=[_]) () (rt z rn) z (hS.to [] z))))
 refine .skip (.g (.q z (.q z ?_)))
 have ⟨d1,hd1,h⟩:=bnd h
 refine .s (dq hd1 z z z) z ?_
 have ⟨y1,hy1,h⟩:=bnd h
 refine .c (.call0 hS Tryz.func68 (f2v hy1) z z ?_ z z z z)
 intro W hS
 obtain rfl:=Option.some.inj h
 exact .qn z (.ret (fin_ret (vs:=[_]) () (rt z rn) z (hS.to [] z)))
theorem fc7 {a0 : Int} {a1 : Int} {w : World} {r : Int} (h : f7u a0 a1 = some r) : Calls Tryz.prog 158 #[.int .i64 a0,.int .i64 a1] w (Ret No w (fun s : Unit=>.int .i64 r) (fun s=>[])):=by
 unfold f7u at h
 refine enter Tryz.func158 z z ?_
 have hS:=Sep.start w
 refine .g (.qn z (.seq (.g (.q z (.q z (.nil ?_))))))
 refine .cs z h ?_ ?_ <;> intro h
 ·obtain rfl:=Option.some.inj h
  exact .g (.q z (.qn z (.ret (fin_ret (vs:=[_]) () (rt z rn) z (hS.to [] z)))))
 refine .skip (.g (.q z (.q z ?_)))
 have ⟨d1,hd1,h⟩:=bnd h
 obtain rfl:=Option.some.inj h
 exact .s (dr hd1 z z z) z (.qn z (.ret (fin_ret (vs:=[_]) () (rt z rn) z (hS.to [] z))))
theorem fdp {a0 : Int} {a1 : Int} {a2 : Int} {w : World} {r : Int × Bool} (h : f8w a0 a1 a2 = some r) : Calls Tryz.prog 145 #[.int .i64 a0,.int .i64 a1,.int .i64 a2] w (Ret No w (fun s : Unit=>.tuple #[.int .i64 r.1,.bool r.2]) (fun s=>[])):=by
 unfold f8w at h
 refine enter Tryz.func145 z z ?_
 have hS:=Sep.start w
 refine .g (.q z (.qn z (.seq (.g (.q z ?_)))))
 have ⟨y1,hy1,h⟩:=bnd h
 refine .c (.call0 hS Tryz.func155 (f8i hy1) z z ?_ z z z z)
 intro W hS
 refine .q z (.q z ?_)
 have ⟨b1,hb1,h⟩:=bnd h
 refine .chunk 4 15 (b1) hS ?_ ?_
 ·refine .both (!y1) (fun hb=>?_) (fun hb=>?_)
  ·refine .xx hb z (.xx hb z (.xx hb z ?_))
   cases sel_t hb hb1
   exact .s (pkt hb z z z) z (.nil (ck 4 hS z z z z))
  have hg1:=hb
  have h:=sel_f hb hb1
  refine .g hg1 (.q z ?_) z
  have ⟨y2,hy2,h⟩:=bnd h
  refine .g hg1 (.c (.call0 hS Tryz.func94 (f4f hy2) z z ?_ z z z z)) z
  intro W hS
  refine .g hg1 (.q z (.s (pkf hg1 z z z) z ?_)) z
  cases h
  exact .nil (ck 4 hS z z z z)
 intro W hS
 refine .q z ?_
 have ⟨b2,hb2,h⟩:=bnd h
 refine .chunk 4 20 (b2) hS ?_ ?_
 ·refine .both (b1) (fun hb=>?_) (fun hb=>?_)
  ·refine .xx hb z (.xx hb z (.xx hb z ?_))
   cases sel_t hb hb2
   exact .s (pkt hb z z z) z (.nil (ck 4 hS z z z z))
  have hg2:=hb
  have h:=sel_f hb hb2
  refine .g hg2 (.q z ?_) z
  have ⟨y3,hy3,h⟩:=bnd h
  refine .g hg2 (.c (.call0 hS Tryz.func94 (f4f hy3) z z ?_ z z z z)) z
  intro W hS
  refine .g hg2 (.q z (.s (pkf hg2 z z z) z ?_)) z
  cases h
  exact .nil (ck 4 hS z z z z)
 intro W hS
 refine .nil ?_
 refine .cs z h ?_ ?_ <;> intro h
 ·cases h
  exact .g (.q z (.qn z (.ret (fin_ret (vs:=[_,_]) () (rt z (rt z rn)) z (hS.to [] z)))))
 refine .skip (.seq (.g (.qn z (.block (.g (.q z (.q z (.nil ?_))))))))
 refine .cs z h ?_ ?_ <;> intro h
 ·cases h
  exact .g (.q z (.q z (.q z (.q z (.qn z (.ret (fin_ret (vs:=[_,_]) () (rt z (rt z rn)) z (hS.to [] z))))))))
 refine .g (.q z (.q z (.nil ?_)))
 refine .cs z h ?_ ?_ <;> intro h
 ·cases h
  exact .g (.q z (.q z (.q z (.q z (.qn z (.ret (fin_ret (vs:=[_,_]) () (rt z (rt z rn)) z (hS.to [] z))))))))
 refine .g (.q z (.q z (.nil ?_)))
 refine .cs z h ?_ ?_ <;> intro h
 ·cases h
  exact .g (.q z (.q z (.q z (.q z (.qn z (.ret (fin_ret (vs:=[_,_]) () (rt z (rt z rn)) z (hS.to [] z))))))))
 refine .g (.q z (.q z (.nil ?_)))
 refine .cs z h ?_ ?_ <;> intro h
 ·refine .g (.q z (.q z (.q z ?_)))
  have ⟨y4,hy4,h⟩:=bnd h
  refine .c (.call0 hS Tryz.func117 (fa5 hy4) z z ?_ z z z z)
  intro W hS
  cases h
  exact .q z (.qn z (.ret (fin_ret (vs:=[_,_]) () (rt z (rt z rn)) z (hS.to [] z))))
 refine .g (.q z (.q z (.nil ?_)))
 refine .cs z h ?_ ?_ <;> intro h
 ·refine .g (.q z (.q z (.q z ?_)))
  have ⟨y5,hy5,h⟩:=bnd h
  refine .c (.call0 hS Tryz.func117 (fa5 hy5) z z ?_ z z z z)
  intro W hS
  cases h
  exact .q z (.qn z (.ret (fin_ret (vs:=[_,_]) () (rt z (rt z rn)) z (hS.to [] z))))
 refine .g (.q z (.q z (.nil ?_)))
 refine .cs z h ?_ ?_ <;> intro h
 ·refine .g (.q z (.q z ?_))
  have ⟨y6,hy6,h⟩:=bnd h
  refine .c (.call0 hS Tryz.func156 (f9v hy6) z z ?_ z z z z)
  intro W hS
  cases h
  exact .q z (.qn z (.ret (fin_ret (vs:=[_,_]) () (rt z (rt z rn)) z (hS.to [] z))))
 refine .g (.q z (.q z (.nil ?_)))
 refine .cs z h ?_ ?_ <;> intro h
 ·refine .g (.q z (.q z ?_))
  have ⟨y7,hy7,h⟩:=bnd h
  refine .c (.call0 hS Tryz.func156 (f9v hy7) z z ?_ z z z z)
  intro W hS
  cases h
  exact .q z (.qn z (.ret (fin_ret (vs:=[_,_]) () (rt z (rt z rn)) z (hS.to [] z))))
 refine .g (.q z (.q z (.nil ?_)))
 refine .cs z h ?_ ?_ <;> intro h
 ·refine .g (.q z (.q z (.q z ?_)))
  have ⟨y8,hy8,h⟩:=bnd h
  refine .c (.call0 hS Tryz.func68 (f2v hy8) z z ?_ z z z z)
  intro W hS
  cases h
  exact .q z (.qn z (.ret (fin_ret (vs:=[_,_]) () (rt z (rt z rn)) z (hS.to [] z))))
 refine .g (.q z (.q z (.nil ?_)))
 refine .cs z h ?_ ?_ <;> intro h
 ·refine .g (.q z (.q z (.q z ?_)))
  have ⟨y9,hy9,h⟩:=bnd h
  refine .c (.call0 hS Tryz.func68 (f2v hy9) z z ?_ z z z z)
  intro W hS
  cases h
  exact .q z (.qn z (.ret (fin_ret (vs:=[_,_]) () (rt z (rt z rn)) z (hS.to [] z))))
 refine .g (.q z (.q z (.nil ?_)))
 refine .cs z h ?_ ?_ <;> intro h
 ·refine .g (.q z (.q z (.q z ?_)))
  have ⟨y10,hy10,h⟩:=bnd h
  refine .c (.call0 hS Tryz.func68 (f2v hy10) z z ?_ z z z z)
  intro W hS
  cases h
  exact .q z (.qn z (.ret (fin_ret (vs:=[_,_]) () (rt z (rt z rn)) z (hS.to [] z))))
 refine .g (.q z (.q z (.nil ?_)))
 refine .cs z h ?_ ?_ <;> intro h
 ·refine .g (.q z (.q z ?_))
  have ⟨y11,hy11,h⟩:=bnd h
  refine .c (.call0 hS Tryz.func157 (fce hy11) z z ?_ z z z z)
  intro W hS
  cases h
  exact .q z (.qn z (.ret (fin_ret (vs:=[_,_]) () (rt z (rt z rn)) z (hS.to [] z))))
 refine .skip (.g (.q z (.q z ?_)))
 have ⟨y12,hy12,h⟩:=bnd h
 refine .c (.call0 hS Tryz.func158 (fc7 hy12) z z ?_ z z z z)
 intro W hS
 cases h
 exact .q z (.qn z (.ret (fin_ret (vs:=[_,_]) () (rt z (rt z rn)) z (hS.to [] z))))
theorem f9d {a0 : Quad} {a1 : Fact} {a2 : Fact} {w : World} {r : Fact} (h : f3q a0 a1 a2 = some r) : Calls Tryz.prog 213 #[.agg #[.int .i64 a0.Op,.int .i64 a0.Dst,.int .i64 a0.A,.int .i64 a0.B,.int .i64 a0.N],.agg #[.int .i64 a1.Kind,.int .i64 a1.N],.agg #[.int .i64 a2.Kind,.int .i64 a2.N]] w (Ret No w (fun s : Unit=>.agg #[.int .i64 r.Kind,.int .i64 r.N]) (fun s=>[])):=by
 unfold f3q at h
 refine enter Tryz.func213 z z ?_
 have hS:=Sep.start w
 refine .g (.c (.box hS z z ?_ z z))
 intro g1 W hS
 refine .c (.box hS z z ?_ z z)
 intro g2 W hS
 refine .c (.box hS z z ?_ z z)
 intro g3 W hS
 refine .c (.alloc T.t193 hS ?_ z z z)
 intro g4 W hS
 refine .nil (.seq (.g (.s (fa T.f193_0 z z z) z (.s (ld T.t3 hS.p2 z z z z z) z (.q z (.q z (.chunk 4 16 ((a1.Kind != 1) || (a2.Kind != 1)) hS ?_ ?_)))))))
 ·refine .both (a1.Kind != 1) (fun hb=>?_) (fun hb=>?_)
  ·exact .xx hb z (.xx hb z (.xx hb z (.s (pkt hb z z z) z (.nil (ck 4 hS z (or_t hb) z z)))))
  have hg1:=hb
  exact .g hg1 (.s (fa T.f193_0 z z z) z (.g hg1 (.s (ld T.t3 hS.p1 z z z z z) z (.g hg1 (.q z (.s (pkf hg1 z z z) z (.nil (ck 4 hS z (or_f hg1) z z)))) z)) z)) z
 intro W hS
 refine .nil ?_
 refine .cs z h ?_ ?_ <;> intro h
 ·refine .g (.s (bs T.s193 z z) z (.c (.st T.t193 hS z z z ?_ z z z z z)))
  intro W hS
  cases h
  exact .nil (.ret (fin_ret (vs:=[_]) () (rc hS T.t193 z rn z z) z (hS.to [] z)))
 refine .skip (.g (.s (fa T.f126_4 z z z) z (.s (ld T.t3 hS.p3 z z z z z) z (.s (fa T.f193_1 z z z) z (.s (ld T.t3 hS.p2 z z z z z) z (.s (fa T.f193_1 z z z) z (.s (ld T.t3 hS.p1 z z z z z) z ?_)))))))
 have ⟨y1,hy1,h⟩:=bnd h
 refine .c (.call0 hS Tryz.func145 (fdp hy1) z z ?_ z z z z)
 intro W hS
 refine .q z (.q z (.q z (.q z (.qn z (.g (.q z (.s (bs T.s193 z z) z (.c (.st T.t193 hS z z z ?_ z z z z z)))))))))
 intro W hS
 cases h
 exact .nil (.ret (fin_ret (vs:=[_]) () (rc hS T.t193 z rn z z) z (hS.to [] z)))
theorem fbu {a0 : Quad} {a1 : List Fact} {v_1 : Hd} {w : World} {r : (List Fact)} (h : f5w a0 a1 = some r) (q_1 : RV w (Old No w) (sv v_1) 193 2 dFact a1) : Calls Tryz.prog 211 #[.agg #[.int .i64 a0.Op,.int .i64 a0.Dst,.int .i64 a0.A,.int .i64 a0.B,.int .i64 a0.N],(sv v_1)] w (Ret No w (fun s : Hd=>(sv s)) (fun s=>[rowV (sv s) 193 2 dFact r])):=by
 unfold f5w at h
 refine enter Tryz.func211 z z ?_
 have hS:=Sep.start w
 refine .g (.c (.box hS z z ?_ z z))
 intro g1 W hS
 refine .qn z (.g (.c (.liv [] dFact T.u175 T.t193 hS z z z z ?_ z (fun _=>z) z z z z)))
 intro v1 W hS
 refine .q z ?_
 have ⟨r1,hr1,h⟩:=bnd h
 refine .c (.apprv hr1 hS (hS.keep q_1) (fun _=>z) T.u175 T.t193 z z z ?_ z z z z z)
 intro v2 W hS
 refine .qn z (.seq (.g (.s (fa T.f126_0 z z z) z (.s (ld T.t3 hS.p1 z z z z z) z (.nil (.block (.g (.q z (.q z (.nil ?_))))))))))
 refine .cs z h ?_ ?_ <;> intro h
 ·refine .region (.q z (.s (fa T.f126_1 z z z) z (.s (ld T.t3 hS.p1 z z z z z) z (.s (fa T.f126_4 z z z) z (.s (ld T.t3 hS.p1 z z z z z) z (.s (bs T.s193 z z) z ?_))))))
  have ⟨x1,hx1,h⟩:=bnd h
  refine .s (ixv hS.lendv hx1 T.u175 T.t193 z z z) z ?_
  have ⟨r2,hr2,h⟩:=bnd h
  refine .c (.sev hr2 hx1 hS T.t193 z z z z z z ?_ z z z z z z)
  intro W hS
  obtain rfl:=Option.some.inj h
  exact .nil (.g (.q z (.qn z (.ret (fin_ret (vs:=[_]) v2 (rt z rn) z (hS.to [0] z))))))
 refine .g (.q z (.q z (.nil ?_)))
 refine .cs z h ?_ ?_ <;> intro h
 ·refine .rk 9 hS [0,0] T.mix ?_
  intro W hS
  have hT:=hS.to [0,0] z
  refine .tp 0 z z hT (by kernel_rfl) (.ts 1 z (fun W hT=>fa T.f126_1 z z z) hT z (by kernel_rfl) (.ts 2 z (fun W hT=>ld T.t3 hT.p1 z z z z z) hT z (by kernel_rfl) (.tp 3 z z hT (by kernel_rfl) (.ts 4 z (fun W hT=>fa T.f126_2 z z z) hT z (by kernel_rfl) (.ts 5 z (fun W hT=>ld T.t3 hT.p1 z z z z z) hT z (by kernel_rfl) ?_)))))
  have ⟨x2,hx2,h⟩:=bnd h
  refine .ts 6 z (fun W hT=>ixv (hS.keep q_1) hx2 T.u175 T.t193 z z z) hT z (by kernel_rfl) (.ts 7 z (fun W hT=>lde (RV.flat (hT.keep q_1) hx2 z) T.t193 z z z z z) hT z (by kernel_rfl) ?_)
  have ⟨x3,hx3,h⟩:=bnd h
  refine .ts 8 z (fun W hT=>ixv hS.lendv hx3 T.u175 T.t193 z z z) hT z (by kernel_rfl) ?_
  have ⟨r3,hr3,h⟩:=bnd h
  refine .by1 9 z (.sev hr3 hx3 hS T.t193 z z z z z z ?_ z z z z z z) (by kernel_rfl)
  intro W hS
  refine ⟨fun h=>absurd z h,?_⟩
  obtain rfl:=Option.some.inj h
  exact .done (.g (.q z (.qn z (.ret (fin_ret (vs:=[_]) v2 (rt z rn) z (hS.to [0] z)))))) (by kernel_rfl)
 refine .g (.q z (.q z (.nil ?_)))
 refine .cs z h ?_ ?_ <;> intro h
 ·refine .region (.q z (.s (fa T.f126_1 z z z) z (.s (ld T.t3 hS.p1 z z z z z) z (.s (bs T.s193 z z) z ?_))))
  have ⟨x4,hx4,h⟩:=bnd h
  refine .s (ixv hS.lendv hx4 T.u175 T.t193 z z z) z ?_
  have ⟨r4,hr4,h⟩:=bnd h
  refine .c (.sev hr4 hx4 hS T.t193 z z z z z z ?_ z z z z z z)
  intro W hS
  obtain rfl:=Option.some.inj h
  exact .nil (.g (.q z (.qn z (.ret (fin_ret (vs:=[_]) v2 (rt z rn) z (hS.to [0] z))))))
 refine .g (.q z (.q z (.nil ?_)))
 refine .cs z h ?_ ?_ <;> intro h
 ·refine .rk 16 hS [0,0] T.mix ?_
  intro W hS
  have hT:=hS.to [0,0] z
  refine .tp 0 z z hT (by kernel_rfl) (.ts 1 z (fun W hT=>fa T.f126_1 z z z) hT z (by kernel_rfl) (.ts 2 z (fun W hT=>ld T.t3 hT.p1 z z z z z) hT z (by kernel_rfl) (.ts 3 z (fun W hT=>ld T.t126 hT.p1 z z z z z) hT z (by kernel_rfl) (.tp 4 z z hT (by kernel_rfl) (.ts 5 z (fun W hT=>fa T.f126_2 z z z) hT z (by kernel_rfl) (.ts 6 z (fun W hT=>ld T.t3 hT.p1 z z z z z) hT z (by kernel_rfl) ?_))))))
  have ⟨x5,hx5,h⟩:=bnd h
  refine .ts 7 z (fun W hT=>ixv (hS.keep q_1) hx5 T.u175 T.t193 z z z) hT z (by kernel_rfl) (.ts 8 z (fun W hT=>lde (RV.flat (hT.keep q_1) hx5 z) T.t193 z z z z z) hT z (by kernel_rfl) (.tp 9 z z hT (by kernel_rfl) (.ts 10 z (fun W hT=>fa T.f126_3 z z z) hT z (by kernel_rfl) (.ts 11 z (fun W hT=>ld T.t3 hT.p1 z z z z z) hT z (by kernel_rfl) ?_))))
  have ⟨x6,hx6,h⟩:=bnd h
  refine .ts 12 z (fun W hT=>ixv (hS.keep q_1) hx6 T.u175 T.t193 z z z) hT z (by kernel_rfl) (.ts 13 z (fun W hT=>lde (RV.flat (hT.keep q_1) hx6 z) T.t193 z z z z z) hT z (by kernel_rfl) ?_)
  have ⟨y1,hy1,h⟩:=bnd h
  refine .by1 14 z (.call0 hS Tryz.func213 (f9d hy1) z z ?_ z z z z) (by kernel_rfl)
  intro W hS
  have hT:=hS.to [0,0] z
  refine ⟨fun _=>hT,?_⟩
  have ⟨x7,hx7,h⟩:=bnd h
  refine .ts 15 z (fun W hT=>ixv hS.lendv hx7 T.u175 T.t193 z z z) hT z (by kernel_rfl) ?_
  have ⟨r5,hr5,h⟩:=bnd h
  refine .by1 16 z (.sev hr5 hx7 hS T.t193 z z z z z z ?_ z z z z z z) (by kernel_rfl)
  intro W hS
  refine ⟨fun h=>absurd z h,?_⟩
  obtain rfl:=Option.some.inj h
  exact .done (.g (.q z (.qn z (.ret (fin_ret (vs:=[_]) v2 (rt z rn) z (hS.to [0] z)))))) (by kernel_rfl)
 obtain rfl:=Option.some.inj h
 exact .skip (.g (.q z (.qn z (.ret (fin_ret (vs:=[_]) v2 (rt z rn) z (hS.to [0] z))))))
theorem f9x {a0 : Fact} {a1 : Fact} {w : World} {r : Fact} (h : f6k a0 a1 = some r) : Calls Tryz.prog 219 #[.agg #[.int .i64 a0.Kind,.int .i64 a0.N],.agg #[.int .i64 a1.Kind,.int .i64 a1.N]] w (Ret No w (fun s : Unit=>.agg #[.int .i64 r.Kind,.int .i64 r.N]) (fun s=>[])):=by
 unfold f6k at h
 refine enter Tryz.func219 z z ?_
 have hS:=Sep.start w
 refine .g (.c (.box hS z z ?_ z z))
 intro g1 W hS
 refine .c (.box hS z z ?_ z z)
 intro g2 W hS
 refine .c (.alloc T.t193 hS ?_ z z z)
 intro g3 W hS
 refine .nil (.seq (.g (.s (fa T.f193_0 z z z) z (.s (ld T.t3 hS.p2 z z z z z) z (.q z (.nil ?_))))))
 refine .cs z h ?_ ?_ <;> intro h
 ·refine .g (.s (ld T.t193 hS.p1 z z z z z) z (.c (.st T.t193 hS z z z ?_ z z z z z)))
  intro W hS
  obtain rfl:=Option.some.inj h
  exact .nil (.ret (fin_ret (vs:=[_]) () (rc hS T.t193 z rn z z) z (hS.to [] z)))
 refine .skip (.seq (.g (.s (fa T.f193_0 z z z) z (.s (ld T.t3 hS.p1 z z z z z) z (.q z (.q z (.chunk 4 16 ((a1.Kind == 0) || ((a0.Kind == a1.Kind) && ((a0.N == a1.N) && true))) hS ?_ ?_)))))))
 ·refine .both (a1.Kind == 0) (fun hb=>?_) (fun hb=>?_)
  ·exact .xx hb z (.xx hb z (.xx hb z (.s (pkt hb z z z) z (.nil (ck 4 hS z (or_t hb) z z)))))
  have hg1:=hb
  exact .g hg1 (.s (ld T.t193 hS.p2 z z z z z) z (.g hg1 (.s (ld T.t193 hS.p1 z z z z z) z (.g hg1 (.s (eqs T.e193 z z z z) z (.s (pkf hg1 z z z) z (.nil (ck 4 hS z (or_f hg1) z z)))) z)) z)) z
 intro W hS
 refine .nil ?_
 refine .cs z h ?_ ?_ <;> intro h
 ·refine .g (.s (ld T.t193 hS.p2 z z z z z) z (.c (.st T.t193 hS z z z ?_ z z z z z)))
  intro W hS
  obtain rfl:=Option.some.inj h
  exact .nil (.ret (fin_ret (vs:=[_]) () (rc hS T.t193 z rn z z) z (hS.to [] z)))
 refine .skip (.g (.s (bs T.s193 z z) z (.c (.st T.t193 hS z z z ?_ z z z z z))))
 intro W hS
 cases h
 exact .nil (.ret (fin_ret (vs:=[_]) () (rc hS T.t193 z rn z z) z (hS.to [] z)))
theorem fbi {a0 : List (List Fact)} {a1 : Int} {a2 : List Fact} {v_0 : Hd} {v_2 : Hd} {S : Nat → Prop} {w : World} {r : Bool × (List (List Fact))} (h : f5h a0 a1 a2 = some r) (q_2 : RV w (Old S w) (sv v_2) 193 2 dFact a2) (hO : Owns w [rowV (sv v_0) 175 1 (fun (l : List Fact)=>D.row 193 2 (l.map dFact)) a0] S) (hlt : ∀ b,S b → b < w.heap.size) : Calls Tryz.prog 212 #[(sv v_0),.int .i64 a1,(sv v_2)] w (Ret S w (fun s : Unit=>.bool r.1) (fun s=>[rowV (sv v_0) 175 1 (fun (l : List Fact)=>D.row 193 2 (l.map dFact)) r.2])):=by
 unfold f5h at h
 refine enter Tryz.func212 z z ?_
 have hS:=Sep.startM hO hlt
 refine .g (.qn z (.g (.qn z (.seq (.g (.qn z (.block ?_)))))))
 have ⟨y1,hy1,h⟩:=bnd h
 refine .via (.iter (fun s1 E' W'=>SubL E' [(0,(sv v_0)),(1,.int .i64 a1),(2,(sv v_2)),(7,.bool s1.1),(8,.int .i64 s1.2.1)] ∧ Sep S w W' [rowV (sv v_0) 175 1 (fun (l : List Fact)=>D.row 193 2 (l.map dFact)) s1.2.2]) (fun y2 x E' W'=>x = .exit 0 ∧ SubL E' [(7,.bool y2.1)] ∧ Sep S w W' [rowV (sv v_0) 175 1 (fun (l : List Fact)=>D.row 193 2 (l.map dFact)) y2.2]) hy1 ⟨sb z,hS.to [0] z⟩ ?_) ?_
 ·intro s1 y3 E W h hI
  obtain ⟨hE,hS⟩:=hI
  refine CW.sub hE ?_
  unfold f89 at h
  refine .seq (.g (.q z (.q z (.nil ?_))))
  refine .cs z h ?_ ?_ <;> intro h
  ·refine .skip ?_
   have ⟨y4,hy4,h⟩:=bnd h
   refine .seq (CW.via (R':=fun x E' W'=>x = .normal ∧ SubL E' [(0,(sv v_0)),(1,.int .i64 a1),(2,(sv v_2)),(7,.bool y4.1),(8,.int .i64 s1.2.1)] ∧ Sep S w W' [rowV (sv v_0) 175 1 (fun (l : List Fact)=>D.row 193 2 (l.map dFact)) y4.2]) ?_ ?_)
   ·have h:=hy4
    refine .block (.seq ?_)
    have ⟨x1,hx1,h⟩:=bnd h
    obtain ⟨k1,hS⟩:=Sep.outv hS hx1
    obtain ⟨v1,k1,rfl,hS⟩:=hS.orowv
    obtain ⟨rfl,hS⟩:=hS.onil
    have ⟨x4,hx4,h⟩:=bnd h
    have ⟨x5,hx5,h⟩:=bnd h
    have ⟨y6,hy6,h⟩:=bnd h
    refine .via (R':=fun x E' W'=>x = .normal ∧ ∃ (g2 : Nat),SubL E' [(0,(sv v_0)),(1,.int .i64 a1),(2,(sv v_2)),(7,.bool s1.1),(8,.int .i64 s1.2.1),(9,.pointer (some ⟨g2,0,none⟩))] ∧ Sep S w W' [rowV (sv v_0) 175 1 (fun (l : List Fact)=>D.row 193 2 (l.map dFact)) s1.2.2,.box g2 193 [.int .i64 y6.Kind,.int .i64 y6.N]]) ?_ ?_
    ·refine .rk 13 hS [0,0] T.mix ?_
     intro W hS
     have hT:=hS.to [0,0] z
     refine .tp 0 z z hT (by kernel_rfl) (.tp 1 z z hT (by kernel_rfl) (.ts 2 z (fun W hT=>ixh hT.p1 hx1 T.u172 T.t175 z z z) hT z (by kernel_rfl) (.ts 3 z (fun W hT=>lde (hT.p1.hcellsv) T.t175 z z z z z) hT z (by kernel_rfl) (.tp 4 z z hT (by kernel_rfl) (.ts 5 z (fun W hT=>ixv hS.lendv hx4 T.u175 T.t193 z z z) hT z (by kernel_rfl) (.ts 6 z (fun W hT=>lde (RV.flat hT.lendv hx4 z) T.t193 z z z z z) hT z (by kernel_rfl) (.tp 7 z z hT (by kernel_rfl) (.tp 8 z z hT (by kernel_rfl) (.ts 9 z (fun W hT=>ixv (hS.keep q_2) hx5 T.u175 T.t193 z z z) hT z (by kernel_rfl) (.ts 10 z (fun W hT=>lde (RV.flat (hT.keep q_2) hx5 z) T.t193 z z z z z) hT z (by kernel_rfl) (.by [11,12] ⟨⟨_,z,?_⟩,⟨_,z,?_⟩,trivial⟩ (by kernel_rfl) z)))))))))))
     ·refine (.call0 hS Tryz.func219 (f9x hy6) z z ?_ z z z z)
      intro W hS
      have hT:=hS.to [0,0] z
      refine ⟨fun _=>hT,.by1 12 z (.alloc T.t193 hS ?_ z z z) (by kernel_rfl)⟩
      intro g3 W hS
      have hT:=hS.to [1,1] z
      refine ⟨fun _=>hT,.by1 13 z (.st T.t193 hS z z z ?_ z z z z z) (by kernel_rfl)⟩
      intro W hS
      refine ⟨fun h=>absurd z h,?_⟩
      refine .done ?_ (by kernel_rfl)
      have hS:=Sep.gat (ds:=[.row 193 2 (x1.map dFact)]) (cs:=[(sv v1)]) (L1:=[rowV (sv v1) 193 2 dFact x1]) (.row (.nil)) (hS.to [1,1,0] z)
      have hS : Sep _ _ _ [rowV (sv v_0) 175 1 (fun (l : List Fact)=>D.row 193 2 (l.map dFact)) s1.2.2,.box g3 193 [.int .i64 y6.Kind,.int .i64 y6.N]]:=Sep.back0v hx1 hS
      exact ⟨z,g3,sb z,hS.to [0,0] z⟩
     refine (.alloc T.t193 hS ?_ z z z)
     intro g4 W hS
     have hT:=hS.to [1,1] z
     refine ⟨fun _=>hT,.by1 11 z (.call0 hS Tryz.func219 (f9x hy6) z z ?_ z z z z) (by kernel_rfl)⟩
     intro W hS
     have hT:=hS.to [1,1] z
     refine ⟨fun _=>hT,.by1 13 z (.st T.t193 hS z z z ?_ z z z z z) (by kernel_rfl)⟩
     intro W hS
     refine ⟨fun h=>absurd z h,?_⟩
     refine .done ?_ (by kernel_rfl)
     have hS:=Sep.gat (ds:=[.row 193 2 (x1.map dFact)]) (cs:=[(sv v1)]) (L1:=[rowV (sv v1) 193 2 dFact x1]) (.row (.nil)) (hS.to [1,1,0] z)
     have hS : Sep _ _ _ [rowV (sv v_0) 175 1 (fun (l : List Fact)=>D.row 193 2 (l.map dFact)) s1.2.2,.box g4 193 [.int .i64 y6.Kind,.int .i64 y6.N]]:=Sep.back0v hx1 hS
     exact ⟨z,g4,sb z,hS.to [0,0] z⟩
    intro x E W hJ
    obtain ⟨rfl,g5,hE,hS⟩:=hJ
    refine ⟨_,hE.sub,?_⟩
    refine .seq ?_
    have ⟨x6,hx6,h⟩:=bnd h
    obtain ⟨k2,hS⟩:=Sep.outv hS hx6
    obtain ⟨v2,k2,rfl,hS⟩:=hS.orowv
    obtain ⟨rfl,hS⟩:=hS.onil
    refine .rk 9 hS [0,0,0] T.mix ?_
    intro W hS
    have hT:=hS.to [0,0,0] z
    refine .ts 0 z (fun W hT=>ld T.t193 hT.p2 z z z z z) hT z (by kernel_rfl) (.tp 1 z z hT (by kernel_rfl) (.tp 2 z z hT (by kernel_rfl) (.ts 3 z (fun W hT=>ixh hT.p1 hx6 T.u172 T.t175 z z z) hT z (by kernel_rfl) (.ts 4 z (fun W hT=>lde (hT.p1.hcellsv) T.t175 z z z z z) hT z (by kernel_rfl) (.tp 5 z z hT (by kernel_rfl) ?_)))))
    have ⟨x8,hx8,h⟩:=bnd h
    refine .ts 6 z (fun W hT=>ixv hS.lendv hx8 T.u175 T.t193 z z z) hT z (by kernel_rfl) (.ts 7 z (fun W hT=>lde (RV.flat hT.lendv hx8 z) T.t193 z z z z z) hT z (by kernel_rfl) (.ts 8 z (fun W hT=>nes T.e193 z z z z) hT z (by kernel_rfl) (.done ?_ (by kernel_rfl))))
    refine .cs z h ?_ ?_ <;> intro h
    ·refine .seq (.rk 7 hS [0,0,0] T.mix ?_)
     intro W hS
     have hT:=hS.to [0,0,0] z
     refine .tp 0 z z hT (by kernel_rfl) (.tp 1 z z hT (by kernel_rfl) (.ts 2 z (fun W hT=>ixh hT.p1 hx6 T.u172 T.t175 z z z) hT z (by kernel_rfl) (.ts 3 z (fun W hT=>lde (hT.p1.hcellsv) T.t175 z z z z z) hT z (by kernel_rfl) (.tp 4 z z hT (by kernel_rfl) (.ts 5 z (fun W hT=>ld T.t193 hT.p2 z z z z z) hT z (by kernel_rfl) ?_)))))
     have ⟨x9,hx9,h⟩:=bnd h
     refine .ts 6 z (fun W hT=>ixv hS.lendv hx9 T.u175 T.t193 z z z) hT z (by kernel_rfl) ?_
     have ⟨r1,hr1,h⟩:=bnd h
     refine .by1 7 z (.sev hr1 hx9 hS T.t193 z z z z z z ?_ z z z z z z) (by kernel_rfl)
     intro W hS
     refine ⟨fun h=>absurd z h,?_⟩
     refine .done (.region (.q z (.nil ?_))) (by kernel_rfl)
     have hS:=Sep.gat (ds:=[.row 193 2 (r1.map dFact)]) (cs:=[(sv v2)]) (L1:=[rowV (sv v2) 193 2 dFact r1]) (.row (.nil)) (hS.to [0,0,0] z)
     have hS : Sep _ _ _ [rowV (sv v_0) 175 1 (fun (l : List Fact)=>D.row 193 2 (l.map dFact)) (s1.2.2.set (Int.toNat a1) r1),.box g5 193 [.int .i64 y6.Kind,.int .i64 y6.N]]:=hS.backv
     cases h
     exact ⟨z,sb z,hS.to [0] z⟩
    refine .skip ?_
    have hS:=Sep.gat (ds:=[.row 193 2 (x6.map dFact)]) (cs:=[(sv v2)]) (L1:=[rowV (sv v2) 193 2 dFact x6]) (.row (.nil)) (hS.to [0,0,0] z)
    have hS : Sep _ _ _ [rowV (sv v_0) 175 1 (fun (l : List Fact)=>D.row 193 2 (l.map dFact)) s1.2.2,.box g5 193 [.int .i64 y6.Kind,.int .i64 y6.N]]:=Sep.back0v hx6 hS
    cases h
    exact ⟨z,sb z,hS.to [0] z⟩
   intro x E W hJ
   obtain ⟨rfl,hE,hS⟩:=hJ
   refine ⟨_,hE.sub,?_⟩
   refine .region (.q z (.q z (.q z (.nil ?_))))
   cases h
   exact ⟨z,sb z,hS.to [0] z⟩
  refine .exit ?_
  cases h
  exact ⟨by simp,z,sb z,hS.to [0] z⟩
 intro x E W hJ
 obtain ⟨rfl,hE,hS⟩:=hJ
 refine ⟨_,hE.sub,?_⟩
 cases h
 exact .g (.q z (.qn z (.ret (fin_ret (vs:=[_]) () (rt z rn) z (hS.to [0] z)))))
theorem fbm {a0 : List Quad} {a1 : List (List Fact)} {v_0 : Hd} {v_1 : Hd} {S : Nat → Prop} {w : World} {r : Bool × (List (List Fact))} (h : f5q a0 a1 = some r) (q_0 : RV w (Old S w) (sv v_0) 126 5 dQuad a0) (hO : Owns w [rowV (sv v_1) 175 1 (fun (l : List Fact)=>D.row 193 2 (l.map dFact)) a1] S) (hlt : ∀ b,S b → b < w.heap.size) : Calls Tryz.prog 200 #[(sv v_0),(sv v_1)] w (Ret S w (fun s : Unit=>.bool r.1) (fun s=>[rowV (sv v_1) 175 1 (fun (l : List Fact)=>D.row 193 2 (l.map dFact)) r.2])):=by
 unfold f5q at h
 refine enter Tryz.func200 z z ?_
 have hS:=Sep.startM hO hlt
 refine .g (.qn z (.g (.qn z (.seq (.g (.qn z (.block ?_)))))))
 have ⟨y1,hy1,h⟩:=bnd h
 refine .via (.iter (fun s1 E' W'=>SubL E' [(0,(sv v_0)),(1,(sv v_1)),(5,.bool s1.1),(6,.int .i64 s1.2.1)] ∧ Sep S w W' [rowV (sv v_1) 175 1 (fun (l : List Fact)=>D.row 193 2 (l.map dFact)) s1.2.2]) (fun y2 x E' W'=>x = .exit 0 ∧ SubL E' [(5,.bool y2.1)] ∧ Sep S w W' [rowV (sv v_1) 175 1 (fun (l : List Fact)=>D.row 193 2 (l.map dFact)) y2.2]) hy1 ⟨sb z,hS.to [0] z⟩ ?_) ?_
 ·intro s1 y3 E W h hI
  obtain ⟨hE,hS⟩:=hI
  refine CW.sub hE ?_
  unfold f7w at h
  refine .seq (.g (.q z (.q z (.s (lenv (hS.keep q_0) T.u104 z z) z (.q z (.nil ?_))))))
  refine .cs z h ?_ ?_ <;> intro h
  ·refine .skip ?_
   have ⟨y4,hy4,h⟩:=bnd h
   refine .seq (CW.via (R':=fun x E' W'=>x = .normal ∧ SubL E' [(0,(sv v_0)),(1,(sv v_1)),(5,.bool y4.1),(6,.int .i64 s1.2.1)] ∧ Sep S w W' [rowV (sv v_1) 175 1 (fun (l : List Fact)=>D.row 193 2 (l.map dFact)) y4.2]) ?_ ?_)
   ·have h:=hy4
    refine .block (.seq (.g (.q z (.q z ?_))))
    have ⟨x1,hx1,h⟩:=bnd h
    refine .s (ixv hS.lendv hx1 T.u172 T.t175 z z z) z ?_
    obtain ⟨k1,hS⟩:=Sep.outv hS hx1
    obtain ⟨v1,k1,rfl,hS⟩:=hS.orowv
    obtain ⟨rfl,hS⟩:=hS.onil
    refine .s (lde (hS.p1.hcellsv) T.t175 z z z z z) z ?_
    have ⟨x2,hx2,h⟩:=bnd h
    refine .s (ixv hS.lendv hx2 T.u175 T.t193 z z z) z (.s (fe T.f193_0 z z z) z (.s (lde (RV.flat hS.lendv hx2 z) T.t3 z z z z z) z (.q z (.nil ?_))))
    refine .cs z h ?_ ?_ <;> intro h
    ·refine .exit ?_
     have hS:=Sep.gat (ds:=[.row 193 2 (x1.map dFact)]) (cs:=[(sv v1)]) (L1:=[rowV (sv v1) 193 2 dFact x1]) (.row (.nil)) (hS.to [0,0] z)
     have hS : Sep _ _ _ [rowV (sv v_1) 175 1 (fun (l : List Fact)=>D.row 193 2 (l.map dFact)) s1.2.2]:=Sep.back0v hx1 hS
     cases h
     exact ⟨z,sb z,hS.to [0] z⟩
    refine .skip (.g (.q z (.q z (.q z (.s (ixh hS.p1 hx1 T.u172 T.t175 z z z) z (.s (lde (hS.p1.hcellsv) T.t175 z z z z z) z (.q z ?_)))))))
    have ⟨y5,hy5,h⟩:=bnd h
    refine .c (.call1v hS Tryz.func210 (fca hy5 (hS.keep q_0) hS.lendv) z z ?_ z z z z)
    intro v2 W hS
    refine .qn z (.seq (.rk 10 hS [0,0,0] T.mix ?_))
    intro W hS
    have hT:=hS.to [0,0,0] z
    refine .tp 0 z z hT (by kernel_rfl) (.tp 1 z z hT (by kernel_rfl) ?_)
    have ⟨x3,hx3,h⟩:=bnd h
    refine .ts 2 z (fun W hT=>ixv (hS.keep q_0) hx3 T.u104 T.t126 z z z) hT z (by kernel_rfl) (.ts 3 z (fun W hT=>lde (RV.flat (hT.keep q_0) hx3 z) T.t126 z z z z z) hT z (by kernel_rfl) (.tp 4 z z hT (by kernel_rfl) (.tp 5 z z hT (by kernel_rfl) (.ts 6 z (fun W hT=>ixh hT.p2 hx1 T.u172 T.t175 z z z) hT z (by kernel_rfl) (.ts 7 z (fun W hT=>lde (hT.p2.hcellsv) T.t175 z z z z z) hT z (by kernel_rfl) ?_)))))
    have ⟨y6,hy6,h⟩:=bnd h
    refine .by1 8 z (.call1v hS Tryz.func211 (fbu hy6 hS.p1.lendv) z z ?_ z z z z) (by kernel_rfl)
    intro v3 W hS
    have hT:=hS.to [1,1,1] z
    refine ⟨fun _=>hT,.tp 9 z z hT (by kernel_rfl) (.done (.g (.qn z (.block ?_))) (by kernel_rfl))⟩
    have hS:=Sep.gat (ds:=[.row 193 2 (x1.map dFact)]) (cs:=[(sv v1)]) (L1:=[rowV (sv v1) 193 2 dFact x1]) (.row (.nil)) (hS.to [2,2,0,0] z)
    have hS : Sep _ _ _ [rowV (sv v_1) 175 1 (fun (l : List Fact)=>D.row 193 2 (l.map dFact)) s1.2.2,rowV (sv v3) 193 2 dFact y6,rowV (sv v2) 3 1 (D.int .i64) y5]:=Sep.back0v hx1 hS
    have ⟨y7,hy7,h⟩:=bnd h
    refine .via (.iter (fun s2 E' W'=>SubL E' [(0,(sv v_0)),(1,(sv v_1)),(5,.bool s2.1),(6,.int .i64 s1.2.1),(7,(sv v2)),(8,(sv v3)),(9,.int .i64 s2.2.1)] ∧ Sep S w W' [rowV (sv v_1) 175 1 (fun (l : List Fact)=>D.row 193 2 (l.map dFact)) s2.2.2,rowV (sv v3) 193 2 dFact y6,rowV (sv v2) 3 1 (D.int .i64) y5]) (fun y8 x E' W'=>x = .exit 2 ∧ SubL E' [(0,(sv v_0)),(1,(sv v_1)),(5,.bool y8.1),(6,.int .i64 s1.2.1)] ∧ Sep S w W' [rowV (sv v_1) 175 1 (fun (l : List Fact)=>D.row 193 2 (l.map dFact)) y8.2,rowV (sv v3) 193 2 dFact y6,rowV (sv v2) 3 1 (D.int .i64) y5]) hy7 ⟨sb z,hS.to [0,0,0] z⟩ ?_) ?_
    ·intro s2 y9 E W h hI
     obtain ⟨hE,hS⟩:=hI
     refine CW.sub hE ?_
     unfold f88 at h
     refine .seq (.g (.q z (.q z (.s (lenv hS.p2.lendv T.u25 z z) z (.qn z (.cond z (fun hb=>?_) (fun hb=>?_)))))))
     ·have h:=sel_t hb h
      refine .skip ?_
      have ⟨y10,hy10,h⟩:=bnd h
      refine .seq (CW.via (R':=fun x E' W'=>x = .normal ∧ SubL E' [(0,(sv v_0)),(1,(sv v_1)),(5,.bool y10.1),(6,.int .i64 s1.2.1),(7,(sv v2)),(8,(sv v3)),(9,.int .i64 s2.2.1)] ∧ Sep S w W' [rowV (sv v_1) 175 1 (fun (l : List Fact)=>D.row 193 2 (l.map dFact)) y10.2,rowV (sv v3) 193 2 dFact y6,rowV (sv v2) 3 1 (D.int .i64) y5]) ?_ ?_)
      ·have h:=hy10
       refine .block (.g (.q z (.q z (.q z ?_))))
       have ⟨x4,hx4,h⟩:=bnd h
       refine .s (ixv hS.p2.lendv hx4 T.u25 T.t3 z z z) z (.s (lde (RV.flat hS.p2.lendv hx4 z) T.t3 z z z z z) z (.q z ?_))
       have ⟨y11,hy11,h⟩:=bnd h
       refine .c (.callS2 (L0:=[rowV (sv v_1) 175 1 (fun (l : List Fact)=>D.row 193 2 (l.map dFact)) s2.2.2]) hS Tryz.func212 (fun S h1 h2 h3=>(fbi hy11 (h3.rdv (k:=0) z) h2 (zz h1))) z z ?_ z z z z)
       rintro ⟨⟩ W hS
       refine .nil ?_
       refine .cs z h ?_ ?_ <;> intro h
       ·refine .region (.q z (.nil ?_))
        cases h
        exact ⟨z,sb z,hS.to [0,0,0] z⟩
       refine .skip ?_
       cases h
       exact ⟨z,sb z,hS.to [0,0,0] z⟩
      intro x E W hJ
      obtain ⟨rfl,hE,hS⟩:=hJ
      refine ⟨_,hE.sub,?_⟩
      refine .region (.q z (.q z (.q z (.nil ?_))))
      cases h
      exact ⟨z,sb z,hS.to [0,0,0] z⟩
     have h:=sel_f hb h
     refine .exit ?_
     cases h
     exact ⟨by simp,z,sb z,hS.to [0,0,0] z⟩
    intro x E W hJ
    obtain ⟨rfl,hE,hS⟩:=hJ
    refine ⟨_,hE.sub,?_⟩
    cases h
    exact ⟨z,sb z,hS.to [0] z⟩
   intro x E W hJ
   obtain ⟨rfl,hE,hS⟩:=hJ
   refine ⟨_,hE.sub,?_⟩
   refine .region (.q z (.q z (.q z (.nil ?_))))
   cases h
   exact ⟨z,sb z,hS.to [0] z⟩
  refine .exit ?_
  cases h
  exact ⟨by simp,z,sb z,hS.to [0] z⟩
 intro x E W hJ
 obtain ⟨rfl,hE,hS⟩:=hJ
 refine ⟨_,hE.sub,?_⟩
 cases h
 exact .g (.q z (.qn z (.ret (fin_ret (vs:=[_]) () (rt z rn) z (hS.to [0] z)))))
theorem fcn {a0 : List Quad} {v_0 : Hd} {w : World} {r : (List (List Fact))} (h : f6u a0 = some r) (q_0 : RV w (Old No w) (sv v_0) 126 5 dQuad a0) : Calls Tryz.prog 181 #[(sv v_0)] w (Ret No w (fun s : Hd=>(sv s)) (fun s=>[rowV (sv s) 175 1 (fun (l : List Fact)=>D.row 193 2 (l.map dFact)) r])):=by
 unfold f6u at h
 refine enter Tryz.func181 z z ?_
 have hS:=Sep.start w
 refine .g (.qn z (.g (.c (.ligv (L1:=[]) [] (fun (l : List Fact)=>D.row 193 2 (l.map dFact)) T.u172 T.t175 (hS.to [] z) z z z (.nil) ?_ z (fun _=>z) z z z z z))))
 intro v1 W hS
 refine .qn z (.seq (.g (.q z ?_)))
 have ⟨y1,hy1,h⟩:=bnd h
 refine .c (.call0 hS Tryz.func151 (f0u hy1 (hS.keep q_0)) z z ?_ z z z z)
 intro W hS
 refine .qn z (.cond z (fun hb=>?_) (fun hb=>?_))
 ·have h:=sel_t hb h
  cases h
  exact .g (.q z (.qn z (.ret (fin_ret (vs:=[_]) v1 (rt z rn) z (hS.to [0] z)))))
 have h:=sel_f hb h
 refine .skip (.seq (.g (.qn z (.block ?_))))
 have ⟨y2,hy2,h⟩:=bnd h
 refine .via (.iter (fun s1 E' W'=>∃ (v4 : Hd),SubL E' [(0,(sv v_0)),(3,(sv v4)),(4,.int .i64 s1.2)] ∧ Sep No w W' [rowV (sv v4) 175 1 (fun (l : List Fact)=>D.row 193 2 (l.map dFact)) s1.1]) (fun y3 x E' W'=>x = .exit 0 ∧ ∃ (v5 : Hd),SubL E' [(0,(sv v_0)),(3,(sv v5))] ∧ Sep No w W' [rowV (sv v5) 175 1 (fun (l : List Fact)=>D.row 193 2 (l.map dFact)) y3]) hy2 ⟨v1,sb z,hS.to [0] z⟩ ?_) ?_
 ·intro s1 y4 E W h hI
  obtain ⟨v3,hE,hS⟩:=hI
  refine CW.sub hE ?_
  unfold f8m at h
  refine .seq (.g (.q z (.q z (.s (lenv (hS.keep q_0) T.u104 z z) z (.q z (.nil ?_))))))
  refine .cs z h ?_ ?_ <;> intro h
  ·refine .skip (.seq (.block (.region (.q z ?_))))
   have ⟨r1,hr1,h⟩:=bnd h
   refine .c (.mkv (Fact.mk 0 0) dFact hr1 T.u175 T.t193 hS z z z z z (fun _=>z) ?_ z z z)
   intro v6 W hS
   refine .c (.ligv (L1:=[rowV (sv v6) 193 2 dFact r1]) [r1] (fun (l : List Fact)=>D.row 193 2 (l.map dFact)) T.u172 T.t175 (hS.to [0,0] z) z z z (.row (.nil)) ?_ z (fun _=>z) z z z z z)
   intro v7 W hS
   have ⟨r2,hr2,h⟩:=bnd h
   refine .c (.appv hr2 (hS.to [1,0] z) T.u172 T.t175 z z z ?_ z z z z z)
   intro v8 W hS
   refine .qn z (.region (.q z (.q z (.q z (.nil ?_)))))
   cases h
   exact ⟨z,v8,sb z,hS.to [0] z⟩
  refine .exit ?_
  cases h
  exact ⟨by simp,z,v3,sb z,hS.to [0] z⟩
 intro x E W hJ
 obtain ⟨rfl,v9,hE,hS⟩:=hJ
 refine ⟨_,hE.sub,?_⟩
 refine .seq (.g (.qn z (.block ?_)))
 have ⟨y5,hy5,h⟩:=bnd h
 refine .via (.iter (fun s2 E' W'=>SubL E' [(0,(sv v_0)),(3,(sv v9)),(5,.int .i64 s2.1)] ∧ Sep No w W' [rowV (sv v9) 175 1 (fun (l : List Fact)=>D.row 193 2 (l.map dFact)) s2.2]) (fun y6 x E' W'=>x = .exit 2 ∧ SubL E' [(0,(sv v_0)),(3,(sv v9))] ∧ Sep No w W' [rowV (sv v9) 175 1 (fun (l : List Fact)=>D.row 193 2 (l.map dFact)) y6]) hy5 ⟨sb z,hS.to [0] z⟩ ?_) ?_
 ·intro s2 y7 E W h hI
  obtain ⟨hE,hS⟩:=hI
  refine CW.sub hE ?_
  unfold f8o at h
  refine .seq (.g (.q z (.q z (.nil ?_))))
  refine .cs z h ?_ ?_ <;> intro h
  ·refine .skip (.seq (.block (.region (.q z ?_))))
   have ⟨x1,hx1,h⟩:=bnd h
   refine .s (ixv hS.lendv hx1 T.u172 T.t175 z z z) z ?_
   obtain ⟨k1,hS⟩:=Sep.outv hS hx1
   obtain ⟨v10,k1,rfl,hS⟩:=hS.orowv
   obtain ⟨rfl,hS⟩:=hS.onil
   refine .s (lde (hS.p1.hcellsv) T.t175 z z z z z) z (.q z (.s (bs T.s193 z z) z ?_))
   have ⟨x2,hx2,h⟩:=bnd h
   refine .s (ixv hS.lendv hx2 T.u175 T.t193 z z z) z ?_
   have ⟨r3,hr3,h⟩:=bnd h
   refine .c (.sev hr3 hx2 hS T.t193 z z z z z z ?_ z z z z z z)
   intro W hS
   refine .nil (.region (.q z (.q z (.q z (.nil ?_)))))
   have hS:=Sep.gat (ds:=[.row 193 2 (r3.map dFact)]) (cs:=[(sv v10)]) (L1:=[rowV (sv v10) 193 2 dFact r3]) (.row (.nil)) (hS.to [0,0] z)
   have hS : Sep _ _ _ [rowV (sv v9) 175 1 (fun (l : List Fact)=>D.row 193 2 (l.map dFact)) (s2.2.set (Int.toNat 0) r3)]:=hS.backv
   cases h
   exact ⟨z,sb z,hS.to [0] z⟩
  refine .exit ?_
  cases h
  exact ⟨by simp,z,sb z,hS.to [0] z⟩
 intro x E W hJ
 obtain ⟨rfl,hE,hS⟩:=hJ
 refine ⟨_,hE.sub,?_⟩
 refine .seq (.block ?_)
 have ⟨y8,hy8,h⟩:=bnd h
 refine .via (.iter (fun s3 E' W'=>SubL E' [(0,(sv v_0)),(3,(sv v9))] ∧ Sep No w W' [rowV (sv v9) 175 1 (fun (l : List Fact)=>D.row 193 2 (l.map dFact)) s3]) (fun y9 x E' W'=>x = .exit 4 ∧ SubL E' [(3,(sv v9))] ∧ Sep No w W' [rowV (sv v9) 175 1 (fun (l : List Fact)=>D.row 193 2 (l.map dFact)) y9]) hy8 ⟨sb z,hS.to [0] z⟩ ?_) ?_
 ·intro s3 y10 E W h hI
  obtain ⟨hE,hS⟩:=hI
  refine CW.sub hE ?_
  unfold f8k at h
  refine .seq (.g (.q z (.q z ?_)))
  have ⟨y11,hy11,h⟩:=bnd h
  refine .c (.callS2 (L0:=[rowV (sv v9) 175 1 (fun (l : List Fact)=>D.row 193 2 (l.map dFact)) s3]) hS Tryz.func200 (fun S h1 h2 h3=>(fbm hy11 (hS.keepS q_0 h1) h2 (zz h1))) z z ?_ z z z z)
  rintro ⟨⟩ W hS
  refine .nil ?_
  refine .cs z h ?_ ?_ <;> intro h
  ·refine .skip (.block (.skip ?_))
   cases h
   exact ⟨z,sb z,hS.to [0] z⟩
  refine .exit ?_
  cases h
  exact ⟨by simp,z,sb z,hS.to [0] z⟩
 intro x E W hJ
 obtain ⟨rfl,hE,hS⟩:=hJ
 refine ⟨_,hE.sub,?_⟩
 obtain rfl:=Option.some.inj h
 exact .g (.q z (.qn z (.ret (fin_ret (vs:=[_]) v9 (rt z rn) z (hS.to [0] z)))))
theorem f3a {a0 : Fact} {a1 : Int} {w : World} {r : Bool} (h : f2s a0 a1 = some r) : Calls Tryz.prog 202 #[.agg #[.int .i64 a0.Kind,.int .i64 a0.N],.int .i64 a1] w (Ret No w (fun s : Unit=>.bool r) (fun s=>[])):=by
 unfold f2s at h
 refine enter Tryz.func202 z z ?_
 have hS:=Sep.start w
 refine .g (.c (.box hS z z ?_ z z))
 intro g1 W hS
 refine .qn z (.g (.s (fa T.f193_0 z z z) z (.s (ld T.t3 hS z z z z z) z (.q z (.q z (.chunk 5 13 ((a0.Kind == 1) && (a0.N == a1)) hS ?_ ?_))))))
 ·refine .both (a0.Kind == 1) (fun hb=>?_) (fun hb=>?_)
  ·have hg1:=hb
   exact .g hg1 (.s (fa T.f193_1 z z z) z (.g hg1 (.s (ld T.t3 hS z z z z z) z (.g hg1 (.q z (.g hg1 (.q z (.s (pkt hg1 z z z) z (.nil (ck 5 hS z (and_t hg1) z z)))) z)) z)) z)) z
  exact .xx hb z (.xx hb z (.xx hb z (.xx hb z (.s (pkf hb z z z) z (.nil (ck 5 hS z (and_f hb) z z))))))
 intro W hS
 cases h
 exact .qn z (.ret (fin_ret (vs:=[_]) () (rt z rn) z (hS.to [] z)))
def fdo (w : World) (r : Bool) : Env → World → Prop:=Fin Tryz.prog Tryz.f220 No w (fun s : Unit=>.bool r) (fun s=>[]) .ret
theorem fdk {a0 : List Int} {a1 : Int} {v_0 : Hd} {w : World} {r : Bool} (h : f7i a0 a1 = some r) (q_0 : RV w (Old No w) (sv v_0) 3 1 (D.int .i64) a0) : Calls Tryz.prog 220 #[(sv v_0),.int .i64 a1] w (Ret No w (fun s : Unit=>.bool r) (fun s=>[])):=by
 unfold f7i at h
 refine enter Tryz.func220 z z ?_
 have hS:=Sep.start w
 refine .g (.qn z (.seq (.g (.qn z (.block ?_)))))
 have ⟨y1,hy1,h⟩:=bnd h
 refine .via (.iter (fun s1 E' W'=>SubL E' [(0,(sv v_0)),(1,.int .i64 a1),(5,.int .i64 s1)] ∧ Sep No w W' []) (fun y2 x E' W'=>(match y2 with | .inl o1=>x = .ret ∧ fdo w o1 E' W' | .inr o2=>x = .exit 0 ∧ SubL E' [] ∧ Sep No w W' [])) hy1 ⟨sb rfl,hS.to [] rfl⟩ ?_) ?_
 ·intro s1 y3 E W h hI
  obtain ⟨hE,hS⟩:=hI
  refine CW.sub hE ?_
  unfold f93 at h
  refine .seq (.g (.q z (.q z (.s (lenv (hS.keep q_0) T.u25 z z) z (.q z (.nil ?_))))))
  refine .cs z h ?_ ?_ <;> intro h
  ·refine .skip (.seq (.block (.g (.q z (.q z ?_)))))
   have ⟨x1,hx1,h⟩:=bnd h
   refine .s (ixv (hS.keep q_0) hx1 T.u25 T.t3 z z z) z (.s (lde (RV.flat (hS.keep q_0) hx1 z) T.t3 z z z z z) z (.q z (.q z (.nil ?_))))
   refine .cs z h ?_ ?_ <;> intro h
   ·refine .g (.qn z (.ret ?_))
    cases h
    exact ⟨by simp,z,fin_ret (vs:=[_]) () (rt z rn) z (hS.to [] z)⟩
   refine .skip (.region (.q z (.q z (.q z (.nil ?_)))))
   cases h
   exact ⟨z,sb z,hS.to [] z⟩
  refine .exit ?_
  cases h
  exact ⟨by simp,z,sb z,hS.to [] z⟩
 intro x E W hJ
 rcases y1 with o3 | o4
 ·obtain ⟨rfl,hF⟩:=hJ
  refine ⟨_,fun _ _ h=>h,?_⟩
  cases h
  exact hF
 obtain ⟨rfl,hE,hS⟩:=hJ
 refine ⟨_,hE.sub,?_⟩
 obtain rfl:=Option.some.inj h
 exact .g (.qn z (.ret (fin_ret (vs:=[_]) () (rt z rn) z (hS.to [] z))))
theorem f76 {a0 : Int} {a1 : List Int} {v_1 : Hd} {w : World} {r : Bool} (h : f3f a0 a1 = some r) (q_1 : RV w (Old No w) (sv v_1) 3 1 (D.int .i64) a1) : Calls Tryz.prog 214 #[.int .i64 a0,(sv v_1)] w (Ret No w (fun s : Unit=>.bool r) (fun s=>[])):=by
 unfold f3f at h
 refine enter Tryz.func214 z z ?_
 have hS:=Sep.start w
 refine .g (.qn z (.g (.q z (.q z ?_))))
 have ⟨y1,hy1,h⟩:=bnd h
 refine .c (.call0 hS Tryz.func220 (fdk hy1 (hS.keep q_1)) z z ?_ z z z z)
 intro W hS
 obtain rfl:=Option.some.inj h
 exact .qn z (.ret (fin_ret (vs:=[_]) () (rt z rn) z (hS.to [] z)))
theorem fdg {a0 : Quad} {a1 : Fact} {a2 : Fact} {w : World} {r : Quad} (h : f7n a0 a1 a2 = some r) : Calls Tryz.prog 201 #[.agg #[.int .i64 a0.Op,.int .i64 a0.Dst,.int .i64 a0.A,.int .i64 a0.B,.int .i64 a0.N],.agg #[.int .i64 a1.Kind,.int .i64 a1.N],.agg #[.int .i64 a2.Kind,.int .i64 a2.N]] w (Ret No w (fun s : Unit=>.agg #[.int .i64 r.Op,.int .i64 r.Dst,.int .i64 r.A,.int .i64 r.B,.int .i64 r.N]) (fun s=>[])):=by
 unfold f7n at h
 refine enter Tryz.func201 z z ?_
 have hS:=Sep.start w
 refine .g (.c (.box hS z z ?_ z z))
 intro g1 W hS
 refine .c (.box hS z z ?_ z z)
 intro g2 W hS
 refine .c (.box hS z z ?_ z z)
 intro g3 W hS
 refine .c (.alloc T.t126 hS ?_ z z z)
 intro g4 W hS
 refine .nil (.g (.s (ld T.t126 hS.p3 z z z z z) z (.s (ld T.t193 hS.p2 z z z z z) z (.s (ld T.t193 hS.p1 z z z z z) z ?_))))
 have ⟨y1,hy1,h⟩:=bnd h
 refine .c (.call0 hS Tryz.func213 (f9d hy1) z z ?_ z z z z)
 intro W hS
 refine .c (.alloc T.t193 hS ?_ z z z)
 intro g5 W hS
 refine .c (.st T.t193 hS z z z ?_ z z z z z)
 intro W hS
 refine .nil (.seq (.block (.g (.s (fa T.f193_0 z z z) z (.s (ld T.t3 hS z z z z z) z (.q z (.q z (.nil ?_))))))))
 refine .cs z h ?_ ?_ <;> intro h
 ·refine .g (.s (fa T.f126_1 z z z) z (.s (ld T.t3 hS.p4 z z z z z) z (.s (fa T.f193_1 z z z) z (.s (ld T.t3 hS z z z z z) z (.s (bs T.s126 z z) z (.c (.st T.t126 hS.p1 z z z ?_ z z z z z)))))))
  intro W hS
  cases h
  exact .nil (.ret (fin_ret (vs:=[_]) () (rc hS T.t126 z rn z z) z (hS.to [] z)))
 refine .g (.s (ld T.t193 hS.p2 z z z z z) z ?_)
 have ⟨y2,hy2,h⟩:=bnd h
 refine .c (.call0 hS Tryz.func202 (f3a hy2) z z ?_ z z z z)
 intro W hS
 refine .q z ?_
 have ⟨b1,hb1,h⟩:=bnd h
 refine .chunk 5 29 (b1) hS ?_ ?_
 ·refine .both (y2) (fun hb=>?_) (fun hb=>?_)
  ·have hg1:=hb
   have h:=sel_t hb hb1
   refine .g hg1 (.s (fa T.f126_4 z z z) z (.g hg1 (.s (ld T.t3 hS.p4 z z z z z) z (.g hg1 (.c (.liv [1,2,6,7,8,9] (D.int .i64) T.u25 T.t3 hS z z z z ?_ z (fun _=>z) z z z z)) z)) z)) z
   intro v1 W hS
   have ⟨y3,hy3,h⟩:=bnd h
   refine .g hg1 (.c (.call0 hS Tryz.func214 (f76 hy3 hS.lendv) z z ?_ z z z z)) z
   intro W hS
   refine .s (pkt hg1 z z z) z ?_
   cases h
   exact .nil (ck 5 (hS.to [1,1,1,1,1] z) z z z z)
  refine .xx hb z (.xx hb z (.xx hb z (.xx hb z ?_)))
  cases sel_f hb hb1
  exact .s (pkf hb z z z) z (.nil (ck 5 hS z z z z))
 intro W hS
 refine .q z (.nil ?_)
 refine .cs z h ?_ ?_ <;> intro h
 ·refine .g (.s (fa T.f126_1 z z z) z (.s (ld T.t3 hS.p4 z z z z z) z (.s (fa T.f126_2 z z z) z (.s (ld T.t3 hS.p4 z z z z z) z (.s (bs T.s126 z z) z (.c (.st T.t126 hS.p1 z z z ?_ z z z z z)))))))
  intro W hS
  cases h
  exact .nil (.ret (fin_ret (vs:=[_]) () (rc hS T.t126 z rn z z) z (hS.to [] z)))
 refine .g (.s (ld T.t193 hS.p2 z z z z z) z ?_)
 have ⟨y4,hy4,h⟩:=bnd h
 refine .c (.call0 hS Tryz.func202 (f3a hy4) z z ?_ z z z z)
 intro W hS
 refine .q z ?_
 have ⟨b2,hb2,h⟩:=bnd h
 refine .chunk 5 43 (b2) hS ?_ ?_
 ·refine .both (y4) (fun hb=>?_) (fun hb=>?_)
  ·have hg2:=hb
   have h:=sel_t hb hb2
   refine .g hg2 (.s (fa T.f126_4 z z z) z (.g hg2 (.s (ld T.t3 hS.p4 z z z z z) z (.g hg2 (.c (.liv [10,11] (D.int .i64) T.u25 T.t3 hS z z z z ?_ z (fun _=>z) z z z z)) z)) z)) z
   intro v2 W hS
   have ⟨y5,hy5,h⟩:=bnd h
   refine .g hg2 (.c (.call0 hS Tryz.func214 (f76 hy5 hS.lendv) z z ?_ z z z z)) z
   intro W hS
   refine .s (pkt hg2 z z z) z ?_
   cases h
   exact .nil (ck 5 (hS.to [1,1,1,1,1] z) z z z z)
  refine .xx hb z (.xx hb z (.xx hb z (.xx hb z ?_)))
  cases sel_f hb hb2
  exact .s (pkf hb z z z) z (.nil (ck 5 hS z z z z))
 intro W hS
 refine .q z (.nil ?_)
 refine .cs z h ?_ ?_ <;> intro h
 ·refine .g (.s (fa T.f126_1 z z z) z (.s (ld T.t3 hS.p4 z z z z z) z (.s (fa T.f126_2 z z z) z (.s (ld T.t3 hS.p4 z z z z z) z (.s (bs T.s126 z z) z (.c (.st T.t126 hS.p1 z z z ?_ z z z z z)))))))
  intro W hS
  cases h
  exact .nil (.ret (fin_ret (vs:=[_]) () (rc hS T.t126 z rn z z) z (hS.to [] z)))
 refine .g (.s (ld T.t193 hS.p3 z z z z z) z ?_)
 have ⟨y6,hy6,h⟩:=bnd h
 refine .c (.call0 hS Tryz.func202 (f3a hy6) z z ?_ z z z z)
 intro W hS
 refine .q z ?_
 have ⟨b3,hb3,h⟩:=bnd h
 refine .chunk 5 57 (b3) hS ?_ ?_
 ·refine .both (y6) (fun hb=>?_) (fun hb=>?_)
  ·have hg3:=hb
   have h:=sel_t hb hb3
   refine .g hg3 (.s (fa T.f126_4 z z z) z (.g hg3 (.s (ld T.t3 hS.p4 z z z z z) z (.g hg3 (.c (.liv [1,2,8] (D.int .i64) T.u25 T.t3 hS z z z z ?_ z (fun _=>z) z z z z)) z)) z)) z
   intro v3 W hS
   have ⟨y7,hy7,h⟩:=bnd h
   refine .g hg3 (.c (.call0 hS Tryz.func214 (f76 hy7 hS.lendv) z z ?_ z z z z)) z
   intro W hS
   refine .s (pkt hg3 z z z) z ?_
   cases h
   exact .nil (ck 5 (hS.to [1,1,1,1,1] z) z z z z)
  refine .xx hb z (.xx hb z (.xx hb z (.xx hb z ?_)))
  cases sel_f hb hb3
  exact .s (pkf hb z z z) z (.nil (ck 5 hS z z z z))
 intro W hS
 refine .q z (.nil ?_)
 refine .cs z h ?_ ?_ <;> intro h
 ·refine .g (.s (fa T.f126_1 z z z) z (.s (ld T.t3 hS.p4 z z z z z) z (.s (fa T.f126_3 z z z) z (.s (ld T.t3 hS.p4 z z z z z) z (.s (bs T.s126 z z) z (.c (.st T.t126 hS.p1 z z z ?_ z z z z z)))))))
  intro W hS
  cases h
  exact .nil (.ret (fin_ret (vs:=[_]) () (rc hS T.t126 z rn z z) z (hS.to [] z)))
 refine .g (.s (ld T.t193 hS.p3 z z z z z) z ?_)
 have ⟨y8,hy8,h⟩:=bnd h
 refine .c (.call0 hS Tryz.func202 (f3a hy8) z z ?_ z z z z)
 intro W hS
 refine .q z (.chunk 4 70 (y8 && (a0.N == 10)) hS ?_ ?_)
 ·refine .both (y8) (fun hb=>?_) (fun hb=>?_)
  ·have hg4:=hb
   exact .g hg4 (.s (fa T.f126_4 z z z) z (.g hg4 (.s (ld T.t3 hS.p4 z z z z z) z (.g hg4 (.q z (.s (pkt hg4 z z z) z (.nil (ck 4 hS z (and_t hg4) z z)))) z)) z)) z
  exact .xx hb z (.xx hb z (.xx hb z (.s (pkf hb z z z) z (.nil (ck 4 hS z (and_f hb) z z)))))
 intro W hS
 refine .q z (.nil ?_)
 refine .cs z h ?_ ?_ <;> intro h
 ·refine .g (.s (fa T.f126_1 z z z) z (.s (ld T.t3 hS.p4 z z z z z) z (.s (fa T.f126_3 z z z) z (.s (ld T.t3 hS.p4 z z z z z) z (.s (bs T.s126 z z) z (.c (.st T.t126 hS.p1 z z z ?_ z z z z z)))))))
  intro W hS
  cases h
  exact .nil (.ret (fin_ret (vs:=[_]) () (rc hS T.t126 z rn z z) z (hS.to [] z)))
 refine .g (.s (ld T.t193 hS.p3 z z z z z) z ?_)
 have ⟨y9,hy9,h⟩:=bnd h
 refine .c (.call0 hS Tryz.func202 (f3a hy9) z z ?_ z z z z)
 intro W hS
 refine .q z ?_
 have ⟨b4,hb4,h⟩:=bnd h
 refine .chunk 3 82 (b4) hS ?_ ?_
 ·refine .both (y9) (fun hb=>?_) (fun hb=>?_)
  ·refine .xx hb z (.xx hb z ?_)
   cases sel_t hb hb4
   exact .s (pkt hb z z z) z (.nil (ck 3 hS z z z z))
  have hg5:=hb
  have h:=sel_f hb hb4
  refine .g hg5 (.s (ld T.t193 hS.p2 z z z z z) z ?_) z
  have ⟨y10,hy10,h⟩:=bnd h
  refine .g hg5 (.c (.call0 hS Tryz.func202 (f3a hy10) z z ?_ z z z z)) z
  intro W hS
  refine .s (pkf hg5 z z z) z ?_
  cases h
  exact .nil (ck 3 hS z z z z)
 intro W hS
 refine .q z ?_
 have ⟨b5,hb5,h⟩:=bnd h
 refine .chunk 5 88 (b5) hS ?_ ?_
 ·refine .both (b4) (fun hb=>?_) (fun hb=>?_)
  ·have hg6:=hb
   have h:=sel_t hb hb5
   refine .g hg6 (.s (fa T.f126_4 z z z) z (.g hg6 (.s (ld T.t3 hS.p4 z z z z z) z (.g hg6 (.c (.liv [3,10] (D.int .i64) T.u25 T.t3 hS z z z z ?_ z (fun _=>z) z z z z)) z)) z)) z
   intro v4 W hS
   have ⟨y11,hy11,h⟩:=bnd h
   refine .g hg6 (.c (.call0 hS Tryz.func214 (f76 hy11 hS.lendv) z z ?_ z z z z)) z
   intro W hS
   refine .s (pkt hg6 z z z) z ?_
   cases h
   exact .nil (ck 5 (hS.to [1,1,1,1,1] z) z z z z)
  refine .xx hb z (.xx hb z (.xx hb z (.xx hb z ?_)))
  cases sel_f hb hb5
  exact .s (pkf hb z z z) z (.nil (ck 5 hS z z z z))
 intro W hS
 refine .q z (.nil ?_)
 refine .cs z h ?_ ?_ <;> intro h
 ·refine .g (.s (fa T.f126_1 z z z) z (.s (ld T.t3 hS.p4 z z z z z) z (.s (bs T.s126 z z) z (.c (.st T.t126 hS.p1 z z z ?_ z z z z z)))))
  intro W hS
  cases h
  exact .nil (.ret (fin_ret (vs:=[_]) () (rc hS T.t126 z rn z z) z (hS.to [] z)))
 refine .skip (.g (.s (ld T.t126 hS.p4 z z z z z) z (.c (.st T.t126 hS.p1 z z z ?_ z z z z z))))
 intro W hS
 obtain rfl:=Option.some.inj h
 exact .nil (.ret (fin_ret (vs:=[_]) () (rc hS T.t126 z rn z z) z (hS.to [] z)))
theorem fcp {a0 : Quad} {a1 : List Fact} {a2 : Int} {v_1 : Hd} {w : World} {r : Quad} (h : f6v a0 a1 a2 = some r) (q_1 : RV w (Old No w) (sv v_1) 193 2 dFact a1) : Calls Tryz.prog 182 #[.agg #[.int .i64 a0.Op,.int .i64 a0.Dst,.int .i64 a0.A,.int .i64 a0.B,.int .i64 a0.N],(sv v_1),.int .i64 a2] w (Ret No w (fun s : Unit=>.agg #[.int .i64 r.Op,.int .i64 r.Dst,.int .i64 r.A,.int .i64 r.B,.int .i64 r.N]) (fun s=>[])):=by
 unfold f6v at h
 refine enter Tryz.func182 z z ?_
 have hS:=Sep.start w
 refine .g (.c (.box hS z z ?_ z z))
 intro g1 W hS
 refine .c (.alloc T.t126 hS ?_ z z z)
 intro g2 W hS
 refine .nil (.seq (.g (.q z ?_)))
 have ⟨x1,hx1,h⟩:=bnd h
 refine .s (ixv (hS.keep q_1) hx1 T.u175 T.t193 z z z) z (.s (fe T.f193_0 z z z) z (.s (lde (RV.flat (hS.keep q_1) hx1 z) T.t3 z z z z z) z (.q z (.nil ?_))))
 refine .cs z h ?_ ?_ <;> intro h
 ·refine .g (.s (ld T.t126 hS.p1 z z z z z) z (.c (.st T.t126 hS z z z ?_ z z z z z)))
  intro W hS
  obtain rfl:=Option.some.inj h
  exact .nil (.ret (fin_ret (vs:=[_]) () (rc hS T.t126 z rn z z) z (hS.to [] z)))
 refine .skip (.seq (.g (.s (fa T.f126_0 z z z) z (.s (ld T.t3 hS.p1 z z z z z) z (.nil (.block (.g (.q z (.q z (.nil ?_))))))))))
 refine .cs z h ?_ ?_ <;> intro h
 ·refine .g (.q z (.s (fa T.f126_2 z z z) z (.s (ld T.t3 hS.p1 z z z z z) z ?_)))
  have ⟨x2,hx2,h⟩:=bnd h
  refine .s (ixv (hS.keep q_1) hx2 T.u175 T.t193 z z z) z (.s (fe T.f193_0 z z z) z (.s (lde (RV.flat (hS.keep q_1) hx2 z) T.t3 z z z z z) z (.q z (.nil ?_))))
  refine .cs z h ?_ ?_ <;> intro h
  ·refine .seq (.rk 9 hS [0,0] T.mix ?_)
   intro W hS
   have hT:=hS.to [0,0] z
   refine .ts 0 z (fun W hT=>fa T.f126_1 z z z) hT z (by kernel_rfl) (.ts 1 z (fun W hT=>ld T.t3 hT.p1 z z z z z) hT z (by kernel_rfl) (.tp 2 z z hT (by kernel_rfl) (.ts 3 z (fun W hT=>fa T.f126_2 z z z) hT z (by kernel_rfl) (.ts 4 z (fun W hT=>ld T.t3 hT.p1 z z z z z) hT z (by kernel_rfl) ?_))))
   have ⟨x3,hx3,h⟩:=bnd h
   refine .ts 5 z (fun W hT=>ixv (hS.keep q_1) hx3 T.u175 T.t193 z z z) hT z (by kernel_rfl) (.ts 6 z (fun W hT=>fe T.f193_1 z z z) hT z (by kernel_rfl) (.ts 7 z (fun W hT=>lde (RV.flat (hT.keep q_1) hx3 z) T.t3 z z z z z) hT z (by kernel_rfl) (.ts 8 z (fun W hT=>bs T.s126 z z) hT z (by kernel_rfl) (.by1 9 z (.st T.t126 hS z z z ?_ z z z z z) (by kernel_rfl)))))
   intro W hS
   refine ⟨fun h=>absurd z h,?_⟩
   cases h
   exact .done (.ret (fin_ret (vs:=[_]) () (rc hS T.t126 z rn z z) z (hS.to [] z))) (by kernel_rfl)
  refine .skip (.g (.s (ld T.t126 hS.p1 z z z z z) z (.c (.st T.t126 hS z z z ?_ z z z z z))))
  intro W hS
  obtain rfl:=Option.some.inj h
  exact .nil (.ret (fin_ret (vs:=[_]) () (rc hS T.t126 z rn z z) z (hS.to [] z)))
 refine .g (.q z (.q z (.nil ?_)))
 refine .cs z h ?_ ?_ <;> intro h
 ·refine .seq (.rk 12 hS [0,0] T.mix ?_)
  intro W hS
  have hT:=hS.to [0,0] z
  refine .ts 0 z (fun W hT=>ld T.t126 hT.p1 z z z z z) hT z (by kernel_rfl) (.tp 1 z z hT (by kernel_rfl) (.ts 2 z (fun W hT=>fa T.f126_2 z z z) hT z (by kernel_rfl) (.ts 3 z (fun W hT=>ld T.t3 hT.p1 z z z z z) hT z (by kernel_rfl) ?_)))
  have ⟨x4,hx4,h⟩:=bnd h
  refine .ts 4 z (fun W hT=>ixv (hS.keep q_1) hx4 T.u175 T.t193 z z z) hT z (by kernel_rfl) (.ts 5 z (fun W hT=>lde (RV.flat (hT.keep q_1) hx4 z) T.t193 z z z z z) hT z (by kernel_rfl) (.tp 6 z z hT (by kernel_rfl) (.ts 7 z (fun W hT=>fa T.f126_3 z z z) hT z (by kernel_rfl) (.ts 8 z (fun W hT=>ld T.t3 hT.p1 z z z z z) hT z (by kernel_rfl) ?_))))
  have ⟨x5,hx5,h⟩:=bnd h
  refine .ts 9 z (fun W hT=>ixv (hS.keep q_1) hx5 T.u175 T.t193 z z z) hT z (by kernel_rfl) (.ts 10 z (fun W hT=>lde (RV.flat (hT.keep q_1) hx5 z) T.t193 z z z z z) hT z (by kernel_rfl) ?_)
  have ⟨y1,hy1,h⟩:=bnd h
  refine .by1 11 z (.call0 hS Tryz.func201 (fdg hy1) z z ?_ z z z z) (by kernel_rfl)
  intro W hS
  have hT:=hS.to [0,0] z
  refine ⟨fun _=>hT,.by1 12 z (.st T.t126 hS z z z ?_ z z z z z) (by kernel_rfl)⟩
  intro W hS
  refine ⟨fun h=>absurd z h,?_⟩
  obtain rfl:=Option.some.inj h
  exact .done (.ret (fin_ret (vs:=[_]) () (rc hS T.t126 z rn z z) z (hS.to [] z))) (by kernel_rfl)
 refine .g (.q z (.q z (.nil ?_)))
 refine .cs z h ?_ ?_ <;> intro h
 ·refine .seq (.g (.q z (.s (fa T.f126_2 z z z) z (.s (ld T.t3 hS.p1 z z z z z) z ?_))))
  have ⟨x6,hx6,h⟩:=bnd h
  refine .s (ixv (hS.keep q_1) hx6 T.u175 T.t193 z z z) z (.s (lde (RV.flat (hS.keep q_1) hx6 z) T.t193 z z z z z) z ?_)
  have ⟨y2,hy2,h⟩:=bnd h
  refine .c (.call0 hS Tryz.func202 (f3a hy2) z z ?_ z z z z)
  intro W hS
  refine .nil ?_
  refine .cs z h ?_ ?_ <;> intro h
  ·refine .g (.s (fa T.f126_4 z z z) z (.s (ld T.t3 hS.p1 z z z z z) z (.s (bs T.s126 z z) z (.c (.st T.t126 hS z z z ?_ z z z z z)))))
   intro W hS
   cases h
   exact .nil (.ret (fin_ret (vs:=[_]) () (rc hS T.t126 z rn z z) z (hS.to [] z)))
  refine .skip (.g (.q z (.s (fa T.f126_2 z z z) z (.s (ld T.t3 hS.p1 z z z z z) z ?_))))
  have ⟨x7,hx7,h⟩:=bnd h
  refine .s (ixv (hS.keep q_1) hx7 T.u175 T.t193 z z z) z (.s (fe T.f193_0 z z z) z (.s (lde (RV.flat (hS.keep q_1) hx7 z) T.t3 z z z z z) z (.q z (.nil ?_))))
  refine .cs z h ?_ ?_ <;> intro h
  ·refine .g (.q z (.q z (.s (bs T.s126 z z) z (.c (.st T.t126 hS z z z ?_ z z z z z)))))
   intro W hS
   cases h
   exact .nil (.ret (fin_ret (vs:=[_]) () (rc hS T.t126 z rn z z) z (hS.to [] z)))
  refine .skip (.g (.s (ld T.t126 hS.p1 z z z z z) z (.c (.st T.t126 hS z z z ?_ z z z z z))))
  intro W hS
  obtain rfl:=Option.some.inj h
  exact .nil (.ret (fin_ret (vs:=[_]) () (rc hS T.t126 z rn z z) z (hS.to [] z)))
 refine .skip (.g (.s (ld T.t126 hS.p1 z z z z z) z (.c (.st T.t126 hS z z z ?_ z z z z z))))
 intro W hS
 obtain rfl:=Option.some.inj h
 exact .nil (.ret (fin_ret (vs:=[_]) () (rc hS T.t126 z rn z z) z (hS.to [] z)))
theorem fcd {a0 : List Quad} {v_0 : Hd} {w : World} {r : (List Quad) × Bool} (h : f5r a0 = some r) (q_0 : RV w (Old No w) (sv v_0) 126 5 dQuad a0) : Calls Tryz.prog 166 #[(sv v_0)] w (Ret No w (fun s : Hd=>.tuple #[(sv s),.bool r.2]) (fun s=>[rowV (sv s) 126 5 dQuad r.1])):=by
 unfold f5r at h
 refine enter Tryz.func166 z z ?_
 have hS:=Sep.start w
 refine .g (.q z (.qn z (.g (.c (.liv [] dQuad T.u104 T.t126 hS z z z z ?_ z (fun _=>z) z z z z)))))
 intro v1 W hS
 refine .qn z (.seq (.g (.q z ?_)))
 have ⟨y1,hy1,h⟩:=bnd h
 refine .c (.call0 hS Tryz.func151 (f0u hy1 (hS.keep q_0)) z z ?_ z z z z)
 intro W hS
 refine .q z (.nil ?_)
 refine .cs z h ?_ ?_ <;> intro h
 ·cases h
  exact .g (.q z (.q z (.qn z (.ret (fin_ret (vs:=[_,_]) v1 (rt z (rt z rn)) z (hS.to [0] z))))))
 refine .skip (.g (.q z ?_))
 have ⟨y2,hy2,h⟩:=bnd h
 refine .c (.call1v hS Tryz.func181 (fcn hy2 (hS.keep q_0)) z z ?_ z z z z)
 intro v2 W hS
 refine .qn z (.seq (.g (.qn z (.block ?_))))
 have ⟨y3,hy3,h⟩:=bnd h
 refine .via (.iter (fun s1 E' W'=>∃ (v5 : Hd),SubL E' [(0,(sv v_0)),(4,(sv v5)),(5,(sv v2)),(6,.int .i64 s1.2)] ∧ Sep No w W' [rowV (sv v2) 175 1 (fun (l : List Fact)=>D.row 193 2 (l.map dFact)) y2,rowV (sv v5) 126 5 dQuad s1.1]) (fun y4 x E' W'=>x = .exit 0 ∧ ∃ (v6 : Hd),SubL E' [(4,(sv v6))] ∧ Sep No w W' [rowV (sv v2) 175 1 (fun (l : List Fact)=>D.row 193 2 (l.map dFact)) y2,rowV (sv v6) 126 5 dQuad y4]) hy3 ⟨v1,sb z,hS.to [0,0] z⟩ ?_) ?_
 ·intro s1 y5 E W h hI
  obtain ⟨v4,hE,hS⟩:=hI
  refine CW.sub hE ?_
  unfold f5c at h
  refine .seq (.g (.q z (.q z (.s (lenv (hS.keep q_0) T.u104 z z) z (.q z (.nil ?_))))))
  refine .cs z h ?_ ?_ <;> intro h
  ·refine .skip (.seq (.block ?_))
   have ⟨x1,hx1,h⟩:=bnd h
   obtain ⟨k1,hS⟩:=Sep.outv hS hx1
   obtain ⟨v7,k1,rfl,hS⟩:=hS.orowv
   obtain ⟨rfl,hS⟩:=hS.onil
   refine .rk 14 hS [0,0] T.mix ?_
   intro W hS
   have hT:=hS.to [0,0] z
   refine .tp 0 z z hT (by kernel_rfl) (.tp 1 z z hT (by kernel_rfl) (.tp 2 z z hT (by kernel_rfl) ?_))
   have ⟨x3,hx3,h⟩:=bnd h
   refine .ts 3 z (fun W hT=>ixv (hS.keep q_0) hx3 T.u104 T.t126 z z z) hT z (by kernel_rfl) (.ts 4 z (fun W hT=>lde (RV.flat (hT.keep q_0) hx3 z) T.t126 z z z z z) hT z (by kernel_rfl) (.tp 5 z z hT (by kernel_rfl) (.tp 6 z z hT (by kernel_rfl) (.ts 7 z (fun W hT=>ixh hT.p1 hx1 T.u172 T.t175 z z z) hT z (by kernel_rfl) (.ts 8 z (fun W hT=>lde (hT.p1.hcellsv) T.t175 z z z z z) hT z (by kernel_rfl) (.tp 9 z z hT (by kernel_rfl) ?_))))))
   have ⟨y7,hy7,h⟩:=bnd h
   refine .by1 10 z (.call0 hS Tryz.func182 (fcp hy7 hS.lendv) z z ?_ z z z z) (by kernel_rfl)
   intro W hS
   have hT:=hS.to [0,0] z
   refine ⟨fun _=>hT,.by1 11 z (.liv [y7] dQuad T.u104 T.t126 hS z z z z ?_ z (fun _=>z) z z z z) (by kernel_rfl)⟩
   intro v10 W hS
   have hT:=hS.to [1,1] z
   refine ⟨fun _=>hT,?_⟩
   have ⟨r2,hr2,h⟩:=bnd h
   have hT0:=hS.p3
   refine .by1 12 z (.apprv hr2 hT0 hT0.p1.lendv (fun _=>z) T.u104 T.t126 z z z ?_ z z z z z) (by kernel_rfl)
   intro v11 W hS
   have hT:=hS.to [2,2] z
   refine ⟨fun _=>hT,.tp 13 z z hT (by kernel_rfl) (.done (.region (.q z (.q z (.q z (.nil ?_))))) (by kernel_rfl))⟩
   have hS:=Sep.gat (ds:=[.row 193 2 (x1.map dFact)]) (cs:=[(sv v7)]) (L1:=[rowV (sv v7) 193 2 dFact x1]) (.row (.nil)) (hS.to [2,2,0,0] z)
   have hS : Sep _ _ _ [rowV (sv v2) 175 1 (fun (l : List Fact)=>D.row 193 2 (l.map dFact)) y2,rowV (sv v11) 126 5 dQuad r2,rowV (sv v10) 126 5 dQuad [y7]]:=Sep.back0v hx1 hS
   cases h
   exact ⟨z,v11,sb z,hS.to [0,0] z⟩
  refine .exit ?_
  cases h
  exact ⟨by simp,z,v4,sb z,hS.to [0,0] z⟩
 intro x E W hJ
 obtain ⟨rfl,v12,hE,hS⟩:=hJ
 refine ⟨_,hE.sub,?_⟩
 cases h
 exact .g (.q z (.q z (.qn z (.ret (fin_ret (vs:=[_,_]) v12 (rt z (rt z rn)) z (hS.to [1] z))))))
theorem f9t {w : World} {r : (List Int)} (h : f4y = some r) : Calls Tryz.prog 203 #[] w (Ret No w (fun s : Hd=>(sv s)) (fun s=>[rowV (sv s) 3 1 (D.int .i64) r])):=by
 unfold f4y at h
 refine enter Tryz.func203 z z ?_
 have hS:=Sep.start w
 refine .g (.qn z (.g (.c (.liv [] (D.int .i64) T.u25 T.t3 hS z z z z ?_ z (fun _=>z) z z z z))))
 intro v1 W hS
 refine .qn z (.seq (.g (.qn z (.block ?_))))
 have ⟨y1,hy1,h⟩:=bnd h
 refine .via (.iter (fun s1 E' W'=>∃ (v4 : Hd),SubL E' [(1,(sv v4)),(2,.int .i64 s1.2)] ∧ Sep No w W' [rowV (sv v4) 3 1 (D.int .i64) s1.1]) (fun y2 x E' W'=>x = .exit 0 ∧ ∃ (v5 : Hd),SubL E' [(1,(sv v5))] ∧ Sep No w W' [rowV (sv v5) 3 1 (D.int .i64) y2]) hy1 ⟨v1,sb z,hS.to [0] z⟩ ?_) ?_
 ·intro s1 y3 E W h hI
  obtain ⟨v3,hE,hS⟩:=hI
  refine CW.sub hE ?_
  unfold f8l at h
  refine .seq (.g (.q z (.q z (.nil ?_))))
  refine .cs z h ?_ ?_ <;> intro h
  ·refine .skip (.seq (.block (.region (.q z (.q z (.c (.liv [s1.2] (D.int .i64) T.u25 T.t3 hS z z z z ?_ z (fun _=>z) z z z z)))))))
   intro v6 W hS
   have ⟨r1,hr1,h⟩:=bnd h
   have hT0:=hS.p1
   refine .c (.apprv hr1 hT0 hT0.p1.lendv (fun _=>z) T.u25 T.t3 z z z ?_ z z z z z)
   intro v7 W hS
   refine .qn z (.region (.q z (.q z (.q z (.nil ?_)))))
   cases h
   exact ⟨z,v7,sb z,hS.to [0] z⟩
  refine .exit ?_
  cases h
  exact ⟨by simp,z,v3,sb z,hS.to [0] z⟩
 intro x E W hJ
 obtain ⟨rfl,v8,hE,hS⟩:=hJ
 refine ⟨_,hE.sub,?_⟩
 obtain rfl:=Option.some.inj h
 exact .g (.q z (.qn z (.ret (fin_ret (vs:=[_]) v8 (rt z rn) z (hS.to [0] z)))))
theorem f7z {a0 : Quad} {w : World} {r : Int} (h : f1s a0 = some r) : Calls Tryz.prog 221 #[.agg #[.int .i64 a0.Op,.int .i64 a0.Dst,.int .i64 a0.A,.int .i64 a0.B,.int .i64 a0.N]] w (Ret No w (fun s : Unit=>.int .i64 r) (fun s=>[])):=by
 unfold f1s at h
 refine enter Tryz.func221 z z ?_
 have hS:=Sep.start w
 refine .g (.c (.box hS z z ?_ z z))
 intro g1 W hS
 refine .qn z (.seq (.g (.s (ld T.t126 hS z z z z z) z ?_)))
 have ⟨y1,hy1,h⟩:=bnd h
 refine .c (.call0 hS Tryz.func165 (f7b hy1) z z ?_ z z z z)
 intro W hS
 refine .q z (.nil ?_)
 refine .cs z h ?_ ?_ <;> intro h
 ·cases h
  exact .g (.qn z (.ret (fin_ret (vs:=[_]) () (rt z rn) z (hS.to [] z))))
 refine .skip (.seq (.g (.s (fa T.f126_0 z z z) z (.s (ld T.t3 hS z z z z z) z (.nil (.block ?_))))))
 have ⟨y2,hy2,h⟩:=bnd h
 refine .seq (CW.via (R':=fun x E' W'=>x = .normal ∧ SubL E' [(1,.pointer (some ⟨g1,0,none⟩)),(8,.bool y2)] ∧ Sep No w W' [.box g1 126 [.int .i64 a0.Op,.int .i64 a0.Dst,.int .i64 a0.A,.int .i64 a0.B,.int .i64 a0.N]]) ?_ ?_)
 ·have h:=hy2
  refine .g (.q z (.q z (.nil ?_)))
  refine .cs z h ?_ ?_ <;> intro h
  ·refine .skip ?_
   cases h
   exact ⟨z,sb z,hS.to [0] z⟩
  refine .g (.q z (.q z (.nil ?_)))
  refine .cs z h ?_ ?_ <;> intro h
  ·refine .skip ?_
   cases h
   exact ⟨z,sb z,hS.to [0] z⟩
  refine .g (.q z (.q z (.nil ?_)))
  refine .cs z h ?_ ?_ <;> intro h
  ·refine .skip ?_
   cases h
   exact ⟨z,sb z,hS.to [0] z⟩
  refine .region (.q z (.q z (.nil ?_)))
  cases h
  exact ⟨z,sb z,hS.to [0] z⟩
 intro x E W hJ
 obtain ⟨rfl,hE,hS⟩:=hJ
 refine ⟨_,hE.sub,?_⟩
 refine .cs z h ?_ ?_ <;> intro h
 ·cases h
  exact .g (.s (fa T.f126_1 z z z) z (.s (ld T.t3 hS z z z z z) z (.qn z (.ret (fin_ret (vs:=[_]) () (rt z rn) z (hS.to [] z))))))
 cases h
 exact .skip (.g (.qn z (.ret (fin_ret (vs:=[_]) () (rt z rn) z (hS.to [] z)))))
theorem fcb {a0 : Quad} {a1 : List Int} {v_1 : Hd} {w : World} {r : (List Int)} (h : f5o a0 a1 = some r) (q_1 : RV w (Old No w) (sv v_1) 3 1 (D.int .i64) a1) : Calls Tryz.prog 215 #[.agg #[.int .i64 a0.Op,.int .i64 a0.Dst,.int .i64 a0.A,.int .i64 a0.B,.int .i64 a0.N],(sv v_1)] w (Ret No w (fun s : Hd=>(sv s)) (fun s=>[rowV (sv s) 3 1 (D.int .i64) r])):=by
 unfold f5o at h
 refine enter Tryz.func215 z z ?_
 have hS:=Sep.start w
 refine .g (.c (.box hS z z ?_ z z))
 intro g1 W hS
 refine .qn z (.g (.c (.liv [] (D.int .i64) T.u25 T.t3 hS z z z z ?_ z (fun _=>z) z z z z)))
 intro v1 W hS
 refine .q z ?_
 have ⟨r1,hr1,h⟩:=bnd h
 refine .c (.apprv hr1 hS (hS.keep q_1) (fun _=>z) T.u25 T.t3 z z z ?_ z z z z z)
 intro v2 W hS
 refine .qn z (.g (.s (ld T.t126 hS.p1 z z z z z) z ?_))
 have ⟨y1,hy1,h⟩:=bnd h
 refine .c (.call0 hS Tryz.func221 (f7z hy1) z z ?_ z z z z)
 intro W hS
 refine .qn z (.seq (.g (.q z (.q z (.nil ?_)))))
 refine .cs z h ?_ ?_ <;> intro h
 ·obtain rfl:=Option.some.inj h
  exact .g (.q z (.qn z (.ret (fin_ret (vs:=[_]) v2 (rt z rn) z (hS.to [0] z)))))
 refine .skip (.seq (.g (.qn z (.block ?_))))
 have ⟨y2,hy2,h⟩:=bnd h
 refine .via (.iter (fun s1 E' W'=>SubL E' [(2,.pointer (some ⟨g1,0,none⟩)),(5,(sv v2)),(6,.int .i64 y1),(7,.int .i64 s1.1)] ∧ Sep No w W' [rowV (sv v2) 3 1 (D.int .i64) s1.2,.box g1 126 [.int .i64 a0.Op,.int .i64 a0.Dst,.int .i64 a0.A,.int .i64 a0.B,.int .i64 a0.N]]) (fun y3 x E' W'=>x = .exit 0 ∧ SubL E' [(2,.pointer (some ⟨g1,0,none⟩)),(5,(sv v2)),(6,.int .i64 y1)] ∧ Sep No w W' [rowV (sv v2) 3 1 (D.int .i64) y3,.box g1 126 [.int .i64 a0.Op,.int .i64 a0.Dst,.int .i64 a0.A,.int .i64 a0.B,.int .i64 a0.N]]) hy2 ⟨sb z,hS.to [0,0] z⟩ ?_) ?_
 ·intro s1 y4 E W h hI
  obtain ⟨hE,hS⟩:=hI
  refine CW.sub hE ?_
  unfold f8b at h
  refine .seq (.g (.q z (.q z (.nil ?_))))
  refine .cs z h ?_ ?_ <;> intro h
  ·refine .skip ?_
   have ⟨y5,hy5,h⟩:=bnd h
   refine .seq (CW.via (R':=fun x E' W'=>x = .normal ∧ SubL E' [(2,.pointer (some ⟨g1,0,none⟩)),(5,(sv v2)),(6,.int .i64 y1),(7,.int .i64 s1.1)] ∧ Sep No w W' [rowV (sv v2) 3 1 (D.int .i64) y5,.box g1 126 [.int .i64 a0.Op,.int .i64 a0.Dst,.int .i64 a0.A,.int .i64 a0.B,.int .i64 a0.N]]) ?_ ?_)
   ·have h:=hy5
    refine .block (.g (.q z (.q z ?_)))
    have ⟨x1,hx1,h⟩:=bnd h
    refine .s (ixv hS.lendv hx1 T.u25 T.t3 z z z) z (.s (lde (RV.flat hS.lendv hx1 z) T.t3 z z z z z) z (.q z (.q z (.nil ?_))))
    refine .cs z h ?_ ?_ <;> intro h
    ·refine .region (.q z (.q z (.q z ?_)))
     have ⟨x2,hx2,h⟩:=bnd h
     refine .s (ixv hS.lendv hx2 T.u25 T.t3 z z z) z ?_
     have ⟨r2,hr2,h⟩:=bnd h
     refine .c (.sev hr2 hx2 hS T.t3 z z z z z z ?_ z z z z z z)
     intro W hS
     refine .nil ?_
     obtain rfl:=Option.some.inj h
     exact ⟨z,sb z,hS.to [0,0] z⟩
    refine .skip ?_
    cases h
    exact ⟨z,sb z,hS.to [0,0] z⟩
   intro x E W hJ
   obtain ⟨rfl,hE,hS⟩:=hJ
   refine ⟨_,hE.sub,?_⟩
   refine .region (.q z (.q z (.q z (.nil ?_))))
   cases h
   exact ⟨z,sb z,hS.to [0,0] z⟩
  refine .exit ?_
  cases h
  exact ⟨by simp,z,sb z,hS.to [0,0] z⟩
 intro x E W hJ
 obtain ⟨rfl,hE,hS⟩:=hJ
 refine ⟨_,hE.sub,?_⟩
 refine .g (.q z (.q z (.q z ?_)))
 have ⟨x3,hx3,h⟩:=bnd h
 refine .s (ixv hS.lendv hx3 T.u25 T.t3 z z z) z ?_
 have ⟨r3,hr3,h⟩:=bnd h
 refine .c (.sev hr3 hx3 hS T.t3 z z z z z z ?_ z z z z z z)
 intro W hS
 refine .nil (.seq (.g (.s (fa T.f126_0 z z z) z (.s (ld T.t3 hS.p1 z z z z z) z (.q z (.nil ?_))))))
 refine .cs z h ?_ ?_ <;> intro h
 ·refine .region (.q z (.q z (.s (fa T.f126_2 z z z) z (.s (ld T.t3 hS.p1 z z z z z) z ?_))))
  have ⟨x4,hx4,h⟩:=bnd h
  refine .s (ixv hS.lendv hx4 T.u25 T.t3 z z z) z ?_
  have ⟨r4,hr4,h⟩:=bnd h
  refine .c (.sev hr4 hx4 hS T.t3 z z z z z z ?_ z z z z z z)
  intro W hS
  obtain rfl:=Option.some.inj h
  exact .nil (.g (.q z (.qn z (.ret (fin_ret (vs:=[_]) v2 (rt z rn) z (hS.to [0] z))))))
 obtain rfl:=Option.some.inj h
 exact .skip (.g (.q z (.qn z (.ret (fin_ret (vs:=[_]) v2 (rt z rn) z (hS.to [0] z))))))
theorem fbl {a0 : List (List Int)} {a1 : Int} {a2 : List Int} {v_0 : Hd} {v_2 : Hd} {S : Nat → Prop} {w : World} {r : Bool × (List (List Int))} (h : f5y a0 a1 a2 = some r) (q_2 : RV w (Old S w) (sv v_2) 3 1 (D.int .i64) a2) (hO : Owns w [rowV (sv v_0) 25 1 (fun (l : List Int)=>D.row 3 1 (l.map (D.int .i64))) a0] S) (hlt : ∀ b,S b → b < w.heap.size) : Calls Tryz.prog 216 #[(sv v_0),.int .i64 a1,(sv v_2)] w (Ret S w (fun s : Unit=>.bool r.1) (fun s=>[rowV (sv v_0) 25 1 (fun (l : List Int)=>D.row 3 1 (l.map (D.int .i64))) r.2])):=by
 unfold f5y at h
 refine enter Tryz.func216 z z ?_
 have hS:=Sep.startM hO hlt
 refine .g (.qn z (.seq (.g (.q z (.q z ?_)))))
 have ⟨x1,hx1,h⟩:=bnd h
 refine .s (ixv hS.lendv hx1 T.u54 T.t25 z z z) z ?_
 obtain ⟨k1,hS⟩:=Sep.outv hS hx1
 obtain ⟨v1,k1,rfl,hS⟩:=hS.orowv
 obtain ⟨rfl,hS⟩:=hS.onil
 refine .s (lde (hS.p1.hcellsv) T.t25 z z z z z) z (.s (lenv hS.lendv T.u25 z z) z (.q z (.nil ?_)))
 refine .cs z h ?_ ?_ <;> intro h
 ·refine .g (.q z (.q z (.c (.liv [] (D.int .i64) T.u25 T.t3 hS z z z z ?_ z (fun _=>z) z z z z))))
  intro v2 W hS
  refine .q z ?_
  have ⟨r1,hr1,h⟩:=bnd h
  refine .c (.apprv hr1 hS (hS.keep q_2) (fun _=>z) T.u25 T.t3 z z z ?_ z z z z z)
  intro v3 W hS
  refine .s (ixh hS.p2 hx1 T.u54 T.t25 z z z) z (.c (.sthv hS.p2 T.t25 z z z ?_ z z z z z z))
  intro W hS
  refine .nil (.g (.qn z (.ret ?_)))
  have hS:=Sep.gat (ds:=[.row 3 1 (r1.map (D.int .i64))]) (cs:=[(sv v3)]) (L1:=[rowV (sv v3) 3 1 (D.int .i64) r1]) (.row (.nil)) (hS.to [1,0,0] z)
  have hS : Sep _ _ _ [rowV (sv v_0) 25 1 (fun (l : List Int)=>D.row 3 1 (l.map (D.int .i64))) (a0.set (Int.toNat a1) r1),rowV (sv v1) 3 1 (D.int .i64) x1]:=hS.backv
  cases h
  exact fin_ret (vs:=[_]) () (rt z rn) z (hS.to [0] z)
 refine .skip (.g (.qn z (.seq (.g (.qn z (.block ?_))))))
 have hS:=Sep.gat (ds:=[.row 3 1 (x1.map (D.int .i64))]) (cs:=[(sv v1)]) (L1:=[rowV (sv v1) 3 1 (D.int .i64) x1]) (.row (.nil)) (hS.to [0,0] z)
 have hS : Sep _ _ _ [rowV (sv v_0) 25 1 (fun (l : List Int)=>D.row 3 1 (l.map (D.int .i64))) a0]:=Sep.back0v hx1 hS
 have ⟨y1,hy1,h⟩:=bnd h
 refine .via (.iter (fun s1 E' W'=>SubL E' [(0,(sv v_0)),(1,.int .i64 a1),(2,(sv v_2)),(7,.bool s1.1),(8,.int .i64 s1.2.1)] ∧ Sep S w W' [rowV (sv v_0) 25 1 (fun (l : List Int)=>D.row 3 1 (l.map (D.int .i64))) s1.2.2]) (fun y2 x E' W'=>x = .exit 0 ∧ SubL E' [(7,.bool y2.1)] ∧ Sep S w W' [rowV (sv v_0) 25 1 (fun (l : List Int)=>D.row 3 1 (l.map (D.int .i64))) y2.2]) hy1 ⟨sb z,hS.to [0] z⟩ ?_) ?_
 ·intro s1 y3 E W h hI
  obtain ⟨hE,hS⟩:=hI
  refine CW.sub hE ?_
  unfold f87 at h
  refine .seq (.g (.q z (.q z (.nil ?_))))
  refine .cs z h ?_ ?_ <;> intro h
  ·refine .skip ?_
   have ⟨y4,hy4,h⟩:=bnd h
   refine .seq (CW.via (R':=fun x E' W'=>x = .normal ∧ SubL E' [(0,(sv v_0)),(1,.int .i64 a1),(2,(sv v_2)),(7,.bool y4.1),(8,.int .i64 s1.2.1)] ∧ Sep S w W' [rowV (sv v_0) 25 1 (fun (l : List Int)=>D.row 3 1 (l.map (D.int .i64))) y4.2]) ?_ ?_)
   ·have h:=hy4
    refine .block (.seq ?_)
    have ⟨x2,hx2,h⟩:=bnd h
    obtain ⟨k2,hS⟩:=Sep.outv hS hx2
    obtain ⟨v4,k2,rfl,hS⟩:=hS.orowv
    obtain ⟨rfl,hS⟩:=hS.onil
    have ⟨x6,hx6,h⟩:=bnd h
    have ⟨b2,hb2,h⟩:=bnd h
    refine .via (R':=fun x E' W'=>x = .normal ∧ SubL E' [(0,(sv v_0)),(1,.int .i64 a1),(2,(sv v_2)),(7,.bool s1.1),(8,.int .i64 s1.2.1),(47,.bool b2)] ∧ Sep S w W' [rowV (sv v_0) 25 1 (fun (l : List Int)=>D.row 3 1 (l.map (D.int .i64))) s1.2.2]) ?_ ?_
    ·refine .rk 23 hS [0,0] T.mix ?_
     intro W hS
     have hT:=hS.to [0,0] z
     refine .tp 0 z z hT (by kernel_rfl) (.tp 1 z z hT (by kernel_rfl) (.ts 2 z (fun W hT=>ixh hT.p1 hx2 T.u54 T.t25 z z z) hT z (by kernel_rfl) (.ts 3 z (fun W hT=>lde (hT.p1.hcellsv) T.t25 z z z z z) hT z (by kernel_rfl) (.tp 4 z z hT (by kernel_rfl) (.ts 5 z (fun W hT=>ixv hS.lendv hx6 T.u25 T.t3 z z z) hT z (by kernel_rfl) (.ts 6 z (fun W hT=>lde (RV.flat hT.lendv hx6 z) T.t3 z z z z z) hT z (by kernel_rfl) (.tp 7 z z hT (by kernel_rfl) (.tp 8 z z hT (by kernel_rfl) (.tp 9 z z hT (by kernel_rfl) (.both (x6 != s1.2.1) (fun hb=>?_) (fun hb=>?_)))))))))))
     ·have hg2:=hb
      have h_b2:=sel_t hb hb2
      refine .t1g 10 z hg2 (fun W hT=>pr z) hT (.t1g 11 z hg2 (fun W hT=>pr z) hT (.t1g 12 z hg2 (fun W hT=>ixh hT.p1 hx2 T.u54 T.t25 z z z) hT (.t1g 13 z hg2 (fun W hT=>lde (hT.p1.hcellsv) T.t25 z z z z z) hT (.t1g 14 z hg2 (fun W hT=>pr z) hT ?_ (by kernel_rfl) z z) (by kernel_rfl) z z) (by kernel_rfl) z z) (by kernel_rfl) z z) (by kernel_rfl) z z
      have ⟨x7,hx7,h_b2⟩:=bnd h_b2
      refine .t1g 15 z hg2 (fun W hT=>ixv hS.lendv hx7 T.u25 T.t3 z z z) hT (.t1g 16 z hg2 (fun W hT=>lde (RV.flat hT.lendv hx7 z) T.t3 z z z z z) hT (.t1g 17 z hg2 (fun W hT=>pr z) hT (.t1g 18 z hg2 (fun W hT=>pr z) hT ?_ (by kernel_rfl) z z) (by kernel_rfl) z z) (by kernel_rfl) z z) (by kernel_rfl) z z
      have ⟨x8,hx8,h_b2⟩:=bnd h_b2
      refine .t1g 19 z hg2 (fun W hT=>ixv (hS.keep q_2) hx8 T.u25 T.t3 z z z) hT (.t1g 20 z hg2 (fun W hT=>lde (RV.flat (hT.keep q_2) hx8 z) T.t3 z z z z z) hT (.t1g 21 z hg2 (fun W hT=>pr z) hT (.ts 22 z (fun W hT=>pkt hg2 z z z) hT z (by kernel_rfl) (.eqv 47 z (bool_eq h_b2) (.done ?_ (by kernel_rfl)))) (by kernel_rfl) z z) (by kernel_rfl) z z) (by kernel_rfl) z z
      have hS:=Sep.gat (ds:=[.row 3 1 (x2.map (D.int .i64))]) (cs:=[(sv v4)]) (L1:=[rowV (sv v4) 3 1 (D.int .i64) x2]) (.row (.nil)) (hS.to [0,0] z)
      have hS : Sep _ _ _ [rowV (sv v_0) 25 1 (fun (l : List Int)=>D.row 3 1 (l.map (D.int .i64))) s1.2.2]:=Sep.back0v hx2 hS
      exact ⟨z,sb z,hS.to [0] z⟩
     refine .off 10 z hb hT (.off 11 z hb hT (.off 12 z hb hT (.off 13 z hb hT (.off 14 z hb hT (.off 15 z hb hT (.off 16 z hb hT (.off 17 z hb hT (.off 18 z hb hT (.off 19 z hb hT (.off 20 z hb hT (.off 21 z hb hT (.ts 22 z (fun W hT=>pkf hb z z z) hT z (by kernel_rfl) (.eqv 47 z (bool_eq (sel_f hb hb2)) (.done ?_ (by kernel_rfl)))) (by kernel_rfl) z z) (by kernel_rfl) z z) (by kernel_rfl) z z) (by kernel_rfl) z z) (by kernel_rfl) z z) (by kernel_rfl) z z) (by kernel_rfl) z z) (by kernel_rfl) z z) (by kernel_rfl) z z) (by kernel_rfl) z z) (by kernel_rfl) z z) (by kernel_rfl) z z
     have hS:=Sep.gat (ds:=[.row 3 1 (x2.map (D.int .i64))]) (cs:=[(sv v4)]) (L1:=[rowV (sv v4) 3 1 (D.int .i64) x2]) (.row (.nil)) (hS.to [0,0] z)
     have hS : Sep _ _ _ [rowV (sv v_0) 25 1 (fun (l : List Int)=>D.row 3 1 (l.map (D.int .i64))) s1.2.2]:=Sep.back0v hx2 hS
     exact ⟨z,sb z,hS.to [0] z⟩
    intro x E W hJ
    obtain ⟨rfl,hE,hS⟩:=hJ
    refine ⟨_,hE.sub,?_⟩
    refine .cs z h ?_ ?_ <;> intro h
    ·refine .g (.q z (.q z ?_))
     have ⟨x9,hx9,h⟩:=bnd h
     refine .s (ixv hS.lendv hx9 T.u54 T.t25 z z z) z ?_
     obtain ⟨k3,hS⟩:=Sep.outv hS hx9
     obtain ⟨v5,k3,rfl,hS⟩:=hS.orowv
     obtain ⟨rfl,hS⟩:=hS.onil
     refine .s (lde (hS.p1.hcellsv) T.t25 z z z z z) z (.q z (.q z ?_))
     have ⟨x10,hx10,h⟩:=bnd h
     refine .s (ixv hS.lendv hx10 T.u25 T.t3 z z z) z ?_
     have ⟨r2,hr2,h⟩:=bnd h
     refine .c (.sev hr2 hx10 hS T.t3 z z z z z z ?_ z z z z z z)
     intro W hS
     refine .nil (.region (.q z (.nil ?_)))
     have hS:=Sep.gat (ds:=[.row 3 1 (r2.map (D.int .i64))]) (cs:=[(sv v5)]) (L1:=[rowV (sv v5) 3 1 (D.int .i64) r2]) (.row (.nil)) (hS.to [0,0] z)
     have hS : Sep _ _ _ [rowV (sv v_0) 25 1 (fun (l : List Int)=>D.row 3 1 (l.map (D.int .i64))) (s1.2.2.set (Int.toNat a1) r2)]:=hS.backv
     cases h
     exact ⟨z,sb z,hS.to [0] z⟩
    refine .skip ?_
    cases h
    exact ⟨z,sb z,hS.to [0] z⟩
   intro x E W hJ
   obtain ⟨rfl,hE,hS⟩:=hJ
   refine ⟨_,hE.sub,?_⟩
   refine .region (.q z (.q z (.q z (.nil ?_))))
   cases h
   exact ⟨z,sb z,hS.to [0] z⟩
  refine .exit ?_
  cases h
  exact ⟨by simp,z,sb z,hS.to [0] z⟩
 intro x E W hJ
 obtain ⟨rfl,hE,hS⟩:=hJ
 refine ⟨_,hE.sub,?_⟩
 cases h
 exact .g (.q z (.qn z (.ret (fin_ret (vs:=[_]) () (rt z rn) z (hS.to [0] z)))))
theorem fbh {a0 : List Quad} {a1 : List (List Int)} {v_0 : Hd} {v_1 : Hd} {S : Nat → Prop} {w : World} {r : Bool × (List (List Int))} (h : f5s a0 a1 = some r) (q_0 : RV w (Old S w) (sv v_0) 126 5 dQuad a0) (hO : Owns w [rowV (sv v_1) 25 1 (fun (l : List Int)=>D.row 3 1 (l.map (D.int .i64))) a1] S) (hlt : ∀ b,S b → b < w.heap.size) : Calls Tryz.prog 204 #[(sv v_0),(sv v_1)] w (Ret S w (fun s : Unit=>.bool r.1) (fun s=>[rowV (sv v_1) 25 1 (fun (l : List Int)=>D.row 3 1 (l.map (D.int .i64))) r.2])):=by
 unfold f5s at h
 refine enter Tryz.func204 z z ?_
 have hS:=Sep.startM hO hlt
 refine .g (.qn z (.g (.qn z (.seq (.g (.qn z (.block ?_)))))))
 have ⟨y1,hy1,h⟩:=bnd h
 refine .via (.iter (fun s1 E' W'=>SubL E' [(0,(sv v_0)),(1,(sv v_1)),(5,.bool s1.1),(6,.int .i64 s1.2.1)] ∧ Sep S w W' [rowV (sv v_1) 25 1 (fun (l : List Int)=>D.row 3 1 (l.map (D.int .i64))) s1.2.2]) (fun y2 x E' W'=>x = .exit 0 ∧ SubL E' [(5,.bool y2.1)] ∧ Sep S w W' [rowV (sv v_1) 25 1 (fun (l : List Int)=>D.row 3 1 (l.map (D.int .i64))) y2.2]) hy1 ⟨sb z,hS.to [0] z⟩ ?_) ?_
 ·intro s1 y3 E W h hI
  obtain ⟨hE,hS⟩:=hI
  refine CW.sub hE ?_
  unfold f85 at h
  refine .seq (.g (.q z (.q z (.s (lenv (hS.keep q_0) T.u104 z z) z (.q z (.nil ?_))))))
  refine .cs z h ?_ ?_ <;> intro h
  ·refine .skip ?_
   have ⟨y4,hy4,h⟩:=bnd h
   refine .seq (CW.via (R':=fun x E' W'=>x = .normal ∧ SubL E' [(0,(sv v_0)),(1,(sv v_1)),(5,.bool y4.1),(6,.int .i64 s1.2.1)] ∧ Sep S w W' [rowV (sv v_1) 25 1 (fun (l : List Int)=>D.row 3 1 (l.map (D.int .i64))) y4.2]) ?_ ?_)
   ·have h:=hy4
    refine .block (.seq (.g (.q z (.q z ?_))))
    have ⟨x1,hx1,h⟩:=bnd h
    refine .s (ixv hS.lendv hx1 T.u54 T.t25 z z z) z ?_
    obtain ⟨k1,hS⟩:=Sep.outv hS hx1
    obtain ⟨v1,k1,rfl,hS⟩:=hS.orowv
    obtain ⟨rfl,hS⟩:=hS.onil
    refine .s (lde (hS.p1.hcellsv) T.t25 z z z z z) z (.s (lenv hS.lendv T.u25 z z) z (.q z (.nil ?_)))
    refine .cs z h ?_ ?_ <;> intro h
    ·refine .exit ?_
     have hS:=Sep.gat (ds:=[.row 3 1 (x1.map (D.int .i64))]) (cs:=[(sv v1)]) (L1:=[rowV (sv v1) 3 1 (D.int .i64) x1]) (.row (.nil)) (hS.to [0,0] z)
     have hS : Sep _ _ _ [rowV (sv v_1) 25 1 (fun (l : List Int)=>D.row 3 1 (l.map (D.int .i64))) s1.2.2]:=Sep.back0v hx1 hS
     cases h
     exact ⟨z,sb z,hS.to [0] z⟩
    refine .skip (.g (.q z (.q z ?_)))
    have ⟨y5,hy5,h⟩:=bnd h
    refine .c (.call1v hS Tryz.func206 (f6a hy5 (hS.keep q_0)) z z ?_ z z z z)
    intro v2 W hS
    refine .qn z (.seq (.rk 10 hS [0,0,0] T.mix ?_))
    intro W hS
    have hT:=hS.to [0,0,0] z
    refine .tp 0 z z hT (by kernel_rfl) (.tp 1 z z hT (by kernel_rfl) ?_)
    have ⟨x2,hx2,h⟩:=bnd h
    refine .ts 2 z (fun W hT=>ixv (hS.keep q_0) hx2 T.u104 T.t126 z z z) hT z (by kernel_rfl) (.ts 3 z (fun W hT=>lde (RV.flat (hT.keep q_0) hx2 z) T.t126 z z z z z) hT z (by kernel_rfl) (.tp 4 z z hT (by kernel_rfl) (.tp 5 z z hT (by kernel_rfl) (.ts 6 z (fun W hT=>ixh hT.p2 hx1 T.u54 T.t25 z z z) hT z (by kernel_rfl) (.ts 7 z (fun W hT=>lde (hT.p2.hcellsv) T.t25 z z z z z) hT z (by kernel_rfl) ?_)))))
    have ⟨y6,hy6,h⟩:=bnd h
    refine .by1 8 z (.call1v hS Tryz.func215 (fcb hy6 hS.p1.lendv) z z ?_ z z z z) (by kernel_rfl)
    intro v3 W hS
    have hT:=hS.to [1,1,1] z
    refine ⟨fun _=>hT,.tp 9 z z hT (by kernel_rfl) (.done (.g (.qn z (.block ?_))) (by kernel_rfl))⟩
    have hS:=Sep.gat (ds:=[.row 3 1 (x1.map (D.int .i64))]) (cs:=[(sv v1)]) (L1:=[rowV (sv v1) 3 1 (D.int .i64) x1]) (.row (.nil)) (hS.to [2,2,0,0] z)
    have hS : Sep _ _ _ [rowV (sv v_1) 25 1 (fun (l : List Int)=>D.row 3 1 (l.map (D.int .i64))) s1.2.2,rowV (sv v3) 3 1 (D.int .i64) y6,rowV (sv v2) 3 1 (D.int .i64) y5]:=Sep.back0v hx1 hS
    have ⟨y7,hy7,h⟩:=bnd h
    refine .via (.iter (fun s2 E' W'=>SubL E' [(0,(sv v_0)),(1,(sv v_1)),(5,.bool s2.1),(6,.int .i64 s1.2.1),(7,(sv v2)),(8,(sv v3)),(9,.int .i64 s2.2.1)] ∧ Sep S w W' [rowV (sv v_1) 25 1 (fun (l : List Int)=>D.row 3 1 (l.map (D.int .i64))) s2.2.2,rowV (sv v3) 3 1 (D.int .i64) y6,rowV (sv v2) 3 1 (D.int .i64) y5]) (fun y8 x E' W'=>x = .exit 2 ∧ SubL E' [(0,(sv v_0)),(1,(sv v_1)),(5,.bool y8.1),(6,.int .i64 s1.2.1)] ∧ Sep S w W' [rowV (sv v_1) 25 1 (fun (l : List Int)=>D.row 3 1 (l.map (D.int .i64))) y8.2,rowV (sv v3) 3 1 (D.int .i64) y6,rowV (sv v2) 3 1 (D.int .i64) y5]) hy7 ⟨sb z,hS.to [0,0,0] z⟩ ?_) ?_
    ·intro s2 y9 E W h hI
     obtain ⟨hE,hS⟩:=hI
     refine CW.sub hE ?_
     unfold f7y at h
     refine .seq (.g (.q z (.q z (.s (lenv hS.p2.lendv T.u25 z z) z (.qn z (.cond z (fun hb=>?_) (fun hb=>?_)))))))
     ·have h:=sel_t hb h
      refine .skip ?_
      have ⟨y10,hy10,h⟩:=bnd h
      refine .seq (CW.via (R':=fun x E' W'=>x = .normal ∧ SubL E' [(0,(sv v_0)),(1,(sv v_1)),(5,.bool y10.1),(6,.int .i64 s1.2.1),(7,(sv v2)),(8,(sv v3)),(9,.int .i64 s2.2.1)] ∧ Sep S w W' [rowV (sv v_1) 25 1 (fun (l : List Int)=>D.row 3 1 (l.map (D.int .i64))) y10.2,rowV (sv v3) 3 1 (D.int .i64) y6,rowV (sv v2) 3 1 (D.int .i64) y5]) ?_ ?_)
      ·have h:=hy10
       refine .block (.g (.q z (.q z (.q z ?_))))
       have ⟨x3,hx3,h⟩:=bnd h
       refine .s (ixv hS.p2.lendv hx3 T.u25 T.t3 z z z) z (.s (lde (RV.flat hS.p2.lendv hx3 z) T.t3 z z z z z) z (.q z ?_))
       have ⟨y11,hy11,h⟩:=bnd h
       refine .c (.callS2 (L0:=[rowV (sv v_1) 25 1 (fun (l : List Int)=>D.row 3 1 (l.map (D.int .i64))) s2.2.2]) hS Tryz.func216 (fun S h1 h2 h3=>(fbl hy11 (h3.rdv (k:=0) z) h2 (zz h1))) z z ?_ z z z z)
       rintro ⟨⟩ W hS
       refine .nil ?_
       refine .cs z h ?_ ?_ <;> intro h
       ·refine .region (.q z (.nil ?_))
        cases h
        exact ⟨z,sb z,hS.to [0,0,0] z⟩
       refine .skip ?_
       cases h
       exact ⟨z,sb z,hS.to [0,0,0] z⟩
      intro x E W hJ
      obtain ⟨rfl,hE,hS⟩:=hJ
      refine ⟨_,hE.sub,?_⟩
      refine .region (.q z (.q z (.q z (.nil ?_))))
      cases h
      exact ⟨z,sb z,hS.to [0,0,0] z⟩
     have h:=sel_f hb h
     refine .exit ?_
     cases h
     exact ⟨by simp,z,sb z,hS.to [0,0,0] z⟩
    intro x E W hJ
    obtain ⟨rfl,hE,hS⟩:=hJ
    refine ⟨_,hE.sub,?_⟩
    cases h
    exact ⟨z,sb z,hS.to [0] z⟩
   intro x E W hJ
   obtain ⟨rfl,hE,hS⟩:=hJ
   refine ⟨_,hE.sub,?_⟩
   refine .region (.q z (.q z (.q z (.nil ?_))))
   cases h
   exact ⟨z,sb z,hS.to [0] z⟩
  refine .exit ?_
  cases h
  exact ⟨by simp,z,sb z,hS.to [0] z⟩
 intro x E W hJ
 obtain ⟨rfl,hE,hS⟩:=hJ
 refine ⟨_,hE.sub,?_⟩
 cases h
 exact .g (.q z (.qn z (.ret (fin_ret (vs:=[_]) () (rt z rn) z (hS.to [0] z)))))
end Go.Proofs.YtmpplggjpmmhlaaGreatDoor.N
namespace Go.Proofs.YtmpplggjpmmhlaaGreatDoor.N
open Go.Proofs.YtmpplggjpmmhlaaGreatDoor.X
theorem fc3 {a0 : List Quad} {v_0 : Hd} {w : World} {r : (List (List Int))} (h : f60 a0 = some r) (q_0 : RV w (Old No w) (sv v_0) 126 5 dQuad a0) : Calls Tryz.prog 183 #[(sv v_0)] w (Ret No w (fun s : Hd=>(sv s)) (fun s=>[rowV (sv s) 25 1 (fun (l : List Int)=>D.row 3 1 (l.map (D.int .i64))) r])):=by
 unfold f60 at h
 refine enter Tryz.func183 z z ?_
 have hS:=Sep.start w
 refine .g (.qn z (.g (.c (.ligv (L1:=[]) [] (fun (l : List Int)=>D.row 3 1 (l.map (D.int .i64))) T.u54 T.t25 (hS.to [] z) z z z (.nil) ?_ z (fun _=>z) z z z z z))))
 intro v1 W hS
 refine .qn z (.seq (.g (.q z ?_)))
 have ⟨y1,hy1,h⟩:=bnd h
 refine .c (.call0 hS Tryz.func151 (f0u hy1 (hS.keep q_0)) z z ?_ z z z z)
 intro W hS
 refine .qn z (.cond z (fun hb=>?_) (fun hb=>?_))
 ·have h:=sel_t hb h
  cases h
  exact .g (.q z (.qn z (.ret (fin_ret (vs:=[_]) v1 (rt z rn) z (hS.to [0] z)))))
 have h:=sel_f hb h
 refine .skip (.seq (.g (.qn z (.block ?_))))
 have ⟨y2,hy2,h⟩:=bnd h
 refine .via (.iter (fun s1 E' W'=>∃ (v4 : Hd),SubL E' [(0,(sv v_0)),(3,(sv v4)),(4,.int .i64 s1.2)] ∧ Sep No w W' [rowV (sv v4) 25 1 (fun (l : List Int)=>D.row 3 1 (l.map (D.int .i64))) s1.1]) (fun y3 x E' W'=>x = .exit 0 ∧ ∃ (v5 : Hd),SubL E' [(0,(sv v_0)),(3,(sv v5))] ∧ Sep No w W' [rowV (sv v5) 25 1 (fun (l : List Int)=>D.row 3 1 (l.map (D.int .i64))) y3]) hy2 ⟨v1,sb z,hS.to [0] z⟩ ?_) ?_
 ·intro s1 y4 E W h hI
  obtain ⟨v3,hE,hS⟩:=hI
  refine CW.sub hE ?_
  unfold f7x at h
  refine .seq (.g (.q z (.q z (.s (lenv (hS.keep q_0) T.u104 z z) z (.q z (.nil ?_))))))
  refine .cs z h ?_ ?_ <;> intro h
  ·refine .skip (.seq (.block (.region (.q z (.c (.liv [] (D.int .i64) T.u25 T.t3 hS z z z z ?_ z (fun _=>z) z z z z))))))
   intro v6 W hS
   refine .c (.ligv (L1:=[rowV (sv v6) 3 1 (D.int .i64) []]) [[]] (fun (l : List Int)=>D.row 3 1 (l.map (D.int .i64))) T.u54 T.t25 (hS.to [0,0] z) z z z (.row (.nil)) ?_ z (fun _=>z) z z z z z)
   intro v7 W hS
   have ⟨r1,hr1,h⟩:=bnd h
   refine .c (.appv hr1 (hS.to [1,0] z) T.u54 T.t25 z z z ?_ z z z z z)
   intro v8 W hS
   refine .qn z (.region (.q z (.q z (.q z (.nil ?_)))))
   cases h
   exact ⟨z,v8,sb z,hS.to [0] z⟩
  refine .exit ?_
  cases h
  exact ⟨by simp,z,v3,sb z,hS.to [0] z⟩
 intro x E W hJ
 obtain ⟨rfl,v9,hE,hS⟩:=hJ
 refine ⟨_,hE.sub,?_⟩
 refine .g (.q z ?_)
 have ⟨y5,hy5,h⟩:=bnd h
 refine .c (.call1v hS Tryz.func203 (f9t hy5) z z ?_ z z z z)
 intro v10 W hS
 have ⟨x1,hx1,h⟩:=bnd h
 refine .s (ixv hS.p1.lendv hx1 T.u54 T.t25 z z z) z ?_
 obtain ⟨k1,hS⟩:=Sep.outv hS.p1 hx1
 obtain ⟨v11,k1,rfl,hS⟩:=hS.orowv
 obtain ⟨rfl,hS⟩:=hS.onil
 refine .c (.sthv hS.p1 T.t25 z z z ?_ z z z z z z)
 intro W hS
 refine .nil (.seq (.block ?_))
 have hS:=Sep.gat (ds:=[.row 3 1 (y5.map (D.int .i64))]) (cs:=[(sv v10)]) (L1:=[rowV (sv v10) 3 1 (D.int .i64) y5]) (.row (.nil)) (hS.to [2,0,0] z)
 have hS : Sep _ _ _ [rowV (sv v9) 25 1 (fun (l : List Int)=>D.row 3 1 (l.map (D.int .i64))) (y2.set (Int.toNat 0) y5),rowV (sv v11) 3 1 (D.int .i64) x1]:=hS.backv
 have ⟨y6,hy6,h⟩:=bnd h
 refine .via (.iter (fun s2 E' W'=>SubL E' [(0,(sv v_0)),(3,(sv v9))] ∧ Sep No w W' [rowV (sv v9) 25 1 (fun (l : List Int)=>D.row 3 1 (l.map (D.int .i64))) s2,rowV (sv v11) 3 1 (D.int .i64) x1]) (fun y7 x E' W'=>x = .exit 2 ∧ SubL E' [(0,(sv v_0)),(3,(sv v9))] ∧ Sep No w W' [rowV (sv v9) 25 1 (fun (l : List Int)=>D.row 3 1 (l.map (D.int .i64))) y7,rowV (sv v11) 3 1 (D.int .i64) x1]) hy6 ⟨sb z,hS.to [0,0] z⟩ ?_) ?_
 ·intro s2 y8 E W h hI
  obtain ⟨hE,hS⟩:=hI
  refine CW.sub hE ?_
  unfold f8c at h
  refine .seq (.g (.q z (.q z ?_)))
  have ⟨y9,hy9,h⟩:=bnd h
  refine .c (.callS2 (L0:=[rowV (sv v9) 25 1 (fun (l : List Int)=>D.row 3 1 (l.map (D.int .i64))) s2]) hS Tryz.func204 (fun S h1 h2 h3=>(fbh hy9 (hS.keepS q_0 h1) h2 (zz h1))) z z ?_ z z z z)
  rintro ⟨⟩ W hS
  refine .nil ?_
  refine .cs z h ?_ ?_ <;> intro h
  ·refine .skip (.block (.skip ?_))
   cases h
   exact ⟨z,sb z,hS.to [0,0] z⟩
  refine .exit ?_
  cases h
  exact ⟨by simp,z,sb z,hS.to [0,0] z⟩
 intro x E W hJ
 obtain ⟨rfl,hE,hS⟩:=hJ
 refine ⟨_,hE.sub,?_⟩
 refine .seq (.g (.qn z (.block ?_)))
 have ⟨y10,hy10,h⟩:=bnd h
 refine .via (.iter (fun s3 E' W'=>SubL E' [(0,(sv v_0)),(3,(sv v9)),(5,.int .i64 s3.1)] ∧ Sep No w W' [rowV (sv v9) 25 1 (fun (l : List Int)=>D.row 3 1 (l.map (D.int .i64))) s3.2,rowV (sv v11) 3 1 (D.int .i64) x1]) (fun y11 x E' W'=>x = .exit 4 ∧ SubL E' [(3,(sv v9))] ∧ Sep No w W' [rowV (sv v9) 25 1 (fun (l : List Int)=>D.row 3 1 (l.map (D.int .i64))) y11,rowV (sv v11) 3 1 (D.int .i64) x1]) hy10 ⟨sb z,hS.to [0,0] z⟩ ?_) ?_
 ·intro s3 y12 E W h hI
  obtain ⟨hE,hS⟩:=hI
  refine CW.sub hE ?_
  unfold f84 at h
  refine .seq (.g (.q z (.q z (.s (lenv (hS.keep q_0) T.u104 z z) z (.q z (.nil ?_))))))
  refine .cs z h ?_ ?_ <;> intro h
  ·refine .skip ?_
   have ⟨y13,hy13,h⟩:=bnd h
   refine .seq (CW.via (R':=fun x E' W'=>x = .normal ∧ SubL E' [(0,(sv v_0)),(3,(sv v9)),(5,.int .i64 s3.1)] ∧ Sep No w W' [rowV (sv v9) 25 1 (fun (l : List Int)=>D.row 3 1 (l.map (D.int .i64))) y13,rowV (sv v11) 3 1 (D.int .i64) x1]) ?_ ?_)
   ·have h:=hy13
    refine .block (.g (.q z (.q z ?_)))
    have ⟨x2,hx2,h⟩:=bnd h
    refine .s (ixv hS.lendv hx2 T.u54 T.t25 z z z) z ?_
    obtain ⟨k2,hS⟩:=Sep.outv hS hx2
    obtain ⟨v12,k2,rfl,hS⟩:=hS.orowv
    obtain ⟨rfl,hS⟩:=hS.onil
    refine .s (lde (hS.p1.hcellsv) T.t25 z z z z z) z (.s (lenv hS.lendv T.u25 z z) z (.q z (.nil ?_)))
    refine .cs z h ?_ ?_ <;> intro h
    ·refine .region (.q z (.q z ?_))
     have ⟨y14,hy14,h⟩:=bnd h
     refine .c (.call1v hS Tryz.func203 (f9t hy14) z z ?_ z z z z)
     intro v13 W hS
     refine .s (ixh hS.p2 hx2 T.u54 T.t25 z z z) z (.c (.sthv hS.p2 T.t25 z z z ?_ z z z z z z))
     intro W hS
     refine .nil ?_
     have hS:=Sep.gat (ds:=[.row 3 1 (y14.map (D.int .i64))]) (cs:=[(sv v13)]) (L1:=[rowV (sv v13) 3 1 (D.int .i64) y14]) (.row (.nil)) (hS.to [1,0,0,0] z)
     have hS : Sep _ _ _ [rowV (sv v9) 25 1 (fun (l : List Int)=>D.row 3 1 (l.map (D.int .i64))) (s3.2.set (Int.toNat s3.1) y14),rowV (sv v12) 3 1 (D.int .i64) x2,rowV (sv v11) 3 1 (D.int .i64) x1]:=hS.backv
     cases h
     exact ⟨z,sb z,hS.to [0,1] z⟩
    refine .skip ?_
    have hS:=Sep.gat (ds:=[.row 3 1 (x2.map (D.int .i64))]) (cs:=[(sv v12)]) (L1:=[rowV (sv v12) 3 1 (D.int .i64) x2]) (.row (.nil)) (hS.to [0,0,0] z)
    have hS : Sep _ _ _ [rowV (sv v9) 25 1 (fun (l : List Int)=>D.row 3 1 (l.map (D.int .i64))) s3.2,rowV (sv v11) 3 1 (D.int .i64) x1]:=Sep.back0v hx2 hS
    cases h
    exact ⟨z,sb z,hS.to [0,0] z⟩
   intro x E W hJ
   obtain ⟨rfl,hE,hS⟩:=hJ
   refine ⟨_,hE.sub,?_⟩
   refine .region (.q z (.q z (.q z (.nil ?_))))
   cases h
   exact ⟨z,sb z,hS.to [0,0] z⟩
  refine .exit ?_
  cases h
  exact ⟨by simp,z,sb z,hS.to [0,0] z⟩
 intro x E W hJ
 obtain ⟨rfl,hE,hS⟩:=hJ
 refine ⟨_,hE.sub,?_⟩
 obtain rfl:=Option.some.inj h
 exact .g (.q z (.qn z (.ret (fin_ret (vs:=[_]) v9 (rt z rn) z (hS.to [0] z)))))
theorem fcz {a0 : Quad} {a1 : List Int} {v_1 : Hd} {w : World} {r : Quad} (h : f6i a0 a1 = some r) (q_1 : RV w (Old No w) (sv v_1) 3 1 (D.int .i64) a1) : Calls Tryz.prog 184 #[.agg #[.int .i64 a0.Op,.int .i64 a0.Dst,.int .i64 a0.A,.int .i64 a0.B,.int .i64 a0.N],(sv v_1)] w (Ret No w (fun s : Unit=>.agg #[.int .i64 r.Op,.int .i64 r.Dst,.int .i64 r.A,.int .i64 r.B,.int .i64 r.N]) (fun s=>[])):=by
 unfold f6i at h
 refine enter Tryz.func184 z z ?_
 have hS:=Sep.start w
 refine .g (.c (.box hS z z ?_ z z))
 intro g1 W hS
 refine .c (.alloc T.t126 hS ?_ z z z)
 intro g2 W hS
 refine .nil (.seq (.g (.s (fa T.f126_0 z z z) z (.s (ld T.t3 hS.p1 z z z z z) z (.nil (.block ?_))))))
 have ⟨y1,hy1,h⟩:=bnd h
 refine .seq (CW.via (R':=fun x E' W'=>x = .normal ∧ SubL E' [(1,(sv v_1)),(2,.pointer (some ⟨g1,0,none⟩)),(4,.pointer (some ⟨g2,0,none⟩)),(6,.int .i64 a0.Op),(7,.bool y1)] ∧ Sep No w W' [.box g2 126 [.int .i64 0,.int .i64 0,.int .i64 0,.int .i64 0,.int .i64 0],.box g1 126 [.int .i64 a0.Op,.int .i64 a0.Dst,.int .i64 a0.A,.int .i64 a0.B,.int .i64 a0.N]]) ?_ ?_)
 ·have h:=hy1
  refine .g (.q z (.q z (.nil ?_)))
  refine .cs z h ?_ ?_ <;> intro h
  ·refine .skip ?_
   cases h
   exact ⟨z,sb z,hS.to [0,0] z⟩
  refine .g (.q z (.q z (.nil ?_)))
  refine .cs z h ?_ ?_ <;> intro h
  ·refine .skip ?_
   cases h
   exact ⟨z,sb z,hS.to [0,0] z⟩
  refine .g (.q z (.q z (.nil ?_)))
  refine .cs z h ?_ ?_ <;> intro h
  ·refine .skip ?_
   cases h
   exact ⟨z,sb z,hS.to [0,0] z⟩
  refine .region (.q z (.q z (.nil ?_)))
  cases h
  exact ⟨z,sb z,hS.to [0,0] z⟩
 intro x E W hJ
 obtain ⟨rfl,hE,hS⟩:=hJ
 refine ⟨_,hE.sub,?_⟩
 refine .cs z h ?_ ?_ <;> intro h
 ·refine .region (.q z (.s (fa T.f126_2 z z z) z (.s (ld T.t3 hS.p1 z z z z z) z ?_)))
  have ⟨x1,hx1,h⟩:=bnd h
  refine .s (ixv (hS.keep q_1) hx1 T.u25 T.t3 z z z) z (.s (lde (RV.flat (hS.keep q_1) hx1 z) T.t3 z z z z z) z (.s (fa T.f126_2 z z z) z (.c (.st T.t3 hS.p1 z z z ?_ z z z z z))))
  intro W hS
  refine .nil (.g (.s (ld T.t126 hS z z z z z) z (.c (.st T.t126 hS.p1 z z z ?_ z z z z z))))
  intro W hS
  cases h
  exact .nil (.ret (fin_ret (vs:=[_]) () (rc hS T.t126 z rn z z) z (hS.to [] z)))
 refine .g (.q z (.q z (.nil ?_)))
 refine .cs z h ?_ ?_ <;> intro h
 ·refine .g (.q z (.s (fa T.f126_2 z z z) z (.s (ld T.t3 hS.p1 z z z z z) z ?_)))
  have ⟨x2,hx2,h⟩:=bnd h
  refine .s (ixv (hS.keep q_1) hx2 T.u25 T.t3 z z z) z (.s (lde (RV.flat (hS.keep q_1) hx2 z) T.t3 z z z z z) z (.s (fa T.f126_2 z z z) z (.c (.st T.t3 hS.p1 z z z ?_ z z z z z))))
  intro W hS
  refine .nil (.region (.q z (.s (fa T.f126_3 z z z) z (.s (ld T.t3 hS z z z z z) z ?_))))
  have ⟨x3,hx3,h⟩:=bnd h
  refine .s (ixv (hS.keep q_1) hx3 T.u25 T.t3 z z z) z (.s (lde (RV.flat (hS.keep q_1) hx3 z) T.t3 z z z z z) z (.s (fa T.f126_3 z z z) z (.c (.st T.t3 hS z z z ?_ z z z z z))))
  intro W hS
  refine .nil (.g (.s (ld T.t126 hS z z z z z) z (.c (.st T.t126 hS.p1 z z z ?_ z z z z z))))
  intro W hS
  cases h
  exact .nil (.ret (fin_ret (vs:=[_]) () (rc hS T.t126 z rn z z) z (hS.to [] z)))
 refine .skip (.g (.s (ld T.t126 hS.p1 z z z z z) z (.c (.st T.t126 hS z z z ?_ z z z z z))))
 intro W hS
 obtain rfl:=Option.some.inj h
 exact .nil (.ret (fin_ret (vs:=[_]) () (rc hS T.t126 z rn z z) z (hS.to [] z)))
theorem fbj {a0 : List Quad} {v_0 : Hd} {w : World} {r : (List Quad) × Bool} (h : f5p a0 = some r) (q_0 : RV w (Old No w) (sv v_0) 126 5 dQuad a0) : Calls Tryz.prog 167 #[(sv v_0)] w (Ret No w (fun s : Hd=>.tuple #[(sv s),.bool r.2]) (fun s=>[rowV (sv s) 126 5 dQuad r.1])):=by
 unfold f5p at h
 refine enter Tryz.func167 z z ?_
 have hS:=Sep.start w
 refine .g (.q z (.qn z (.g (.c (.liv [] dQuad T.u104 T.t126 hS z z z z ?_ z (fun _=>z) z z z z)))))
 intro v1 W hS
 refine .qn z (.seq (.g (.q z ?_)))
 have ⟨y1,hy1,h⟩:=bnd h
 refine .c (.call0 hS Tryz.func151 (f0u hy1 (hS.keep q_0)) z z ?_ z z z z)
 intro W hS
 refine .q z (.nil ?_)
 refine .cs z h ?_ ?_ <;> intro h
 ·cases h
  exact .g (.q z (.q z (.qn z (.ret (fin_ret (vs:=[_,_]) v1 (rt z (rt z rn)) z (hS.to [0] z))))))
 refine .skip (.g (.q z ?_))
 have ⟨y2,hy2,h⟩:=bnd h
 refine .c (.call1v hS Tryz.func183 (fc3 hy2 (hS.keep q_0)) z z ?_ z z z z)
 intro v2 W hS
 refine .qn z (.seq (.g (.qn z (.block ?_))))
 have ⟨y3,hy3,h⟩:=bnd h
 refine .via (.iter (fun s1 E' W'=>∃ (v5 : Hd),SubL E' [(0,(sv v_0)),(4,(sv v5)),(5,(sv v2)),(6,.int .i64 s1.2)] ∧ Sep No w W' [rowV (sv v2) 25 1 (fun (l : List Int)=>D.row 3 1 (l.map (D.int .i64))) y2,rowV (sv v5) 126 5 dQuad s1.1]) (fun y4 x E' W'=>x = .exit 0 ∧ ∃ (v6 : Hd),SubL E' [(4,(sv v6))] ∧ Sep No w W' [rowV (sv v2) 25 1 (fun (l : List Int)=>D.row 3 1 (l.map (D.int .i64))) y2,rowV (sv v6) 126 5 dQuad y4]) hy3 ⟨v1,sb z,hS.to [0,0] z⟩ ?_) ?_
 ·intro s1 y5 E W h hI
  obtain ⟨v4,hE,hS⟩:=hI
  refine CW.sub hE ?_
  unfold f5g at h
  refine .seq (.g (.q z (.q z (.s (lenv (hS.keep q_0) T.u104 z z) z (.q z (.nil ?_))))))
  refine .cs z h ?_ ?_ <;> intro h
  ·refine .skip (.seq (.block ?_))
   have ⟨x1,hx1,h⟩:=bnd h
   obtain ⟨k1,hS⟩:=Sep.outv hS hx1
   obtain ⟨v7,k1,rfl,hS⟩:=hS.orowv
   obtain ⟨rfl,hS⟩:=hS.onil
   refine .rk 13 hS [0,0] T.mix ?_
   intro W hS
   have hT:=hS.to [0,0] z
   refine .tp 0 z z hT (by kernel_rfl) (.tp 1 z z hT (by kernel_rfl) (.tp 2 z z hT (by kernel_rfl) ?_))
   have ⟨x3,hx3,h⟩:=bnd h
   refine .ts 3 z (fun W hT=>ixv (hS.keep q_0) hx3 T.u104 T.t126 z z z) hT z (by kernel_rfl) (.ts 4 z (fun W hT=>lde (RV.flat (hT.keep q_0) hx3 z) T.t126 z z z z z) hT z (by kernel_rfl) (.tp 5 z z hT (by kernel_rfl) (.tp 6 z z hT (by kernel_rfl) (.ts 7 z (fun W hT=>ixh hT.p1 hx1 T.u54 T.t25 z z z) hT z (by kernel_rfl) (.ts 8 z (fun W hT=>lde (hT.p1.hcellsv) T.t25 z z z z z) hT z (by kernel_rfl) ?_)))))
   have ⟨y7,hy7,h⟩:=bnd h
   refine .by1 9 z (.call0 hS Tryz.func184 (fcz hy7 hS.lendv) z z ?_ z z z z) (by kernel_rfl)
   intro W hS
   have hT:=hS.to [0,0] z
   refine ⟨fun _=>hT,.by1 10 z (.liv [y7] dQuad T.u104 T.t126 hS z z z z ?_ z (fun _=>z) z z z z) (by kernel_rfl)⟩
   intro v10 W hS
   have hT:=hS.to [1,1] z
   refine ⟨fun _=>hT,?_⟩
   have ⟨r2,hr2,h⟩:=bnd h
   have hT0:=hS.p3
   refine .by1 11 z (.apprv hr2 hT0 hT0.p1.lendv (fun _=>z) T.u104 T.t126 z z z ?_ z z z z z) (by kernel_rfl)
   intro v11 W hS
   have hT:=hS.to [2,2] z
   refine ⟨fun _=>hT,.tp 12 z z hT (by kernel_rfl) (.done (.region (.q z (.q z (.q z (.nil ?_))))) (by kernel_rfl))⟩
   have hS:=Sep.gat (ds:=[.row 3 1 (x1.map (D.int .i64))]) (cs:=[(sv v7)]) (L1:=[rowV (sv v7) 3 1 (D.int .i64) x1]) (.row (.nil)) (hS.to [2,2,0,0] z)
   have hS : Sep _ _ _ [rowV (sv v2) 25 1 (fun (l : List Int)=>D.row 3 1 (l.map (D.int .i64))) y2,rowV (sv v11) 126 5 dQuad r2,rowV (sv v10) 126 5 dQuad [y7]]:=Sep.back0v hx1 hS
   cases h
   exact ⟨z,v11,sb z,hS.to [0,0] z⟩
  refine .exit ?_
  cases h
  exact ⟨by simp,z,v4,sb z,hS.to [0,0] z⟩
 intro x E W hJ
 obtain ⟨rfl,v12,hE,hS⟩:=hJ
 refine ⟨_,hE.sub,?_⟩
 cases h
 exact .g (.q z (.q z (.qn z (.ret (fin_ret (vs:=[_,_]) v12 (rt z (rt z rn)) z (hS.to [1] z))))))
def fc8 (w : World) (r : Int) : Env → World → Prop:=Fin Tryz.prog Tryz.f185 No w (fun s : Unit=>.int .i64 r) (fun s=>[]) .ret
theorem fb8 {a0 : List Quad} {a1 : Int} {v_0 : Hd} {w : World} {r : Int} (h : f50 a0 a1 = some r) (q_0 : RV w (Old No w) (sv v_0) 126 5 dQuad a0) : Calls Tryz.prog 185 #[(sv v_0),.int .i64 a1] w (Ret No w (fun s : Unit=>.int .i64 r) (fun s=>[])):=by
 unfold f50 at h
 refine enter Tryz.func185 z z ?_
 have hS:=Sep.start w
 refine .g (.qn z (.g (.q z (.qn z (.seq (.g (.qn z (.block ?_))))))))
 have ⟨y1,hy1,h⟩:=bnd h
 refine .via (.iter (fun s1 E' W'=>SubL E' [(0,(sv v_0)),(1,.int .i64 a1),(5,.int .i64 s1.1),(6,.int .i64 s1.2)] ∧ Sep No w W' []) (fun y2 x E' W'=>(match y2 with | .inl o1=>x = .ret ∧ fc8 w o1 E' W' | .inr o2=>x = .exit 0 ∧ SubL E' [(1,.int .i64 a1)] ∧ Sep No w W' [])) hy1 ⟨sb rfl,hS.to [] rfl⟩ ?_) ?_
 ·intro s1 y3 E W h hI
  obtain ⟨hE,hS⟩:=hI
  refine CW.sub hE ?_
  unfold f78 at h
  refine .seq (.g (.q z (.q z (.s (lenv (hS.keep q_0) T.u104 z z) z (.q z (.nil ?_))))))
  refine .cs z h ?_ ?_ <;> intro h
  ·refine .skip (.seq (.block (.seq (.g (.q z (.q z ?_))))))
   have ⟨x1,hx1,h⟩:=bnd h
   refine .s (ixv (hS.keep q_0) hx1 T.u104 T.t126 z z z) z (.s (fe T.f126_0 z z z) z (.s (lde (RV.flat (hS.keep q_0) hx1 z) T.t3 z z z z z) z (.q z (.nil ?_))))
   refine .cs z h ?_ ?_ <;> intro h
   ·refine .g (.q z (.qn z (.ret ?_)))
    cases h
    exact ⟨by simp,z,fin_ret (vs:=[_]) () (rt z rn) z (hS.to [] z)⟩
   refine .skip (.region (.q z (.q z ?_)))
   have ⟨x2,hx2,h⟩:=bnd h
   refine .s (ixv (hS.keep q_0) hx2 T.u104 T.t126 z z z) z (.s (fe T.f126_4 z z z) z (.s (lde (RV.flat (hS.keep q_0) hx2 z) T.t3 z z z z z) z (.qn z (.region (.q z (.q z (.q z (.nil ?_))))))))
   cases h
   exact ⟨z,sb z,hS.to [] z⟩
  refine .exit ?_
  cases h
  exact ⟨by simp,z,sb z,hS.to [] z⟩
 intro x E W hJ
 rcases y1 with o3 | o4
 ·obtain ⟨rfl,hF⟩:=hJ
  refine ⟨_,fun _ _ h=>h,?_⟩
  cases h
  exact hF
 obtain ⟨rfl,hE,hS⟩:=hJ
 refine ⟨_,hE.sub,?_⟩
 obtain rfl:=Option.some.inj h
 exact .g (.q z (.qn z (.ret (fin_ret (vs:=[_]) () (rt z rn) z (hS.to [] z)))))
theorem fbk {a0 : List Quad} {v_0 : Hd} {w : World} {r : (List Quad) × Bool} (h : f5n a0 = some r) (q_0 : RV w (Old No w) (sv v_0) 126 5 dQuad a0) : Calls Tryz.prog 168 #[(sv v_0)] w (Ret No w (fun s : Hd=>.tuple #[(sv s),.bool r.2]) (fun s=>[rowV (sv s) 126 5 dQuad r.1])):=by
 unfold f5n at h
 refine enter Tryz.func168 z z ?_
 have hS:=Sep.start w
 refine .g (.q z (.qn z (.g (.c (.liv [] dQuad T.u104 T.t126 hS z z z z ?_ z (fun _=>z) z z z z)))))
 intro v1 W hS
 refine .qn z (.seq (.g (.q z ?_)))
 have ⟨y1,hy1,h⟩:=bnd h
 refine .c (.call0 hS Tryz.func151 (f0u hy1 (hS.keep q_0)) z z ?_ z z z z)
 intro W hS
 refine .q z (.nil ?_)
 refine .cs z h ?_ ?_ <;> intro h
 ·cases h
  exact .g (.q z (.q z (.qn z (.ret (fin_ret (vs:=[_,_]) v1 (rt z (rt z rn)) z (hS.to [0] z))))))
 refine .skip (.seq (.g (.qn z (.block ?_))))
 have ⟨y2,hy2,h⟩:=bnd h
 refine .via (.iter (fun s1 E' W'=>∃ (v4 : Hd),SubL E' [(0,(sv v_0)),(4,(sv v4)),(5,.int .i64 s1.2)] ∧ Sep No w W' [rowV (sv v4) 126 5 dQuad s1.1]) (fun y3 x E' W'=>x = .exit 0 ∧ ∃ (v5 : Hd),SubL E' [(4,(sv v5))] ∧ Sep No w W' [rowV (sv v5) 126 5 dQuad y3]) hy2 ⟨v1,sb z,hS.to [0] z⟩ ?_) ?_
 ·intro s1 y4 E W h hI
  obtain ⟨v3,hE,hS⟩:=hI
  refine CW.sub hE ?_
  unfold f5a at h
  refine .seq (.g (.q z (.q z (.s (lenv (hS.keep q_0) T.u104 z z) z (.q z (.nil ?_))))))
  refine .cs z h ?_ ?_ <;> intro h
  ·refine .skip (.seq (.block (.g (.q z (.q z ?_)))))
   have ⟨x1,hx1,h⟩:=bnd h
   refine .s (ixv (hS.keep q_0) hx1 T.u104 T.t126 z z z) z (.s (lde (RV.flat (hS.keep q_0) hx1 z) T.t126 z z z z z) z (.c (.alloc T.t126 hS ?_ z z z)))
   intro g1 W hS
   refine .c (.st T.t126 hS z z z ?_ z z z z z)
   intro W hS
   refine .nil ?_
   have ⟨y5,hy5,h⟩:=bnd h
   refine .seq (CW.via (R':=fun x E' W'=>x = .normal ∧ SubL E' [(0,(sv v_0)),(4,(sv v3)),(5,.int .i64 s1.2),(6,.pointer (some ⟨g1,0,none⟩))] ∧ Sep No w W' [.box g1 126 [.int .i64 y5.Op,.int .i64 y5.Dst,.int .i64 y5.A,.int .i64 y5.B,.int .i64 y5.N],rowV (sv v3) 126 5 dQuad s1.1]) ?_ ?_)
   ·have h:=hy5
    refine .g (.s (fa T.f126_0 z z z) z (.s (ld T.t3 hS z z z z z) z (.q z (.q z (.chunk 4 29 ((x1.Op == 4) || (x1.Op == 5)) hS ?_ ?_)))))
    ·refine .both (x1.Op == 4) (fun hb=>?_) (fun hb=>?_)
     ·exact .xx hb z (.xx hb z (.xx hb z (.s (pkt hb z z z) z (.nil (ck 4 hS z (or_t hb) z z)))))
     have hg1:=hb
     exact .g hg1 (.s (fa T.f126_0 z z z) z (.g hg1 (.s (ld T.t3 hS z z z z z) z (.g hg1 (.q z (.s (pkf hg1 z z z) z (.nil (ck 4 hS z (or_f hg1) z z)))) z)) z)) z
    intro W hS
    refine .nil ?_
    refine .cs z h ?_ ?_ <;> intro h
    ·refine .region (.q z (.s (fa T.f126_4 z z z) z (.s (ld T.t3 hS z z z z z) z ?_)))
     have ⟨y6,hy6,h⟩:=bnd h
     refine .c (.call0 hS Tryz.func185 (fb8 hy6 (hS.keep q_0)) z z ?_ z z z z)
     intro W hS
     refine .s (fa T.f126_4 z z z) z (.c (.st T.t3 hS z z z ?_ z z z z z))
     intro W hS
     refine .nil ?_
     cases h
     exact ⟨z,sb z,hS.to [0,0] z⟩
    refine .skip ?_
    obtain rfl:=Option.some.inj h
    exact ⟨z,sb z,hS.to [0,0] z⟩
   intro x E W hJ
   obtain ⟨rfl,hE,hS⟩:=hJ
   refine ⟨_,hE.sub,?_⟩
   refine .region (.q z (.s (ld T.t126 hS z z z z z) z (.c (.liv [y5] dQuad T.u104 T.t126 hS z z z z ?_ z (fun _=>z) z z z z))))
   intro v6 W hS
   have ⟨r1,hr1,h⟩:=bnd h
   have hT0:=hS.p2
   refine .c (.apprv hr1 hT0 hT0.p1.lendv (fun _=>z) T.u104 T.t126 z z z ?_ z z z z z)
   intro v7 W hS
   refine .qn z (.region (.q z (.q z (.q z (.nil ?_)))))
   cases h
   exact ⟨z,v7,sb z,hS.to [0] z⟩
  refine .exit ?_
  cases h
  exact ⟨by simp,z,v3,sb z,hS.to [0] z⟩
 intro x E W hJ
 obtain ⟨rfl,v8,hE,hS⟩:=hJ
 refine ⟨_,hE.sub,?_⟩
 cases h
 exact .g (.q z (.q z (.qn z (.ret (fin_ret (vs:=[_,_]) v8 (rt z (rt z rn)) z (hS.to [0] z))))))
theorem f9m {a0 : List Quad} {a1 : List (List Bool)} {a2 : Int} {v_0 : Hd} {v_1 : Hd} {w : World} {r : (List Bool)} (h : f41 a0 a1 a2 = some r) (q_0 : RV w (Old No w) (sv v_0) 126 5 dQuad a0) (q_1 : RV w (Old No w) (sv v_1) 55 1 (fun (l : List Bool)=>D.row 4 1 (l.map D.bool)) a1) : Calls Tryz.prog 188 #[(sv v_0),(sv v_1),.int .i64 a2] w (Ret No w (fun s : Hd=>(sv s)) (fun s=>[rowV (sv s) 4 1 D.bool r])):=by
 unfold f41 at h
 refine enter Tryz.func188 z z ?_
 have hS:=Sep.start w
 refine .g (.qn z (.seq (.region ?_)))
 have ⟨r1,hr1,h⟩:=bnd h
 refine .c (.mkv false D.bool hr1 T.u55 T.t4 hS z z z z z (fun _=>z) ?_ z z z)
 intro v1 W hS
 refine .qn z (.g (.q z (.q z ?_)))
 have ⟨y1,hy1,h⟩:=bnd h
 refine .c (.call1v hS Tryz.func206 (f6a hy1 (hS.keep q_0)) z z ?_ z z z z)
 intro v2 W hS
 refine .qn z (.seq (.g (.qn z (.block ?_))))
 have ⟨y2,hy2,h⟩:=bnd h
 refine .via (.iter (fun s1 E' W'=>SubL E' [(1,(sv v_1)),(7,(sv v1)),(8,(sv v2)),(9,.int .i64 s1.1)] ∧ Sep No w W' [rowV (sv v2) 3 1 (D.int .i64) y1,rowV (sv v1) 4 1 D.bool s1.2]) (fun y3 x E' W'=>x = .exit 0 ∧ SubL E' [(7,(sv v1))] ∧ Sep No w W' [rowV (sv v2) 3 1 (D.int .i64) y1,rowV (sv v1) 4 1 D.bool y3]) hy2 ⟨sb z,hS.to [0,0] z⟩ ?_) ?_
 ·intro s1 y4 E W h hI
  obtain ⟨hE,hS⟩:=hI
  refine CW.sub hE ?_
  unfold f81 at h
  refine .seq (.g (.q z (.q z (.s (lenv hS.lendv T.u25 z z) z (.q z (.nil ?_))))))
  refine .cs z h ?_ ?_ <;> intro h
  ·refine .skip (.seq (.block (.g (.qn z (.block ?_)))))
   have ⟨y5,hy5,h⟩:=bnd h
   refine .via (.iter (fun s2 E' W'=>SubL E' [(1,(sv v_1)),(7,(sv v1)),(8,(sv v2)),(9,.int .i64 s1.1),(10,.int .i64 s2.1)] ∧ Sep No w W' [rowV (sv v2) 3 1 (D.int .i64) y1,rowV (sv v1) 4 1 D.bool s2.2]) (fun y6 x E' W'=>x = .exit 2 ∧ SubL E' [(1,(sv v_1)),(7,(sv v1)),(8,(sv v2)),(9,.int .i64 s1.1)] ∧ Sep No w W' [rowV (sv v2) 3 1 (D.int .i64) y1,rowV (sv v1) 4 1 D.bool y6]) hy5 ⟨sb z,hS.to [0,0] z⟩ ?_) ?_
   ·intro s2 y7 E W h hI
    obtain ⟨hE,hS⟩:=hI
    refine CW.sub hE ?_
    unfold f82 at h
    refine .seq (.g (.q z (.q z (.nil ?_))))
    refine .cs z h ?_ ?_ <;> intro h
    ·refine .skip (.seq (.block (.region (.q z (.q z (.q z (.q z ?_)))))))
     have ⟨x1,hx1,h⟩:=bnd h
     refine .s (ixv hS.p1.lendv hx1 T.u55 T.t4 z z z) z (.s (lde (RV.flat hS.p1.lendv hx1 z) T.t4 z z z z z) z (.q z ?_))
     have ⟨b1,hb1,h⟩:=bnd h
     refine .chunk 11 42 (b1) hS ?_ ?_
     ·refine .both (x1) (fun hb=>?_) (fun hb=>?_)
      ·refine .xx hb z (.xx hb z (.xx hb z (.xx hb z (.xx hb z (.xx hb z (.xx hb z (.xx hb z (.xx hb z (.xx hb z ?_)))))))))
       cases sel_t hb hb1
       exact .s (pkt hb z z z) z (.nil (ck 11 hS z z z z))
      have hg1:=hb
      have h:=sel_f hb hb1
      refine .g hg1 (.q z (.g hg1 (.q z (.g hg1 (.q z ?_) z)) z)) z
      have ⟨x2,hx2,h⟩:=bnd h
      refine .g hg1 (.s (ixv hS.lendv hx2 T.u25 T.t3 z z z) z (.g hg1 (.s (lde (RV.flat hS.lendv hx2 z) T.t3 z z z z z) z ?_) z)) z
      have ⟨x3,hx3,h⟩:=bnd h
      obtain ⟨k1,hd,hck1⟩:=RV.el2 q_1 hx3
      obtain ⟨v3,k1,rfl,q1,hd1⟩:=rrowv q_1 hd
      obtain rfl:=rnil q_1 hd1
      refine .g hg1 (.s (ixv (hS.keep q_1) hx3 T.u179 T.t55 z z z) z (.g hg1 (.s (lde (hck1 _ hS.agree) T.t55 z z z z z) z (.g hg1 (.q z ?_) z)) z)) z
      have ⟨x4,hx4,h⟩:=bnd h
      refine .g hg1 (.s (ixv (hS.keep (q1 _ q_1)) hx4 T.u55 T.t4 z z z) z (.g hg1 (.s (lde (RV.flat (hS.keep (q1 _ q_1)) hx4 z) T.t4 z z z z z) z (.s (pkf hg1 z z z) z ?_)) z)) z
      cases h
      exact .nil (ck 11 hS z z z z)
     intro W hS
     have ⟨x5,hx5,h⟩:=bnd h
     refine .s (ixv hS.p1.lendv hx5 T.u55 T.t4 z z z) z ?_
     have ⟨r2,hr2,h⟩:=bnd h
     refine .c (.sev hr2 hx5 hS.p1 T.t4 z z z z z z ?_ z z z z z z)
     intro W hS
     refine .nil (.region (.q z (.q z (.q z (.nil ?_)))))
     cases h
     exact ⟨z,sb z,hS.to [1,0] z⟩
    refine .exit ?_
    cases h
    exact ⟨by simp,z,sb z,hS.to [0,0] z⟩
   intro x E W hJ
   obtain ⟨rfl,hE,hS⟩:=hJ
   refine ⟨_,hE.sub,?_⟩
   refine .region (.q z (.q z (.q z (.nil ?_))))
   cases h
   exact ⟨z,sb z,hS.to [0,0] z⟩
  refine .exit ?_
  cases h
  exact ⟨by simp,z,sb z,hS.to [0,0] z⟩
 intro x E W hJ
 obtain ⟨rfl,hE,hS⟩:=hJ
 refine ⟨_,hE.sub,?_⟩
 obtain rfl:=Option.some.inj h
 exact .g (.q z (.qn z (.ret (fin_ret (vs:=[_]) v1 (rt z rn) z (hS.to [1] z)))))
theorem fc6 {a0 : Quad} {w : World} {r : (List Int)} (h : f5i a0 = some r) : Calls Tryz.prog 222 #[.agg #[.int .i64 a0.Op,.int .i64 a0.Dst,.int .i64 a0.A,.int .i64 a0.B,.int .i64 a0.N]] w (Ret No w (fun s : Hd=>(sv s)) (fun s=>[rowV (sv s) 3 1 (D.int .i64) r])):=by
 unfold f5i at h
 refine enter Tryz.func222 z z ?_
 have hS:=Sep.start w
 refine .g (.c (.box hS z z ?_ z z))
 intro g1 W hS
 refine .qn z (.seq (.g (.s (ld T.t126 hS z z z z z) z ?_)))
 have ⟨y1,hy1,h⟩:=bnd h
 refine .c (.call0 hS Tryz.func165 (f7b hy1) z z ?_ z z z z)
 intro W hS
 refine .q z (.nil ?_)
 refine .cs z h ?_ ?_ <;> intro h
 ·refine .g (.c (.liv [] (D.int .i64) T.u25 T.t3 hS z z z z ?_ z (fun _=>z) z z z z))
  intro v1 W hS
  cases h
  exact .qn z (.ret (fin_ret (vs:=[_]) v1 (rt z rn) z (hS.to [0] z)))
 refine .skip (.seq (.g (.s (fa T.f126_0 z z z) z (.s (ld T.t3 hS z z z z z) z (.nil (.block ?_))))))
 have ⟨y2,hy2,h⟩:=bnd h
 refine .seq (CW.via (R':=fun x E' W'=>x = .normal ∧ SubL E' [(1,.pointer (some ⟨g1,0,none⟩)),(8,.int .i64 a0.Op),(9,.bool y2)] ∧ Sep No w W' [.box g1 126 [.int .i64 a0.Op,.int .i64 a0.Dst,.int .i64 a0.A,.int .i64 a0.B,.int .i64 a0.N]]) ?_ ?_)
 ·have h:=hy2
  refine .g (.q z (.q z (.nil ?_)))
  refine .cs z h ?_ ?_ <;> intro h
  ·refine .skip ?_
   cases h
   exact ⟨z,sb z,hS.to [0] z⟩
  refine .g (.q z (.q z (.nil ?_)))
  refine .cs z h ?_ ?_ <;> intro h
  ·refine .skip ?_
   cases h
   exact ⟨z,sb z,hS.to [0] z⟩
  refine .g (.q z (.q z (.nil ?_)))
  refine .cs z h ?_ ?_ <;> intro h
  ·refine .skip ?_
   cases h
   exact ⟨z,sb z,hS.to [0] z⟩
  refine .region (.q z (.q z (.nil ?_)))
  cases h
  exact ⟨z,sb z,hS.to [0] z⟩
 intro x E W hJ
 obtain ⟨rfl,hE,hS⟩:=hJ
 refine ⟨_,hE.sub,?_⟩
 refine .cs z h ?_ ?_ <;> intro h
 ·refine .g (.s (fa T.f126_2 z z z) z (.s (ld T.t3 hS z z z z z) z (.c (.liv [a0.A] (D.int .i64) T.u25 T.t3 hS z z z z ?_ z (fun _=>z) z z z z))))
  intro v2 W hS
  cases h
  exact .qn z (.ret (fin_ret (vs:=[_]) v2 (rt z rn) z (hS.to [0] z)))
 refine .g (.q z (.q z (.nil ?_)))
 refine .cs z h ?_ ?_ <;> intro h
 ·refine .seq (.g (.s (fa T.f126_2 z z z) z (.s (ld T.t3 hS z z z z z) z (.s (fa T.f126_3 z z z) z (.s (ld T.t3 hS z z z z z) z (.q z (.nil ?_)))))))
  refine .cs z h ?_ ?_ <;> intro h
  ·refine .g (.s (fa T.f126_2 z z z) z (.s (ld T.t3 hS z z z z z) z (.c (.liv [a0.A] (D.int .i64) T.u25 T.t3 hS z z z z ?_ z (fun _=>z) z z z z))))
   intro v3 W hS
   cases h
   exact .qn z (.ret (fin_ret (vs:=[_]) v3 (rt z rn) z (hS.to [0] z)))
  refine .skip (.g (.s (fa T.f126_2 z z z) z (.s (ld T.t3 hS z z z z z) z (.s (fa T.f126_3 z z z) z (.s (ld T.t3 hS z z z z z) z (.s (mnv z z z) z (.s (fa T.f126_2 z z z) z (.s (ld T.t3 hS z z z z z) z (.s (fa T.f126_3 z z z) z (.s (ld T.t3 hS z z z z z) z (.s (mxv z z z) z (.c (.liv [min a0.A a0.B,max a0.A a0.B] (D.int .i64) T.u25 T.t3 hS z z z z ?_ z (fun _=>z) z z z z)))))))))))))
  intro v4 W hS
  cases h
  exact .qn z (.ret (fin_ret (vs:=[_]) v4 (rt z rn) z (hS.to [0] z)))
 refine .skip (.g (.c (.liv [] (D.int .i64) T.u25 T.t3 hS z z z z ?_ z (fun _=>z) z z z z)))
 intro v5 W hS
 cases h
 exact .qn z (.ret (fin_ret (vs:=[_]) v5 (rt z rn) z (hS.to [0] z)))
theorem fbd {a0 : Quad} {a1 : List Bool} {v_1 : Hd} {w : World} {r : (List Bool)} (h : f4o a0 a1 = some r) (q_1 : RV w (Old No w) (sv v_1) 4 1 D.bool a1) : Calls Tryz.prog 217 #[.agg #[.int .i64 a0.Op,.int .i64 a0.Dst,.int .i64 a0.A,.int .i64 a0.B,.int .i64 a0.N],(sv v_1)] w (Ret No w (fun s : Hd=>(sv s)) (fun s=>[rowV (sv s) 4 1 D.bool r])):=by
 unfold f4o at h
 refine enter Tryz.func217 z z ?_
 have hS:=Sep.start w
 refine .g (.c (.box hS z z ?_ z z))
 intro g1 W hS
 refine .qn z (.g (.c (.liv [] D.bool T.u55 T.t4 hS z z z z ?_ z (fun _=>z) z z z z)))
 intro v1 W hS
 refine .q z ?_
 have ⟨r1,hr1,h⟩:=bnd h
 refine .c (.apprv hr1 hS (hS.keep q_1) (fun _=>z) T.u55 T.t4 z z z ?_ z z z z z)
 intro v2 W hS
 refine .q z (.nil ?_)
 have ⟨y1,hy1,h⟩:=bnd h
 refine .seq (CW.via (R':=fun x E' W'=>x = .normal ∧ SubL E' [(2,.pointer (some ⟨g1,0,none⟩)),(5,(sv v2))] ∧ Sep No w W' [rowV (sv v2) 4 1 D.bool y1,.box g1 126 [.int .i64 a0.Op,.int .i64 a0.Dst,.int .i64 a0.A,.int .i64 a0.B,.int .i64 a0.N]]) ?_ ?_)
 ·have h:=hy1
  refine .g (.s (ld T.t126 hS.p1 z z z z z) z ?_)
  have ⟨y2,hy2,h⟩:=bnd h
  refine .c (.call0 hS Tryz.func221 (f7z hy2) z z ?_ z z z z)
  intro W hS
  refine .q z (.nil ?_)
  refine .cs z h ?_ ?_ <;> intro h
  ·refine .region (.q z (.s (ld T.t126 hS.p1 z z z z z) z ?_))
   have ⟨y3,hy3,h⟩:=bnd h
   refine .c (.call0 hS Tryz.func221 (f7z hy3) z z ?_ z z z z)
   intro W hS
   have ⟨x1,hx1,h⟩:=bnd h
   refine .s (ixv hS.lendv hx1 T.u55 T.t4 z z z) z ?_
   have ⟨r2,hr2,h⟩:=bnd h
   refine .c (.sev hr2 hx1 hS T.t4 z z z z z z ?_ z z z z z z)
   intro W hS
   refine .nil ?_
   obtain rfl:=Option.some.inj h
   exact ⟨z,sb z,hS.to [0,0] z⟩
  refine .skip ?_
  obtain rfl:=Option.some.inj h
  exact ⟨z,sb z,hS.to [0,0] z⟩
 intro x E W hJ
 obtain ⟨rfl,hE,hS⟩:=hJ
 refine ⟨_,hE.sub,?_⟩
 refine .g (.s (ld T.t126 hS.p1 z z z z z) z ?_)
 have ⟨y4,hy4,h⟩:=bnd h
 refine .c (.call1v hS Tryz.func222 (fc6 hy4) z z ?_ z z z z)
 intro v3 W hS
 refine .qn z (.seq (.g (.qn z (.block ?_))))
 have ⟨y5,hy5,h⟩:=bnd h
 refine .via (.iter (fun s1 E' W'=>SubL E' [(5,(sv v2)),(6,(sv v3)),(7,.int .i64 s1.1)] ∧ Sep No w W' [rowV (sv v3) 3 1 (D.int .i64) y4,rowV (sv v2) 4 1 D.bool s1.2,.box g1 126 [.int .i64 a0.Op,.int .i64 a0.Dst,.int .i64 a0.A,.int .i64 a0.B,.int .i64 a0.N]]) (fun y6 x E' W'=>x = .exit 0 ∧ SubL E' [(5,(sv v2))] ∧ Sep No w W' [rowV (sv v3) 3 1 (D.int .i64) y4,rowV (sv v2) 4 1 D.bool y6,.box g1 126 [.int .i64 a0.Op,.int .i64 a0.Dst,.int .i64 a0.A,.int .i64 a0.B,.int .i64 a0.N]]) hy5 ⟨sb z,hS.to [0,0,0] z⟩ ?_) ?_
 ·intro s1 y7 E W h hI
  obtain ⟨hE,hS⟩:=hI
  refine CW.sub hE ?_
  unfold f7d at h
  refine .seq (.g (.q z (.q z (.s (lenv hS.lendv T.u25 z z) z (.q z (.nil ?_))))))
  refine .cs z h ?_ ?_ <;> intro h
  ·refine .skip (.seq (.block (.region (.q z (.q z (.q z ?_))))))
   have ⟨x2,hx2,h⟩:=bnd h
   refine .s (ixv hS.lendv hx2 T.u25 T.t3 z z z) z (.s (lde (RV.flat hS.lendv hx2 z) T.t3 z z z z z) z ?_)
   have ⟨x3,hx3,h⟩:=bnd h
   refine .s (ixv hS.p1.lendv hx3 T.u55 T.t4 z z z) z ?_
   have ⟨r3,hr3,h⟩:=bnd h
   refine .c (.sev hr3 hx3 hS.p1 T.t4 z z z z z z ?_ z z z z z z)
   intro W hS
   refine .nil (.region (.q z (.q z (.q z (.nil ?_)))))
   cases h
   exact ⟨z,sb z,hS.to [1,0,0] z⟩
  refine .exit ?_
  cases h
  exact ⟨by simp,z,sb z,hS.to [0,0,0] z⟩
 intro x E W hJ
 obtain ⟨rfl,hE,hS⟩:=hJ
 refine ⟨_,hE.sub,?_⟩
 obtain rfl:=Option.some.inj h
 exact .g (.q z (.qn z (.ret (fin_ret (vs:=[_]) v2 (rt z rn) z (hS.to [1] z)))))
def fdd (w : World) (r : Bool) : Env → World → Prop:=Fin Tryz.prog Tryz.f218 No w (fun s : Unit=>.bool r) (fun s=>[]) .ret
theorem fcv {a0 : List Bool} {a1 : List Bool} {v_0 : Hd} {v_1 : Hd} {w : World} {r : Bool} (h : f6g a0 a1 = some r) (q_0 : RV w (Old No w) (sv v_0) 4 1 D.bool a0) (q_1 : RV w (Old No w) (sv v_1) 4 1 D.bool a1) : Calls Tryz.prog 218 #[(sv v_0),(sv v_1)] w (Ret No w (fun s : Unit=>.bool r) (fun s=>[])):=by
 unfold f6g at h
 refine enter Tryz.func218 z z ?_
 have hS:=Sep.start w
 refine .g (.qn z (.seq (.g (.qn z (.block ?_)))))
 have ⟨y1,hy1,h⟩:=bnd h
 refine .via (.iter (fun s1 E' W'=>SubL E' [(0,(sv v_0)),(1,(sv v_1)),(5,.int .i64 s1)] ∧ Sep No w W' []) (fun y2 x E' W'=>(match y2 with | .inl o1=>x = .ret ∧ fdd w o1 E' W' | .inr o2=>x = .exit 0 ∧ SubL E' [(0,(sv v_0)),(1,(sv v_1))] ∧ Sep No w W' [])) hy1 ⟨sb rfl,hS.to [] rfl⟩ ?_) ?_
 ·intro s1 y3 E W h hI
  obtain ⟨hE,hS⟩:=hI
  refine CW.sub hE ?_
  unfold f8t at h
  refine .seq (.g (.q z (.q z (.s (lenv (hS.keep q_0) T.u55 z z) z (.q z (.nil ?_))))))
  refine .cs z h ?_ ?_ <;> intro h
  ·refine .skip (.seq (.block (.seq (.rk 9 hS [] T.mix ?_))))
   intro W hS
   have hT:=hS.to [] z
   refine .tp 0 z z hT (by kernel_rfl) (.tp 1 z z hT (by kernel_rfl) ?_)
   have ⟨x1,hx1,h⟩:=bnd h
   refine .ts 2 z (fun W hT=>ixv (hS.keep q_0) hx1 T.u55 T.t4 z z z) hT z (by kernel_rfl) (.ts 3 z (fun W hT=>lde (RV.flat (hT.keep q_0) hx1 z) T.t4 z z z z z) hT z (by kernel_rfl) (.tp 4 z z hT (by kernel_rfl) (.tp 5 z z hT (by kernel_rfl) ?_)))
   have ⟨x2,hx2,h⟩:=bnd h
   refine .ts 6 z (fun W hT=>ixv (hS.keep q_1) hx2 T.u55 T.t4 z z z) hT z (by kernel_rfl) (.ts 7 z (fun W hT=>lde (RV.flat (hT.keep q_1) hx2 z) T.t4 z z z z z) hT z (by kernel_rfl) (.ts 8 z (fun W hT=>neb T.u4 z z z) hT z (by kernel_rfl) (.done ?_ (by kernel_rfl))))
   refine .cs z h ?_ ?_ <;> intro h
   ·refine .g (.qn z (.ret ?_))
    cases h
    exact ⟨by simp,z,fin_ret (vs:=[_]) () (rt z rn) z (hS.to [] z)⟩
   refine .skip (.region (.q z (.q z (.q z (.nil ?_)))))
   cases h
   exact ⟨z,sb z,hS.to [] z⟩
  refine .exit ?_
  cases h
  exact ⟨by simp,z,sb z,hS.to [] z⟩
 intro x E W hJ
 rcases y1 with o3 | o4
 ·obtain ⟨rfl,hF⟩:=hJ
  refine ⟨_,fun _ _ h=>h,?_⟩
  cases h
  exact hF
 obtain ⟨rfl,hE,hS⟩:=hJ
 refine ⟨_,hE.sub,?_⟩
 cases h
 exact .g (.q z (.s (lenv (hS.keep q_0) T.u55 z z) z (.q z (.s (lenv (hS.keep q_1) T.u55 z z) z (.q z (.qn z (.ret (fin_ret (vs:=[_]) () (rt z rn) z (hS.to [] z)))))))))
theorem fbs {a0 : List Quad} {a1 : List (List Bool)} {v_0 : Hd} {v_1 : Hd} {S : Nat → Prop} {w : World} {r : Bool × (List (List Bool))} (h : f5k a0 a1 = some r) (q_0 : RV w (Old S w) (sv v_0) 126 5 dQuad a0) (hO : Owns w [rowV (sv v_1) 55 1 (fun (l : List Bool)=>D.row 4 1 (l.map D.bool)) a1] S) (hlt : ∀ b,S b → b < w.heap.size) : Calls Tryz.prog 205 #[(sv v_0),(sv v_1)] w (Ret S w (fun s : Unit=>.bool r.1) (fun s=>[rowV (sv v_1) 55 1 (fun (l : List Bool)=>D.row 4 1 (l.map D.bool)) r.2])):=by
 unfold f5k at h
 refine enter Tryz.func205 z z ?_
 have hS:=Sep.startM hO hlt
 refine .g (.qn z (.g (.qn z (.seq (.g (.q z (.s (lenv (hS.keep q_0) T.u104 z z) z (.q z (.qn z (.block ?_))))))))))
 have ⟨y1,hy1,h⟩:=bnd h
 refine .via (.iter (fun s1 E' W'=>SubL E' [(0,(sv v_0)),(1,(sv v_1)),(5,.bool s1.1),(6,.int .i64 s1.2.1)] ∧ Sep S w W' [rowV (sv v_1) 55 1 (fun (l : List Bool)=>D.row 4 1 (l.map D.bool)) s1.2.2]) (fun y2 x E' W'=>x = .exit 0 ∧ SubL E' [(5,.bool y2.1)] ∧ Sep S w W' [rowV (sv v_1) 55 1 (fun (l : List Bool)=>D.row 4 1 (l.map D.bool)) y2.2]) hy1 ⟨sb z,hS.to [0] z⟩ ?_) ?_
 ·intro s1 y3 E W h hI
  obtain ⟨hE,hS⟩:=hI
  refine CW.sub hE ?_
  unfold f83 at h
  refine .seq (.g (.q z (.q z (.nil ?_))))
  refine .cs z h ?_ ?_ <;> intro h
  ·refine .skip ?_
   have ⟨y4,hy4,h⟩:=bnd h
   refine .seq (CW.via (R':=fun x E' W'=>x = .normal ∧ SubL E' [(0,(sv v_0)),(1,(sv v_1)),(5,.bool y4.1),(6,.int .i64 s1.2.1)] ∧ Sep S w W' [rowV (sv v_1) 55 1 (fun (l : List Bool)=>D.row 4 1 (l.map D.bool)) y4.2]) ?_ ?_)
   ·have h:=hy4
    refine .block (.seq (.rk 10 hS [0] T.mix ?_))
    intro W hS
    have hT:=hS.to [0] z
    refine .tp 0 z z hT (by kernel_rfl) (.tp 1 z z hT (by kernel_rfl) ?_)
    have ⟨x1,hx1,h⟩:=bnd h
    refine .ts 2 z (fun W hT=>ixv (hS.keep q_0) hx1 T.u104 T.t126 z z z) hT z (by kernel_rfl) (.ts 3 z (fun W hT=>lde (RV.flat (hT.keep q_0) hx1 z) T.t126 z z z z z) hT z (by kernel_rfl) (.tp 4 z z hT (by kernel_rfl) (.tp 5 z z hT (by kernel_rfl) (.tp 6 z z hT (by kernel_rfl) ?_))))
    have ⟨y5,hy5,h⟩:=bnd h
    refine .by1 7 z (.call1v hS Tryz.func188 (f9m hy5 (hS.keep q_0) hS.lendv) z z ?_ z z z z) (by kernel_rfl)
    intro v1 W hS
    have hT:=hS.to [1] z
    refine ⟨fun _=>hT,?_⟩
    have ⟨y6,hy6,h⟩:=bnd h
    refine .by1 8 z (.call1v hS Tryz.func217 (fbd hy6 hS.lendv) z z ?_ z z z z) (by kernel_rfl)
    intro v2 W hS
    have hT:=hS.to [2] z
    refine ⟨fun _=>hT,.tp 9 z z hT (by kernel_rfl) (.done (.g (.q z (.q z (.q z ?_)))) (by kernel_rfl))⟩
    have ⟨x2,hx2,h⟩:=bnd h
    refine .s (ixv hS.p2.lendv hx2 T.u179 T.t55 z z z) z ?_
    obtain ⟨k1,hS⟩:=Sep.outv hS.p2 hx2
    obtain ⟨v3,k1,rfl,hS⟩:=hS.orowv
    obtain ⟨rfl,hS⟩:=hS.onil
    refine .s (lde (hS.p1.hcellsv) T.t55 z z z z z) z ?_
    have ⟨y7,hy7,h⟩:=bnd h
    refine .c (.call0 hS Tryz.func218 (fcv hy7 hS.p2.lendv hS.lendv) z z ?_ z z z z)
    intro W hS
    refine .q z (.nil ?_)
    refine .cs z h ?_ ?_ <;> intro h
    ·refine .g (.q z (.q z (.q z (.s (ixh hS.p1 hx2 T.u179 T.t55 z z z) z (.c (.sthv hS.p1 T.t55 z z z ?_ z z z z z z))))))
     intro W hS
     refine .nil (.region (.q z (.nil ?_)))
     have hS:=Sep.gat (ds:=[.row 4 1 (y6.map D.bool)]) (cs:=[(sv v2)]) (L1:=[rowV (sv v2) 4 1 D.bool y6]) (.row (.nil)) (hS.to [2,0,0,0] z)
     have hS : Sep _ _ _ [rowV (sv v_1) 55 1 (fun (l : List Bool)=>D.row 4 1 (l.map D.bool)) (s1.2.2.set (Int.toNat s1.2.1) y6),rowV (sv v3) 4 1 D.bool x2,rowV (sv v1) 4 1 D.bool y5]:=hS.backv
     cases h
     exact ⟨z,sb z,hS.to [0] z⟩
    refine .skip ?_
    have hS:=Sep.gat (ds:=[.row 4 1 (x2.map D.bool)]) (cs:=[(sv v3)]) (L1:=[rowV (sv v3) 4 1 D.bool x2]) (.row (.nil)) (hS.to [0,0,0,0] z)
    have hS : Sep _ _ _ [rowV (sv v_1) 55 1 (fun (l : List Bool)=>D.row 4 1 (l.map D.bool)) s1.2.2,rowV (sv v2) 4 1 D.bool y6,rowV (sv v1) 4 1 D.bool y5]:=Sep.back0v hx2 hS
    cases h
    exact ⟨z,sb z,hS.to [0] z⟩
   intro x E W hJ
   obtain ⟨rfl,hE,hS⟩:=hJ
   refine ⟨_,hE.sub,?_⟩
   refine .region (.q z (.q z (.q z (.nil ?_))))
   cases h
   exact ⟨z,sb z,hS.to [0] z⟩
  refine .exit ?_
  cases h
  exact ⟨by simp,z,sb z,hS.to [0] z⟩
 intro x E W hJ
 obtain ⟨rfl,hE,hS⟩:=hJ
 refine ⟨_,hE.sub,?_⟩
 cases h
 exact .g (.q z (.qn z (.ret (fin_ret (vs:=[_]) () (rt z rn) z (hS.to [0] z)))))
theorem fdj {a0 : List Quad} {v_0 : Hd} {w : World} {r : (List (List Bool))} (h : f7k a0 = some r) (q_0 : RV w (Old No w) (sv v_0) 126 5 dQuad a0) : Calls Tryz.prog 186 #[(sv v_0)] w (Ret No w (fun s : Hd=>(sv s)) (fun s=>[rowV (sv s) 55 1 (fun (l : List Bool)=>D.row 4 1 (l.map D.bool)) r])):=by
 unfold f7k at h
 refine enter Tryz.func186 z z ?_
 have hS:=Sep.start w
 refine .g (.qn z (.g (.c (.ligv (L1:=[]) [] (fun (l : List Bool)=>D.row 4 1 (l.map D.bool)) T.u179 T.t55 (hS.to [] z) z z z (.nil) ?_ z (fun _=>z) z z z z z))))
 intro v1 W hS
 refine .qn z (.seq (.g (.q z ?_)))
 have ⟨y1,hy1,h⟩:=bnd h
 refine .c (.call0 hS Tryz.func151 (f0u hy1 (hS.keep q_0)) z z ?_ z z z z)
 intro W hS
 refine .qn z (.cond z (fun hb=>?_) (fun hb=>?_))
 ·have h:=sel_t hb h
  cases h
  exact .g (.q z (.qn z (.ret (fin_ret (vs:=[_]) v1 (rt z rn) z (hS.to [0] z)))))
 have h:=sel_f hb h
 refine .skip (.seq (.g (.qn z (.block ?_))))
 have ⟨y2,hy2,h⟩:=bnd h
 refine .via (.iter (fun s1 E' W'=>∃ (v4 : Hd),SubL E' [(0,(sv v_0)),(3,(sv v4)),(4,.int .i64 s1.2)] ∧ Sep No w W' [rowV (sv v4) 55 1 (fun (l : List Bool)=>D.row 4 1 (l.map D.bool)) s1.1]) (fun y3 x E' W'=>x = .exit 0 ∧ ∃ (v5 : Hd),SubL E' [(0,(sv v_0)),(3,(sv v5))] ∧ Sep No w W' [rowV (sv v5) 55 1 (fun (l : List Bool)=>D.row 4 1 (l.map D.bool)) y3]) hy2 ⟨v1,sb z,hS.to [0] z⟩ ?_) ?_
 ·intro s1 y4 E W h hI
  obtain ⟨v3,hE,hS⟩:=hI
  refine CW.sub hE ?_
  unfold f92 at h
  refine .seq (.g (.q z (.q z (.s (lenv (hS.keep q_0) T.u104 z z) z (.q z (.nil ?_))))))
  refine .cs z h ?_ ?_ <;> intro h
  ·refine .skip (.seq (.block (.region (.q z ?_))))
   have ⟨r1,hr1,h⟩:=bnd h
   refine .c (.mkv false D.bool hr1 T.u55 T.t4 hS z z z z z (fun _=>z) ?_ z z z)
   intro v6 W hS
   refine .c (.ligv (L1:=[rowV (sv v6) 4 1 D.bool r1]) [r1] (fun (l : List Bool)=>D.row 4 1 (l.map D.bool)) T.u179 T.t55 (hS.to [0,0] z) z z z (.row (.nil)) ?_ z (fun _=>z) z z z z z)
   intro v7 W hS
   have ⟨r2,hr2,h⟩:=bnd h
   refine .c (.appv hr2 (hS.to [1,0] z) T.u179 T.t55 z z z ?_ z z z z z)
   intro v8 W hS
   refine .qn z (.region (.q z (.q z (.q z (.nil ?_)))))
   cases h
   exact ⟨z,v8,sb z,hS.to [0] z⟩
  refine .exit ?_
  cases h
  exact ⟨by simp,z,v3,sb z,hS.to [0] z⟩
 intro x E W hJ
 obtain ⟨rfl,v9,hE,hS⟩:=hJ
 refine ⟨_,hE.sub,?_⟩
 refine .seq (.block ?_)
 have ⟨y5,hy5,h⟩:=bnd h
 refine .via (.iter (fun s2 E' W'=>SubL E' [(0,(sv v_0)),(3,(sv v9))] ∧ Sep No w W' [rowV (sv v9) 55 1 (fun (l : List Bool)=>D.row 4 1 (l.map D.bool)) s2]) (fun y6 x E' W'=>x = .exit 2 ∧ SubL E' [(3,(sv v9))] ∧ Sep No w W' [rowV (sv v9) 55 1 (fun (l : List Bool)=>D.row 4 1 (l.map D.bool)) y6]) hy5 ⟨sb z,hS.to [0] z⟩ ?_) ?_
 ·intro s2 y7 E W h hI
  obtain ⟨hE,hS⟩:=hI
  refine CW.sub hE ?_
  unfold f90 at h
  refine .seq (.g (.q z (.q z ?_)))
  have ⟨y8,hy8,h⟩:=bnd h
  refine .c (.callS2 (L0:=[rowV (sv v9) 55 1 (fun (l : List Bool)=>D.row 4 1 (l.map D.bool)) s2]) hS Tryz.func205 (fun S h1 h2 h3=>(fbs hy8 (hS.keepS q_0 h1) h2 (zz h1))) z z ?_ z z z z)
  rintro ⟨⟩ W hS
  refine .nil ?_
  refine .cs z h ?_ ?_ <;> intro h
  ·refine .skip (.block (.skip ?_))
   cases h
   exact ⟨z,sb z,hS.to [0] z⟩
  refine .exit ?_
  cases h
  exact ⟨by simp,z,sb z,hS.to [0] z⟩
 intro x E W hJ
 obtain ⟨rfl,hE,hS⟩:=hJ
 refine ⟨_,hE.sub,?_⟩
 obtain rfl:=Option.some.inj h
 exact .g (.q z (.qn z (.ret (fin_ret (vs:=[_]) v9 (rt z rn) z (hS.to [0] z)))))
theorem fd2 {a0 : Quad} {a1 : List Bool} {v_1 : Hd} {w : World} {r : Bool} (h : f6p a0 a1 = some r) (q_1 : RV w (Old No w) (sv v_1) 4 1 D.bool a1) : Calls Tryz.prog 187 #[.agg #[.int .i64 a0.Op,.int .i64 a0.Dst,.int .i64 a0.A,.int .i64 a0.B,.int .i64 a0.N],(sv v_1)] w (Ret No w (fun s : Unit=>.bool r) (fun s=>[])):=by
 unfold f6p at h
 refine enter Tryz.func187 z z ?_
 have hS:=Sep.start w
 refine .g (.c (.box hS z z ?_ z z))
 intro g1 W hS
 refine .qn z (.seq (.g (.s (fa T.f126_0 z z z) z (.s (ld T.t3 hS z z z z z) z (.nil (.block ?_))))))
 have ⟨y1,hy1,h⟩:=bnd h
 refine .seq (CW.via (R':=fun x E' W'=>x = .normal ∧ SubL E' [(1,(sv v_1)),(2,.pointer (some ⟨g1,0,none⟩)),(7,.bool y1)] ∧ Sep No w W' [.box g1 126 [.int .i64 a0.Op,.int .i64 a0.Dst,.int .i64 a0.A,.int .i64 a0.B,.int .i64 a0.N]]) ?_ ?_)
 ·have h:=hy1
  refine .g (.q z (.q z (.nil ?_)))
  refine .cs z h ?_ ?_ <;> intro h
  ·refine .skip ?_
   cases h
   exact ⟨z,sb z,hS.to [0] z⟩
  refine .g (.q z (.q z (.nil ?_)))
  refine .cs z h ?_ ?_ <;> intro h
  ·refine .skip ?_
   cases h
   exact ⟨z,sb z,hS.to [0] z⟩
  refine .region (.q z (.q z (.nil ?_)))
  cases h
  exact ⟨z,sb z,hS.to [0] z⟩
 intro x E W hJ
 obtain ⟨rfl,hE,hS⟩:=hJ
 refine ⟨_,hE.sub,?_⟩
 refine .cs z h ?_ ?_ <;> intro h
 ·refine .g (.q z (.s (fa T.f126_1 z z z) z (.s (ld T.t3 hS z z z z z) z ?_)))
  have ⟨x1,hx1,h⟩:=bnd h
  cases h
  exact .s (ixv (hS.keep q_1) hx1 T.u55 T.t4 z z z) z (.s (lde (RV.flat (hS.keep q_1) hx1 z) T.t4 z z z z z) z (.q z (.qn z (.ret (fin_ret (vs:=[_]) () (rt z rn) z (hS.to [] z))))))
 obtain rfl:=Option.some.inj h
 exact .skip (.g (.qn z (.ret (fin_ret (vs:=[_]) () (rt z rn) z (hS.to [] z)))))
theorem fbg {a0 : List Quad} {v_0 : Hd} {w : World} {r : (List Quad) × Bool} (h : f5j a0 = some r) (q_0 : RV w (Old No w) (sv v_0) 126 5 dQuad a0) : Calls Tryz.prog 169 #[(sv v_0)] w (Ret No w (fun s : Hd=>.tuple #[(sv s),.bool r.2]) (fun s=>[rowV (sv s) 126 5 dQuad r.1])):=by
 unfold f5j at h
 refine enter Tryz.func169 z z ?_
 have hS:=Sep.start w
 refine .g (.q z (.qn z (.g (.c (.liv [] dQuad T.u104 T.t126 hS z z z z ?_ z (fun _=>z) z z z z)))))
 intro v1 W hS
 refine .qn z (.seq (.g (.q z ?_)))
 have ⟨y1,hy1,h⟩:=bnd h
 refine .c (.call0 hS Tryz.func151 (f0u hy1 (hS.keep q_0)) z z ?_ z z z z)
 intro W hS
 refine .q z (.nil ?_)
 refine .cs z h ?_ ?_ <;> intro h
 ·cases h
  exact .g (.q z (.q z (.qn z (.ret (fin_ret (vs:=[_,_]) v1 (rt z (rt z rn)) z (hS.to [0] z))))))
 refine .skip (.g (.q z ?_))
 have ⟨y2,hy2,h⟩:=bnd h
 refine .c (.call1v hS Tryz.func186 (fdj hy2 (hS.keep q_0)) z z ?_ z z z z)
 intro v2 W hS
 refine .qn z (.seq (.g (.qn z (.block ?_))))
 have ⟨y3,hy3,h⟩:=bnd h
 refine .via (.iter (fun s1 E' W'=>∃ (v5 : Hd),SubL E' [(0,(sv v_0)),(4,(sv v5)),(5,(sv v2)),(6,.int .i64 s1.2)] ∧ Sep No w W' [rowV (sv v2) 55 1 (fun (l : List Bool)=>D.row 4 1 (l.map D.bool)) y2,rowV (sv v5) 126 5 dQuad s1.1]) (fun y4 x E' W'=>x = .exit 0 ∧ ∃ (v6 : Hd),SubL E' [(4,(sv v6))] ∧ Sep No w W' [rowV (sv v2) 55 1 (fun (l : List Bool)=>D.row 4 1 (l.map D.bool)) y2,rowV (sv v6) 126 5 dQuad y4]) hy3 ⟨v1,sb z,hS.to [0,0] z⟩ ?_) ?_
 ·intro s1 y5 E W h hI
  obtain ⟨v4,hE,hS⟩:=hI
  refine CW.sub hE ?_
  unfold f58 at h
  refine .seq (.g (.q z (.q z (.s (lenv (hS.keep q_0) T.u104 z z) z (.q z (.nil ?_))))))
  refine .cs z h ?_ ?_ <;> intro h
  ·refine .skip (.seq (.block (.g (.q z (.q z ?_)))))
   have ⟨x1,hx1,h⟩:=bnd h
   refine .s (ixv (hS.keep q_0) hx1 T.u104 T.t126 z z z) z (.s (lde (RV.flat (hS.keep q_0) hx1 z) T.t126 z z z z z) z (.c (.alloc T.t126 hS ?_ z z z)))
   intro g1 W hS
   refine .c (.st T.t126 hS z z z ?_ z z z z z)
   intro W hS
   refine .nil ?_
   have ⟨y6,hy6,h⟩:=bnd h
   refine .seq (CW.via (R':=fun x E' W'=>x = .normal ∧ SubL E' [(0,(sv v_0)),(4,(sv v4)),(5,(sv v2)),(6,.int .i64 s1.2),(7,.pointer (some ⟨g1,0,none⟩))] ∧ Sep No w W' [.box g1 126 [.int .i64 y6.Op,.int .i64 y6.Dst,.int .i64 y6.A,.int .i64 y6.B,.int .i64 y6.N],rowV (sv v2) 55 1 (fun (l : List Bool)=>D.row 4 1 (l.map D.bool)) y2,rowV (sv v4) 126 5 dQuad s1.1]) ?_ ?_)
   ·have h:=hy6
    refine .seq (.rk 6 hS [0,0,0] T.mix ?_)
    intro W hS
    have hT:=hS.to [0,0,0] z
    refine .ts 0 z (fun W hT=>ld T.t126 hT z z z z z) hT z (by kernel_rfl) (.tp 1 z z hT (by kernel_rfl) (.tp 2 z z hT (by kernel_rfl) (.tp 3 z z hT (by kernel_rfl) ?_)))
    have ⟨y7,hy7,h⟩:=bnd h
    refine .by1 4 z (.call1v hS Tryz.func188 (f9m hy7 (hS.keep q_0) hS.p1.lendv) z z ?_ z z z z) (by kernel_rfl)
    intro v7 W hS
    have hT:=hS.to [1,1,1] z
    refine ⟨fun _=>hT,?_⟩
    have ⟨y8,hy8,h⟩:=bnd h
    refine .by1 5 z (.call0 hS Tryz.func187 (fd2 hy8 hS.lendv) z z ?_ z z z z) (by kernel_rfl)
    intro W hS
    have hT:=hS.to [1,1,1] z
    refine ⟨fun _=>hT,.done ?_ (by kernel_rfl)⟩
    refine .cs z h ?_ ?_ <;> intro h
    ·refine .region (.q z (.q z (.s (bs T.s126 z z) z (.c (.st T.t126 hS.p1 z z z ?_ z z z z z)))))
     intro W hS
     refine .nil ?_
     cases h
     exact ⟨z,sb z,hS.to [0,1,1] z⟩
    refine .skip ?_
    obtain rfl:=Option.some.inj h
    exact ⟨z,sb z,hS.to [1,1,1] z⟩
   intro x E W hJ
   obtain ⟨rfl,hE,hS⟩:=hJ
   refine ⟨_,hE.sub,?_⟩
   refine .region (.q z (.s (ld T.t126 hS z z z z z) z (.c (.liv [y6] dQuad T.u104 T.t126 hS z z z z ?_ z (fun _=>z) z z z z))))
   intro v8 W hS
   have ⟨r1,hr1,h⟩:=bnd h
   have hT0:=hS.p3
   refine .c (.apprv hr1 hT0 hT0.p1.lendv (fun _=>z) T.u104 T.t126 z z z ?_ z z z z z)
   intro v9 W hS
   refine .qn z (.region (.q z (.q z (.q z (.nil ?_)))))
   cases h
   exact ⟨z,v9,sb z,hS.to [3,0] z⟩
  refine .exit ?_
  cases h
  exact ⟨by simp,z,v4,sb z,hS.to [0,0] z⟩
 intro x E W hJ
 obtain ⟨rfl,v10,hE,hS⟩:=hJ
 refine ⟨_,hE.sub,?_⟩
 cases h
 exact .g (.q z (.q z (.qn z (.ret (fin_ret (vs:=[_,_]) v10 (rt z (rt z rn)) z (hS.to [1] z))))))
theorem fbc {a0 : List Quad} {a1 : List Bool} {v_0 : Hd} {v_1 : Hd} {S : Nat → Prop} {w : World} {r : Bool × (List Bool)} (h : f4v a0 a1 = some r) (q_0 : RV w (Old S w) (sv v_0) 126 5 dQuad a0) (hO : Owns w [rowV (sv v_1) 4 1 D.bool a1] S) (hlt : ∀ b,S b → b < w.heap.size) : Calls Tryz.prog 207 #[(sv v_0),(sv v_1)] w (Ret S w (fun s : Unit=>.bool r.1) (fun s=>[rowV (sv v_1) 4 1 D.bool r.2])):=by
 unfold f4v at h
 refine enter Tryz.func207 z z ?_
 have hS:=Sep.startM hO hlt
 refine .g (.qn z (.g (.qn z (.seq (.g (.qn z (.block ?_)))))))
 have ⟨y1,hy1,h⟩:=bnd h
 refine .via (.iter (fun s1 E' W'=>SubL E' [(0,(sv v_0)),(1,(sv v_1)),(5,.bool s1.1),(6,.int .i64 s1.2.1)] ∧ Sep S w W' [rowV (sv v_1) 4 1 D.bool s1.2.2]) (fun y2 x E' W'=>x = .exit 0 ∧ SubL E' [(5,.bool y2.1)] ∧ Sep S w W' [rowV (sv v_1) 4 1 D.bool y2.2]) hy1 ⟨sb z,hS.to [0] z⟩ ?_) ?_
 ·intro s1 y3 E W h hI
  obtain ⟨hE,hS⟩:=hI
  refine CW.sub hE ?_
  unfold f7h at h
  refine .seq (.g (.q z (.q z (.s (lenv (hS.keep q_0) T.u104 z z) z (.q z (.nil ?_))))))
  refine .cs z h ?_ ?_ <;> intro h
  ·refine .skip ?_
   have ⟨y4,hy4,h⟩:=bnd h
   refine .seq (CW.via (R':=fun x E' W'=>x = .normal ∧ SubL E' [(0,(sv v_0)),(1,(sv v_1)),(5,.bool y4.1),(6,.int .i64 s1.2.1)] ∧ Sep S w W' [rowV (sv v_1) 4 1 D.bool y4.2]) ?_ ?_)
   ·have h:=hy4
    refine .block (.seq (.g (.q z (.q z ?_))))
    have ⟨x1,hx1,h⟩:=bnd h
    refine .s (ixv hS.lendv hx1 T.u55 T.t4 z z z) z (.s (lde (RV.flat hS.lendv hx1 z) T.t4 z z z z z) z (.q z (.nil ?_)))
    refine .cs z h ?_ ?_ <;> intro h
    ·refine .exit ?_
     cases h
     exact ⟨z,sb z,hS.to [0] z⟩
    refine .skip (.g (.q z (.q z ?_)))
    have ⟨y5,hy5,h⟩:=bnd h
    refine .c (.call1v hS Tryz.func206 (f6a hy5 (hS.keep q_0)) z z ?_ z z z z)
    intro v1 W hS
    refine .qn z (.g (.qn z (.block ?_)))
    have ⟨y6,hy6,h⟩:=bnd h
    refine .via (.iter (fun s2 E' W'=>SubL E' [(0,(sv v_0)),(1,(sv v_1)),(5,.bool s2.1),(6,.int .i64 s1.2.1),(7,(sv v1)),(8,.int .i64 s2.2.1)] ∧ Sep S w W' [rowV (sv v1) 3 1 (D.int .i64) y5,rowV (sv v_1) 4 1 D.bool s2.2.2]) (fun y7 x E' W'=>x = .exit 2 ∧ SubL E' [(0,(sv v_0)),(1,(sv v_1)),(5,.bool y7.1),(6,.int .i64 s1.2.1)] ∧ Sep S w W' [rowV (sv v1) 3 1 (D.int .i64) y5,rowV (sv v_1) 4 1 D.bool y7.2]) hy6 ⟨sb z,hS.to [0,0] z⟩ ?_) ?_
    ·intro s2 y8 E W h hI
     obtain ⟨hE,hS⟩:=hI
     refine CW.sub hE ?_
     unfold f7e at h
     refine .seq (.g (.q z (.q z (.s (lenv hS.lendv T.u25 z z) z (.q z (.nil ?_))))))
     refine .cs z h ?_ ?_ <;> intro h
     ·refine .skip ?_
      have ⟨y9,hy9,h⟩:=bnd h
      refine .seq (CW.via (R':=fun x E' W'=>x = .normal ∧ SubL E' [(0,(sv v_0)),(1,(sv v_1)),(5,.bool y9.1),(6,.int .i64 s1.2.1),(7,(sv v1)),(8,.int .i64 s2.2.1)] ∧ Sep S w W' [rowV (sv v1) 3 1 (D.int .i64) y5,rowV (sv v_1) 4 1 D.bool y9.2]) ?_ ?_)
      ·have h:=hy9
       refine .block (.g (.q z (.q z (.q z ?_))))
       have ⟨x2,hx2,h⟩:=bnd h
       refine .s (ixv hS.lendv hx2 T.u25 T.t3 z z z) z (.s (lde (RV.flat hS.lendv hx2 z) T.t3 z z z z z) z ?_)
       have ⟨x3,hx3,h⟩:=bnd h
       refine .s (ixv hS.p1.lendv hx3 T.u55 T.t4 z z z) z (.s (lde (RV.flat hS.p1.lendv hx3 z) T.t4 z z z z z) z (.q z (.nil ?_)))
       refine .cs z h ?_ ?_ <;> intro h
       ·refine .g (.q z (.q z (.q z ?_)))
        have ⟨x4,hx4,h⟩:=bnd h
        refine .s (ixv hS.lendv hx4 T.u25 T.t3 z z z) z (.s (lde (RV.flat hS.lendv hx4 z) T.t3 z z z z z) z ?_)
        have ⟨x5,hx5,h⟩:=bnd h
        refine .s (ixv hS.p1.lendv hx5 T.u55 T.t4 z z z) z ?_
        have ⟨r1,hr1,h⟩:=bnd h
        refine .c (.sev hr1 hx5 hS.p1 T.t4 z z z z z z ?_ z z z z z z)
        intro W hS
        refine .nil (.region (.q z (.nil ?_)))
        cases h
        exact ⟨z,sb z,hS.to [1,0] z⟩
       refine .skip ?_
       cases h
       exact ⟨z,sb z,hS.to [0,0] z⟩
      intro x E W hJ
      obtain ⟨rfl,hE,hS⟩:=hJ
      refine ⟨_,hE.sub,?_⟩
      refine .region (.q z (.q z (.q z (.nil ?_))))
      cases h
      exact ⟨z,sb z,hS.to [0,0] z⟩
     refine .exit ?_
     cases h
     exact ⟨by simp,z,sb z,hS.to [0,0] z⟩
    intro x E W hJ
    obtain ⟨rfl,hE,hS⟩:=hJ
    refine ⟨_,hE.sub,?_⟩
    cases h
    exact ⟨z,sb z,hS.to [1] z⟩
   intro x E W hJ
   obtain ⟨rfl,hE,hS⟩:=hJ
   refine ⟨_,hE.sub,?_⟩
   refine .region (.q z (.q z (.q z (.nil ?_))))
   cases h
   exact ⟨z,sb z,hS.to [0] z⟩
  refine .exit ?_
  cases h
  exact ⟨by simp,z,sb z,hS.to [0] z⟩
 intro x E W hJ
 obtain ⟨rfl,hE,hS⟩:=hJ
 refine ⟨_,hE.sub,?_⟩
 cases h
 exact .g (.q z (.qn z (.ret (fin_ret (vs:=[_]) () (rt z rn) z (hS.to [0] z)))))
theorem fb3 {a0 : List Quad} {v_0 : Hd} {w : World} {r : (List Bool)} (h : f52 a0 = some r) (q_0 : RV w (Old No w) (sv v_0) 126 5 dQuad a0) : Calls Tryz.prog 189 #[(sv v_0)] w (Ret No w (fun s : Hd=>(sv s)) (fun s=>[rowV (sv s) 4 1 D.bool r])):=by
 unfold f52 at h
 refine enter Tryz.func189 z z ?_
 have hS:=Sep.start w
 refine .g (.qn z (.seq (.g (.q z ?_))))
 have ⟨y1,hy1,h⟩:=bnd h
 refine .c (.call0 hS Tryz.func151 (f0u hy1 (hS.keep q_0)) z z ?_ z z z z)
 intro W hS
 refine .qn z (.cond z (fun hb=>?_) (fun hb=>?_))
 ·have h:=sel_t hb h
  refine .g (.c (.liv [] D.bool T.u55 T.t4 hS z z z z ?_ z (fun _=>z) z z z z))
  intro v1 W hS
  cases h
  exact .qn z (.ret (fin_ret (vs:=[_]) v1 (rt z rn) z (hS.to [0] z)))
 have h:=sel_f hb h
 refine .skip (.g (.q z (.s (lenv (hS.keep q_0) T.u104 z z) z ?_)))
 have ⟨r1,hr1,h⟩:=bnd h
 refine .c (.mkv false D.bool hr1 T.u55 T.t4 hS z z z z z (fun _=>z) ?_ z z z)
 intro v2 W hS
 refine .qn z (.g (.q z ?_))
 have ⟨x1,hx1,h⟩:=bnd h
 refine .s (ixv hS.lendv hx1 T.u55 T.t4 z z z) z ?_
 have ⟨r2,hr2,h⟩:=bnd h
 refine .c (.sev hr2 hx1 hS T.t4 z z z z z z ?_ z z z z z z)
 intro W hS
 refine .nil (.seq (.block ?_))
 have ⟨y2,hy2,h⟩:=bnd h
 refine .via (.iter (fun s1 E' W'=>SubL E' [(0,(sv v_0)),(3,(sv v2))] ∧ Sep No w W' [rowV (sv v2) 4 1 D.bool s1]) (fun y3 x E' W'=>x = .exit 0 ∧ SubL E' [(3,(sv v2))] ∧ Sep No w W' [rowV (sv v2) 4 1 D.bool y3]) hy2 ⟨sb z,hS.to [0] z⟩ ?_) ?_
 ·intro s1 y4 E W h hI
  obtain ⟨hE,hS⟩:=hI
  refine CW.sub hE ?_
  unfold f77 at h
  refine .seq (.g (.q z (.q z ?_)))
  have ⟨y5,hy5,h⟩:=bnd h
  refine .c (.callS2 (L0:=[rowV (sv v2) 4 1 D.bool s1]) hS Tryz.func207 (fun S h1 h2 h3=>(fbc hy5 (hS.keepS q_0 h1) h2 (zz h1))) z z ?_ z z z z)
  rintro ⟨⟩ W hS
  refine .nil ?_
  refine .cs z h ?_ ?_ <;> intro h
  ·refine .skip (.block (.skip ?_))
   cases h
   exact ⟨z,sb z,hS.to [0] z⟩
  refine .exit ?_
  cases h
  exact ⟨by simp,z,sb z,hS.to [0] z⟩
 intro x E W hJ
 obtain ⟨rfl,hE,hS⟩:=hJ
 refine ⟨_,hE.sub,?_⟩
 obtain rfl:=Option.some.inj h
 exact .g (.q z (.qn z (.ret (fin_ret (vs:=[_]) v2 (rt z rn) z (hS.to [0] z)))))
theorem fcj {a0 : Quad} {a1 : Int} {w : World} {r : Bool} (h : f6x a0 a1 = some r) : Calls Tryz.prog 190 #[.agg #[.int .i64 a0.Op,.int .i64 a0.Dst,.int .i64 a0.A,.int .i64 a0.B,.int .i64 a0.N],.int .i64 a1] w (Ret No w (fun s : Unit=>.bool r) (fun s=>[])):=by
 unfold f6x at h
 refine enter Tryz.func190 z z ?_
 have hS:=Sep.start w
 refine .g (.c (.box hS z z ?_ z z))
 intro g1 W hS
 refine .qn z (.seq (.g (.s (fa T.f126_0 z z z) z (.s (ld T.t3 hS z z z z z) z (.nil (.block ?_))))))
 have ⟨y1,hy1,h⟩:=bnd h
 refine .seq (CW.via (R':=fun x E' W'=>x = .normal ∧ SubL E' [(1,.int .i64 a1),(2,.pointer (some ⟨g1,0,none⟩)),(6,.int .i64 a0.Op),(7,.bool y1)] ∧ Sep No w W' [.box g1 126 [.int .i64 a0.Op,.int .i64 a0.Dst,.int .i64 a0.A,.int .i64 a0.B,.int .i64 a0.N]]) ?_ ?_)
 ·have h:=hy1
  refine .g (.q z (.q z (.nil ?_)))
  refine .cs z h ?_ ?_ <;> intro h
  ·refine .skip ?_
   cases h
   exact ⟨z,sb z,hS.to [0] z⟩
  refine .region (.q z (.q z (.nil ?_)))
  cases h
  exact ⟨z,sb z,hS.to [0] z⟩
 intro x E W hJ
 obtain ⟨rfl,hE,hS⟩:=hJ
 refine ⟨_,hE.sub,?_⟩
 refine .cs z h ?_ ?_ <;> intro h
 ·cases h
  exact .g (.s (fa T.f126_4 z z z) z (.s (ld T.t3 hS z z z z z) z (.q z (.q z (.q z (.qn z (.ret (fin_ret (vs:=[_]) () (rt z rn) z (hS.to [] z)))))))))
 refine .g (.q z (.q z (.nil ?_)))
 refine .cs z h ?_ ?_ <;> intro h
 ·cases h
  exact .g (.s (fa T.f126_1 z z z) z (.s (ld T.t3 hS z z z z z) z (.s (fa T.f126_2 z z z) z (.s (ld T.t3 hS z z z z z) z (.q z (.qn z (.ret (fin_ret (vs:=[_]) () (rt z rn) z (hS.to [] z)))))))))
 obtain rfl:=Option.some.inj h
 exact .skip (.g (.qn z (.ret (fin_ret (vs:=[_]) () (rt z rn) z (hS.to [] z)))))
theorem fc2 {a0 : List Bool} {a1 : Int} {v_0 : Hd} {w : World} {r : Int} (h : f5x a0 a1 = some r) (q_0 : RV w (Old No w) (sv v_0) 4 1 D.bool a0) : Calls Tryz.prog 191 #[(sv v_0),.int .i64 a1] w (Ret No w (fun s : Unit=>.int .i64 r) (fun s=>[])):=by
 unfold f5x at h
 refine enter Tryz.func191 z z ?_
 have hS:=Sep.start w
 refine .g (.qn z (.g (.qn z (.seq (.g (.qn z (.block ?_)))))))
 have ⟨y1,hy1,h⟩:=bnd h
 refine .via (.iter (fun s1 E' W'=>SubL E' [(0,(sv v_0)),(1,.int .i64 a1),(5,.int .i64 s1.1),(6,.int .i64 s1.2)] ∧ Sep No w W' []) (fun y2 x E' W'=>x = .exit 0 ∧ SubL E' [(5,.int .i64 y2)] ∧ Sep No w W' []) hy1 ⟨sb z,hS.to [] z⟩ ?_) ?_
 ·intro s1 y3 E W h hI
  obtain ⟨hE,hS⟩:=hI
  refine CW.sub hE ?_
  unfold f86 at h
  refine .seq (.g (.q z (.q z (.q z (.nil ?_)))))
  refine .cs z h ?_ ?_ <;> intro h
  ·refine .skip ?_
   have ⟨y4,hy4,h⟩:=bnd h
   refine .seq (CW.via (R':=fun x E' W'=>x = .normal ∧ SubL E' [(0,(sv v_0)),(1,.int .i64 a1),(5,.int .i64 y4),(6,.int .i64 s1.2)] ∧ Sep No w W' []) ?_ ?_)
   ·have h:=hy4
    refine .block (.g (.q z (.q z ?_)))
    have ⟨x1,hx1,h⟩:=bnd h
    refine .s (ixv (hS.keep q_0) hx1 T.u55 T.t4 z z z) z (.s (lde (RV.flat (hS.keep q_0) hx1 z) T.t4 z z z z z) z (.nil ?_))
    refine .cs z h ?_ ?_ <;> intro h
    ·refine .region (.q z (.q z (.q z (.nil ?_))))
     cases h
     exact ⟨z,sb z,hS.to [] z⟩
    refine .skip ?_
    cases h
    exact ⟨z,sb z,hS.to [] z⟩
   intro x E W hJ
   obtain ⟨rfl,hE,hS⟩:=hJ
   refine ⟨_,hE.sub,?_⟩
   refine .region (.q z (.q z (.q z (.nil ?_))))
   cases h
   exact ⟨z,sb z,hS.to [] z⟩
  refine .exit ?_
  cases h
  exact ⟨by simp,z,sb z,hS.to [] z⟩
 intro x E W hJ
 obtain ⟨rfl,hE,hS⟩:=hJ
 refine ⟨_,hE.sub,?_⟩
 obtain rfl:=Option.some.inj h
 exact .g (.q z (.qn z (.ret (fin_ret (vs:=[_]) () (rt z rn) z (hS.to [] z)))))
theorem fap {a0 : List Quad} {v_0 : Hd} {w : World} {r : (List Quad) × Bool} (h : f3y a0 = some r) (q_0 : RV w (Old No w) (sv v_0) 126 5 dQuad a0) : Calls Tryz.prog 170 #[(sv v_0)] w (Ret No w (fun s : Hd=>.tuple #[(sv s),.bool r.2]) (fun s=>[rowV (sv s) 126 5 dQuad r.1])):=by
 unfold f3y at h
 refine enter Tryz.func170 z z ?_
 have hS:=Sep.start w
 refine .g (.q z (.qn z (.g (.c (.liv [] dQuad T.u104 T.t126 hS z z z z ?_ z (fun _=>z) z z z z)))))
 intro v1 W hS
 refine .qn z (.seq (.g (.q z ?_)))
 have ⟨y1,hy1,h⟩:=bnd h
 refine .c (.call0 hS Tryz.func151 (f0u hy1 (hS.keep q_0)) z z ?_ z z z z)
 intro W hS
 refine .q z (.nil ?_)
 refine .cs z h ?_ ?_ <;> intro h
 ·cases h
  exact .g (.q z (.q z (.qn z (.ret (fin_ret (vs:=[_,_]) v1 (rt z (rt z rn)) z (hS.to [0] z))))))
 refine .skip (.g (.q z ?_))
 have ⟨y2,hy2,h⟩:=bnd h
 refine .c (.call1v hS Tryz.func189 (fb3 hy2 (hS.keep q_0)) z z ?_ z z z z)
 intro v2 W hS
 refine .qn z (.seq (.g (.qn z (.block ?_))))
 have ⟨y3,hy3,h⟩:=bnd h
 refine .via (.iter (fun s1 E' W'=>SubL E' [(0,(sv v_0)),(4,(sv v1)),(5,(sv v2)),(6,.int .i64 s1.1)] ∧ Sep No w W' [rowV (sv v2) 4 1 D.bool s1.2,rowV (sv v1) 126 5 dQuad []]) (fun y4 x E' W'=>x = .exit 0 ∧ SubL E' [(0,(sv v_0)),(4,(sv v1)),(5,(sv v2))] ∧ Sep No w W' [rowV (sv v2) 4 1 D.bool y4,rowV (sv v1) 126 5 dQuad []]) hy3 ⟨sb z,hS.to [0,0] z⟩ ?_) ?_
 ·intro s1 y5 E W h hI
  obtain ⟨hE,hS⟩:=hI
  refine CW.sub hE ?_
  unfold f64 at h
  refine .seq (.g (.q z (.q z (.s (lenv (hS.keep q_0) T.u104 z z) z (.q z (.nil ?_))))))
  refine .cs z h ?_ ?_ <;> intro h
  ·refine .skip (.seq (.block (.region (.q z (.q z (.q z (.q z ?_)))))))
   have ⟨x1,hx1,h⟩:=bnd h
   refine .s (ixv hS.lendv hx1 T.u55 T.t4 z z z) z (.s (lde (RV.flat hS.lendv hx1 z) T.t4 z z z z z) z (.q z ?_))
   have ⟨b1,hb1,h⟩:=bnd h
   refine .chunk 8 36 (b1) hS ?_ ?_
   ·refine .both (x1) (fun hb=>?_) (fun hb=>?_)
    ·have hg1:=hb
     have h:=sel_t hb hb1
     refine .g hg1 (.q z (.g hg1 (.q z ?_) z)) z
     have ⟨x2,hx2,h⟩:=bnd h
     refine .g hg1 (.s (ixv (hS.keep q_0) hx2 T.u104 T.t126 z z z) z (.g hg1 (.s (lde (RV.flat (hS.keep q_0) hx2 z) T.t126 z z z z z) z (.g hg1 (.q z ?_) z)) z)) z
     have ⟨y6,hy6,h⟩:=bnd h
     refine .g hg1 (.c (.call0 hS Tryz.func190 (fcj hy6) z z ?_ z z z z)) z
     intro W hS
     refine .g hg1 (.q z (.s (pkt hg1 z z z) z ?_)) z
     cases h
     exact .nil (ck 8 hS z z z z)
    refine .xx hb z (.xx hb z (.xx hb z (.xx hb z (.xx hb z (.xx hb z (.xx hb z ?_))))))
    cases sel_f hb hb1
    exact .s (pkf hb z z z) z (.nil (ck 8 hS z z z z))
   intro W hS
   have ⟨x3,hx3,h⟩:=bnd h
   refine .s (ixv hS.lendv hx3 T.u55 T.t4 z z z) z ?_
   have ⟨r1,hr1,h⟩:=bnd h
   refine .c (.sev hr1 hx3 hS T.t4 z z z z z z ?_ z z z z z z)
   intro W hS
   refine .nil (.region (.q z (.q z (.q z (.nil ?_)))))
   cases h
   exact ⟨z,sb z,hS.to [0,0] z⟩
  refine .exit ?_
  cases h
  exact ⟨by simp,z,sb z,hS.to [0,0] z⟩
 intro x E W hJ
 obtain ⟨rfl,hE,hS⟩:=hJ
 refine ⟨_,hE.sub,?_⟩
 refine .seq (.g (.qn z (.block ?_)))
 have ⟨y7,hy7,h⟩:=bnd h
 refine .via (.iter (fun s2 E' W'=>∃ (v5 : Hd),SubL E' [(0,(sv v_0)),(4,(sv v5)),(5,(sv v2)),(7,.int .i64 s2.2)] ∧ Sep No w W' [rowV (sv v2) 4 1 D.bool y3,rowV (sv v5) 126 5 dQuad s2.1]) (fun y8 x E' W'=>x = .exit 2 ∧ ∃ (v6 : Hd),SubL E' [(4,(sv v6))] ∧ Sep No w W' [rowV (sv v2) 4 1 D.bool y3,rowV (sv v6) 126 5 dQuad y8]) hy7 ⟨v1,sb z,hS.to [0,0] z⟩ ?_) ?_
 ·intro s2 y9 E W h hI
  obtain ⟨v4,hE,hS⟩:=hI
  refine CW.sub hE ?_
  unfold f65 at h
  refine .seq (.g (.q z (.q z (.s (lenv (hS.keep q_0) T.u104 z z) z (.q z (.nil ?_))))))
  refine .cs z h ?_ ?_ <;> intro h
  ·refine .skip ?_
   have ⟨y10,hy10,h⟩:=bnd h
   refine .seq (CW.via (R':=fun x E' W'=>x = .normal ∧ ∃ (v7 : Hd),SubL E' [(0,(sv v_0)),(4,(sv v7)),(5,(sv v2)),(7,.int .i64 s2.2)] ∧ Sep No w W' [rowV (sv v2) 4 1 D.bool y3,rowV (sv v7) 126 5 dQuad y10]) ?_ ?_)
   ·have h:=hy10
    refine .block (.g (.q z (.q z ?_)))
    have ⟨x4,hx4,h⟩:=bnd h
    refine .s (ixv (hS.keep q_0) hx4 T.u104 T.t126 z z z) z (.s (lde (RV.flat (hS.keep q_0) hx4 z) T.t126 z z z z z) z (.c (.alloc T.t126 hS ?_ z z z)))
    intro g1 W hS
    refine .c (.st T.t126 hS z z z ?_ z z z z z)
    intro W hS
    refine .nil (.seq (.g (.q z (.q z ?_))))
    have ⟨x5,hx5,h⟩:=bnd h
    refine .s (ixv hS.p1.lendv hx5 T.u55 T.t4 z z z) z (.s (lde (RV.flat hS.p1.lendv hx5 z) T.t4 z z z z z) z (.q z (.nil ?_)))
    refine .cs z h ?_ ?_ <;> intro h
    ·refine .exit ?_
     cases h
     exact ⟨z,v4,sb z,hS.to [1,1] z⟩
    refine .skip ?_
    have ⟨y11,hy11,h⟩:=bnd h
    refine .seq (CW.via (R':=fun x E' W'=>x = .normal ∧ SubL E' [(0,(sv v_0)),(4,(sv v4)),(5,(sv v2)),(7,.int .i64 s2.2),(8,.pointer (some ⟨g1,0,none⟩))] ∧ Sep No w W' [.box g1 126 [.int .i64 y11.Op,.int .i64 y11.Dst,.int .i64 y11.A,.int .i64 y11.B,.int .i64 y11.N],rowV (sv v2) 4 1 D.bool y3,rowV (sv v4) 126 5 dQuad s2.1]) ?_ ?_)
    ·have h:=hy11
     refine .g (.s (fa T.f126_0 z z z) z (.s (ld T.t3 hS z z z z z) z (.q z (.q z (.chunk 4 60 ((x4.Op == 4) || (x4.Op == 5)) hS ?_ ?_)))))
     ·refine .both (x4.Op == 4) (fun hb=>?_) (fun hb=>?_)
      ·exact .xx hb z (.xx hb z (.xx hb z (.s (pkt hb z z z) z (.nil (ck 4 hS z (or_t hb) z z)))))
      have hg2:=hb
      exact .g hg2 (.s (fa T.f126_0 z z z) z (.g hg2 (.s (ld T.t3 hS z z z z z) z (.g hg2 (.q z (.s (pkf hg2 z z z) z (.nil (ck 4 hS z (or_f hg2) z z)))) z)) z)) z
     intro W hS
     refine .nil ?_
     refine .cs z h ?_ ?_ <;> intro h
     ·refine .region (.q z (.s (fa T.f126_4 z z z) z (.s (ld T.t3 hS z z z z z) z ?_)))
      have ⟨y12,hy12,h⟩:=bnd h
      refine .c (.call0 hS Tryz.func191 (fc2 hy12 hS.p1.lendv) z z ?_ z z z z)
      intro W hS
      refine .s (fa T.f126_4 z z z) z (.c (.st T.t3 hS z z z ?_ z z z z z))
      intro W hS
      refine .nil ?_
      cases h
      exact ⟨z,sb z,hS.to [0,0,0] z⟩
     refine .skip ?_
     obtain rfl:=Option.some.inj h
     exact ⟨z,sb z,hS.to [0,0,0] z⟩
    intro x E W hJ
    obtain ⟨rfl,hE,hS⟩:=hJ
    refine ⟨_,hE.sub,?_⟩
    refine .region (.q z (.s (ld T.t126 hS z z z z z) z (.c (.liv [y11] dQuad T.u104 T.t126 hS z z z z ?_ z (fun _=>z) z z z z))))
    intro v8 W hS
    have ⟨r2,hr2,h⟩:=bnd h
    have hT0:=hS.p3
    refine .c (.apprv hr2 hT0 hT0.p1.lendv (fun _=>z) T.u104 T.t126 z z z ?_ z z z z z)
    intro v9 W hS
    refine .q z (.nil ?_)
    obtain rfl:=Option.some.inj h
    exact ⟨z,v9,sb z,hS.to [3,0] z⟩
   intro x E W hJ
   obtain ⟨rfl,v10,hE,hS⟩:=hJ
   refine ⟨_,hE.sub,?_⟩
   refine .region (.q z (.q z (.q z (.nil ?_))))
   cases h
   exact ⟨z,v10,sb z,hS.to [0,0] z⟩
  refine .exit ?_
  cases h
  exact ⟨by simp,z,v4,sb z,hS.to [0,0] z⟩
 intro x E W hJ
 obtain ⟨rfl,v11,hE,hS⟩:=hJ
 refine ⟨_,hE.sub,?_⟩
 cases h
 exact .g (.q z (.q z (.qn z (.ret (fin_ret (vs:=[_,_]) v11 (rt z (rt z rn)) z (hS.to [1] z))))))
theorem fd5 {a0 : List Quad} {v_0 : Hd} {w : World} {r : (List Quad)} (h : f6s a0 = some r) (q_0 : RV w (Old No w) (sv v_0) 126 5 dQuad a0) : Calls Tryz.prog 152 #[(sv v_0)] w (Ret No w (fun s : Hd=>(sv s)) (fun s=>[rowV (sv s) 126 5 dQuad r])):=by
 unfold f6s at h
 refine enter Tryz.func152 z z ?_
 have hS:=Sep.start w
 refine .g (.qn z (.g (.q z ?_)))
 have ⟨y1,hy1,h⟩:=bnd h
 refine .c (.call1v hS Tryz.func166 (fcd hy1 (hS.keep q_0)) z z ?_ z z z z)
 intro v1 W hS
 refine .q z (.q z (.q z (.q z (.qn z (.g (.q z ?_))))))
 have ⟨y2,hy2,h⟩:=bnd h
 refine .c (.call1v hS Tryz.func167 (fbj hy2 hS.lendv) z z ?_ z z z z)
 intro v2 W hS
 refine .q z (.q z (.q z (.q z (.qn z (.g (.q z ?_))))))
 have ⟨y3,hy3,h⟩:=bnd h
 refine .c (.call1v hS Tryz.func168 (fbk hy3 hS.lendv) z z ?_ z z z z)
 intro v3 W hS
 refine .q z (.q z (.q z (.q z (.qn z (.g (.q z ?_))))))
 have ⟨y4,hy4,h⟩:=bnd h
 refine .c (.call1v hS Tryz.func169 (fbg hy4 hS.lendv) z z ?_ z z z z)
 intro v4 W hS
 refine .q z (.q z (.q z (.q z (.qn z (.g (.q z ?_))))))
 have ⟨y5,hy5,h⟩:=bnd h
 refine .c (.call1v hS Tryz.func170 (fap hy5 hS.lendv) z z ?_ z z z z)
 intro v5 W hS
 cases h
 exact .q z (.q z (.q z (.q z (.qn z (.g (.q z (.qn z (.ret (fin_ret (vs:=[_]) v5 (rt z rn) z (hS.to [0] z))))))))))
theorem fai {a0 : List Quad} {a1 : Int} {v_0 : Hd} {w : World} {r : (List Quad) × Bool} (h : f3c a0 a1 = some r) (q_0 : RV w (Old No w) (sv v_0) 126 5 dQuad a0) : Calls Tryz.prog 122 #[(sv v_0),.int .i64 a1] w (Ret No w (fun s : Hd=>.tuple #[(sv s),.bool r.2]) (fun s=>[rowV (sv s) 126 5 dQuad r.1])):=by
 unfold f3c at h
 refine enter Tryz.func122 z z ?_
 have hS:=Sep.start w
 refine .g (.q z (.qn z (.seq (.g (.q z ?_)))))
 have ⟨y1,hy1,h⟩:=bnd h
 refine .c (.call0 hS Tryz.func151 (f0u hy1 (hS.keep q_0)) z z ?_ z z z z)
 intro W hS
 refine .q z (.q z ?_)
 have ⟨b1,hb1,h⟩:=bnd h
 refine .chunk 4 15 (b1) hS ?_ ?_
 ·refine .both (!y1) (fun hb=>?_) (fun hb=>?_)
  ·refine .xx hb z (.xx hb z (.xx hb z ?_))
   cases sel_t hb hb1
   exact .s (pkt hb z z z) z (.nil (ck 4 hS z z z z))
  have hg1:=hb
  have h:=sel_f hb hb1
  refine .g hg1 (.q z ?_) z
  have ⟨y2,hy2,h⟩:=bnd h
  refine .g hg1 (.c (.call0 hS Tryz.func48 (f07 hy2) z z ?_ z z z z)) z
  intro W hS
  refine .g hg1 (.q z (.s (pkf hg1 z z z) z ?_)) z
  cases h
  exact .nil (ck 4 hS z z z z)
 intro W hS
 refine .nil ?_
 refine .cs z h ?_ ?_ <;> intro h
 ·refine .g (.c (.liv [] dQuad T.u104 T.t126 hS z z z z ?_ z (fun _=>z) z z z z))
  intro v1 W hS
  cases h
  exact .q z (.qn z (.ret (fin_ret (vs:=[_,_]) v1 (rt z (rt z rn)) z (hS.to [0] z))))
 refine .skip (.g (.c (.liv [] dQuad T.u104 T.t126 hS z z z z ?_ z (fun _=>z) z z z z)))
 intro v2 W hS
 refine .q z ?_
 have ⟨r1,hr1,h⟩:=bnd h
 refine .c (.apprv hr1 hS (hS.keep q_0) (fun _=>z) T.u104 T.t126 z z z ?_ z z z z z)
 intro v3 W hS
 refine .qn z (.seq (.g (.qn z (.block ?_))))
 have ⟨y3,hy3,h⟩:=bnd h
 refine .via (.iter (fun s1 E' W'=>∃ (v6 : Hd),SubL E' [(1,.int .i64 a1),(6,(sv v6)),(7,.int .i64 s1.2)] ∧ Sep No w W' [rowV (sv v6) 126 5 dQuad s1.1]) (fun y4 x E' W'=>x = .exit 0 ∧ ∃ (v7 : Hd),SubL E' [(6,(sv v7))] ∧ Sep No w W' [rowV (sv v7) 126 5 dQuad y4]) hy3 ⟨v3,sb z,hS.to [0] z⟩ ?_) ?_
 ·intro s1 y5 E W h hI
  obtain ⟨v5,hE,hS⟩:=hI
  refine CW.sub hE ?_
  unfold f5b at h
  refine .seq (.g (.q z (.q z (.q z (.nil ?_)))))
  refine .cs z h ?_ ?_ <;> intro h
  ·refine .skip (.seq (.block (.region (.q z ?_))))
   have ⟨y6,hy6,h⟩:=bnd h
   refine .c (.call1v hS Tryz.func152 (fd5 hy6 hS.lendv) z z ?_ z z z z)
   intro v8 W hS
   refine .qn z (.region (.q z (.q z (.q z (.nil ?_)))))
   cases h
   exact ⟨z,v8,sb z,hS.to [0] z⟩
  refine .exit ?_
  cases h
  exact ⟨by simp,z,v5,sb z,hS.to [0] z⟩
 intro x E W hJ
 obtain ⟨rfl,v9,hE,hS⟩:=hJ
 refine ⟨_,hE.sub,?_⟩
 cases h
 exact .g (.q z (.q z (.qn z (.ret (fin_ret (vs:=[_,_]) v9 (rt z (rt z rn)) z (hS.to [0] z))))))
theorem fcq {k : Nat} {a0 : L6Rd} {v_0_b : Hd} {g_0 : Nat} {S : Nat → Prop} {w : World} {r : (List Quad) × Int} (h : f6z k a0 = some r) (q_0_b : RV w (Old S w) (sv v_0_b) 5 1 (D.int .u8) a0.b) (hO : Owns w [.box g_0 100 [(sv v_0_b),.int .i64 a0.p]] S) (hlt : ∀ b,S b → b < w.heap.size) : Calls Tryz.prog 99 #[.pointer (some ⟨g_0,0,none⟩)] w (Ret S w (fun s : Hd=>(sv s)) (fun s=>[.box g_0 100 [(sv v_0_b),.int .i64 r.2],rowV (sv s) 126 5 dQuad r.1])):=by
 unfold f6z at h
 refine enter Tryz.func99 z z ?_
 have hS:=Sep.startM hO hlt
 refine .g (.qn z (.seq (.g (.q z ?_))))
 have ⟨y1,hy1,h⟩:=bnd h
 refine .c (.callS2 (L0:=[.box g_0 100 [(sv v_0_b),.int .i64 a0.p]]) hS Tryz.func36 (fun S h1 h2 h3=>(f00 hy1 (hS.keepS q_0_b h1) h2 (zz h1))) z z ?_ z z z z)
 rintro ⟨⟩ W hS
 refine .qn z (.cond z (fun hb=>?_) (fun hb=>?_))
 ·have h:=sel_t hb h
  refine .g (.q z ?_)
  have ⟨y2,hy2,h⟩:=bnd h
  refine .c (.callS2 (L0:=[.box g_0 100 [(sv v_0_b),.int .i64 y1.2]]) hS Tryz.func119 (fun S h1 h2 h3=>(f9f hy2 (hS.keepS q_0_b h1) h2 (zz h1))) z z ?_ z z z z)
  rintro v1 W hS
  cases h
  exact .qn z (.ret (fin_ret (vs:=[_]) v1 (rt z rn) z (hS.to [0,0] z)))
 have h:=sel_f hb h
 refine .skip (.g (.q z ?_))
 have ⟨y3,hy3,h⟩:=bnd h
 refine .c (.callS2 (L0:=[.box g_0 100 [(sv v_0_b),.int .i64 y1.2]]) hS Tryz.func121 (fun S h1 h2 h3=>(fc4 hy3 (hS.keepS q_0_b h1) h2 (zz h1))) z z ?_ z z z z)
 rintro v2 W hS
 have ⟨y4,hy4,h⟩:=bnd h
 refine .c (.call1v hS Tryz.func120 (fan hy4 hS.p1.lendv) z z ?_ z z z z)
 intro v3 W hS
 refine .q z (.q z (.q z (.q z (.qn z (.seq (.g (.q z (.s (lenv hS.lendv T.u104 z z) z (.qn z (.cond z (fun hb=>?_) (fun hb=>?_)))))))))))
 ·have h:=sel_t hb h
  refine .g (.q z ?_)
  have ⟨y5,hy5,h⟩:=bnd h
  have hS:=hS.p1
  refine .c (.callS2 (L0:=[.box g_0 100 [(sv v_0_b),.int .i64 y3.2]]) hS Tryz.func119 (fun S h1 h2 h3=>(f9f hy5 (hS.keepS q_0_b h1) h2 (zz h1))) z z ?_ z z z z)
  rintro v4 W hS
  cases h
  exact .qn z (.ret (fin_ret (vs:=[_]) v4 (rt z rn) z (hS.to [0,0] z)))
 have h:=sel_f hb h
 refine .skip (.g (.q z (.q z ?_)))
 have ⟨y6,hy6,h⟩:=bnd h
 have hS:=hS.p1
 refine .c (.callS2 (L0:=[.box g_0 100 [(sv v_0_b),.int .i64 y3.2]]) hS Tryz.func36 (fun S h1 h2 h3=>(f00 hy6 (hS.keepS q_0_b h1) h2 (zz h1))) z z ?_ z z z z)
 rintro ⟨⟩ W hS
 refine .q z ?_
 have ⟨y7,hy7,h⟩:=bnd h
 refine .c (.call1v hS Tryz.func122 (fai hy7 hS.p1.lendv) z z ?_ z z z z)
 intro v5 W hS
 cases h
 exact .q z (.q z (.q z (.q z (.qn z (.g (.q z (.qn z (.ret (fin_ret (vs:=[_]) v5 (rt z rn) z (hS.to [1,0] z))))))))))
theorem fc1 {k : Nat} {a0 : L6Rd} {v_0_b : Hd} {g_0 : Nat} {S : Nat → Prop} {w : World} {r : (List (List Quad)) × Int} (h : f5t k a0 = some r) (q_0_b : RV w (Old S w) (sv v_0_b) 5 1 (D.int .u8) a0.b) (hO : Owns w [.box g_0 100 [(sv v_0_b),.int .i64 a0.p]] S) (hlt : ∀ b,S b → b < w.heap.size) : Calls Tryz.prog 65 #[.pointer (some ⟨g_0,0,none⟩)] w (Ret S w (fun s : Hd=>(sv s)) (fun s=>[.box g_0 100 [(sv v_0_b),.int .i64 r.2],rowV (sv s) 104 1 (fun (l : List Quad)=>D.row 126 5 (l.map dQuad)) r.1])):=by
 unfold f5t at h
 refine enter Tryz.func65 z z ?_
 have hS:=Sep.startM hO hlt
 refine .g (.qn z (.g (.c (.ligv (L1:=[]) [] (fun (l : List Quad)=>D.row 126 5 (l.map dQuad)) T.u101 T.t104 (hS.to [0] z) z z z (.nil) ?_ z (fun _=>z) z z z z z))))
 intro v1 W hS
 refine .qn z (.g (.q z ?_))
 have ⟨y1,hy1,h⟩:=bnd h
 have hS:=hS.p1
 refine .c (.callS2 (L0:=[.box g_0 100 [(sv v_0_b),.int .i64 a0.p]]) hS Tryz.func36 (fun S h1 h2 h3=>(f00 hy1 (hS.keepS q_0_b h1) h2 (zz h1))) z z ?_ z z z z)
 rintro ⟨⟩ W hS
 refine .q z (.qn z (.seq (.g (.qn z (.block ?_)))))
 have ⟨y2,hy2,h⟩:=bnd h
 refine .via (.iter (fun s1 E' W'=>∃ (v4 : Hd),SubL E' [(0,.pointer (some ⟨g_0,0,none⟩)),(3,(sv v4)),(4,.int .i64 (w64 (1 + y1.1))),(5,.int .i64 s1.2.1)] ∧ Sep S w W' [.box g_0 100 [(sv v_0_b),.int .i64 s1.2.2],rowV (sv v4) 104 1 (fun (l : List Quad)=>D.row 126 5 (l.map dQuad)) s1.1]) (fun y3 x E' W'=>x = .exit 0 ∧ ∃ (v5 : Hd),SubL E' [(3,(sv v5))] ∧ Sep S w W' [.box g_0 100 [(sv v_0_b),.int .i64 y3.2],rowV (sv v5) 104 1 (fun (l : List Quad)=>D.row 126 5 (l.map dQuad)) y3.1]) hy2 ⟨v1,sb z,hS.to [0,0] z⟩ ?_) ?_
 ·intro s1 y4 E W h hI
  obtain ⟨v3,hE,hS⟩:=hI
  refine CW.sub hE ?_
  unfold f7v at h
  refine .seq (.g (.q z (.q z (.qn z (.cond z (fun hb=>?_) (fun hb=>?_))))))
  ·have h:=sel_t hb h
   refine .skip (.seq (.block (.region (.q z (.q z ?_)))))
   have ⟨y5,hy5,h⟩:=bnd h
   refine .c (.callS2 (L0:=[.box g_0 100 [(sv v_0_b),.int .i64 s1.2.2]]) hS Tryz.func99 (fun S h1 h2 h3=>(fcq hy5 (hS.keepS q_0_b h1) h2 (zz h1))) z z ?_ z z z z)
   rintro v6 W hS
   refine .c (.ligv (L1:=[rowV (sv v6) 126 5 dQuad y5.1]) [y5.1] (fun (l : List Quad)=>D.row 126 5 (l.map dQuad)) T.u101 T.t104 (hS.to [1,0,0] z) z z z (.row (.nil)) ?_ z (fun _=>z) z z z z z)
   intro v7 W hS
   have ⟨r1,hr1,h⟩:=bnd h
   refine .c (.appv hr1 (hS.to [2,0,0] z) T.u101 T.t104 z z z ?_ z z z z z)
   intro v8 W hS
   refine .qn z (.region (.q z (.q z (.q z (.nil ?_)))))
   cases h
   exact ⟨z,v8,sb z,hS.to [1,0] z⟩
  have h:=sel_f hb h
  refine .exit ?_
  cases h
  exact ⟨by simp,z,v3,sb z,hS.to [0,0] z⟩
 intro x E W hJ
 obtain ⟨rfl,v9,hE,hS⟩:=hJ
 refine ⟨_,hE.sub,?_⟩
 cases h
 exact .g (.q z (.qn z (.ret (fin_ret (vs:=[_]) v9 (rt z rn) z (hS.to [0,0] z)))))
theorem f2h {a0 : Int} {a1 : Int} {a2 : Int} {w : World} {r : Int} (h : f1r a0 a1 a2 = some r) : Calls Tryz.prog 123 #[.int .i64 a0,.int .i64 a1,.int .i64 a2] w (Ret No w (fun s : Unit=>.int .i64 r) (fun s=>[])):=by
 unfold f1r at h
 refine enter Tryz.func123 z z ?_
 have hS:=Sep.start w
 refine .g (.qn z (.seq (.g (.q z (.q z (.q z (.nil ?_)))))))
 refine .cs z h ?_ ?_ <;> intro h
 ·obtain rfl:=Option.some.inj h
  exact .g (.q z (.qn z (.ret (fin_ret (vs:=[_]) () (rt z rn) z (hS.to [] z)))))
 refine .skip (.g (.c (.liv [8,9,18,19,20,21,22,23] (D.int .i64) T.u25 T.t3 hS z z z z ?_ z (fun _=>z) z z z z)))
 intro v1 W hS
 refine .q z ?_
 have ⟨x1,hx1,h⟩:=bnd h
 obtain rfl:=Option.some.inj h
 exact .s (ixv hS.lendv hx1 T.u25 T.t3 z z z) z (.s (lde (RV.flat hS.lendv hx1 z) T.t3 z z z z z) z (.qn z (.ret (fin_ret (vs:=[_]) () (rt z rn) z (hS.to [] z)))))
theorem f59 {a0 : List Instr} {a1 : Int} {a2 : Int} {v_0 : Hd} {S : Nat → Prop} {w : World} {r : (List Instr)} (h : f2g a0 a1 a2 = some r) (hO : Owns w [rowV (sv v_0) 32 5 dInstr a0] S) (hlt : ∀ b,S b → b < w.heap.size) : Calls Tryz.prog 124 #[(sv v_0),.int .i64 a1,.int .i64 a2] w (Ret S w (fun s : Hd=>(sv s)) (fun s=>[rowV (sv s) 32 5 dInstr r])):=by
 unfold f2g at h
 refine enter Tryz.func124 z z ?_
 have hS:=Sep.startM hO hlt
 refine .g (.qn z (.seq (.g (.q z (.q z (.q z (.nil ?_)))))))
 refine .cs z h ?_ ?_ <;> intro h
 ·obtain rfl:=Option.some.inj h
  exact .g (.q z (.qn z (.ret (fin_ret (vs:=[_]) v_0 (rt z rn) z (hS.to [0] z)))))
 refine .skip (.g (.q z (.q z (.q z (.q z (.q z (.s (bs T.s32 z z) z (.c (.liv [(Instr.mk 16 0 2 7 (w64 (4 * (w64 (a1 - a2)))))] dInstr T.u23 T.t32 hS z z z z ?_ z (fun _=>z) z z z z)))))))))
 intro v1 W hS
 have ⟨r1,hr1,h⟩:=bnd h
 have hT0:=hS.p1
 refine .c (.apprv hr1 hT0 hT0.p1.lendv (fun _=>z) T.u23 T.t32 z z z ?_ z z z z z)
 intro v2 W hS
 obtain rfl:=Option.some.inj h
 exact .qn z (.ret (fin_ret (vs:=[_]) v2 (rt z rn) z (hS.to [0] z)))
theorem f9q {a0 : Int} {w : World} {r : Int} (h : f2e a0 = some r) : Calls Tryz.prog 97 #[.int .i64 a0] w (Ret No w (fun s : Unit=>.int .i64 r) (fun s=>[])):=by
 unfold f2e at h
 refine enter Tryz.func97 z z ?_
 have hS:=Sep.start w
 refine .g (.qn z (.seq (.g (.q z ?_))))
 have ⟨y1,hy1,h⟩:=bnd h
 refine .c (.call0 hS Tryz.func94 (f4f hy1) z z ?_ z z z z)
 intro W hS
 refine .q z (.nil ?_)
 refine .cs z h ?_ ?_ <;> intro h
 ·cases h
  exact .g (.qn z (.ret (fin_ret (vs:=[_]) () (rt z rn) z (hS.to [] z))))
 refine .skip (.seq (.g (.q z (.q z (.nil ?_)))))
 refine .cs z h ?_ ?_ <;> intro h
 ·cases h
  exact .g (.q z (.q z (.qn z (.ret (fin_ret (vs:=[_]) () (rt z rn) z (hS.to [] z))))))
 obtain rfl:=Option.some.inj h
 exact .skip (.g (.q z (.qn z (.ret (fin_ret (vs:=[_]) () (rt z rn) z (hS.to [] z))))))
theorem f2x {a0 : Int} {w : World} {r : Int} (h : f0t a0 = some r) : Calls Tryz.prog 154 #[.int .i64 a0] w (Ret No w (fun s : Unit=>.int .i64 r) (fun s=>[])):=by
 unfold f0t at h
 refine enter Tryz.func154 z z ?_
 have hS:=Sep.start w
 refine .g (.qn z (.g (.qn z (.seq (.g (.qn z (.block ?_)))))))
 have ⟨y1,hy1,h⟩:=bnd h
 refine .via (.iter (fun s1 E' W'=>SubL E' [(0,.int .i64 a0),(3,.int .i64 s1.1),(4,.int .i64 s1.2)] ∧ Sep No w W' []) (fun y2 x E' W'=>x = .exit 0 ∧ SubL E' [(3,.int .i64 y2)] ∧ Sep No w W' []) hy1 ⟨sb z,hS.to [] z⟩ ?_) ?_
 ·intro s1 y3 E W h hI
  obtain ⟨hE,hS⟩:=hI
  refine CW.sub hE ?_
  unfold f33 at h
  refine .seq (.g (.q z (.q z (.q z (.nil ?_)))))
  refine .cs z h ?_ ?_ <;> intro h
  ·refine .skip (.seq (.block (.region (.q z (.q z (.qn z (.region (.q z (.q z (.q z (.nil ?_)))))))))))
   cases h
   exact ⟨z,sb z,hS.to [] z⟩
  refine .exit ?_
  cases h
  exact ⟨by simp,z,sb z,hS.to [] z⟩
 intro x E W hJ
 obtain ⟨rfl,hE,hS⟩:=hJ
 refine ⟨_,hE.sub,?_⟩
 obtain rfl:=Option.some.inj h
 exact .g (.q z (.qn z (.ret (fin_ret (vs:=[_]) () (rt z rn) z (hS.to [] z)))))
theorem f16 {a0 : Int} {a1 : Int} {a2 : Int} {w : World} {r : Int} (h : f0a a0 a1 a2 = some r) : Calls Tryz.prog 138 #[.int .i64 a0,.int .i64 a1,.int .i64 a2] w (Ret No w (fun s : Unit=>.int .i64 r) (fun s=>[])):=by
 unfold f0a at h
 refine enter Tryz.func138 z z ?_
 have hS:=Sep.start w
 refine .g (.qn z (.seq (.g (.q z ?_))))
 have ⟨y1,hy1,h⟩:=bnd h
 refine .c (.call0 hS Tryz.func48 (f07 hy1) z z ?_ z z z z)
 intro W hS
 refine .q z (.q z ?_)
 have ⟨b1,hb1,h⟩:=bnd h
 refine .chunk 4 14 (b1) hS ?_ ?_
 ·refine .both (!y1) (fun hb=>?_) (fun hb=>?_)
  ·refine .xx hb z (.xx hb z (.xx hb z ?_))
   cases sel_t hb hb1
   exact .s (pkt hb z z z) z (.nil (ck 4 hS z z z z))
  have hg1:=hb
  have h:=sel_f hb hb1
  refine .g hg1 (.q z ?_) z
  have ⟨y2,hy2,h⟩:=bnd h
  refine .g hg1 (.c (.call0 hS Tryz.func48 (f07 hy2) z z ?_ z z z z)) z
  intro W hS
  refine .g hg1 (.q z (.s (pkf hg1 z z z) z ?_)) z
  cases h
  exact .nil (ck 4 hS z z z z)
 intro W hS
 refine .q z ?_
 have ⟨b2,hb2,h⟩:=bnd h
 refine .chunk 6 21 (b2) hS ?_ ?_
 ·refine .both (b1) (fun hb=>?_) (fun hb=>?_)
  ·refine .xx hb z (.xx hb z (.xx hb z (.xx hb z (.xx hb z ?_))))
   cases sel_t hb hb2
   exact .s (pkt hb z z z) z (.nil (ck 6 hS z z z z))
  have hg2:=hb
  have h:=sel_f hb hb2
  refine .g hg2 (.q z (.g hg2 (.q z (.g hg2 (.q z ?_) z)) z)) z
  have ⟨y3,hy3,h⟩:=bnd h
  refine .g hg2 (.c (.call0 hS Tryz.func48 (f07 hy3) z z ?_ z z z z)) z
  intro W hS
  refine .g hg2 (.q z (.s (pkf hg2 z z z) z ?_)) z
  cases h
  exact .nil (ck 6 hS z z z z)
 intro W hS
 refine .nil ?_
 refine .cs z h ?_ ?_ <;> intro h
 ·cases h
  exact .g (.qn z (.ret (fin_ret (vs:=[_]) () (rt z rn) z (hS.to [] z))))
 refine .skip (.seq (.rk 8 hS [] T.mix ?_))
 intro W hS
 have hT:=hS.to [] z
 refine .tp 0 z z hT (by kernel_rfl) (.tp 1 z z hT (by kernel_rfl) (.tp 4 z z hT (by kernel_rfl) ?_))
 have ⟨y4,hy4,h⟩:=bnd h
 refine .by1 2 z (.call0 hS Tryz.func154 (f2x hy4) z z ?_ z z z z) (by kernel_rfl)
 intro W hS
 have hT:=hS.to [] z
 refine ⟨fun _=>hT,?_⟩
 have ⟨d1,hd1,h⟩:=bnd h
 refine .ts 3 z (fun W hT=>dq hd1 z z z) hT z (by kernel_rfl) ?_
 have ⟨y5,hy5,h⟩:=bnd h
 refine .by1 5 z (.call0 hS Tryz.func154 (f2x hy5) z z ?_ z z z z) (by kernel_rfl)
 intro W hS
 have hT:=hS.to [] z
 refine ⟨fun _=>hT,?_⟩
 have ⟨d2,hd2,h⟩:=bnd h
 obtain rfl:=Option.some.inj h
 exact .ts 6 z (fun W hT=>dr hd2 z z z) hT z (by kernel_rfl) (.tp 7 z z hT (by kernel_rfl) (.done (.ret (fin_ret (vs:=[_]) () (rt z rn) z (hS.to [] z))) (by kernel_rfl)))
theorem fb2 {a0 : Int} {a1 : Int} {w : World} {r : Int} (h : f0w a0 a1 = some r) : Calls Tryz.prog 144 #[.int .i64 a0,.int .i64 a1] w (Ret No w (fun s : Unit=>.int .i64 r) (fun s=>[])):=by
 unfold f0w at h
 refine enter Tryz.func144 z z ?_
 have hS:=Sep.start w
 refine .g (.qn z (.seq (.g (.q z ?_))))
 have ⟨y1,hy1,h⟩:=bnd h
 refine .c (.call0 hS Tryz.func48 (f07 hy1) z z ?_ z z z z)
 intro W hS
 refine .q z (.q z ?_)
 have ⟨b1,hb1,h⟩:=bnd h
 refine .chunk 7 15 (b1) hS ?_ ?_
 ·refine .both (!y1) (fun hb=>?_) (fun hb=>?_)
  ·refine .xx hb z (.xx hb z (.xx hb z (.xx hb z (.xx hb z (.xx hb z ?_)))))
   cases sel_t hb hb1
   exact .s (pkt hb z z z) z (.nil (ck 7 hS z z z z))
  have hg1:=hb
  have h:=sel_f hb hb1
  refine .g hg1 (.q z (.g hg1 (.q z ?_) z)) z
  have ⟨y2,hy2,h⟩:=bnd h
  refine .g hg1 (.c (.call0 hS Tryz.func154 (f2x hy2) z z ?_ z z z z)) z
  intro W hS
  refine .g hg1 (.q z ?_) z
  have ⟨y3,hy3,h⟩:=bnd h
  refine .g hg1 (.c (.call0 hS Tryz.func48 (f07 hy3) z z ?_ z z z z)) z
  intro W hS
  refine .g hg1 (.q z (.s (pkf hg1 z z z) z ?_)) z
  cases h
  exact .nil (ck 7 hS z z z z)
 intro W hS
 refine .nil ?_
 refine .cs z h ?_ ?_ <;> intro h
 ·cases h
  exact .g (.qn z (.ret (fin_ret (vs:=[_]) () (rt z rn) z (hS.to [] z))))
 refine .skip (.seq (.g (.q z (.q z (.q z ?_)))))
 have ⟨y4,hy4,h⟩:=bnd h
 refine .c (.call0 hS Tryz.func154 (f2x hy4) z z ?_ z z z z)
 intro W hS
 refine .q z (.nil ?_)
 refine .cs z h ?_ ?_ <;> intro h
 ·refine .g (.q z (.q z ?_))
  have ⟨y5,hy5,h⟩:=bnd h
  refine .c (.call0 hS Tryz.func154 (f2x hy5) z z ?_ z z z z)
  intro W hS
  cases h
  exact .q z (.qn z (.ret (fin_ret (vs:=[_]) () (rt z rn) z (hS.to [] z))))
 obtain rfl:=Option.some.inj h
 exact .skip (.g (.q z (.qn z (.ret (fin_ret (vs:=[_]) () (rt z rn) z (hS.to [] z))))))
theorem fc0 {a0 : Int} {a1 : Int} {w : World} {r : (List Instr)} (h : f5z a0 a1 = some r) : Calls Tryz.prog 125 #[.int .i64 a0,.int .i64 a1] w (Ret No w (fun s : Hd=>(sv s)) (fun s=>[rowV (sv s) 32 5 dInstr r])):=by
 unfold f5z at h
 refine enter Tryz.func125 z z ?_
 have hS:=Sep.start w
 refine .g (.qn z (.seq (.g (.q z ?_))))
 have ⟨y1,hy1,h⟩:=bnd h
 refine .c (.call0 hS Tryz.func48 (f07 hy1) z z ?_ z z z z)
 intro W hS
 refine .nil ?_
 refine .cs z h ?_ ?_ <;> intro h
 ·refine .g (.q z (.q z (.s (bs T.s32 z z) z (.c (.liv [(Instr.mk 12 a0 0 0 a1)] dInstr T.u23 T.t32 hS z z z z ?_ z (fun _=>z) z z z z)))))
  intro v1 W hS
  cases h
  exact .qn z (.ret (fin_ret (vs:=[_]) v1 (rt z rn) z (hS.to [0] z)))
 refine .skip (.g (.q z ?_))
 have ⟨y2,hy2,h⟩:=bnd h
 refine .c (.call0 hS Tryz.func97 (f9q hy2) z z ?_ z z z z)
 intro W hS
 have ⟨y3,hy3,h⟩:=bnd h
 refine .c (.call0 hS Tryz.func138 (f16 hy3) z z ?_ z z z z)
 intro W hS
 have ⟨y4,hy4,h⟩:=bnd h
 refine .c (.call0 hS Tryz.func144 (fb2 hy4) z z ?_ z z z z)
 intro W hS
 refine .qn z (.g (.q z (.q z (.q z ?_))))
 have ⟨y5,hy5,h⟩:=bnd h
 refine .c (.call0 hS Tryz.func68 (f2v hy5) z z ?_ z z z z)
 intro W hS
 have ⟨y6,hy6,h⟩:=bnd h
 refine .c (.call0 hS Tryz.func97 (f9q hy6) z z ?_ z z z z)
 intro W hS
 have ⟨y7,hy7,h⟩:=bnd h
 refine .c (.call0 hS Tryz.func138 (f16 hy7) z z ?_ z z z z)
 intro W hS
 refine .qn z (.g (.q z (.q z (.s (bs T.s32 z z) z (.c (.liv [(Instr.mk 19 a0 0 0 y7)] dInstr T.u23 T.t32 hS z z z z ?_ z (fun _=>z) z z z z))))))
 intro v2 W hS
 refine .qn z (.g (.q z (.q z (.q z (.q z (.s (bs T.s32 z z) z (.c (.liv [(Instr.mk 12 a0 a0 0 y4)] dInstr T.u23 T.t32 hS z z z z ?_ z (fun _=>z) z z z z))))))))
 intro v3 W hS
 have ⟨r1,hr1,h⟩:=bnd h
 have hT0:=hS.p1
 refine .c (.apprv hr1 hT0 hT0.p1.lendv (fun _=>z) T.u23 T.t32 z z z ?_ z z z z z)
 intro v4 W hS
 obtain rfl:=Option.some.inj h
 exact .qn z (.ret (fin_ret (vs:=[_]) v4 (rt z rn) z (hS.to [0] z)))
theorem f43 {a0 : Int} {a1 : Int} {a2 : Int} {w : World} {r : (List Instr)} (h : f28 a0 a1 a2 = some r) : Calls Tryz.prog 126 #[.int .i64 a0,.int .i64 a1,.int .i64 a2] w (Ret No w (fun s : Hd=>(sv s)) (fun s=>[rowV (sv s) 32 5 dInstr r])):=by
 unfold f28 at h
 refine enter Tryz.func126 z z ?_
 have hS:=Sep.start w
 refine .g (.qn z (.seq (.g (.q z (.q z (.q z (.nil ?_)))))))
 refine .cs z h ?_ ?_ <;> intro h
 ·refine .g (.c (.liv [] dInstr T.u23 T.t32 hS z z z z ?_ z (fun _=>z) z z z z))
  intro v1 W hS
  cases h
  exact .qn z (.ret (fin_ret (vs:=[_]) v1 (rt z rn) z (hS.to [0] z)))
 refine .skip (.g (.q z (.q z (.q z (.q z (.q z (.s (bs T.s32 z z) z (.c (.liv [(Instr.mk 14 a2 2 0 (w64 (4 * (w64 (a0 - a1)))))] dInstr T.u23 T.t32 hS z z z z ?_ z (fun _=>z) z z z z)))))))))
 intro v2 W hS
 cases h
 exact .qn z (.ret (fin_ret (vs:=[_]) v2 (rt z rn) z (hS.to [0] z)))
theorem f8p {a0 : Int} {a1 : Int} {w : World} {r : Instr} (h : f2t a0 a1 = some r) : Calls Tryz.prog 127 #[.int .i64 a0,.int .i64 a1] w (Ret No w (fun s : Unit=>.agg #[.int .i64 r.Op,.int .i64 r.Rd,.int .i64 r.Rs,.int .i64 r.Rt,.int .i64 r.Imm]) (fun s=>[])):=by
 unfold f2t at h
 refine enter Tryz.func127 z z ?_
 have hS:=Sep.start w
 refine .g (.c (.alloc T.t32 hS ?_ z z z))
 intro g1 W hS
 refine .nil (.g (.q z (.q z (.s (bs T.s32 z z) z (.c (.st T.t32 hS z z z ?_ z z z z z))))))
 intro W hS
 cases h
 exact .nil (.ret (fin_ret (vs:=[_]) () (rc hS T.t32 z rn z z) z (hS.to [] z)))
theorem fdq {a0 : Int} {w : World} {r : Int} (h : f8n a0 = some r) : Calls Tryz.prog 153 #[.int .i64 a0] w (Ret No w (fun s : Unit=>.int .i64 r) (fun s=>[])):=by
 unfold f8n at h
 refine enter Tryz.func153 z z ?_
 have hS:=Sep.start w
 refine .g (.qn z (.g (.c (.liv [7,8,6,8,11,9,10,1,2,3,4,5] (D.int .i64) T.u25 T.t3 hS z z z z ?_ z (fun _=>z) z z z z))))
 intro v1 W hS
 refine .qn z (.g (.q z (.q z (.q z ?_))))
 have ⟨x1,hx1,h⟩:=bnd h
 obtain rfl:=Option.some.inj h
 exact .s (ixv hS.lendv hx1 T.u25 T.t3 z z z) z (.s (lde (RV.flat hS.lendv hx1 z) T.t3 z z z z z) z (.qn z (.ret (fin_ret (vs:=[_]) () (rt z rn) z (hS.to [] z)))))
end Go.Proofs.YtmpplggjpmmhlaaGreatDoor.N
