/- Printed by a program of mine: that the program's functions compute it. -/
import Derived.Test.YtmpplggjpmmhlaaGreatK6
set_option linter.unusedVariables false
set_option linter.unusedSimpArgs false
set_option maxRecDepth 100000
set_option maxHeartbeats 4000000
namespace Go.Proofs.YtmpplggjpmmhlaaGreat.N
open Go.Proofs.YtmpplggjpmmhlaaGreat.X
theorem ffd {a0 : Quad} {a1 : Int} {w : World} {r : (List Instr)} (h : fai a0 a1 = some r) : Calls Tryz.prog 66 #[.agg #[.int .i64 a0.Op,.int .i64 a0.Dst,.int .i64 a0.A,.int .i64 a0.B,.int .i64 a0.N],.int .i64 a1] w (Ret No w (fun s : Hd=>(sv s)) (fun s=>[rowV (sv s) 87 5 dInstr r])):=by
 unfold fai at h
 refine enter Tryz.func66 z z ?_
 have hS:=Sep.start w
 refine .g (.c (.box hS z z ?_ z z))
 intro g1 W hS
 refine .qn z (.seq (.rk 10 hS [0] T.mix ?_))
 intro W hS
 have hT:=hS.to [0] z
 refine .ts 0 z (fun W hT=>fa T.f82_2 z z z) hT z (by kernel_rfl) (.ts 1 z (fun W hT=>ld T.t3 hT z z z z z) hT z (by kernel_rfl) (.tp 2 z z hT (by kernel_rfl) (.ts 4 z (fun W hT=>fa T.f82_3 z z z) hT z (by kernel_rfl) (.ts 5 z (fun W hT=>ld T.t3 hT z z z z z) hT z (by kernel_rfl) (.tp 6 z z hT (by kernel_rfl) ?_)))))
 have ⟨y1,hy1,h⟩:=bnd h
 refine .by1 3 z (.call1v hS Tryz.func64 (f4x hy1) z z ?_ z z z z) (by kernel_rfl)
 intro v1 W hS
 have hT:=hS.to [1] z
 refine ⟨fun _=>hT,?_⟩
 have ⟨y2,hy2,h⟩:=bnd h
 refine .by1 7 z (.call1v hS Tryz.func64 (f4x hy2) z z ?_ z z z z) (by kernel_rfl)
 intro v2 W hS
 have hT:=hS.to [2] z
 refine ⟨fun _=>hT,?_⟩
 have ⟨r1,hr1,h⟩:=bnd h
 have hT0:=hS.p1
 refine .by1 8 z (.apprv hr1 hT0 hT0.p1.lendv (fun _=>z) T.u68 T.t87 z z z ?_ z z z z z) (by kernel_rfl)
 intro v3 W hS
 have hT:=hS.to [2] z
 refine ⟨fun _=>hT,.tp 9 z z hT (by kernel_rfl) (.done (.g (.s (fa T.f82_1 z z z) z (.s (ld T.t3 hS.p2 z z z z z) z (.q z ?_)))) (by kernel_rfl))⟩
 have ⟨y3,hy3,h⟩:=bnd h
 refine .c (.call0 hS Tryz.func61 (f38 hy3) z z ?_ z z z z)
 intro W hS
 refine .qn z (.seq (.rk 17 hS [1,1] T.mix ?_))
 intro W hS
 have hT:=hS.to [1,1] z
 refine .tp 0 z z hT (by kernel_rfl) (.ts 1 z (fun W hT=>fa T.f82_4 z z z) hT z (by kernel_rfl) (.ts 2 z (fun W hT=>ld T.t3 hT.p1 z z z z z) hT z (by kernel_rfl) (.tp 4 z z hT (by kernel_rfl) (.ts 5 z (fun W hT=>fa T.f82_2 z z z) hT z (by kernel_rfl) (.ts 6 z (fun W hT=>ld T.t3 hT.p1 z z z z z) hT z (by kernel_rfl) (.tp 7 z z hT (by kernel_rfl) (.ts 9 z (fun W hT=>fa T.f82_3 z z z) hT z (by kernel_rfl) (.ts 10 z (fun W hT=>ld T.t3 hT.p1 z z z z z) hT z (by kernel_rfl) (.tp 11 z z hT (by kernel_rfl) ?_)))))))))
 have ⟨y4,hy4,h⟩:=bnd h
 refine .by1 3 z (.call0 hS Tryz.func96 (ffi hy4) z z ?_ z z z z) (by kernel_rfl)
 intro W hS
 have hT:=hS.to [1,1] z
 refine ⟨fun _=>hT,?_⟩
 have ⟨y5,hy5,h⟩:=bnd h
 refine .by1 8 z (.call0 hS Tryz.func61 (f38 hy5) z z ?_ z z z z) (by kernel_rfl)
 intro W hS
 have hT:=hS.to [1,1] z
 refine ⟨fun _=>hT,?_⟩
 have ⟨y6,hy6,h⟩:=bnd h
 refine .by1 12 z (.call0 hS Tryz.func61 (f38 hy6) z z ?_ z z z z) (by kernel_rfl)
 intro W hS
 have hT:=hS.to [1,1] z
 refine ⟨fun _=>hT,.ts 13 z (fun W hT=>bs T.s87 z z) hT z (by kernel_rfl) (.by1 14 z (.liv [(Instr.mk y4 y3 y5 y6 0)] dInstr T.u68 T.t87 hS z z z z ?_ z (fun _=>z) z z z z) (by kernel_rfl))⟩
 intro v4 W hS
 have hT:=hS.to [2,2] z
 refine ⟨fun _=>hT,?_⟩
 have ⟨r2,hr2,h⟩:=bnd h
 have hT0:=hS.p1
 refine .by1 15 z (.apprv hr2 hT0 hT0.p1.lendv (fun _=>z) T.u68 T.t87 z z z ?_ z z z z z) (by kernel_rfl)
 intro v5 W hS
 have hT:=hS.to [2,2] z
 refine ⟨fun _=>hT,.tp 16 z z hT (by kernel_rfl) (.done ?_ (by kernel_rfl))⟩
 have ⟨y7,hy7,h⟩:=bnd h
 refine .seq (CW.via (R':=fun x E' W'=>x = .normal ∧ ∃ (v6 : Hd),SubL E' [(1,.int .i64 a1),(2,.pointer (some ⟨g1,0,none⟩)),(5,(sv v6))] ∧ Sep No w W' [rowV (sv v4) 87 5 dInstr [(Instr.mk y4 y3 y5 y6 0)],rowV (sv v2) 87 5 dInstr y2,.box g1 82 [.int .i64 a0.Op,.int .i64 a0.Dst,.int .i64 a0.A,.int .i64 a0.B,.int .i64 a0.N],rowV (sv v6) 87 5 dInstr y7]) ?_ ?_)
 ·have h:=hy7
  refine .g (.s (fa T.f82_4 z z z) z (.s (ld T.t3 hS.p3 z z z z z) z (.q z (.nil ?_))))
  refine .cs z h ?_ ?_ <;> intro h
  ·refine .region (.q z (.q z (.q z (.s (bs T.s87 z z) z (.c (.liv [(Instr.mk 13 y3 y3 0 1)] dInstr T.u68 T.t87 hS z z z z ?_ z (fun _=>z) z z z z))))))
   intro v7 W hS
   have ⟨r3,hr3,h⟩:=bnd h
   have hT0:=hS.p1
   refine .c (.apprv hr3 hT0 hT0.p1.lendv (fun _=>z) T.u68 T.t87 z z z ?_ z z z z z)
   intro v8 W hS
   refine .q z (.nil ?_)
   obtain rfl:=Option.some.inj h
   exact ⟨z,v8,sb z,hS.to [2,2,2,0] z⟩
  refine .skip ?_
  obtain rfl:=Option.some.inj h
  exact ⟨z,v5,sb z,hS.to [1,1,1,0] z⟩
 intro x E W hJ
 obtain ⟨rfl,v9,hE,hS⟩:=hJ
 refine ⟨_,hE.sub,?_⟩
 refine .g (.q z (.s (fa T.f82_1 z z z) z (.s (ld T.t3 hS.p2 z z z z z) z (.q z ?_))))
 have ⟨y8,hy8,h⟩:=bnd h
 have hS:=hS.p3
 refine .c (.callS2 (L0:=[rowV (sv v9) 87 5 dInstr y7]) hS Tryz.func62 (fun S h1 h2 h3=>(f64 hy8 h2 (zz h1))) z z ?_ z z z z)
 rintro v10 W hS
 obtain rfl:=Option.some.inj h
 exact .qn z (.ret (fin_ret (vs:=[_]) v10 (rt z rn) z (hS.to [0] z)))
theorem fef {a0 : Quad} {a1 : Int} {a2 : Int} {w : World} {r : (List Instr)} (h : fa2 a0 a1 a2 = some r) : Calls Tryz.prog 67 #[.agg #[.int .i64 a0.Op,.int .i64 a0.Dst,.int .i64 a0.A,.int .i64 a0.B,.int .i64 a0.N],.int .i64 a1,.int .i64 a2] w (Ret No w (fun s : Hd=>(sv s)) (fun s=>[rowV (sv s) 87 5 dInstr r])):=by
 unfold fa2 at h
 refine enter Tryz.func67 z z ?_
 have hS:=Sep.start w
 refine .g (.c (.box hS z z ?_ z z))
 intro g1 W hS
 refine .qn z (.seq (.rk 12 hS [0] T.mix ?_))
 intro W hS
 have hT:=hS.to [0] z
 refine .ts 0 z (fun W hT=>fa T.f82_2 z z z) hT z (by kernel_rfl) (.ts 1 z (fun W hT=>ld T.t3 hT z z z z z) hT z (by kernel_rfl) (.tp 2 z z hT (by kernel_rfl) (.ts 4 z (fun W hT=>fa T.f82_2 z z z) hT z (by kernel_rfl) (.ts 5 z (fun W hT=>ld T.t3 hT z z z z z) hT z (by kernel_rfl) (.tp 6 z z hT (by kernel_rfl) ?_)))))
 have ⟨y1,hy1,h⟩:=bnd h
 refine .by1 3 z (.call1v hS Tryz.func64 (f4x hy1) z z ?_ z z z z) (by kernel_rfl)
 intro v1 W hS
 have hT:=hS.to [1] z
 refine ⟨fun _=>hT,?_⟩
 have ⟨y2,hy2,h⟩:=bnd h
 refine .by1 7 z (.call0 hS Tryz.func61 (f38 hy2) z z ?_ z z z z) (by kernel_rfl)
 intro W hS
 have hT:=hS.to [1] z
 refine ⟨fun _=>hT,.ts 8 z (fun W hT=>bs T.s87 z z) hT z (by kernel_rfl) (.by1 9 z (.liv [(Instr.mk 18 0 y2 0 8)] dInstr T.u68 T.t87 hS z z z z ?_ z (fun _=>z) z z z z) (by kernel_rfl))⟩
 intro v2 W hS
 have hT:=hS.to [2] z
 refine ⟨fun _=>hT,?_⟩
 have ⟨r1,hr1,h⟩:=bnd h
 have hT0:=hS.p1
 refine .by1 10 z (.apprv hr1 hT0 hT0.p1.lendv (fun _=>z) T.u68 T.t87 z z z ?_ z z z z z) (by kernel_rfl)
 intro v3 W hS
 have hT:=hS.to [2] z
 refine ⟨fun _=>hT,.tp 11 z z hT (by kernel_rfl) (.done (.g (.q z (.q z (.q z (.s (lenv hS.lendv T.u68 z z) z (.q z (.q z (.s (bs T.s87 z z) z (.c (.liv [(Instr.mk 20 0 0 0 (w64 (a2 - (w64 (4 * (r1.length : Int))))))] dInstr T.u68 T.t87 hS z z z z ?_ z (fun _=>z) z z z z)))))))))) (by kernel_rfl))⟩
 intro v4 W hS
 have ⟨r2,hr2,h⟩:=bnd h
 have hT0:=hS.p1
 refine .c (.apprv hr2 hT0 hT0.p1.lendv (fun _=>z) T.u68 T.t87 z z z ?_ z z z z z)
 intro v5 W hS
 obtain rfl:=Option.some.inj h
 exact .qn z (.ret (fin_ret (vs:=[_]) v5 (rt z rn) z (hS.to [0] z)))
theorem f4z {a0 : List Instr} {a1 : Int} {v_0 : Hd} {S : Nat → Prop} {w : World} {r : (List Instr)} (h : f2m a0 a1 = some r) (hO : Owns w [rowV (sv v_0) 87 5 dInstr a0] S) (hlt : ∀ b,S b → b < w.heap.size) : Calls Tryz.prog 68 #[(sv v_0),.int .i64 a1] w (Ret S w (fun s : Hd=>(sv s)) (fun s=>[rowV (sv s) 87 5 dInstr r])):=by
 unfold f2m at h
 refine enter Tryz.func68 z z ?_
 have hS:=Sep.startM hO hlt
 refine .g (.qn z (.g (.q z (.q z (.s (bs T.s87 z z) z (.c (.liv [(Instr.mk 12 17 0 0 a1)] dInstr T.u68 T.t87 hS z z z z ?_ z (fun _=>z) z z z z)))))))
 intro v1 W hS
 have ⟨r1,hr1,h⟩:=bnd h
 have hT0:=hS.p1
 refine .c (.apprv hr1 hT0 hT0.p1.lendv (fun _=>z) T.u68 T.t87 z z z ?_ z z z z z)
 intro v2 W hS
 refine .qn z (.g (.q z (.s (bs T.s87 z z) z (.c (.liv [(Instr.mk 15 1 0 0 0)] dInstr T.u68 T.t87 hS z z z z ?_ z (fun _=>z) z z z z)))))
 intro v3 W hS
 have ⟨r2,hr2,h⟩:=bnd h
 have hT0:=hS.p1
 refine .c (.apprv hr2 hT0 hT0.p1.lendv (fun _=>z) T.u68 T.t87 z z z ?_ z z z z z)
 intro v4 W hS
 obtain rfl:=Option.some.inj h
 exact .qn z (.ret (fin_ret (vs:=[_]) v4 (rt z rn) z (hS.to [0] z)))
theorem fbh {a0 : Int} {a1 : Int} {w : World} {r : (List Instr)} (h : f5l a0 a1 = some r) : Calls Tryz.prog 69 #[.int .i64 a0,.int .i64 a1] w (Ret No w (fun s : Hd=>(sv s)) (fun s=>[rowV (sv s) 87 5 dInstr r])):=by
 unfold f5l at h
 refine enter Tryz.func69 z z ?_
 have hS:=Sep.start w
 refine .g (.qn z (.g (.q z (.q z ?_))))
 have ⟨y1,hy1,h⟩:=bnd h
 refine .c (.call1v hS Tryz.func64 (f4x hy1) z z ?_ z z z z)
 intro v1 W hS
 refine .q z (.q z ?_)
 have ⟨y2,hy2,h⟩:=bnd h
 refine .c (.call0 hS Tryz.func61 (f38 hy2) z z ?_ z z z z)
 intro W hS
 have ⟨y3,hy3,h⟩:=bnd h
 refine .c (.call0 hS Tryz.func65 (fa8 hy3) z z ?_ z z z z)
 intro W hS
 refine .c (.liv [y3] dInstr T.u68 T.t87 hS z z z z ?_ z (fun _=>z) z z z z)
 intro v2 W hS
 have ⟨r1,hr1,h⟩:=bnd h
 have hT0:=hS.p1
 refine .c (.apprv hr1 hT0 hT0.p1.lendv (fun _=>z) T.u68 T.t87 z z z ?_ z z z z z)
 intro v3 W hS
 obtain rfl:=Option.some.inj h
 exact .qn z (.ret (fin_ret (vs:=[_]) v3 (rt z rn) z (hS.to [0] z)))
theorem fbq {a0 : Int} {w : World} {r : Instr} (h : f74 a0 = some r) : Calls Tryz.prog 70 #[.int .i64 a0] w (Ret No w (fun s : Unit=>.agg #[.int .i64 r.Op,.int .i64 r.Rd,.int .i64 r.Rs,.int .i64 r.Rt,.int .i64 r.Imm]) (fun s=>[])):=by
 unfold f74 at h
 refine enter Tryz.func70 z z ?_
 have hS:=Sep.start w
 refine .g (.c (.alloc T.t87 hS ?_ z z z))
 intro g1 W hS
 refine .nil (.g (.q z (.s (bs T.s87 z z) z (.c (.st T.t87 hS z z z ?_ z z z z z)))))
 intro W hS
 cases h
 exact .nil (.ret (fin_ret (vs:=[_]) () (rc hS T.t87 z rn z z) z (hS.to [] z)))
theorem fbc {a0 : Quad} {a1 : Int} {a2 : Int} {w : World} {r : (List Instr)} (h : f5s a0 a1 a2 = some r) : Calls Tryz.prog 43 #[.agg #[.int .i64 a0.Op,.int .i64 a0.Dst,.int .i64 a0.A,.int .i64 a0.B,.int .i64 a0.N],.int .i64 a1,.int .i64 a2] w (Ret No w (fun s : Hd=>(sv s)) (fun s=>[rowV (sv s) 87 5 dInstr r])):=by
 unfold f5s at h
 refine enter Tryz.func43 z z ?_
 have hS:=Sep.start w
 refine .g (.c (.box hS z z ?_ z z))
 intro g1 W hS
 refine .qn z (.g (.s (fa T.f82_1 z z z) z (.s (ld T.t3 hS z z z z z) z (.q z ?_))))
 have ⟨y1,hy1,h⟩:=bnd h
 refine .c (.call0 hS Tryz.func61 (f38 hy1) z z ?_ z z z z)
 intro W hS
 refine .qn z (.seq (.g (.s (fa T.f82_0 z z z) z (.s (ld T.t3 hS z z z z z) z (.nil (.block (.g (.q z (.qn z (.cond z (fun hb=>?_) (fun hb=>?_)))))))))))
 ·have h:=sel_t hb h
  refine .seq (.rk 9 hS [0] T.mix ?_)
  intro W hS
  have hT:=hS.to [0] z
  refine .tp 0 z z hT (by kernel_rfl) (.ts 1 z (fun W hT=>fa T.f82_4 z z z) hT z (by kernel_rfl) (.ts 2 z (fun W hT=>ld T.t3 hT z z z z z) hT z (by kernel_rfl) (.ts 4 z (fun W hT=>fa T.f82_1 z z z) hT z (by kernel_rfl) (.ts 5 z (fun W hT=>ld T.t3 hT z z z z z) hT z (by kernel_rfl) (.tp 6 z z hT (by kernel_rfl) ?_)))))
  have ⟨y2,hy2,h⟩:=bnd h
  refine .by1 3 z (.call1v hS Tryz.func63 (fd3 hy2) z z ?_ z z z z) (by kernel_rfl)
  intro v1 W hS
  have hT:=hS.to [1] z
  refine ⟨fun _=>hT,?_⟩
  have ⟨y3,hy3,h⟩:=bnd h
  refine .by1 7 z (.callS2 (L0:=[rowV (sv v1) 87 5 dInstr y2]) hS Tryz.func62 (fun S h1 h2 h3=>(f64 hy3 h2 (zz h1))) z z ?_ z z z z) (by kernel_rfl)
  rintro v2 W hS
  have hT:=hS.to [1] z
  refine ⟨fun _=>hT,?_⟩
  obtain rfl:=Option.some.inj h
  exact .tp 8 z z hT (by kernel_rfl) (.done (.ret (fin_ret (vs:=[_]) v2 (rt z rn) z (hS.to [0] z))) (by kernel_rfl))
 have h:=sel_f hb h
 refine .g (.q z (.qn z (.cond z (fun hb=>?_) (fun hb=>?_))))
 ·have h:=sel_t hb h
  refine .seq (.rk 17 hS [0] T.mix ?_)
  intro W hS
  have hT:=hS.to [0] z
  refine .ts 0 z (fun W hT=>fa T.f82_2 z z z) hT z (by kernel_rfl) (.ts 1 z (fun W hT=>ld T.t3 hT z z z z z) hT z (by kernel_rfl) (.tp 2 z z hT (by kernel_rfl) (.tp 4 z z hT (by kernel_rfl) (.ts 5 z (fun W hT=>fa T.f82_2 z z z) hT z (by kernel_rfl) (.ts 6 z (fun W hT=>ld T.t3 hT z z z z z) hT z (by kernel_rfl) (.tp 7 z z hT (by kernel_rfl) (.ts 12 z (fun W hT=>fa T.f82_1 z z z) hT z (by kernel_rfl) (.ts 13 z (fun W hT=>ld T.t3 hT z z z z z) hT z (by kernel_rfl) (.tp 14 z z hT (by kernel_rfl) ?_)))))))))
  have ⟨y4,hy4,h⟩:=bnd h
  refine .by1 3 z (.call1v hS Tryz.func64 (f4x hy4) z z ?_ z z z z) (by kernel_rfl)
  intro v3 W hS
  have hT:=hS.to [1] z
  refine ⟨fun _=>hT,?_⟩
  have ⟨y5,hy5,h⟩:=bnd h
  refine .by1 8 z (.call0 hS Tryz.func61 (f38 hy5) z z ?_ z z z z) (by kernel_rfl)
  intro W hS
  have hT:=hS.to [1] z
  refine ⟨fun _=>hT,?_⟩
  have ⟨y6,hy6,h⟩:=bnd h
  refine .by1 9 z (.call0 hS Tryz.func65 (fa8 hy6) z z ?_ z z z z) (by kernel_rfl)
  intro W hS
  have hT:=hS.to [1] z
  refine ⟨fun _=>hT,.by1 10 z (.liv [y6] dInstr T.u68 T.t87 hS z z z z ?_ z (fun _=>z) z z z z) (by kernel_rfl)⟩
  intro v4 W hS
  have hT:=hS.to [2] z
  refine ⟨fun _=>hT,?_⟩
  have ⟨r1,hr1,h⟩:=bnd h
  have hT0:=hS.p1
  refine .by1 11 z (.apprv hr1 hT0 hT0.p1.lendv (fun _=>z) T.u68 T.t87 z z z ?_ z z z z z) (by kernel_rfl)
  intro v5 W hS
  have hT:=hS.to [2] z
  refine ⟨fun _=>hT,?_⟩
  have ⟨y7,hy7,h⟩:=bnd h
  refine .by1 15 z (.callS2 (L0:=[rowV (sv v5) 87 5 dInstr r1]) hS Tryz.func62 (fun S h1 h2 h3=>(f64 hy7 h2 (zz h1))) z z ?_ z z z z) (by kernel_rfl)
  rintro v6 W hS
  have hT:=hS.to [2] z
  refine ⟨fun _=>hT,?_⟩
  obtain rfl:=Option.some.inj h
  exact .tp 16 z z hT (by kernel_rfl) (.done (.ret (fin_ret (vs:=[_]) v6 (rt z rn) z (hS.to [0] z))) (by kernel_rfl))
 have h:=sel_f hb h
 refine .g (.q z (.q z (.nil ?_)))
 refine .cs z h ?_ ?_ <;> intro h
 ·refine .g (.s (ld T.t82 hS z z z z z) z (.q z ?_))
  have ⟨y8,hy8,h⟩:=bnd h
  refine .c (.call1v hS Tryz.func66 (ffd hy8) z z ?_ z z z z)
  intro v7 W hS
  obtain rfl:=Option.some.inj h
  exact .qn z (.ret (fin_ret (vs:=[_]) v7 (rt z rn) z (hS.to [0] z)))
 refine .g (.q z (.q z (.nil ?_)))
 refine .cs z h ?_ ?_ <;> intro h
 ·refine .g (.q z (.s (bs T.s87 z z) z (.c (.liv [(Instr.mk 20 0 0 0 a2)] dInstr T.u68 T.t87 hS z z z z ?_ z (fun _=>z) z z z z))))
  intro v8 W hS
  cases h
  exact .qn z (.ret (fin_ret (vs:=[_]) v8 (rt z rn) z (hS.to [0] z)))
 refine .g (.q z (.q z (.nil ?_)))
 refine .cs z h ?_ ?_ <;> intro h
 ·refine .g (.s (ld T.t82 hS z z z z z) z (.q z (.q z ?_)))
  have ⟨y9,hy9,h⟩:=bnd h
  refine .c (.call1v hS Tryz.func67 (fef hy9) z z ?_ z z z z)
  intro v9 W hS
  obtain rfl:=Option.some.inj h
  exact .qn z (.ret (fin_ret (vs:=[_]) v9 (rt z rn) z (hS.to [0] z)))
 refine .g (.q z (.qn z (.cond z (fun hb=>?_) (fun hb=>?_))))
 ·have h:=sel_t hb h
  refine .seq (.rk 11 hS [0] T.mix ?_)
  intro W hS
  have hT:=hS.to [0] z
  refine .ts 0 z (fun W hT=>fa T.f82_2 z z z) hT z (by kernel_rfl) (.ts 1 z (fun W hT=>ld T.t3 hT z z z z z) hT z (by kernel_rfl) (.tp 2 z z hT (by kernel_rfl) (.ts 4 z (fun W hT=>fa T.f82_4 z z z) hT z (by kernel_rfl) (.ts 5 z (fun W hT=>ld T.t3 hT z z z z z) hT z (by kernel_rfl) ?_))))
  have ⟨y10,hy10,h⟩:=bnd h
  refine .by1 3 z (.call1v hS Tryz.func69 (fbh hy10) z z ?_ z z z z) (by kernel_rfl)
  intro v10 W hS
  have hT:=hS.to [1] z
  refine ⟨fun _=>hT,?_⟩
  have ⟨y11,hy11,h⟩:=bnd h
  refine .by1 6 z (.call0 hS Tryz.func70 (fbq hy11) z z ?_ z z z z) (by kernel_rfl)
  intro W hS
  have hT:=hS.to [1] z
  refine ⟨fun _=>hT,.by1 7 z (.liv [y11] dInstr T.u68 T.t87 hS z z z z ?_ z (fun _=>z) z z z z) (by kernel_rfl)⟩
  intro v11 W hS
  have hT:=hS.to [2] z
  refine ⟨fun _=>hT,?_⟩
  have ⟨r2,hr2,h⟩:=bnd h
  have hT0:=hS.p1
  refine .by1 8 z (.apprv hr2 hT0 hT0.p1.lendv (fun _=>z) T.u68 T.t87 z z z ?_ z z z z z) (by kernel_rfl)
  intro v12 W hS
  have hT:=hS.to [2] z
  refine ⟨fun _=>hT,?_⟩
  have ⟨y12,hy12,h⟩:=bnd h
  refine .by1 9 z (.callS2 (L0:=[rowV (sv v12) 87 5 dInstr r2]) hS Tryz.func68 (fun S h1 h2 h3=>(f4z hy12 h2 (zz h1))) z z ?_ z z z z) (by kernel_rfl)
  rintro v13 W hS
  have hT:=hS.to [2] z
  refine ⟨fun _=>hT,?_⟩
  obtain rfl:=Option.some.inj h
  exact .tp 10 z z hT (by kernel_rfl) (.done (.ret (fin_ret (vs:=[_]) v13 (rt z rn) z (hS.to [0] z))) (by kernel_rfl))
 have h:=sel_f hb h
 refine .g (.q z (.qn z (.cond z (fun hb=>?_) (fun hb=>?_))))
 ·have h:=sel_t hb h
  refine .g (.s (fa T.f82_4 z z z) z (.s (ld T.t3 hS z z z z z) z ?_))
  have ⟨y13,hy13,h⟩:=bnd h
  refine .c (.call0 hS Tryz.func70 (fbq hy13) z z ?_ z z z z)
  intro W hS
  refine .c (.liv [y13] dInstr T.u68 T.t87 hS z z z z ?_ z (fun _=>z) z z z z)
  intro v14 W hS
  have ⟨y14,hy14,h⟩:=bnd h
  refine .c (.callS2 (L0:=[rowV (sv v14) 87 5 dInstr [y13]]) hS Tryz.func68 (fun S h1 h2 h3=>(f4z hy14 h2 (zz h1))) z z ?_ z z z z)
  rintro v15 W hS
  refine .qn z (.seq (.rk 10 hS [1] T.mix ?_))
  intro W hS
  have hT:=hS.to [1] z
  refine .tp 0 z z hT (by kernel_rfl) (.tp 1 z z hT (by kernel_rfl) (.ts 5 z (fun W hT=>fa T.f82_1 z z z) hT z (by kernel_rfl) (.ts 6 z (fun W hT=>ld T.t3 hT z z z z z) hT z (by kernel_rfl) (.tp 7 z z hT (by kernel_rfl) ?_))))
  have ⟨y15,hy15,h⟩:=bnd h
  refine .by1 2 z (.call0 hS Tryz.func65 (fa8 hy15) z z ?_ z z z z) (by kernel_rfl)
  intro W hS
  have hT:=hS.to [1] z
  refine ⟨fun _=>hT,.by1 3 z (.liv [y15] dInstr T.u68 T.t87 hS z z z z ?_ z (fun _=>z) z z z z) (by kernel_rfl)⟩
  intro v16 W hS
  have hT:=hS.to [2] z
  refine ⟨fun _=>hT,?_⟩
  have ⟨r3,hr3,h⟩:=bnd h
  have hT0:=hS.p1
  refine .by1 4 z (.apprv hr3 hT0 hT0.p1.lendv (fun _=>z) T.u68 T.t87 z z z ?_ z z z z z) (by kernel_rfl)
  intro v17 W hS
  have hT:=hS.to [2] z
  refine ⟨fun _=>hT,?_⟩
  have ⟨y16,hy16,h⟩:=bnd h
  refine .by1 8 z (.callS2 (L0:=[rowV (sv v17) 87 5 dInstr r3]) hS Tryz.func62 (fun S h1 h2 h3=>(f64 hy16 h2 (zz h1))) z z ?_ z z z z) (by kernel_rfl)
  rintro v18 W hS
  have hT:=hS.to [2] z
  refine ⟨fun _=>hT,?_⟩
  obtain rfl:=Option.some.inj h
  exact .tp 9 z z hT (by kernel_rfl) (.done (.ret (fin_ret (vs:=[_]) v18 (rt z rn) z (hS.to [0] z))) (by kernel_rfl))
 have h:=sel_f hb h
 refine .g (.q z (.qn z (.cond z (fun hb=>?_) (fun hb=>?_))))
 ·have h:=sel_t hb h
  refine .g (.c (.liv [] dInstr T.u68 T.t87 hS z z z z ?_ z (fun _=>z) z z z z))
  intro v19 W hS
  have ⟨y17,hy17,h⟩:=bnd h
  refine .c (.callS2 (L0:=[rowV (sv v19) 87 5 dInstr []]) hS Tryz.func68 (fun S h1 h2 h3=>(f4z hy17 h2 (zz h1))) z z ?_ z z z z)
  rintro v20 W hS
  obtain rfl:=Option.some.inj h
  exact .qn z (.ret (fin_ret (vs:=[_]) v20 (rt z rn) z (hS.to [0] z)))
 have h:=sel_f hb h
 refine .g (.q z (.qn z (.cond z (fun hb=>?_) (fun hb=>?_))))
 ·have h:=sel_t hb h
  refine .g (.s (fa T.f82_2 z z z) z (.s (ld T.t3 hS z z z z z) z (.q z ?_)))
  have ⟨y18,hy18,h⟩:=bnd h
  refine .c (.call1v hS Tryz.func69 (fbh hy18) z z ?_ z z z z)
  intro v21 W hS
  have ⟨y19,hy19,h⟩:=bnd h
  refine .c (.callS2 (L0:=[rowV (sv v21) 87 5 dInstr y18]) hS Tryz.func68 (fun S h1 h2 h3=>(f4z hy19 h2 (zz h1))) z z ?_ z z z z)
  rintro v22 W hS
  obtain rfl:=Option.some.inj h
  exact .qn z (.ret (fin_ret (vs:=[_]) v22 (rt z rn) z (hS.to [0] z)))
 have h:=sel_f hb h
 refine .skip (.g (.c (.liv [] dInstr T.u68 T.t87 hS z z z z ?_ z (fun _=>z) z z z z)))
 intro v23 W hS
 have ⟨y20,hy20,h⟩:=bnd h
 refine .c (.callS2 (L0:=[rowV (sv v23) 87 5 dInstr []]) hS Tryz.func68 (fun S h1 h2 h3=>(f4z hy20 h2 (zz h1))) z z ?_ z z z z)
 rintro v24 W hS
 obtain rfl:=Option.some.inj h
 exact .qn z (.ret (fin_ret (vs:=[_]) v24 (rt z rn) z (hS.to [0] z)))
theorem fcq {a0 : List Quad} {a1 : Int} {v_0 : Hd} {w : World} {r : (List Int)} (h : f5i a0 a1 = some r) (q_0 : RV w (Old No w) (sv v_0) 82 5 dQuad a0) : Calls Tryz.prog 42 #[(sv v_0),.int .i64 a1] w (Ret No w (fun s : Hd=>(sv s)) (fun s=>[rowV (sv s) 3 1 (D.int .i64) r])):=by
 unfold f5i at h
 refine enter Tryz.func42 z z ?_
 have hS:=Sep.start w
 refine .g (.qn z (.g (.c (.liv [] (D.int .i64) T.u23 T.t3 hS z z z z ?_ z (fun _=>z) z z z z))))
 intro v1 W hS
 refine .qn z (.g (.qn z (.seq (.g (.qn z (.block ?_))))))
 have ⟨y1,hy1,h⟩:=bnd h
 refine .via (.iter (fun s1 E' W'=>∃ (v4 : Hd),SubL E' [(0,(sv v_0)),(1,.int .i64 a1),(5,(sv v4)),(6,.int .i64 s1.2.1),(7,.int .i64 s1.2.2)] ∧ Sep No w W' [rowV (sv v4) 3 1 (D.int .i64) s1.1]) (fun y2 x E' W'=>x = .exit 0 ∧ ∃ (v5 : Hd),SubL E' [(5,(sv v5))] ∧ Sep No w W' [rowV (sv v5) 3 1 (D.int .i64) y2]) hy1 ⟨v1,sb z,hS.to [0] z⟩ ?_) ?_
 ·intro s1 y3 E W h hI
  obtain ⟨v3,hE,hS⟩:=hI
  refine CW.sub hE ?_
  unfold f8r at h
  refine .seq (.g (.q z (.q z (.s (lenv (hS.keep q_0) T.u70 z z) z (.q z (.nil ?_))))))
  refine .cs z h ?_ ?_ <;> intro h
  ·refine .skip (.seq (.block (.g (.q z (.q z (.c (.liv [s1.2.1] (D.int .i64) T.u23 T.t3 hS z z z z ?_ z (fun _=>z) z z z z)))))))
   intro v6 W hS
   have ⟨r1,hr1,h⟩:=bnd h
   have hT0:=hS.p1
   refine .c (.apprv hr1 hT0 hT0.p1.lendv (fun _=>z) T.u23 T.t3 z z z ?_ z z z z z)
   intro v7 W hS
   refine .qn z (.region (.q z (.q z (.q z ?_))))
   have ⟨x1,hx1,h⟩:=bnd h
   refine .s (ixv (hS.keep q_0) hx1 T.u70 T.t82 z z z) z (.s (lde (RV.flat (hS.keep q_0) hx1 z) T.t82 z z z z z) z (.q z ?_))
   have ⟨y4,hy4,h⟩:=bnd h
   refine .c (.call1v hS Tryz.func43 (fbc hy4) z z ?_ z z z z)
   intro v8 W hS
   refine .s (lenv hS.lendv T.u68 z z) z (.q z (.qn z (.region (.q z (.q z (.q z (.nil ?_)))))))
   cases h
   exact ⟨z,v7,sb z,hS.to [1] z⟩
  refine .exit ?_
  cases h
  exact ⟨by simp,z,v3,sb z,hS.to [0] z⟩
 intro x E W hJ
 obtain ⟨rfl,v9,hE,hS⟩:=hJ
 refine ⟨_,hE.sub,?_⟩
 obtain rfl:=Option.some.inj h
 exact .g (.q z (.qn z (.ret (fin_ret (vs:=[_]) v9 (rt z rn) z (hS.to [0] z)))))
theorem fei {a0 : List Quad} {a1 : Int} {v_0 : Hd} {w : World} {r : (List Instr)} (h : f7v a0 a1 = some r) (q_0 : RV w (Old No w) (sv v_0) 82 5 dQuad a0) : Calls Tryz.prog 32 #[(sv v_0),.int .i64 a1] w (Ret No w (fun s : Hd=>(sv s)) (fun s=>[rowV (sv s) 87 5 dInstr r])):=by
 unfold f7v at h
 refine enter Tryz.func32 z z ?_
 have hS:=Sep.start w
 refine .g (.qn z (.g (.q z (.q z ?_))))
 have ⟨y1,hy1,h⟩:=bnd h
 refine .c (.call1v hS Tryz.func42 (fcq hy1 (hS.keep q_0)) z z ?_ z z z z)
 intro v1 W hS
 refine .qn z (.g (.c (.liv [] dInstr T.u68 T.t87 hS z z z z ?_ z (fun _=>z) z z z z)))
 intro v2 W hS
 refine .qn z (.seq (.g (.qn z (.block ?_))))
 have ⟨y2,hy2,h⟩:=bnd h
 refine .via (.iter (fun s1 E' W'=>∃ (v5 : Hd),SubL E' [(0,(sv v_0)),(1,.int .i64 a1),(5,(sv v1)),(6,(sv v5)),(7,.int .i64 s1.2)] ∧ Sep No w W' [rowV (sv v1) 3 1 (D.int .i64) y1,rowV (sv v5) 87 5 dInstr s1.1]) (fun y3 x E' W'=>x = .exit 0 ∧ ∃ (v6 : Hd),SubL E' [(6,(sv v6))] ∧ Sep No w W' [rowV (sv v1) 3 1 (D.int .i64) y1,rowV (sv v6) 87 5 dInstr y3]) hy2 ⟨v2,sb z,hS.to [1,0] z⟩ ?_) ?_
 ·intro s1 y4 E W h hI
  obtain ⟨v4,hE,hS⟩:=hI
  refine CW.sub hE ?_
  unfold f9u at h
  refine .seq (.g (.q z (.q z (.s (lenv (hS.keep q_0) T.u70 z z) z (.q z (.nil ?_))))))
  refine .cs z h ?_ ?_ <;> intro h
  ·refine .skip (.seq (.block (.g (.q z (.nil ?_)))))
   have ⟨y5,hy5,h⟩:=bnd h
   refine .seq (CW.via (R':=fun x E' W'=>x = .normal ∧ SubL E' [(0,(sv v_0)),(1,.int .i64 a1),(5,(sv v1)),(6,(sv v4)),(7,.int .i64 s1.2),(8,.int .i64 y5)] ∧ Sep No w W' [rowV (sv v1) 3 1 (D.int .i64) y1,rowV (sv v4) 87 5 dInstr s1.1]) ?_ ?_)
   ·have h:=hy5
    refine .g (.q z (.q z ?_))
    have ⟨x1,hx1,h⟩:=bnd h
    refine .s (ixv (hS.keep q_0) hx1 T.u70 T.t82 z z z) z (.s (fe T.f82_0 z z z) z (.s (lde (RV.flat (hS.keep q_0) hx1 z) T.t3 z z z z z) z (.q z (.q z ?_))))
    have ⟨b1,hb1,h⟩:=bnd h
    refine .chunk 7 32 (b1) hS ?_ ?_
    ·refine .both (x1.Op == 4) (fun hb=>?_) (fun hb=>?_)
     ·refine .xx hb z (.xx hb z (.xx hb z (.xx hb z (.xx hb z (.xx hb z ?_)))))
      cases sel_t hb hb1
      exact .s (pkt hb z z z) z (.nil (ck 7 hS z z z z))
     have hg1:=hb
     have h:=sel_f hb hb1
     refine .g hg1 (.q z (.g hg1 (.q z ?_) z)) z
     have ⟨x2,hx2,h⟩:=bnd h
     refine .g hg1 (.s (ixv (hS.keep q_0) hx2 T.u70 T.t82 z z z) z (.g hg1 (.s (fe T.f82_0 z z z) z (.g hg1 (.s (lde (RV.flat (hS.keep q_0) hx2 z) T.t3 z z z z z) z (.g hg1 (.q z (.s (pkf hg1 z z z) z ?_)) z)) z)) z)) z
     cases h
     exact .nil (ck 7 hS z z z z)
    intro W hS
    refine .nil ?_
    refine .cs z h ?_ ?_ <;> intro h
    ·refine .rk 15 hS [0,0] T.mix ?_
     intro W hS
     have hT:=hS.to [0,0] z
     refine .tp 0 z z hT (by kernel_rfl) (.tp 1 z z hT (by kernel_rfl) (.tp 2 z z hT (by kernel_rfl) ?_))
     have ⟨x3,hx3,h⟩:=bnd h
     refine .ts 3 z (fun W hT=>ixv (hS.keep q_0) hx3 T.u70 T.t82 z z z) hT z (by kernel_rfl) (.ts 4 z (fun W hT=>fe T.f82_4 z z z) hT z (by kernel_rfl) (.ts 5 z (fun W hT=>lde (RV.flat (hT.keep q_0) hx3 z) T.t3 z z z z z) hT z (by kernel_rfl) ?_))
     have ⟨x4,hx4,h⟩:=bnd h
     refine .ts 6 z (fun W hT=>ixv hS.lendv hx4 T.u23 T.t3 z z z) hT z (by kernel_rfl) (.ts 7 z (fun W hT=>lde (RV.flat hT.lendv hx4 z) T.t3 z z z z z) hT z (by kernel_rfl) (.tp 8 z z hT (by kernel_rfl) (.tp 9 z z hT (by kernel_rfl) ?_)))
     have ⟨x5,hx5,h⟩:=bnd h
     refine .ts 10 z (fun W hT=>ixv hS.lendv hx5 T.u23 T.t3 z z z) hT z (by kernel_rfl) (.ts 11 z (fun W hT=>lde (RV.flat hT.lendv hx5 z) T.t3 z z z z z) hT z (by kernel_rfl) (.tp 12 z z hT (by kernel_rfl) (.tp 13 z z hT (by kernel_rfl) (.tp 14 z z hT (by kernel_rfl) (.done ?_ (by kernel_rfl))))))
     cases h
     exact ⟨z,sb z,hS.to [0,0] z⟩
    refine .skip ?_
    cases h
    exact ⟨z,sb z,hS.to [0,0] z⟩
   intro x E W hJ
   obtain ⟨rfl,hE,hS⟩:=hJ
   refine ⟨_,hE.sub,?_⟩
   refine .region (.q z (.q z (.q z ?_)))
   have ⟨x6,hx6,h⟩:=bnd h
   refine .s (ixv (hS.keep q_0) hx6 T.u70 T.t82 z z z) z (.s (lde (RV.flat (hS.keep q_0) hx6 z) T.t82 z z z z z) z (.q z (.q z ?_)))
   have ⟨y6,hy6,h⟩:=bnd h
   refine .c (.call1v hS Tryz.func43 (fbc hy6) z z ?_ z z z z)
   intro v7 W hS
   have ⟨r1,hr1,h⟩:=bnd h
   have hT0:=hS.p2
   refine .c (.apprv hr1 hT0 hT0.p1.lendv (fun _=>z) T.u68 T.t87 z z z ?_ z z z z z)
   intro v8 W hS
   refine .qn z (.region (.q z (.q z (.q z (.nil ?_)))))
   cases h
   exact ⟨z,v8,sb z,hS.to [2,0] z⟩
  refine .exit ?_
  cases h
  exact ⟨by simp,z,v4,sb z,hS.to [0,0] z⟩
 intro x E W hJ
 obtain ⟨rfl,v9,hE,hS⟩:=hJ
 refine ⟨_,hE.sub,?_⟩
 obtain rfl:=Option.some.inj h
 exact .g (.q z (.qn z (.ret (fin_ret (vs:=[_]) v9 (rt z rn) z (hS.to [1] z)))))
theorem fdl {k : Nat} {a0 : L6Rd} {v_0_b : Hd} {g_0 : Nat} {S : Nat → Prop} {w : World} {r : (List (List Instr)) × Int} (h : f6k k a0 = some r) (q_0_b : RV w (Old S w) (sv v_0_b) 5 1 (D.int .u8) a0.b) (hO : Owns w [.box g_0 55 [(sv v_0_b),.int .i64 a0.p]] S) (hlt : ∀ b,S b → b < w.heap.size) : Calls Tryz.prog 22 #[.pointer (some ⟨g_0,0,none⟩)] w (Ret S w (fun s : Hd=>(sv s)) (fun s=>[.box g_0 55 [(sv v_0_b),.int .i64 r.2],rowV (sv s) 68 1 (fun (l : List Instr)=>D.row 87 5 (l.map dInstr)) r.1])):=by
 unfold f6k at h
 refine enter Tryz.func22 z z ?_
 have hS:=Sep.startM hO hlt
 refine .g (.qn z (.g (.q z ?_)))
 have ⟨y1,hy1,h⟩:=bnd h
 refine .c (.callS2 (L0:=[.box g_0 55 [(sv v_0_b),.int .i64 a0.p]]) hS Tryz.func31 (fun S h1 h2 h3=>(fd9 hy1 (hS.keepS q_0_b h1) h2 (zz h1))) z z ?_ z z z z)
 rintro v1 W hS
 refine .qn z (.g (.q z ?_))
 have ⟨y2,hy2,h⟩:=bnd h
 refine .c (.callS2 (L0:=[.box g_0 55 [(sv v_0_b),.int .i64 y1.2]]) hS Tryz.func11 (fun S h1 h2 h3=>(f00 hy2 (hS.keepS q_0_b h1) h2 (zz h1))) z z ?_ z z z z)
 rintro ⟨⟩ W hS
 refine .q z (.qn z (.g (.c (.ligv (L1:=[]) [] (fun (l : List Instr)=>D.row 87 5 (l.map dInstr)) T.u56 T.t68 (hS.to [0,0] z) z z z (.nil) ?_ z (fun _=>z) z z z z z))))
 intro v2 W hS
 refine .qn z (.seq (.g (.qn z (.block ?_))))
 have ⟨y3,hy3,h⟩:=bnd h
 refine .via (.iter (fun s1 E' W'=>∃ (v5 : Hd),SubL E' [(3,(sv v1)),(4,.int .i64 (w64 (1 + y2.1))),(5,(sv v5)),(6,.int .i64 s1.2)] ∧ Sep S w W' [.box g_0 55 [(sv v_0_b),.int .i64 y2.2],rowV (sv v1) 70 1 (fun (l : List Quad)=>D.row 82 5 (l.map dQuad)) y1.1,rowV (sv v5) 68 1 (fun (l : List Instr)=>D.row 87 5 (l.map dInstr)) s1.1]) (fun y4 x E' W'=>x = .exit 0 ∧ ∃ (v6 : Hd),SubL E' [(5,(sv v6))] ∧ Sep S w W' [.box g_0 55 [(sv v_0_b),.int .i64 y2.2],rowV (sv v1) 70 1 (fun (l : List Quad)=>D.row 82 5 (l.map dQuad)) y1.1,rowV (sv v6) 68 1 (fun (l : List Instr)=>D.row 87 5 (l.map dInstr)) y4]) hy3 ⟨v2,sb z,hS.to [1,1,0] z⟩ ?_) ?_
 ·intro s1 y5 E W h hI
  obtain ⟨v4,hE,hS⟩:=hI
  refine CW.sub hE ?_
  unfold f9d at h
  refine .seq (.g (.q z (.q z (.s (lenv hS.p1.lendv T.u66 z z) z (.q z (.nil ?_))))))
  refine .cs z h ?_ ?_ <;> intro h
  ·refine .skip (.seq (.block (.region (.q z (.q z (.q z ?_))))))
   have ⟨x1,hx1,h⟩:=bnd h
   refine .s (ixv hS.p1.lendv hx1 T.u66 T.t70 z z z) z ?_
   obtain ⟨k1,hS⟩:=Sep.outv hS.p1 hx1
   obtain ⟨v7,k1,rfl,hS⟩:=hS.orowv
   obtain ⟨rfl,hS⟩:=hS.onil
   refine .s (lde (hS.p1.hcellsv) T.t70 z z z z z) z (.q z ?_)
   have ⟨y6,hy6,h⟩:=bnd h
   refine .c (.call1v hS Tryz.func32 (fei hy6 hS.lendv) z z ?_ z z z z)
   intro v8 W hS
   refine .c (.ligv (L1:=[rowV (sv v8) 87 5 dInstr y6]) [y6] (fun (l : List Instr)=>D.row 87 5 (l.map dInstr)) T.u56 T.t68 (hS.to [0,0,0,0,0] z) z z z (.row (.nil)) ?_ z (fun _=>z) z z z z z)
   intro v9 W hS
   have ⟨r1,hr1,h⟩:=bnd h
   refine .c (.appv hr1 (hS.to [4,0,0,0,0] z) T.u56 T.t68 z z z ?_ z z z z z)
   intro v10 W hS
   refine .qn z (.region (.q z (.q z (.q z (.nil ?_)))))
   have hS:=Sep.gat (ds:=[.row 82 5 (x1.map dQuad)]) (cs:=[(sv v7)]) (L1:=[rowV (sv v7) 82 5 dQuad x1]) (.row (.nil)) (hS.to [1,1,0,0] z)
   have hS : Sep _ _ _ [rowV (sv v1) 70 1 (fun (l : List Quad)=>D.row 82 5 (l.map dQuad)) y1.1,rowV (sv v10) 68 1 (fun (l : List Instr)=>D.row 87 5 (l.map dInstr)) r1,.box g_0 55 [(sv v_0_b),.int .i64 y2.2]]:=Sep.back0v hx1 hS
   cases h
   exact ⟨z,v10,sb z,hS.to [2,0,0] z⟩
  refine .exit ?_
  cases h
  exact ⟨by simp,z,v4,sb z,hS.to [0,0,0] z⟩
 intro x E W hJ
 obtain ⟨rfl,v11,hE,hS⟩:=hJ
 refine ⟨_,hE.sub,?_⟩
 cases h
 exact .g (.q z (.qn z (.ret (fin_ret (vs:=[_]) v11 (rt z rn) z (hS.to [0,1] z)))))
def fep (w : World) (r : Bool) : Env → World → Prop:=Fin Tryz.prog Tryz.f33 No w (fun s : Unit=>.bool r) (fun s=>[]) .ret
theorem fdu {a0 : List Int} {v_0 : Hd} {w : World} {r : Bool} (h : f3q a0 = some r) (q_0 : RV w (Old No w) (sv v_0) 3 1 (D.int .i64) a0) : Calls Tryz.prog 33 #[(sv v_0)] w (Ret No w (fun s : Unit=>.bool r) (fun s=>[])):=by
 unfold f3q at h
 refine enter Tryz.func33 z z ?_
 have hS:=Sep.start w
 refine .g (.qn z (.seq (.g (.qn z (.block ?_)))))
 have ⟨y1,hy1,h⟩:=bnd h
 refine .via (.iter (fun s1 E' W'=>SubL E' [(0,(sv v_0)),(3,.int .i64 s1)] ∧ Sep No w W' []) (fun y2 x E' W'=>(match y2 with | .inl o1=>x = .ret ∧ fep w o1 E' W' | .inr o2=>x = .exit 0 ∧ SubL E' [(0,(sv v_0))] ∧ Sep No w W' [])) hy1 ⟨sb rfl,hS.to [] rfl⟩ ?_) ?_
 ·intro s1 y3 E W h hI
  obtain ⟨hE,hS⟩:=hI
  refine CW.sub hE ?_
  unfold f1i at h
  refine .seq (.g (.q z (.q z (.s (lenv (hS.keep q_0) T.u23 z z) z (.q z (.nil ?_))))))
  refine .cs z h ?_ ?_ <;> intro h
  ·refine .skip (.seq (.block (.g (.q z (.q z ?_)))))
   have ⟨x1,hx1,h⟩:=bnd h
   refine .s (ixv (hS.keep q_0) hx1 T.u23 T.t3 z z z) z (.s (lde (RV.flat (hS.keep q_0) hx1 z) T.t3 z z z z z) z ?_)
   have ⟨y4,hy4,h⟩:=bnd h
   refine .c (.call0 hS Tryz.func28 (f06 hy4) z z ?_ z z z z)
   intro W hS
   refine .q z (.nil ?_)
   refine .cs z h ?_ ?_ <;> intro h
   ·refine .g (.qn z (.ret ?_))
    cases h
    exact ⟨by simp,z,fin_ret (vs:=[_]) () (rt z rn) z (hS.to [] z)⟩
   refine .skip (.region (.q z (.q z (.q z (.nil ?_)))))
   cases h
   exact ⟨z,sb z,hS.to [] z⟩
  refine .exit ?_
  cases h
  exact ⟨by simp,z,sb z,hS.to [] z⟩
 intro x E W hJ
 rcases y1 with o3 | o4
 ·obtain ⟨rfl,hF⟩:=hJ
  refine ⟨_,fun _ _ h=>h,?_⟩
  cases h
  exact hF
 obtain ⟨rfl,hE,hS⟩:=hJ
 refine ⟨_,hE.sub,?_⟩
 cases h
 exact .g (.q z (.s (lenv (hS.keep q_0) T.u23 z z) z (.q z (.qn z (.ret (fin_ret (vs:=[_]) () (rt z rn) z (hS.to [] z)))))))
theorem f2o {a0 : Instr} {a1 : Int} {a2 : Int} {a3 : Int} {w : World} {r : Bool} (h : f1s a0 a1 a2 a3 = some r) : Calls Tryz.prog 97 #[.agg #[.int .i64 a0.Op,.int .i64 a0.Rd,.int .i64 a0.Rs,.int .i64 a0.Rt,.int .i64 a0.Imm],.int .i64 a1,.int .i64 a2,.int .i64 a3] w (Ret No w (fun s : Unit=>.bool r) (fun s=>[])):=by
 unfold f1s at h
 refine enter Tryz.func97 z z ?_
 have hS:=Sep.start w
 refine .g (.c (.box hS z z ?_ z z))
 intro g1 W hS
 refine .qn z (.g (.s (fa T.f87_1 z z z) z (.s (ld T.t3 hS z z z z z) z (.q z (.q z ?_)))))
 have ⟨y1,hy1,h⟩:=bnd h
 refine .c (.call0 hS Tryz.func28 (f06 hy1) z z ?_ z z z z)
 intro W hS
 refine .q z ?_
 have ⟨b1,hb1,h⟩:=bnd h
 refine .chunk 6 20 (b1) hS ?_ ?_
 ·refine .both (y1) (fun hb=>?_) (fun hb=>?_)
  ·have hg1:=hb
   have h:=sel_t hb hb1
   refine .g hg1 (.s (fa T.f87_2 z z z) z (.g hg1 (.s (ld T.t3 hS z z z z z) z (.g hg1 (.q z (.g hg1 (.q z ?_) z)) z)) z)) z
   have ⟨y2,hy2,h⟩:=bnd h
   refine .g hg1 (.c (.call0 hS Tryz.func28 (f06 hy2) z z ?_ z z z z)) z
   intro W hS
   refine .s (pkt hg1 z z z) z ?_
   cases h
   exact .nil (ck 6 hS z z z z)
  refine .xx hb z (.xx hb z (.xx hb z (.xx hb z (.xx hb z ?_))))
  cases sel_f hb hb1
  exact .s (pkf hb z z z) z (.nil (ck 6 hS z z z z))
 intro W hS
 refine .q z ?_
 have ⟨b2,hb2,h⟩:=bnd h
 refine .chunk 6 27 (b2) hS ?_ ?_
 ·refine .both (b1) (fun hb=>?_) (fun hb=>?_)
  ·have hg2:=hb
   have h:=sel_t hb hb2
   refine .g hg2 (.s (fa T.f87_3 z z z) z (.g hg2 (.s (ld T.t3 hS z z z z z) z (.g hg2 (.q z (.g hg2 (.q z ?_) z)) z)) z)) z
   have ⟨y3,hy3,h⟩:=bnd h
   refine .g hg2 (.c (.call0 hS Tryz.func28 (f06 hy3) z z ?_ z z z z)) z
   intro W hS
   refine .s (pkt hg2 z z z) z ?_
   cases h
   exact .nil (ck 6 hS z z z z)
  refine .xx hb z (.xx hb z (.xx hb z (.xx hb z (.xx hb z ?_))))
  cases sel_f hb hb2
  exact .s (pkf hb z z z) z (.nil (ck 6 hS z z z z))
 intro W hS
 obtain rfl:=Option.some.inj h
 exact .qn z (.ret (fin_ret (vs:=[_]) () (rt z rn) z (hS.to [] z)))
theorem fbe {a0 : Int} {a1 : Int} {a2 : Int} {w : World} {r : Bool} (h : f5d a0 a1 a2 = some r) : Calls Tryz.prog 98 #[.int .i64 a0,.int .i64 a1,.int .i64 a2] w (Ret No w (fun s : Unit=>.bool r) (fun s=>[])):=by
 unfold f5d at h
 refine enter Tryz.func98 z z ?_
 have hS:=Sep.start w
 refine .g (.qn z (.g (.q z (.q z (.q z ?_)))))
 have ⟨y1,hy1,h⟩:=bnd h
 refine .c (.call0 hS Tryz.func28 (f06 hy1) z z ?_ z z z z)
 intro W hS
 refine .q z (.chunk 4 15 (y1 && ((Int.tmod a0 2) == 0)) hS ?_ ?_)
 ·refine .both (y1) (fun hb=>?_) (fun hb=>?_)
  ·have hg1:=hb
   exact .g hg1 (.q z (.g hg1 (.q z (.g hg1 (.q z (.s (pkt hg1 z z z) z (.nil (ck 4 hS z (and_t hg1) z z)))) z)) z)) z
  exact .xx hb z (.xx hb z (.xx hb z (.s (pkf hb z z z) z (.nil (ck 4 hS z (and_f hb) z z)))))
 intro W hS
 cases h
 exact .qn z (.ret (fin_ret (vs:=[_]) () (rt z rn) z (hS.to [] z)))
theorem fci {a0 : Instr} {w : World} {r : Bool} (h : f2s a0 = some r) : Calls Tryz.prog 71 #[.agg #[.int .i64 a0.Op,.int .i64 a0.Rd,.int .i64 a0.Rs,.int .i64 a0.Rt,.int .i64 a0.Imm]] w (Ret No w (fun s : Unit=>.bool r) (fun s=>[])):=by
 unfold f2s at h
 refine enter Tryz.func71 z z ?_
 have hS:=Sep.start w
 refine .g (.c (.box hS z z ?_ z z))
 intro g1 W hS
 refine .qn z (.seq (.block (.g (.s (fa T.f87_0 z z z) z (.s (ld T.t3 hS z z z z z) z ?_)))))
 have ⟨y1,hy1,h⟩:=bnd h
 refine .c (.call0 hS Tryz.func28 (f06 hy1) z z ?_ z z z z)
 intro W hS
 refine .q z (.nil ?_)
 refine .cs z h ?_ ?_ <;> intro h
 ·refine .g (.s (ld T.t87 hS z z z z z) z ?_)
  have ⟨y2,hy2,h⟩:=bnd h
  refine .c (.call0 hS Tryz.func97 (f2o hy2) z z ?_ z z z z)
  intro W hS
  refine .q z (.chunk 4 13 (y2 && (a0.Imm == 0)) hS ?_ ?_)
  ·refine .both (y2) (fun hb=>?_) (fun hb=>?_)
   ·have hg1:=hb
    exact .g hg1 (.s (fa T.f87_4 z z z) z (.g hg1 (.s (ld T.t3 hS z z z z z) z (.g hg1 (.q z (.s (pkt hg1 z z z) z (.nil (ck 4 hS z (and_t hg1) z z)))) z)) z)) z
   exact .xx hb z (.xx hb z (.xx hb z (.s (pkf hb z z z) z (.nil (ck 4 hS z (and_f hb) z z)))))
  intro W hS
  cases h
  exact .qn z (.ret (fin_ret (vs:=[_]) () (rt z rn) z (hS.to [] z)))
 refine .g (.s (fa T.f87_0 z z z) z (.s (ld T.t3 hS z z z z z) z ?_))
 have ⟨y3,hy3,h⟩:=bnd h
 refine .c (.call0 hS Tryz.func28 (f06 hy3) z z ?_ z z z z)
 intro W hS
 refine .q z (.nil ?_)
 refine .cs z h ?_ ?_ <;> intro h
 ·refine .g (.s (ld T.t87 hS z z z z z) z ?_)
  have ⟨y4,hy4,h⟩:=bnd h
  refine .c (.call0 hS Tryz.func97 (f2o hy4) z z ?_ z z z z)
  intro W hS
  refine .q z ?_
  have ⟨b1,hb1,h⟩:=bnd h
  refine .chunk 4 24 (b1) hS ?_ ?_
  ·refine .both (y4) (fun hb=>?_) (fun hb=>?_)
   ·have hg2:=hb
    have h:=sel_t hb hb1
    refine .g hg2 (.s (fa T.f87_4 z z z) z (.g hg2 (.s (ld T.t3 hS z z z z z) z ?_) z)) z
    have ⟨y5,hy5,h⟩:=bnd h
    refine .g hg2 (.c (.call0 hS Tryz.func28 (f06 hy5) z z ?_ z z z z)) z
    intro W hS
    refine .s (pkt hg2 z z z) z ?_
    cases h
    exact .nil (ck 4 hS z z z z)
   refine .xx hb z (.xx hb z (.xx hb z ?_))
   cases sel_f hb hb1
   exact .s (pkf hb z z z) z (.nil (ck 4 hS z z z z))
  intro W hS
  obtain rfl:=Option.some.inj h
  exact .qn z (.ret (fin_ret (vs:=[_]) () (rt z rn) z (hS.to [] z)))
 refine .g (.s (fa T.f87_0 z z z) z (.s (ld T.t3 hS z z z z z) z (.q z (.q z (.nil ?_)))))
 refine .cs z h ?_ ?_ <;> intro h
 ·refine .g (.s (ld T.t87 hS z z z z z) z ?_)
  have ⟨y6,hy6,h⟩:=bnd h
  refine .c (.call0 hS Tryz.func97 (f2o hy6) z z ?_ z z z z)
  intro W hS
  refine .q z ?_
  have ⟨b2,hb2,h⟩:=bnd h
  refine .chunk 4 35 (b2) hS ?_ ?_
  ·refine .both (y6) (fun hb=>?_) (fun hb=>?_)
   ·have hg3:=hb
    have h:=sel_t hb hb2
    refine .g hg3 (.s (fa T.f87_4 z z z) z (.g hg3 (.s (ld T.t3 hS z z z z z) z ?_) z)) z
    have ⟨y7,hy7,h⟩:=bnd h
    refine .g hg3 (.c (.call0 hS Tryz.func28 (f06 hy7) z z ?_ z z z z)) z
    intro W hS
    refine .s (pkt hg3 z z z) z ?_
    cases h
    exact .nil (ck 4 hS z z z z)
   refine .xx hb z (.xx hb z (.xx hb z ?_))
   cases sel_f hb hb2
   exact .s (pkf hb z z z) z (.nil (ck 4 hS z z z z))
  intro W hS
  obtain rfl:=Option.some.inj h
  exact .qn z (.ret (fin_ret (vs:=[_]) () (rt z rn) z (hS.to [] z)))
 refine .g (.s (fa T.f87_0 z z z) z (.s (ld T.t3 hS z z z z z) z (.q z (.q z (.chunk 4 44 ((a0.Op == 17) || (a0.Op == 18)) hS ?_ ?_)))))
 ·refine .both (a0.Op == 17) (fun hb=>?_) (fun hb=>?_)
  ·exact .xx hb z (.xx hb z (.xx hb z (.s (pkt hb z z z) z (.nil (ck 4 hS z (or_t hb) z z)))))
  have hg4:=hb
  exact .g hg4 (.s (fa T.f87_0 z z z) z (.g hg4 (.s (ld T.t3 hS z z z z z) z (.g hg4 (.q z (.s (pkf hg4 z z z) z (.nil (ck 4 hS z (or_f hg4) z z)))) z)) z)) z
 intro W hS
 refine .q z (.nil ?_)
 refine .cs z h ?_ ?_ <;> intro h
 ·refine .g (.s (ld T.t87 hS z z z z z) z ?_)
  have ⟨y8,hy8,h⟩:=bnd h
  refine .c (.call0 hS Tryz.func97 (f2o hy8) z z ?_ z z z z)
  intro W hS
  refine .q z ?_
  have ⟨b3,hb3,h⟩:=bnd h
  refine .chunk 4 51 (b3) hS ?_ ?_
  ·refine .both (y8) (fun hb=>?_) (fun hb=>?_)
   ·have hg5:=hb
    have h:=sel_t hb hb3
    refine .g hg5 (.s (fa T.f87_4 z z z) z (.g hg5 (.s (ld T.t3 hS z z z z z) z ?_) z)) z
    have ⟨y9,hy9,h⟩:=bnd h
    refine .g hg5 (.c (.call0 hS Tryz.func98 (fbe hy9) z z ?_ z z z z)) z
    intro W hS
    refine .s (pkt hg5 z z z) z ?_
    cases h
    exact .nil (ck 4 hS z z z z)
   refine .xx hb z (.xx hb z (.xx hb z ?_))
   cases sel_f hb hb3
   exact .s (pkf hb z z z) z (.nil (ck 4 hS z z z z))
  intro W hS
  obtain rfl:=Option.some.inj h
  exact .qn z (.ret (fin_ret (vs:=[_]) () (rt z rn) z (hS.to [] z)))
 refine .g (.s (fa T.f87_0 z z z) z (.s (ld T.t3 hS z z z z z) z (.q z (.q z (.nil ?_)))))
 refine .cs z h ?_ ?_ <;> intro h
 ·refine .g (.s (ld T.t87 hS z z z z z) z ?_)
  have ⟨y10,hy10,h⟩:=bnd h
  refine .c (.call0 hS Tryz.func97 (f2o hy10) z z ?_ z z z z)
  intro W hS
  refine .q z ?_
  have ⟨b4,hb4,h⟩:=bnd h
  refine .chunk 4 62 (b4) hS ?_ ?_
  ·refine .both (y10) (fun hb=>?_) (fun hb=>?_)
   ·have hg6:=hb
    have h:=sel_t hb hb4
    refine .g hg6 (.s (fa T.f87_4 z z z) z (.g hg6 (.s (ld T.t3 hS z z z z z) z ?_) z)) z
    have ⟨y11,hy11,h⟩:=bnd h
    refine .g hg6 (.c (.call0 hS Tryz.func28 (f06 hy11) z z ?_ z z z z)) z
    intro W hS
    refine .s (pkt hg6 z z z) z ?_
    cases h
    exact .nil (ck 4 hS z z z z)
   refine .xx hb z (.xx hb z (.xx hb z ?_))
   cases sel_f hb hb4
   exact .s (pkf hb z z z) z (.nil (ck 4 hS z z z z))
  intro W hS
  obtain rfl:=Option.some.inj h
  exact .qn z (.ret (fin_ret (vs:=[_]) () (rt z rn) z (hS.to [] z)))
 refine .g (.s (fa T.f87_0 z z z) z (.s (ld T.t3 hS z z z z z) z (.q z (.q z (.nil ?_)))))
 refine .cs z h ?_ ?_ <;> intro h
 ·refine .g (.s (ld T.t87 hS z z z z z) z ?_)
  have ⟨y12,hy12,h⟩:=bnd h
  refine .c (.call0 hS Tryz.func97 (f2o hy12) z z ?_ z z z z)
  intro W hS
  refine .q z ?_
  have ⟨b5,hb5,h⟩:=bnd h
  refine .chunk 4 73 (b5) hS ?_ ?_
  ·refine .both (y12) (fun hb=>?_) (fun hb=>?_)
   ·have hg7:=hb
    have h:=sel_t hb hb5
    refine .g hg7 (.s (fa T.f87_4 z z z) z (.g hg7 (.s (ld T.t3 hS z z z z z) z ?_) z)) z
    have ⟨y13,hy13,h⟩:=bnd h
    refine .g hg7 (.c (.call0 hS Tryz.func98 (fbe hy13) z z ?_ z z z z)) z
    intro W hS
    refine .s (pkt hg7 z z z) z ?_
    cases h
    exact .nil (ck 4 hS z z z z)
   refine .xx hb z (.xx hb z (.xx hb z ?_))
   cases sel_f hb hb5
   exact .s (pkf hb z z z) z (.nil (ck 4 hS z z z z))
  intro W hS
  obtain rfl:=Option.some.inj h
  exact .qn z (.ret (fin_ret (vs:=[_]) () (rt z rn) z (hS.to [] z)))
 refine .skip (.g (.s (fa T.f87_0 z z z) z (.s (ld T.t3 hS z z z z z) z (.q z (.q z ?_)))))
 have ⟨b6,hb6,h⟩:=bnd h
 refine .chunk 3 80 (b6) hS ?_ ?_
 ·refine .both (a0.Op == 21) (fun hb=>?_) (fun hb=>?_)
  ·have hg8:=hb
   have h:=sel_t hb hb6
   refine .g hg8 (.s (ld T.t87 hS z z z z z) z ?_) z
   have ⟨y14,hy14,h⟩:=bnd h
   refine .g hg8 (.c (.call0 hS Tryz.func97 (f2o hy14) z z ?_ z z z z)) z
   intro W hS
   refine .s (pkt hg8 z z z) z ?_
   cases h
   exact .nil (ck 3 hS z z z z)
  refine .xx hb z (.xx hb z ?_)
  cases sel_f hb hb6
  exact .s (pkf hb z z z) z (.nil (ck 3 hS z z z z))
 intro W hS
 refine .q z (.chunk 4 85 (b6 && (a0.Imm == 0)) hS ?_ ?_)
 ·refine .both (b6) (fun hb=>?_) (fun hb=>?_)
  ·have hg9:=hb
   exact .g hg9 (.s (fa T.f87_4 z z z) z (.g hg9 (.s (ld T.t3 hS z z z z z) z (.g hg9 (.q z (.s (pkt hg9 z z z) z (.nil (ck 4 hS z (and_t hg9) z z)))) z)) z)) z
  exact .xx hb z (.xx hb z (.xx hb z (.s (pkf hb z z z) z (.nil (ck 4 hS z (and_f hb) z z)))))
 intro W hS
 cases h
 exact .qn z (.ret (fin_ret (vs:=[_]) () (rt z rn) z (hS.to [] z)))
theorem f8e {a0 : Int} {a1 : Int} {w : World} {r : Int} (h : f41 a0 a1 = some r) : Calls Tryz.prog 100 #[.int .i64 a0,.int .i64 a1] w (Ret No w (fun s : Unit=>.int .i64 r) (fun s=>[])):=by
 unfold f41 at h
 refine enter Tryz.func100 z z ?_
 have hS:=Sep.start w
 refine .g (.qn z (.seq (.g (.q z (.q z (.nil ?_))))))
 refine .cs z h ?_ ?_ <;> intro h
 ·cases h
  exact .g (.q z (.q z (.q z (.qn z (.ret (fin_ret (vs:=[_]) () (rt z rn) z (hS.to [] z)))))))
 obtain rfl:=Option.some.inj h
 exact .skip (.g (.q z (.qn z (.ret (fin_ret (vs:=[_]) () (rt z rn) z (hS.to [] z))))))
theorem f0c {a0 : Int} {a1 : Int} {w : World} {r : Int} (h : f0e a0 a1 = some r) : Calls Tryz.prog 101 #[.int .i64 a0,.int .i64 a1] w (Ret No w (fun s : Unit=>.int .i64 r) (fun s=>[])):=by
 unfold f0e at h
 refine enter Tryz.func101 z z ?_
 have hS:=Sep.start w
 refine .g (.qn z (.g (.q z (.q z ?_))))
 have ⟨y1,hy1,h⟩:=bnd h
 refine .c (.call0 hS Tryz.func120 (f3l hy1) z z ?_ z z z z)
 intro W hS
 cases h
 exact .q z (.qn z (.ret (fin_ret (vs:=[_]) () (rt z rn) z (hS.to [] z))))
theorem fay {a0 : Int} {w : World} {r : Int} (h : f4p a0 = some r) : Calls Tryz.prog 106 #[.int .i64 a0] w (Ret No w (fun s : Unit=>.int .i64 r) (fun s=>[])):=by
 unfold f4p at h
 refine enter Tryz.func106 z z ?_
 have hS:=Sep.start w
 refine .g (.qn z (.g (.c (.liv [0,0,0,4,6,7,6,4,1,5,2,0,3,2,0,2,0,1,0,0,0] (D.int .i64) T.u23 T.t3 hS z z z z ?_ z (fun _=>z) z z z z))))
 intro v1 W hS
 refine .q z (.q z ?_)
 have ⟨x1,hx1,h⟩:=bnd h
 obtain rfl:=Option.some.inj h
 exact .s (ixv hS.lendv hx1 T.u23 T.t3 z z z) z (.s (lde (RV.flat hS.lendv hx1 z) T.t3 z z z z z) z (.qn z (.ret (fin_ret (vs:=[_]) () (rt z rn) z (hS.to [] z)))))
theorem f8h {a0 : Instr} {a1 : Int} {w : World} {r : Int} (h : f40 a0 a1 = some r) : Calls Tryz.prog 102 #[.agg #[.int .i64 a0.Op,.int .i64 a0.Rd,.int .i64 a0.Rs,.int .i64 a0.Rt,.int .i64 a0.Imm],.int .i64 a1] w (Ret No w (fun s : Unit=>.int .i64 r) (fun s=>[])):=by
 unfold f40 at h
 refine enter Tryz.func102 z z ?_
 have hS:=Sep.start w
 refine .g (.c (.box hS z z ?_ z z))
 intro g1 W hS
 refine .qn z (.seq (.rk 11 hS [0] T.mix ?_))
 intro W hS
 have hT:=hS.to [0] z
 refine .ts 0 z (fun W hT=>fa T.f87_2 z z z) hT z (by kernel_rfl) (.ts 1 z (fun W hT=>ld T.t3 hT z z z z z) hT z (by kernel_rfl) (.ts 3 z (fun W hT=>fa T.f87_0 z z z) hT z (by kernel_rfl) (.ts 4 z (fun W hT=>ld T.t3 hT z z z z z) hT z (by kernel_rfl) (.tp 8 z z hT (by kernel_rfl) ?_))))
 have ⟨y1,hy1,h⟩:=bnd h
 refine .by1 2 z (.call0 hS Tryz.func101 (f0c hy1) z z ?_ z z z z) (by kernel_rfl)
 intro W hS
 have hT:=hS.to [0] z
 refine ⟨fun _=>hT,?_⟩
 have ⟨y2,hy2,h⟩:=bnd h
 refine .by1 5 z (.call0 hS Tryz.func106 (fay hy2) z z ?_ z z z z) (by kernel_rfl)
 intro W hS
 have hT:=hS.to [0] z
 refine ⟨fun _=>hT,?_⟩
 have ⟨y3,hy3,h⟩:=bnd h
 refine .by1 6 z (.call0 hS Tryz.func101 (f0c hy3) z z ?_ z z z z) (by kernel_rfl)
 intro W hS
 have hT:=hS.to [0] z
 refine ⟨fun _=>hT,?_⟩
 cases h
 exact .tp 7 z z hT (by kernel_rfl) (.tp 9 z z hT (by kernel_rfl) (.tp 10 z z hT (by kernel_rfl) (.done (.ret (fin_ret (vs:=[_]) () (rt z rn) z (hS.to [] z))) (by kernel_rfl))))
theorem fac {a0 : Instr} {a1 : Int} {w : World} {r : Int} (h : f5a a0 a1 = some r) : Calls Tryz.prog 99 #[.agg #[.int .i64 a0.Op,.int .i64 a0.Rd,.int .i64 a0.Rs,.int .i64 a0.Rt,.int .i64 a0.Imm],.int .i64 a1] w (Ret No w (fun s : Unit=>.int .i64 r) (fun s=>[])):=by
 unfold f5a at h
 refine enter Tryz.func99 z z ?_
 have hS:=Sep.start w
 refine .g (.c (.box hS z z ?_ z z))
 intro g1 W hS
 refine .qn z (.seq (.rk 13 hS [0] T.mix ?_))
 intro W hS
 have hT:=hS.to [0] z
 refine .ts 0 z (fun W hT=>fa T.f87_4 z z z) hT z (by kernel_rfl) (.ts 1 z (fun W hT=>ld T.t3 hT z z z z z) hT z (by kernel_rfl) (.ts 4 z (fun W hT=>ld T.t87 hT z z z z z) hT z (by kernel_rfl) (.tp 5 z z hT (by kernel_rfl) (.ts 8 z (fun W hT=>fa T.f87_1 z z z) hT z (by kernel_rfl) (.ts 9 z (fun W hT=>ld T.t3 hT z z z z z) hT z (by kernel_rfl) ?_)))))
 have ⟨y1,hy1,h⟩:=bnd h
 refine .by1 2 z (.call0 hS Tryz.func100 (f8e hy1) z z ?_ z z z z) (by kernel_rfl)
 intro W hS
 have hT:=hS.to [0] z
 refine ⟨fun _=>hT,?_⟩
 have ⟨y2,hy2,h⟩:=bnd h
 refine .by1 3 z (.call0 hS Tryz.func101 (f0c hy2) z z ?_ z z z z) (by kernel_rfl)
 intro W hS
 have hT:=hS.to [0] z
 refine ⟨fun _=>hT,?_⟩
 have ⟨y3,hy3,h⟩:=bnd h
 refine .by1 6 z (.call0 hS Tryz.func102 (f8h hy3) z z ?_ z z z z) (by kernel_rfl)
 intro W hS
 have hT:=hS.to [0] z
 refine ⟨fun _=>hT,.tp 7 z z hT (by kernel_rfl) ?_⟩
 have ⟨y4,hy4,h⟩:=bnd h
 refine .by1 10 z (.call0 hS Tryz.func101 (f0c hy4) z z ?_ z z z z) (by kernel_rfl)
 intro W hS
 have hT:=hS.to [0] z
 refine ⟨fun _=>hT,?_⟩
 cases h
 exact .tp 11 z z hT (by kernel_rfl) (.tp 12 z z hT (by kernel_rfl) (.done (.ret (fin_ret (vs:=[_]) () (rt z rn) z (hS.to [] z))) (by kernel_rfl)))
theorem fct {a0 : Instr} {w : World} {r : Int} (h : f5h a0 = some r) : Calls Tryz.prog 103 #[.agg #[.int .i64 a0.Op,.int .i64 a0.Rd,.int .i64 a0.Rs,.int .i64 a0.Rt,.int .i64 a0.Imm]] w (Ret No w (fun s : Unit=>.int .i64 r) (fun s=>[])):=by
 unfold f5h at h
 refine enter Tryz.func103 z z ?_
 have hS:=Sep.start w
 refine .g (.c (.box hS z z ?_ z z))
 intro g1 W hS
 refine .qn z (.g (.s (fa T.f87_4 z z z) z (.s (ld T.t3 hS z z z z z) z ?_)))
 have ⟨y1,hy1,h⟩:=bnd h
 refine .c (.call0 hS Tryz.func100 (f8e hy1) z z ?_ z z z z)
 intro W hS
 refine .qn z (.seq (.rk 12 hS [0] T.mix ?_))
 intro W hS
 have hT:=hS.to [0] z
 refine .tp 0 z z hT (by kernel_rfl) (.tp 3 z z hT (by kernel_rfl) (.ts 7 z (fun W hT=>fa T.f87_3 z z z) hT z (by kernel_rfl) (.ts 8 z (fun W hT=>ld T.t3 hT z z z z z) hT z (by kernel_rfl) ?_)))
 have ⟨y2,hy2,h⟩:=bnd h
 refine .by1 1 z (.call0 hS Tryz.func95 (f07 hy2) z z ?_ z z z z) (by kernel_rfl)
 intro W hS
 have hT:=hS.to [0] z
 refine ⟨fun _=>hT,?_⟩
 have ⟨y3,hy3,h⟩:=bnd h
 refine .by1 2 z (.call0 hS Tryz.func101 (f0c hy3) z z ?_ z z z z) (by kernel_rfl)
 intro W hS
 have hT:=hS.to [0] z
 refine ⟨fun _=>hT,?_⟩
 have ⟨y4,hy4,h⟩:=bnd h
 refine .by1 4 z (.call0 hS Tryz.func95 (f07 hy4) z z ?_ z z z z) (by kernel_rfl)
 intro W hS
 have hT:=hS.to [0] z
 refine ⟨fun _=>hT,?_⟩
 have ⟨y5,hy5,h⟩:=bnd h
 refine .by1 5 z (.call0 hS Tryz.func101 (f0c hy5) z z ?_ z z z z) (by kernel_rfl)
 intro W hS
 have hT:=hS.to [0] z
 refine ⟨fun _=>hT,.tp 6 z z hT (by kernel_rfl) ?_⟩
 have ⟨y6,hy6,h⟩:=bnd h
 refine .by1 9 z (.call0 hS Tryz.func101 (f0c hy6) z z ?_ z z z z) (by kernel_rfl)
 intro W hS
 have hT:=hS.to [0] z
 refine ⟨fun _=>hT,.tp 10 z z hT (by kernel_rfl) (.tp 11 z z hT (by kernel_rfl) (.done (.g (.q z (.s (ld T.t87 hS z z z z z) z ?_))) (by kernel_rfl)))⟩
 have ⟨y7,hy7,h⟩:=bnd h
 refine .c (.call0 hS Tryz.func102 (f8h hy7) z z ?_ z z z z)
 intro W hS
 refine .q z (.q z ?_)
 have ⟨y8,hy8,h⟩:=bnd h
 refine .c (.call0 hS Tryz.func95 (f07 hy8) z z ?_ z z z z)
 intro W hS
 have ⟨y9,hy9,h⟩:=bnd h
 refine .c (.call0 hS Tryz.func101 (f0c hy9) z z ?_ z z z z)
 intro W hS
 refine .q z (.q z ?_)
 have ⟨y10,hy10,h⟩:=bnd h
 refine .c (.call0 hS Tryz.func95 (f07 hy10) z z ?_ z z z z)
 intro W hS
 have ⟨y11,hy11,h⟩:=bnd h
 refine .c (.call0 hS Tryz.func101 (f0c hy11) z z ?_ z z z z)
 intro W hS
 cases h
 exact .q z (.qn z (.ret (fin_ret (vs:=[_]) () (rt z rn) z (hS.to [] z))))
theorem fea {a0 : Instr} {w : World} {r : Int} (h : f7t a0 = some r) : Calls Tryz.prog 104 #[.agg #[.int .i64 a0.Op,.int .i64 a0.Rd,.int .i64 a0.Rs,.int .i64 a0.Rt,.int .i64 a0.Imm]] w (Ret No w (fun s : Unit=>.int .i64 r) (fun s=>[])):=by
 unfold f7t at h
 refine enter Tryz.func104 z z ?_
 have hS:=Sep.start w
 refine .g (.c (.box hS z z ?_ z z))
 intro g1 W hS
 refine .qn z (.g (.s (fa T.f87_4 z z z) z (.s (ld T.t3 hS z z z z z) z ?_)))
 have ⟨y1,hy1,h⟩:=bnd h
 refine .c (.call0 hS Tryz.func100 (f8e hy1) z z ?_ z z z z)
 intro W hS
 refine .qn z (.g (.q z ?_))
 have ⟨y2,hy2,h⟩:=bnd h
 refine .c (.call0 hS Tryz.func95 (f07 hy2) z z ?_ z z z z)
 intro W hS
 have ⟨y3,hy3,h⟩:=bnd h
 refine .c (.call0 hS Tryz.func101 (f0c hy3) z z ?_ z z z z)
 intro W hS
 refine .q z ?_
 have ⟨y4,hy4,h⟩:=bnd h
 refine .c (.call0 hS Tryz.func95 (f07 hy4) z z ?_ z z z z)
 intro W hS
 have ⟨y5,hy5,h⟩:=bnd h
 refine .c (.call0 hS Tryz.func101 (f0c hy5) z z ?_ z z z z)
 intro W hS
 refine .q z (.q z ?_)
 have ⟨y6,hy6,h⟩:=bnd h
 refine .c (.call0 hS Tryz.func95 (f07 hy6) z z ?_ z z z z)
 intro W hS
 have ⟨y7,hy7,h⟩:=bnd h
 refine .c (.call0 hS Tryz.func101 (f0c hy7) z z ?_ z z z z)
 intro W hS
 refine .q z (.qn z (.seq (.rk 11 hS [0] T.mix ?_)))
 intro W hS
 have hT:=hS.to [0] z
 refine .tp 0 z z hT (by kernel_rfl) (.tp 1 z z hT (by kernel_rfl) (.ts 5 z (fun W hT=>fa T.f87_1 z z z) hT z (by kernel_rfl) (.ts 6 z (fun W hT=>ld T.t3 hT z z z z z) hT z (by kernel_rfl) ?_)))
 have ⟨y8,hy8,h⟩:=bnd h
 refine .by1 2 z (.call0 hS Tryz.func95 (f07 hy8) z z ?_ z z z z) (by kernel_rfl)
 intro W hS
 have hT:=hS.to [0] z
 refine ⟨fun _=>hT,?_⟩
 have ⟨y9,hy9,h⟩:=bnd h
 refine .by1 3 z (.call0 hS Tryz.func101 (f0c hy9) z z ?_ z z z z) (by kernel_rfl)
 intro W hS
 have hT:=hS.to [0] z
 refine ⟨fun _=>hT,.tp 4 z z hT (by kernel_rfl) ?_⟩
 have ⟨y10,hy10,h⟩:=bnd h
 refine .by1 7 z (.call0 hS Tryz.func101 (f0c hy10) z z ?_ z z z z) (by kernel_rfl)
 intro W hS
 have hT:=hS.to [0] z
 refine ⟨fun _=>hT,?_⟩
 cases h
 exact .tp 8 z z hT (by kernel_rfl) (.tp 9 z z hT (by kernel_rfl) (.tp 10 z z hT (by kernel_rfl) (.done (.ret (fin_ret (vs:=[_]) () (rt z rn) z (hS.to [] z))) (by kernel_rfl))))
theorem fb1 {a0 : Int} {w : World} {r : Int} (h : f4u a0 = some r) : Calls Tryz.prog 105 #[.int .i64 a0] w (Ret No w (fun s : Unit=>.int .i64 r) (fun s=>[])):=by
 unfold f4u at h
 refine enter Tryz.func105 z z ?_
 have hS:=Sep.start w
 refine .g (.qn z (.g (.c (.liv [0,32,1,1,1,0,0,0,0,32,0] (D.int .i64) T.u23 T.t3 hS z z z z ?_ z (fun _=>z) z z z z))))
 intro v1 W hS
 refine .q z (.q z ?_)
 have ⟨x1,hx1,h⟩:=bnd h
 obtain rfl:=Option.some.inj h
 exact .s (ixv hS.lendv hx1 T.u23 T.t3 z z z) z (.s (lde (RV.flat hS.lendv hx1 z) T.t3 z z z z z) z (.qn z (.ret (fin_ret (vs:=[_]) () (rt z rn) z (hS.to [] z)))))
theorem fap {a0 : Instr} {w : World} {r : Int} (h : f0s a0 = some r) : Calls Tryz.prog 72 #[.agg #[.int .i64 a0.Op,.int .i64 a0.Rd,.int .i64 a0.Rs,.int .i64 a0.Rt,.int .i64 a0.Imm]] w (Ret No w (fun s : Unit=>.int .i64 r) (fun s=>[])):=by
 unfold f0s at h
 refine enter Tryz.func72 z z ?_
 have hS:=Sep.start w
 refine .g (.c (.box hS z z ?_ z z))
 intro g1 W hS
 refine .qn z (.seq (.g (.s (fa T.f87_0 z z z) z (.s (ld T.t3 hS z z z z z) z (.nil (.block ?_))))))
 have ⟨y1,hy1,h⟩:=bnd h
 refine .seq (CW.via (R':=fun x E' W'=>x = .normal ∧ SubL E' [(1,.pointer (some ⟨g1,0,none⟩)),(5,.int .i64 a0.Op),(6,.bool y1)] ∧ Sep No w W' [.box g1 87 [.int .i64 a0.Op,.int .i64 a0.Rd,.int .i64 a0.Rs,.int .i64 a0.Rt,.int .i64 a0.Imm]]) ?_ ?_)
 ·have h:=hy1
  refine .g (.q z (.q z (.nil ?_)))
  refine .cs z h ?_ ?_ <;> intro h
  ·refine .skip ?_
   cases h
   exact ⟨z,sb z,hS.to [0] z⟩
  refine .region (.q z (.q z (.nil ?_)))
  cases h
  exact ⟨z,sb z,hS.to [0] z⟩
 intro x E W hJ
 obtain ⟨rfl,hE,hS⟩:=hJ
 refine ⟨_,hE.sub,?_⟩
 refine .cs z h ?_ ?_ <;> intro h
 ·refine .g (.s (ld T.t87 hS z z z z z) z ?_)
  have ⟨y2,hy2,h⟩:=bnd h
  refine .c (.call0 hS Tryz.func99 (fac hy2) z z ?_ z z z z)
  intro W hS
  obtain rfl:=Option.some.inj h
  exact .qn z (.ret (fin_ret (vs:=[_]) () (rt z rn) z (hS.to [] z)))
 refine .g (.q z (.q z (.nil ?_)))
 refine .cs z h ?_ ?_ <;> intro h
 ·refine .g (.s (ld T.t87 hS z z z z z) z ?_)
  have ⟨y3,hy3,h⟩:=bnd h
  refine .c (.call0 hS Tryz.func99 (fac hy3) z z ?_ z z z z)
  intro W hS
  obtain rfl:=Option.some.inj h
  exact .qn z (.ret (fin_ret (vs:=[_]) () (rt z rn) z (hS.to [] z)))
 refine .g (.q z (.q z (.nil ?_)))
 refine .cs z h ?_ ?_ <;> intro h
 ·refine .g (.s (ld T.t87 hS z z z z z) z ?_)
  have ⟨y4,hy4,h⟩:=bnd h
  refine .c (.call0 hS Tryz.func99 (fac hy4) z z ?_ z z z z)
  intro W hS
  obtain rfl:=Option.some.inj h
  exact .qn z (.ret (fin_ret (vs:=[_]) () (rt z rn) z (hS.to [] z)))
 refine .g (.q z (.q z (.nil ?_)))
 refine .cs z h ?_ ?_ <;> intro h
 ·refine .g (.s (fa T.f87_4 z z z) z (.s (ld T.t3 hS z z z z z) z ?_))
  have ⟨y5,hy5,h⟩:=bnd h
  refine .c (.call0 hS Tryz.func100 (f8e hy5) z z ?_ z z z z)
  intro W hS
  refine .qn z (.seq (.rk 15 hS [0] T.mix ?_))
  intro W hS
  have hT:=hS.to [0] z
  refine .tp 0 z z hT (by kernel_rfl) (.ts 3 z (fun W hT=>fa T.f87_3 z z z) hT z (by kernel_rfl) (.ts 4 z (fun W hT=>ld T.t3 hT z z z z z) hT z (by kernel_rfl) (.ts 7 z (fun W hT=>ld T.t87 hT z z z z z) hT z (by kernel_rfl) (.tp 10 z z hT (by kernel_rfl) ?_))))
  have ⟨y6,hy6,h⟩:=bnd h
  refine .by1 1 z (.call0 hS Tryz.func95 (f07 hy6) z z ?_ z z z z) (by kernel_rfl)
  intro W hS
  have hT:=hS.to [0] z
  refine ⟨fun _=>hT,?_⟩
  have ⟨y7,hy7,h⟩:=bnd h
  refine .by1 2 z (.call0 hS Tryz.func101 (f0c hy7) z z ?_ z z z z) (by kernel_rfl)
  intro W hS
  have hT:=hS.to [0] z
  refine ⟨fun _=>hT,?_⟩
  have ⟨y8,hy8,h⟩:=bnd h
  refine .by1 5 z (.call0 hS Tryz.func101 (f0c hy8) z z ?_ z z z z) (by kernel_rfl)
  intro W hS
  have hT:=hS.to [0] z
  refine ⟨fun _=>hT,.tp 6 z z hT (by kernel_rfl) ?_⟩
  have ⟨y9,hy9,h⟩:=bnd h
  refine .by1 8 z (.call0 hS Tryz.func102 (f8h hy9) z z ?_ z z z z) (by kernel_rfl)
  intro W hS
  have hT:=hS.to [0] z
  refine ⟨fun _=>hT,.tp 9 z z hT (by kernel_rfl) ?_⟩
  have ⟨y10,hy10,h⟩:=bnd h
  refine .by1 11 z (.call0 hS Tryz.func95 (f07 hy10) z z ?_ z z z z) (by kernel_rfl)
  intro W hS
  have hT:=hS.to [0] z
  refine ⟨fun _=>hT,?_⟩
  have ⟨y11,hy11,h⟩:=bnd h
  refine .by1 12 z (.call0 hS Tryz.func101 (f0c hy11) z z ?_ z z z z) (by kernel_rfl)
  intro W hS
  have hT:=hS.to [0] z
  refine ⟨fun _=>hT,?_⟩
  cases h
  exact .tp 13 z z hT (by kernel_rfl) (.tp 14 z z hT (by kernel_rfl) (.done (.ret (fin_ret (vs:=[_]) () (rt z rn) z (hS.to [] z))) (by kernel_rfl)))
 have ⟨y12,hy12,h⟩:=bnd h
 refine .seq (CW.via (R':=fun x E' W'=>x = .normal ∧ SubL E' [(1,.pointer (some ⟨g1,0,none⟩)),(5,.int .i64 a0.Op),(38,.bool y12)] ∧ Sep No w W' [.box g1 87 [.int .i64 a0.Op,.int .i64 a0.Rd,.int .i64 a0.Rs,.int .i64 a0.Rt,.int .i64 a0.Imm]]) ?_ ?_)
 ·have h:=hy12
  refine .g (.q z (.q z (.nil ?_)))
  refine .cs z h ?_ ?_ <;> intro h
  ·refine .skip ?_
   cases h
   exact ⟨z,sb z,hS.to [0] z⟩
  refine .region (.q z (.q z (.nil ?_)))
  cases h
  exact ⟨z,sb z,hS.to [0] z⟩
 intro x E W hJ
 obtain ⟨rfl,hE,hS⟩:=hJ
 refine ⟨_,hE.sub,?_⟩
 refine .cs z h ?_ ?_ <;> intro h
 ·refine .g (.s (ld T.t87 hS z z z z z) z ?_)
  have ⟨y13,hy13,h⟩:=bnd h
  refine .c (.call0 hS Tryz.func103 (fct hy13) z z ?_ z z z z)
  intro W hS
  obtain rfl:=Option.some.inj h
  exact .qn z (.ret (fin_ret (vs:=[_]) () (rt z rn) z (hS.to [] z)))
 refine .g (.q z (.q z (.nil ?_)))
 refine .cs z h ?_ ?_ <;> intro h
 ·refine .seq (.rk 9 hS [0] T.mix ?_)
  intro W hS
  have hT:=hS.to [0] z
  refine .ts 0 z (fun W hT=>fa T.f87_4 z z z) hT z (by kernel_rfl) (.ts 1 z (fun W hT=>ld T.t3 hT z z z z z) hT z (by kernel_rfl) (.ts 3 z (fun W hT=>fa T.f87_1 z z z) hT z (by kernel_rfl) (.ts 4 z (fun W hT=>ld T.t3 hT z z z z z) hT z (by kernel_rfl) ?_)))
  have ⟨y14,hy14,h⟩:=bnd h
  refine .by1 2 z (.call0 hS Tryz.func101 (f0c hy14) z z ?_ z z z z) (by kernel_rfl)
  intro W hS
  have hT:=hS.to [0] z
  refine ⟨fun _=>hT,?_⟩
  have ⟨y15,hy15,h⟩:=bnd h
  refine .by1 5 z (.call0 hS Tryz.func101 (f0c hy15) z z ?_ z z z z) (by kernel_rfl)
  intro W hS
  have hT:=hS.to [0] z
  refine ⟨fun _=>hT,?_⟩
  cases h
  exact .tp 6 z z hT (by kernel_rfl) (.tp 7 z z hT (by kernel_rfl) (.tp 8 z z hT (by kernel_rfl) (.done (.ret (fin_ret (vs:=[_]) () (rt z rn) z (hS.to [] z))) (by kernel_rfl))))
 refine .g (.q z (.q z (.nil ?_)))
 refine .cs z h ?_ ?_ <;> intro h
 ·refine .g (.s (ld T.t87 hS z z z z z) z ?_)
  have ⟨y16,hy16,h⟩:=bnd h
  refine .c (.call0 hS Tryz.func104 (fea hy16) z z ?_ z z z z)
  intro W hS
  obtain rfl:=Option.some.inj h
  exact .qn z (.ret (fin_ret (vs:=[_]) () (rt z rn) z (hS.to [] z)))
 refine .g (.q z (.q z (.nil ?_)))
 refine .cs z h ?_ ?_ <;> intro h
 ·cases h
  exact .g (.qn z (.ret (fin_ret (vs:=[_]) () (rt z rn) z (hS.to [] z))))
 refine .skip (.seq (.rk 16 hS [0] T.mix ?_))
 intro W hS
 have hT:=hS.to [0] z
 refine .ts 0 z (fun W hT=>fa T.f87_0 z z z) hT z (by kernel_rfl) (.ts 1 z (fun W hT=>ld T.t3 hT z z z z z) hT z (by kernel_rfl) (.ts 4 z (fun W hT=>fa T.f87_3 z z z) hT z (by kernel_rfl) (.ts 5 z (fun W hT=>ld T.t3 hT z z z z z) hT z (by kernel_rfl) (.ts 8 z (fun W hT=>ld T.t87 hT z z z z z) hT z (by kernel_rfl) (.ts 11 z (fun W hT=>fa T.f87_1 z z z) hT z (by kernel_rfl) (.ts 12 z (fun W hT=>ld T.t3 hT z z z z z) hT z (by kernel_rfl) ?_))))))
 have ⟨y17,hy17,h⟩:=bnd h
 refine .by1 2 z (.call0 hS Tryz.func105 (fb1 hy17) z z ?_ z z z z) (by kernel_rfl)
 intro W hS
 have hT:=hS.to [0] z
 refine ⟨fun _=>hT,?_⟩
 have ⟨y18,hy18,h⟩:=bnd h
 refine .by1 3 z (.call0 hS Tryz.func101 (f0c hy18) z z ?_ z z z z) (by kernel_rfl)
 intro W hS
 have hT:=hS.to [0] z
 refine ⟨fun _=>hT,?_⟩
 have ⟨y19,hy19,h⟩:=bnd h
 refine .by1 6 z (.call0 hS Tryz.func101 (f0c hy19) z z ?_ z z z z) (by kernel_rfl)
 intro W hS
 have hT:=hS.to [0] z
 refine ⟨fun _=>hT,.tp 7 z z hT (by kernel_rfl) ?_⟩
 have ⟨y20,hy20,h⟩:=bnd h
 refine .by1 9 z (.call0 hS Tryz.func102 (f8h hy20) z z ?_ z z z z) (by kernel_rfl)
 intro W hS
 have hT:=hS.to [0] z
 refine ⟨fun _=>hT,.tp 10 z z hT (by kernel_rfl) ?_⟩
 have ⟨y21,hy21,h⟩:=bnd h
 refine .by1 13 z (.call0 hS Tryz.func101 (f0c hy21) z z ?_ z z z z) (by kernel_rfl)
 intro W hS
 have hT:=hS.to [0] z
 refine ⟨fun _=>hT,?_⟩
 cases h
 exact .tp 14 z z hT (by kernel_rfl) (.tp 15 z z hT (by kernel_rfl) (.done (.ret (fin_ret (vs:=[_]) () (rt z rn) z (hS.to [] z))) (by kernel_rfl)))
theorem fcf {a0 : Instr} {w : World} {r : Int × Bool} (h : f1t a0 = some r) : Calls Tryz.prog 44 #[.agg #[.int .i64 a0.Op,.int .i64 a0.Rd,.int .i64 a0.Rs,.int .i64 a0.Rt,.int .i64 a0.Imm]] w (Ret No w (fun s : Unit=>.tuple #[.int .i64 r.1,.bool r.2]) (fun s=>[])):=by
 unfold f1t at h
 refine enter Tryz.func44 z z ?_
 have hS:=Sep.start w
 refine .g (.c (.box hS z z ?_ z z))
 intro g1 W hS
 refine .q z (.qn z (.seq (.g (.s (ld T.t87 hS z z z z z) z ?_))))
 have ⟨y1,hy1,h⟩:=bnd h
 refine .c (.call0 hS Tryz.func71 (fci hy1) z z ?_ z z z z)
 intro W hS
 refine .q z (.nil ?_)
 refine .cs z h ?_ ?_ <;> intro h
 ·cases h
  exact .g (.q z (.qn z (.ret (fin_ret (vs:=[_,_]) () (rt z (rt z rn)) z (hS.to [] z)))))
 refine .skip (.g (.s (ld T.t87 hS z z z z z) z ?_))
 have ⟨y2,hy2,h⟩:=bnd h
 refine .c (.call0 hS Tryz.func72 (fap hy2) z z ?_ z z z z)
 intro W hS
 cases h
 exact .q z (.qn z (.ret (fin_ret (vs:=[_,_]) () (rt z (rt z rn)) z (hS.to [] z))))
def fff (w : World) (S : Nat → Prop) (v_0 : Hd) (v_1 : Hd) (a0 : List Int) (a1 : List Instr) (r : (List Int) × Bool) : Env → World → Prop:=Fin Tryz.prog Tryz.f34 S w (fun s : Hd=>.tuple #[(sv s),.bool r.2]) (fun s=>[rowV (sv s) 3 1 (D.int .i64) r.1]) .ret
theorem fbm {a0 : List Int} {a1 : List Instr} {v_0 : Hd} {v_1 : Hd} {S : Nat → Prop} {w : World} {r : (List Int) × Bool} (h : f5o a0 a1 = some r) (q_1 : RV w (Old S w) (sv v_1) 87 5 dInstr a1) (hO : Owns w [rowV (sv v_0) 3 1 (D.int .i64) a0] S) (hlt : ∀ b,S b → b < w.heap.size) : Calls Tryz.prog 34 #[(sv v_0),(sv v_1)] w (Ret S w (fun s : Hd=>.tuple #[(sv s),.bool r.2]) (fun s=>[rowV (sv s) 3 1 (D.int .i64) r.1])):=by
 unfold f5o at h
 refine enter Tryz.func34 z z ?_
 have hS:=Sep.startM hO hlt
 refine .g (.q z (.qn z (.seq (.g (.qn z (.block ?_))))))
 have ⟨y1,hy1,h⟩:=bnd h
 refine .via (.iter (fun s1 E' W'=>∃ (v3 : Hd),SubL E' [(0,(sv v3)),(1,(sv v_1)),(6,.int .i64 s1.2)] ∧ Sep S w W' [rowV (sv v3) 3 1 (D.int .i64) s1.1]) (fun y2 x E' W'=>(match y2 with | .inl o1=>x = .ret ∧ fff w S v_0 v_1 a0 a1 o1 E' W' | .inr o2=>x = .exit 0 ∧ ∃ (v4 : Hd),SubL E' [(0,(sv v4))] ∧ Sep S w W' [rowV (sv v4) 3 1 (D.int .i64) o2])) hy1 ⟨v_0,sb rfl,hS.to [0] rfl⟩ ?_) ?_
 ·intro s1 y3 E W h hI
  obtain ⟨v2,hE,hS⟩:=hI
  refine CW.sub hE ?_
  unfold f3m at h
  refine .seq (.g (.q z (.q z (.s (lenv (hS.keep q_1) T.u68 z z) z (.q z (.nil ?_))))))
  refine .cs z h ?_ ?_ <;> intro h
  ·refine .skip (.seq (.block (.g (.q z (.q z ?_)))))
   have ⟨x1,hx1,h⟩:=bnd h
   refine .s (ixv (hS.keep q_1) hx1 T.u68 T.t87 z z z) z (.s (lde (RV.flat (hS.keep q_1) hx1 z) T.t87 z z z z z) z ?_)
   have ⟨y4,hy4,h⟩:=bnd h
   refine .c (.call0 hS Tryz.func44 (fcf hy4) z z ?_ z z z z)
   intro W hS
   refine .q z (.q z (.q z (.q z (.qn z (.seq (.g (.q z (.q z (.nil ?_)))))))))
   refine .cs z h ?_ ?_ <;> intro h
   ·refine .g (.q z (.q z (.qn z (.ret ?_))))
    cases h
    exact ⟨by simp,z,fin_ret (vs:=[_,_]) v2 (rt z (rt z rn)) z (hS.to [0] z)⟩
   refine .skip (.region (.q z (.q z ?_)))
   have ⟨y5,hy5,h⟩:=bnd h
   refine .c (.call0 hS Tryz.func45 (f12 hy5) z z ?_ z z z z)
   intro W hS
   refine .c (.liv [y5] (D.int .i64) T.u23 T.t3 hS z z z z ?_ z (fun _=>z) z z z z)
   intro v5 W hS
   have ⟨r1,hr1,h⟩:=bnd h
   have hT0:=hS.p1
   refine .c (.apprv hr1 hT0 hT0.p1.lendv (fun _=>z) T.u23 T.t3 z z z ?_ z z z z z)
   intro v6 W hS
   refine .qn z (.region (.q z (.q z (.q z (.nil ?_)))))
   cases h
   exact ⟨z,v6,sb z,hS.to [0] z⟩
  refine .exit ?_
  cases h
  exact ⟨by simp,z,v2,sb z,hS.to [0] z⟩
 intro x E W hJ
 rcases y1 with o3 | o4
 ·obtain ⟨rfl,hF⟩:=hJ
  refine ⟨_,fun _ _ h=>h,?_⟩
  cases h
  exact hF
 obtain ⟨rfl,v7,hE,hS⟩:=hJ
 refine ⟨_,hE.sub,?_⟩
 cases h
 exact .g (.q z (.q z (.qn z (.ret (fin_ret (vs:=[_,_]) v7 (rt z (rt z rn)) z (hS.to [0] z))))))
theorem f0k {a0 : Int} {a1 : Int} {a2 : Int} {w : World} {r : Instr} (h : f0r a0 a1 a2 = some r) : Calls Tryz.prog 52 #[.int .i64 a0,.int .i64 a1,.int .i64 a2] w (Ret No w (fun s : Unit=>.agg #[.int .i64 r.Op,.int .i64 r.Rd,.int .i64 r.Rs,.int .i64 r.Rt,.int .i64 r.Imm]) (fun s=>[])):=by
 unfold f0r at h
 refine enter Tryz.func52 z z ?_
 have hS:=Sep.start w
 refine .g (.c (.alloc T.t87 hS ?_ z z z))
 intro g1 W hS
 refine .nil (.g (.q z (.q z (.q z (.s (bs T.s87 z z) z (.c (.st T.t87 hS z z z ?_ z z z z z)))))))
 intro W hS
 cases h
 exact .nil (.ret (fin_ret (vs:=[_]) () (rc hS T.t87 z rn z z) z (hS.to [] z)))
theorem f2w {a0 : Int} {a1 : Int} {a2 : Int} {a3 : Int} {a4 : Int} {w : World} {r : Instr} (h : f3c a0 a1 a2 a3 a4 = some r) : Calls Tryz.prog 73 #[.int .i64 a0,.int .i64 a1,.int .i64 a2,.int .i64 a3,.int .i64 a4] w (Ret No w (fun s : Unit=>.agg #[.int .i64 r.Op,.int .i64 r.Rd,.int .i64 r.Rs,.int .i64 r.Rt,.int .i64 r.Imm]) (fun s=>[])):=by
 unfold f3c at h
 refine enter Tryz.func73 z z ?_
 have hS:=Sep.start w
 refine .g (.c (.alloc T.t87 hS ?_ z z z))
 intro g1 W hS
 refine .nil (.g (.q z (.q z (.q z (.q z (.q z (.q z (.q z (.s (bs T.s87 z z) z (.c (.st T.t87 hS z z z ?_ z z z z z)))))))))))
 intro W hS
 cases h
 exact .nil (.ret (fin_ret (vs:=[_]) () (rc hS T.t87 z rn z z) z (hS.to [] z)))
theorem fc6 {a0 : Int} {a1 : Int} {w : World} {r : Instr} (h : fat a0 a1 = some r) : Calls Tryz.prog 74 #[.int .i64 a0,.int .i64 a1] w (Ret No w (fun s : Unit=>.agg #[.int .i64 r.Op,.int .i64 r.Rd,.int .i64 r.Rs,.int .i64 r.Rt,.int .i64 r.Imm]) (fun s=>[])):=by
 unfold fat at h
 refine enter Tryz.func74 z z ?_
 have hS:=Sep.start w
 refine .g (.c (.alloc T.t87 hS ?_ z z z))
 intro g1 W hS
 refine .nil (.g (.q z (.q z (.q z (.q z (.s (bs T.s87 z z) z (.c (.st T.t87 hS z z z ?_ z z z z z))))))))
 intro W hS
 cases h
 exact .nil (.ret (fin_ret (vs:=[_]) () (rc hS T.t87 z rn z z) z (hS.to [] z)))
theorem fdj {w : World} {r : (List Instr)} (h : fan = some r) : Calls Tryz.prog 46 #[] w (Ret No w (fun s : Hd=>(sv s)) (fun s=>[rowV (sv s) 87 5 dInstr r])):=by
 unfold fan at h
 refine enter Tryz.func46 z z ?_
 have hS:=Sep.start w
 refine .g (.qn z (.seq (.region ?_)))
 have ⟨y1,hy1,h⟩:=bnd h
 refine .c (.call0 hS Tryz.func52 (f0k hy1) z z ?_ z z z z)
 intro W hS
 have ⟨y2,hy2,h⟩:=bnd h
 refine .c (.call0 hS Tryz.func73 (f2w hy2) z z ?_ z z z z)
 intro W hS
 have ⟨y3,hy3,h⟩:=bnd h
 refine .c (.call0 hS Tryz.func52 (f0k hy3) z z ?_ z z z z)
 intro W hS
 have ⟨y4,hy4,h⟩:=bnd h
 refine .c (.call0 hS Tryz.func73 (f2w hy4) z z ?_ z z z z)
 intro W hS
 have ⟨y5,hy5,h⟩:=bnd h
 refine .c (.call0 hS Tryz.func52 (f0k hy5) z z ?_ z z z z)
 intro W hS
 have ⟨y6,hy6,h⟩:=bnd h
 refine .c (.call0 hS Tryz.func73 (f2w hy6) z z ?_ z z z z)
 intro W hS
 have ⟨y7,hy7,h⟩:=bnd h
 refine .c (.call0 hS Tryz.func52 (f0k hy7) z z ?_ z z z z)
 intro W hS
 have ⟨y8,hy8,h⟩:=bnd h
 refine .c (.call0 hS Tryz.func73 (f2w hy8) z z ?_ z z z z)
 intro W hS
 have ⟨y9,hy9,h⟩:=bnd h
 refine .c (.call0 hS Tryz.func74 (fc6 hy9) z z ?_ z z z z)
 intro W hS
 refine .c (.liv [y1,y2,y3,y4,y5,y6,y7,y8,y9] dInstr T.u68 T.t87 hS z z z z ?_ z (fun _=>z) z z z z)
 intro v1 W hS
 cases h
 exact .qn z (.ret (fin_ret (vs:=[_]) v1 (rt z rn) z (hS.to [0] z)))
theorem f1r {a0 : Int} {a1 : Int} {a2 : Int} {a3 : Int} {w : World} {r : Instr} (h : f2h a0 a1 a2 a3 = some r) : Calls Tryz.prog 75 #[.int .i64 a0,.int .i64 a1,.int .i64 a2,.int .i64 a3] w (Ret No w (fun s : Unit=>.agg #[.int .i64 r.Op,.int .i64 r.Rd,.int .i64 r.Rs,.int .i64 r.Rt,.int .i64 r.Imm]) (fun s=>[])):=by
 unfold f2h at h
 refine enter Tryz.func75 z z ?_
 have hS:=Sep.start w
 refine .g (.c (.alloc T.t87 hS ?_ z z z))
 intro g1 W hS
 refine .nil (.g (.q z (.q z (.q z (.q z (.s (bs T.s87 z z) z (.c (.st T.t87 hS z z z ?_ z z z z z))))))))
 intro W hS
 cases h
 exact .nil (.ret (fin_ret (vs:=[_]) () (rc hS T.t87 z rn z z) z (hS.to [] z)))
theorem f11 {a0 : Int} {a1 : Int} {a2 : Int} {w : World} {r : Instr} (h : f1d a0 a1 a2 = some r) : Calls Tryz.prog 76 #[.int .i64 a0,.int .i64 a1,.int .i64 a2] w (Ret No w (fun s : Unit=>.agg #[.int .i64 r.Op,.int .i64 r.Rd,.int .i64 r.Rs,.int .i64 r.Rt,.int .i64 r.Imm]) (fun s=>[])):=by
 unfold f1d at h
 refine enter Tryz.func76 z z ?_
 have hS:=Sep.start w
 refine .g (.c (.alloc T.t87 hS ?_ z z z))
 intro g1 W hS
 refine .nil (.g (.q z (.q z (.q z (.s (bs T.s87 z z) z (.c (.st T.t87 hS z z z ?_ z z z z z)))))))
 intro W hS
 cases h
 exact .nil (.ret (fin_ret (vs:=[_]) () (rc hS T.t87 z rn z z) z (hS.to [] z)))
theorem f1l {a0 : Int} {a1 : Int} {a2 : Int} {w : World} {r : Instr} (h : f1w a0 a1 a2 = some r) : Calls Tryz.prog 77 #[.int .i64 a0,.int .i64 a1,.int .i64 a2] w (Ret No w (fun s : Unit=>.agg #[.int .i64 r.Op,.int .i64 r.Rd,.int .i64 r.Rs,.int .i64 r.Rt,.int .i64 r.Imm]) (fun s=>[])):=by
 unfold f1w at h
 refine enter Tryz.func77 z z ?_
 have hS:=Sep.start w
 refine .g (.c (.alloc T.t87 hS ?_ z z z))
 intro g1 W hS
 refine .nil (.g (.q z (.q z (.q z (.s (bs T.s87 z z) z (.c (.st T.t87 hS z z z ?_ z z z z z)))))))
 intro W hS
 cases h
 exact .nil (.ret (fin_ret (vs:=[_]) () (rc hS T.t87 z rn z z) z (hS.to [] z)))
theorem f7e {a0 : Int} {w : World} {r : Instr} (h : f5y a0 = some r) : Calls Tryz.prog 78 #[.int .i64 a0] w (Ret No w (fun s : Unit=>.agg #[.int .i64 r.Op,.int .i64 r.Rd,.int .i64 r.Rs,.int .i64 r.Rt,.int .i64 r.Imm]) (fun s=>[])):=by
 unfold f5y at h
 refine enter Tryz.func78 z z ?_
 have hS:=Sep.start w
 refine .g (.c (.alloc T.t87 hS ?_ z z z))
 intro g1 W hS
 refine .nil (.g (.q z (.s (bs T.s87 z z) z (.c (.st T.t87 hS z z z ?_ z z z z z)))))
 intro W hS
 cases h
 exact .nil (.ret (fin_ret (vs:=[_]) () (rc hS T.t87 z rn z z) z (hS.to [] z)))
theorem fev {w : World} {r : (List Instr)} (h : fb2 = some r) : Calls Tryz.prog 47 #[] w (Ret No w (fun s : Hd=>(sv s)) (fun s=>[rowV (sv s) 87 5 dInstr r])):=by
 unfold fb2 at h
 refine enter Tryz.func47 z z ?_
 have hS:=Sep.start w
 refine .g (.qn z (.seq (.region ?_)))
 have ⟨y1,hy1,h⟩:=bnd h
 refine .c (.call0 hS Tryz.func52 (f0k hy1) z z ?_ z z z z)
 intro W hS
 have ⟨y2,hy2,h⟩:=bnd h
 refine .c (.call0 hS Tryz.func75 (f1r hy2) z z ?_ z z z z)
 intro W hS
 have ⟨y3,hy3,h⟩:=bnd h
 refine .c (.call0 hS Tryz.func75 (f1r hy3) z z ?_ z z z z)
 intro W hS
 have ⟨y4,hy4,h⟩:=bnd h
 refine .c (.call0 hS Tryz.func76 (f11 hy4) z z ?_ z z z z)
 intro W hS
 have ⟨y5,hy5,h⟩:=bnd h
 refine .c (.call0 hS Tryz.func76 (f11 hy5) z z ?_ z z z z)
 intro W hS
 have ⟨y6,hy6,h⟩:=bnd h
 refine .c (.call0 hS Tryz.func73 (f2w hy6) z z ?_ z z z z)
 intro W hS
 have ⟨y7,hy7,h⟩:=bnd h
 refine .c (.call0 hS Tryz.func76 (f11 hy7) z z ?_ z z z z)
 intro W hS
 have ⟨y8,hy8,h⟩:=bnd h
 refine .c (.call0 hS Tryz.func75 (f1r hy8) z z ?_ z z z z)
 intro W hS
 have ⟨y9,hy9,h⟩:=bnd h
 refine .c (.call0 hS Tryz.func75 (f1r hy9) z z ?_ z z z z)
 intro W hS
 have ⟨y10,hy10,h⟩:=bnd h
 refine .c (.call0 hS Tryz.func52 (f0k hy10) z z ?_ z z z z)
 intro W hS
 have ⟨y11,hy11,h⟩:=bnd h
 refine .c (.call0 hS Tryz.func75 (f1r hy11) z z ?_ z z z z)
 intro W hS
 have ⟨y12,hy12,h⟩:=bnd h
 refine .c (.call0 hS Tryz.func75 (f1r hy12) z z ?_ z z z z)
 intro W hS
 have ⟨y13,hy13,h⟩:=bnd h
 refine .c (.call0 hS Tryz.func77 (f1l hy13) z z ?_ z z z z)
 intro W hS
 have ⟨y14,hy14,h⟩:=bnd h
 refine .c (.call0 hS Tryz.func52 (f0k hy14) z z ?_ z z z z)
 intro W hS
 have ⟨y15,hy15,h⟩:=bnd h
 refine .c (.call0 hS Tryz.func77 (f1l hy15) z z ?_ z z z z)
 intro W hS
 have ⟨y16,hy16,h⟩:=bnd h
 refine .c (.call0 hS Tryz.func77 (f1l hy16) z z ?_ z z z z)
 intro W hS
 have ⟨y17,hy17,h⟩:=bnd h
 refine .c (.call0 hS Tryz.func78 (f7e hy17) z z ?_ z z z z)
 intro W hS
 refine .c (.liv [y1,y2,y3,y4,y5,y6,y7,y8,y9,y10,y11,y12,y13,y14,y15,y16,y17] dInstr T.u68 T.t87 hS z z z z ?_ z (fun _=>z) z z z z)
 intro v1 W hS
 cases h
 exact .qn z (.ret (fin_ret (vs:=[_]) v1 (rt z rn) z (hS.to [0] z)))
theorem fe3 {w : World} {r : (List Instr)} (h : fb3 = some r) : Calls Tryz.prog 48 #[] w (Ret No w (fun s : Hd=>(sv s)) (fun s=>[rowV (sv s) 87 5 dInstr r])):=by
 unfold fb3 at h
 refine enter Tryz.func48 z z ?_
 have hS:=Sep.start w
 refine .g (.qn z (.seq (.region ?_)))
 have ⟨y1,hy1,h⟩:=bnd h
 refine .c (.call0 hS Tryz.func52 (f0k hy1) z z ?_ z z z z)
 intro W hS
 have ⟨y2,hy2,h⟩:=bnd h
 refine .c (.call0 hS Tryz.func75 (f1r hy2) z z ?_ z z z z)
 intro W hS
 have ⟨y3,hy3,h⟩:=bnd h
 refine .c (.call0 hS Tryz.func75 (f1r hy3) z z ?_ z z z z)
 intro W hS
 have ⟨y4,hy4,h⟩:=bnd h
 refine .c (.call0 hS Tryz.func76 (f11 hy4) z z ?_ z z z z)
 intro W hS
 have ⟨y5,hy5,h⟩:=bnd h
 refine .c (.call0 hS Tryz.func73 (f2w hy5) z z ?_ z z z z)
 intro W hS
 have ⟨y6,hy6,h⟩:=bnd h
 refine .c (.call0 hS Tryz.func76 (f11 hy6) z z ?_ z z z z)
 intro W hS
 have ⟨y7,hy7,h⟩:=bnd h
 refine .c (.call0 hS Tryz.func76 (f11 hy7) z z ?_ z z z z)
 intro W hS
 have ⟨y8,hy8,h⟩:=bnd h
 refine .c (.call0 hS Tryz.func52 (f0k hy8) z z ?_ z z z z)
 intro W hS
 have ⟨y9,hy9,h⟩:=bnd h
 refine .c (.call0 hS Tryz.func75 (f1r hy9) z z ?_ z z z z)
 intro W hS
 have ⟨y10,hy10,h⟩:=bnd h
 refine .c (.call0 hS Tryz.func75 (f1r hy10) z z ?_ z z z z)
 intro W hS
 have ⟨y11,hy11,h⟩:=bnd h
 refine .c (.call0 hS Tryz.func76 (f11 hy11) z z ?_ z z z z)
 intro W hS
 have ⟨y12,hy12,h⟩:=bnd h
 refine .c (.call0 hS Tryz.func52 (f0k hy12) z z ?_ z z z z)
 intro W hS
 have ⟨y13,hy13,h⟩:=bnd h
 refine .c (.call0 hS Tryz.func75 (f1r hy13) z z ?_ z z z z)
 intro W hS
 have ⟨y14,hy14,h⟩:=bnd h
 refine .c (.call0 hS Tryz.func77 (f1l hy14) z z ?_ z z z z)
 intro W hS
 have ⟨y15,hy15,h⟩:=bnd h
 refine .c (.call0 hS Tryz.func52 (f0k hy15) z z ?_ z z z z)
 intro W hS
 have ⟨y16,hy16,h⟩:=bnd h
 refine .c (.call0 hS Tryz.func77 (f1l hy16) z z ?_ z z z z)
 intro W hS
 have ⟨y17,hy17,h⟩:=bnd h
 refine .c (.call0 hS Tryz.func77 (f1l hy17) z z ?_ z z z z)
 intro W hS
 have ⟨y18,hy18,h⟩:=bnd h
 refine .c (.call0 hS Tryz.func78 (f7e hy18) z z ?_ z z z z)
 intro W hS
 refine .c (.liv [y1,y2,y3,y4,y5,y6,y7,y8,y9,y10,y11,y12,y13,y14,y15,y16,y17,y18] dInstr T.u68 T.t87 hS z z z z ?_ z (fun _=>z) z z z z)
 intro v1 W hS
 cases h
 exact .qn z (.ret (fin_ret (vs:=[_]) v1 (rt z rn) z (hS.to [0] z)))
theorem fdt {w : World} {r : (List Instr)} (h : fam = some r) : Calls Tryz.prog 49 #[] w (Ret No w (fun s : Hd=>(sv s)) (fun s=>[rowV (sv s) 87 5 dInstr r])):=by
 unfold fam at h
 refine enter Tryz.func49 z z ?_
 have hS:=Sep.start w
 refine .g (.qn z (.g (.s (bs T.s87 z z) z ?_)))
 have ⟨y1,hy1,h⟩:=bnd h
 refine .c (.call0 hS Tryz.func77 (f1l hy1) z z ?_ z z z z)
 intro W hS
 have ⟨y2,hy2,h⟩:=bnd h
 refine .c (.call0 hS Tryz.func78 (f7e hy2) z z ?_ z z z z)
 intro W hS
 have ⟨y3,hy3,h⟩:=bnd h
 refine .c (.call0 hS Tryz.func52 (f0k hy3) z z ?_ z z z z)
 intro W hS
 have ⟨y4,hy4,h⟩:=bnd h
 refine .c (.call0 hS Tryz.func77 (f1l hy4) z z ?_ z z z z)
 intro W hS
 have ⟨y5,hy5,h⟩:=bnd h
 refine .c (.call0 hS Tryz.func74 (fc6 hy5) z z ?_ z z z z)
 intro W hS
 have ⟨y6,hy6,h⟩:=bnd h
 refine .c (.call0 hS Tryz.func52 (f0k hy6) z z ?_ z z z z)
 intro W hS
 have ⟨y7,hy7,h⟩:=bnd h
 refine .c (.call0 hS Tryz.func76 (f11 hy7) z z ?_ z z z z)
 intro W hS
 have ⟨y8,hy8,h⟩:=bnd h
 refine .c (.call0 hS Tryz.func52 (f0k hy8) z z ?_ z z z z)
 intro W hS
 have ⟨y9,hy9,h⟩:=bnd h
 refine .c (.call0 hS Tryz.func77 (f1l hy9) z z ?_ z z z z)
 intro W hS
 refine .c (.liv [(Instr.mk 21 0 0 0 0),y1,y2,y3,y4,y5,y6,y7,y8,y9] dInstr T.u68 T.t87 hS z z z z ?_ z (fun _=>z) z z z z)
 intro v1 W hS
 cases h
 exact .qn z (.ret (fin_ret (vs:=[_]) v1 (rt z rn) z (hS.to [0] z)))
theorem fb4 {w : World} {r : (List Int)} (h : f91 = some r) : Calls Tryz.prog 79 #[] w (Ret No w (fun s : Hd=>(sv s)) (fun s=>[rowV (sv s) 3 1 (D.int .i64) r])):=by
 unfold f91 at h
 refine enter Tryz.func79 z z ?_
 have hS:=Sep.start w
 refine .g (.qn z (.g (.c (.liv [1,2,8,9,18,19,20,21,22,23,10,11,17] (D.int .i64) T.u23 T.t3 hS z z z z ?_ z (fun _=>z) z z z z))))
 intro v1 W hS
 cases h
 exact .qn z (.ret (fin_ret (vs:=[_]) v1 (rt z rn) z (hS.to [0] z)))
theorem fdy {w : World} {r : (List Instr)} (h : f7l = some r) : Calls Tryz.prog 50 #[] w (Ret No w (fun s : Hd=>(sv s)) (fun s=>[rowV (sv s) 87 5 dInstr r])):=by
 unfold f7l at h
 refine enter Tryz.func50 z z ?_
 have hS:=Sep.start w
 refine .g (.qn z (.seq (.region ?_)))
 have ⟨y1,hy1,h⟩:=bnd h
 refine .c (.call0 hS Tryz.func77 (f1l hy1) z z ?_ z z z z)
 intro W hS
 refine .c (.liv [y1] dInstr T.u68 T.t87 hS z z z z ?_ z (fun _=>z) z z z z)
 intro v1 W hS
 refine .qn z (.seq (.region ?_))
 have ⟨y2,hy2,h⟩:=bnd h
 refine .c (.call1v hS Tryz.func79 (fb4 hy2) z z ?_ z z z z)
 intro v2 W hS
 refine .qn z (.seq (.g (.qn z (.block ?_))))
 have ⟨y3,hy3,h⟩:=bnd h
 refine .via (.iter (fun s1 E' W'=>∃ (v5 : Hd),SubL E' [(1,(sv v5)),(2,(sv v2)),(3,.int .i64 s1.2)] ∧ Sep No w W' [rowV (sv v2) 3 1 (D.int .i64) y2,rowV (sv v5) 87 5 dInstr s1.1]) (fun y4 x E' W'=>x = .exit 0 ∧ ∃ (v6 : Hd),SubL E' [(1,(sv v6))] ∧ Sep No w W' [rowV (sv v2) 3 1 (D.int .i64) y2,rowV (sv v6) 87 5 dInstr y4]) hy3 ⟨v1,sb z,hS.to [0,0] z⟩ ?_) ?_
 ·intro s1 y5 E W h hI
  obtain ⟨v4,hE,hS⟩:=hI
  refine CW.sub hE ?_
  unfold fbf at h
  refine .seq (.g (.q z (.q z (.s (lenv hS.lendv T.u23 z z) z (.q z (.nil ?_))))))
  refine .cs z h ?_ ?_ <;> intro h
  ·refine .skip (.seq (.block (.region (.q z (.q z (.q z ?_))))))
   have ⟨x1,hx1,h⟩:=bnd h
   refine .s (ixv hS.lendv hx1 T.u23 T.t3 z z z) z (.s (lde (RV.flat hS.lendv hx1 z) T.t3 z z z z z) z (.q z (.q z (.q z ?_))))
   have ⟨y6,hy6,h⟩:=bnd h
   refine .c (.call0 hS Tryz.func77 (f1l hy6) z z ?_ z z z z)
   intro W hS
   refine .c (.liv [y6] dInstr T.u68 T.t87 hS z z z z ?_ z (fun _=>z) z z z z)
   intro v7 W hS
   have ⟨r1,hr1,h⟩:=bnd h
   have hT0:=hS.p2
   refine .c (.apprv hr1 hT0 hT0.p1.lendv (fun _=>z) T.u68 T.t87 z z z ?_ z z z z z)
   intro v8 W hS
   refine .qn z (.region (.q z (.q z (.q z (.nil ?_)))))
   cases h
   exact ⟨z,v8,sb z,hS.to [2,0] z⟩
  refine .exit ?_
  cases h
  exact ⟨by simp,z,v4,sb z,hS.to [0,0] z⟩
 intro x E W hJ
 obtain ⟨rfl,v9,hE,hS⟩:=hJ
 refine ⟨_,hE.sub,?_⟩
 obtain rfl:=Option.some.inj h
 exact .g (.q z (.qn z (.ret (fin_ret (vs:=[_]) v9 (rt z rn) z (hS.to [1] z)))))
theorem fez {w : World} {r : (List Instr)} (h : f7s = some r) : Calls Tryz.prog 51 #[] w (Ret No w (fun s : Hd=>(sv s)) (fun s=>[rowV (sv s) 87 5 dInstr r])):=by
 unfold f7s at h
 refine enter Tryz.func51 z z ?_
 have hS:=Sep.start w
 refine .g (.qn z (.seq (.region ?_)))
 have ⟨y1,hy1,h⟩:=bnd h
 refine .c (.call0 hS Tryz.func76 (f11 hy1) z z ?_ z z z z)
 intro W hS
 have ⟨y2,hy2,h⟩:=bnd h
 refine .c (.call0 hS Tryz.func76 (f11 hy2) z z ?_ z z z z)
 intro W hS
 have ⟨y3,hy3,h⟩:=bnd h
 refine .c (.call0 hS Tryz.func73 (f2w hy3) z z ?_ z z z z)
 intro W hS
 have ⟨y4,hy4,h⟩:=bnd h
 refine .c (.call0 hS Tryz.func52 (f0k hy4) z z ?_ z z z z)
 intro W hS
 have ⟨y5,hy5,h⟩:=bnd h
 refine .c (.call0 hS Tryz.func76 (f11 hy5) z z ?_ z z z z)
 intro W hS
 have ⟨y6,hy6,h⟩:=bnd h
 refine .c (.call0 hS Tryz.func73 (f2w hy6) z z ?_ z z z z)
 intro W hS
 have ⟨y7,hy7,h⟩:=bnd h
 refine .c (.call0 hS Tryz.func76 (f11 hy7) z z ?_ z z z z)
 intro W hS
 refine .c (.liv [y1,y2,y3,y4,y5,y6,y7] dInstr T.u68 T.t87 hS z z z z ?_ z (fun _=>z) z z z z)
 intro v1 W hS
 refine .qn z (.seq (.region ?_))
 have ⟨y8,hy8,h⟩:=bnd h
 refine .c (.call1v hS Tryz.func79 (fb4 hy8) z z ?_ z z z z)
 intro v2 W hS
 refine .qn z (.seq (.g (.qn z (.block ?_))))
 have ⟨y9,hy9,h⟩:=bnd h
 refine .via (.iter (fun s1 E' W'=>∃ (v5 : Hd),SubL E' [(1,(sv v5)),(2,(sv v2)),(3,.int .i64 s1.2)] ∧ Sep No w W' [rowV (sv v2) 3 1 (D.int .i64) y8,rowV (sv v5) 87 5 dInstr s1.1]) (fun y10 x E' W'=>x = .exit 0 ∧ ∃ (v6 : Hd),SubL E' [(1,(sv v6))] ∧ Sep No w W' [rowV (sv v2) 3 1 (D.int .i64) y8,rowV (sv v6) 87 5 dInstr y10]) hy9 ⟨v1,sb z,hS.to [0,0] z⟩ ?_) ?_
 ·intro s1 y11 E W h hI
  obtain ⟨v4,hE,hS⟩:=hI
  refine CW.sub hE ?_
  unfold fbi at h
  refine .seq (.g (.q z (.q z (.s (lenv hS.lendv T.u23 z z) z (.q z (.nil ?_))))))
  refine .cs z h ?_ ?_ <;> intro h
  ·refine .skip (.seq (.block (.region (.q z (.q z (.q z ?_))))))
   have ⟨x1,hx1,h⟩:=bnd h
   refine .s (ixv hS.lendv hx1 T.u23 T.t3 z z z) z (.s (lde (RV.flat hS.lendv hx1 z) T.t3 z z z z z) z (.q z (.q z (.q z ?_))))
   have ⟨y12,hy12,h⟩:=bnd h
   refine .c (.call0 hS Tryz.func76 (f11 hy12) z z ?_ z z z z)
   intro W hS
   refine .c (.liv [y12] dInstr T.u68 T.t87 hS z z z z ?_ z (fun _=>z) z z z z)
   intro v7 W hS
   have ⟨r1,hr1,h⟩:=bnd h
   have hT0:=hS.p2
   refine .c (.apprv hr1 hT0 hT0.p1.lendv (fun _=>z) T.u68 T.t87 z z z ?_ z z z z z)
   intro v8 W hS
   refine .qn z (.region (.q z (.q z (.q z (.nil ?_)))))
   cases h
   exact ⟨z,v8,sb z,hS.to [2,0] z⟩
  refine .exit ?_
  cases h
  exact ⟨by simp,z,v4,sb z,hS.to [0,0] z⟩
 intro x E W hJ
 obtain ⟨rfl,v9,hE,hS⟩:=hJ
 refine ⟨_,hE.sub,?_⟩
 refine .g (.q z ?_)
 have ⟨y13,hy13,h⟩:=bnd h
 refine .c (.call0 hS Tryz.func76 (f11 hy13) z z ?_ z z z z)
 intro W hS
 have ⟨y14,hy14,h⟩:=bnd h
 refine .c (.call0 hS Tryz.func78 (f7e hy14) z z ?_ z z z z)
 intro W hS
 refine .c (.liv [y13,y14] dInstr T.u68 T.t87 hS z z z z ?_ z (fun _=>z) z z z z)
 intro v10 W hS
 have ⟨r2,hr2,h⟩:=bnd h
 have hT0:=hS.p2
 refine .c (.apprv hr2 hT0 hT0.p1.lendv (fun _=>z) T.u68 T.t87 z z z ?_ z z z z z)
 intro v11 W hS
 obtain rfl:=Option.some.inj h
 exact .qn z (.ret (fin_ret (vs:=[_]) v11 (rt z rn) z (hS.to [0] z)))
theorem fe8 {w : World} {r : (List Instr)} (h : f7i = some r) : Calls Tryz.prog 35 #[] w (Ret No w (fun s : Hd=>(sv s)) (fun s=>[rowV (sv s) 87 5 dInstr r])):=by
 unfold f7i at h
 refine enter Tryz.func35 z z ?_
 have hS:=Sep.start w
 refine .g (.qn z (.seq (.region ?_)))
 have ⟨y1,hy1,h⟩:=bnd h
 refine .c (.call1v hS Tryz.func46 (fdj hy1) z z ?_ z z z z)
 intro v1 W hS
 have ⟨y2,hy2,h⟩:=bnd h
 refine .c (.call1v hS Tryz.func47 (fev hy2) z z ?_ z z z z)
 intro v2 W hS
 have ⟨r1,hr1,h⟩:=bnd h
 have hT0:=hS.p1
 refine .c (.apprv hr1 hT0 hT0.p1.lendv (fun _=>z) T.u68 T.t87 z z z ?_ z z z z z)
 intro v3 W hS
 refine .qn z (.g (.q z ?_))
 have ⟨y3,hy3,h⟩:=bnd h
 refine .c (.call1v hS Tryz.func48 (fe3 hy3) z z ?_ z z z z)
 intro v4 W hS
 have ⟨r2,hr2,h⟩:=bnd h
 have hT0:=hS.p1
 refine .c (.apprv hr2 hT0 hT0.p1.lendv (fun _=>z) T.u68 T.t87 z z z ?_ z z z z z)
 intro v5 W hS
 refine .qn z (.g (.q z ?_))
 have ⟨y4,hy4,h⟩:=bnd h
 refine .c (.call1v hS Tryz.func49 (fdt hy4) z z ?_ z z z z)
 intro v6 W hS
 have ⟨r3,hr3,h⟩:=bnd h
 have hT0:=hS.p1
 refine .c (.apprv hr3 hT0 hT0.p1.lendv (fun _=>z) T.u68 T.t87 z z z ?_ z z z z z)
 intro v7 W hS
 refine .qn z (.g (.q z ?_))
 have ⟨y5,hy5,h⟩:=bnd h
 refine .c (.call1v hS Tryz.func50 (fdy hy5) z z ?_ z z z z)
 intro v8 W hS
 have ⟨r4,hr4,h⟩:=bnd h
 have hT0:=hS.p1
 refine .c (.apprv hr4 hT0 hT0.p1.lendv (fun _=>z) T.u68 T.t87 z z z ?_ z z z z z)
 intro v9 W hS
 refine .qn z (.g (.q z ?_))
 have ⟨y6,hy6,h⟩:=bnd h
 refine .c (.call1v hS Tryz.func51 (fez hy6) z z ?_ z z z z)
 intro v10 W hS
 have ⟨r5,hr5,h⟩:=bnd h
 have hT0:=hS.p1
 refine .c (.apprv hr5 hT0 hT0.p1.lendv (fun _=>z) T.u68 T.t87 z z z ?_ z z z z z)
 intro v11 W hS
 refine .qn z (.g (.q z ?_))
 have ⟨y7,hy7,h⟩:=bnd h
 refine .c (.call0 hS Tryz.func52 (f0k hy7) z z ?_ z z z z)
 intro W hS
 refine .s (bs T.s87 z z) z (.c (.liv [y7,(Instr.mk 21 0 0 0 0)] dInstr T.u68 T.t87 hS z z z z ?_ z (fun _=>z) z z z z))
 intro v12 W hS
 have ⟨r6,hr6,h⟩:=bnd h
 have hT0:=hS.p1
 refine .c (.apprv hr6 hT0 hT0.p1.lendv (fun _=>z) T.u68 T.t87 z z z ?_ z z z z z)
 intro v13 W hS
 obtain rfl:=Option.some.inj h
 exact .qn z (.ret (fin_ret (vs:=[_]) v13 (rt z rn) z (hS.to [0] z)))
end Go.Proofs.YtmpplggjpmmhlaaGreat.N
namespace Go.Proofs.YtmpplggjpmmhlaaGreat.N
open Go.Proofs.YtmpplggjpmmhlaaGreat.X
theorem feu {a0 : Int} {a1 : List Int} {a2 : List Int} {v_1 : Hd} {v_2 : Hd} {w : World} {r : (List Int)} (h : f7x a0 a1 a2 = some r) (q_1 : RV w (Old No w) (sv v_1) 3 1 (D.int .i64) a1) (q_2 : RV w (Old No w) (sv v_2) 3 1 (D.int .i64) a2) : Calls Tryz.prog 36 #[.int .i64 a0,(sv v_1),(sv v_2)] w (Ret No w (fun s : Hd=>(sv s)) (fun s=>[rowV (sv s) 3 1 (D.int .i64) r])):=by
 unfold f7x at h
 refine enter Tryz.func36 z z ?_
 have hS:=Sep.start w
 refine .g (.qn z (.g (.q z (.s (lenv (hS.keep q_2) T.u23 z z) z (.qn z (.g (.q z (.q z (.q z (.qn z (.g (.q z (.q z (.q z (.q z (.q z (.q z (.q z (.q z (.c (.liv [0,(a2.length : Int),w64 (4 * (w64 ((w64 (a0 + 4)) + 24))),w64 (4 * (w64 ((w64 ((w64 (a0 + 4)) + 24)) + (w64 (16 * (a2.length : Int))))))] (D.int .i64) T.u23 T.t3 hS z z z z ?_ z (fun _=>z) z z z z)))))))))))))))))))))
 intro v1 W hS
 refine .qn z (.seq (.g (.qn z (.block ?_))))
 have ⟨y1,hy1,h⟩:=bnd h
 refine .via (.iter (fun s1 E' W'=>∃ (v4 : Hd),SubL E' [(1,(sv v_1)),(2,(sv v_2)),(7,.int .i64 (a2.length : Int)),(8,.int .i64 (w64 ((w64 (a0 + 4)) + 24))),(9,(sv v4)),(10,.int .i64 s1.2)] ∧ Sep No w W' [rowV (sv v4) 3 1 (D.int .i64) s1.1]) (fun y2 x E' W'=>x = .exit 0 ∧ ∃ (v5 : Hd),SubL E' [(2,(sv v_2)),(7,.int .i64 (a2.length : Int)),(8,.int .i64 (w64 ((w64 (a0 + 4)) + 24))),(9,(sv v5))] ∧ Sep No w W' [rowV (sv v5) 3 1 (D.int .i64) y2]) hy1 ⟨v1,sb z,hS.to [0] z⟩ ?_) ?_
 ·intro s1 y3 E W h hI
  obtain ⟨v3,hE,hS⟩:=hI
  refine CW.sub hE ?_
  unfold f55 at h
  refine .seq (.g (.q z (.q z (.nil ?_))))
  refine .cs z h ?_ ?_ <;> intro h
  ·refine .skip (.seq (.block (.g (.q z (.nil ?_)))))
   have ⟨y4,hy4,h⟩:=bnd h
   refine .seq (CW.via (R':=fun x E' W'=>x = .normal ∧ SubL E' [(1,(sv v_1)),(2,(sv v_2)),(7,.int .i64 (a2.length : Int)),(8,.int .i64 (w64 ((w64 (a0 + 4)) + 24))),(9,(sv v3)),(10,.int .i64 s1.2),(11,.int .i64 y4)] ∧ Sep No w W' [rowV (sv v3) 3 1 (D.int .i64) s1.1]) ?_ ?_)
   ·have h:=hy4
    refine .g (.q z (.q z (.s (lenv (hS.keep q_1) T.u23 z z) z (.q z (.nil ?_)))))
    refine .cs z h ?_ ?_ <;> intro h
    ·refine .region (.q z (.q z ?_))
     have ⟨x1,hx1,h⟩:=bnd h
     refine .s (ixv (hS.keep q_1) hx1 T.u23 T.t3 z z z) z (.s (lde (RV.flat (hS.keep q_1) hx1 z) T.t3 z z z z z) z (.q z (.nil ?_)))
     obtain rfl:=Option.some.inj h
     exact ⟨z,sb z,hS.to [0] z⟩
    refine .skip ?_
    cases h
    exact ⟨z,sb z,hS.to [0] z⟩
   intro x E W hJ
   obtain ⟨rfl,hE,hS⟩:=hJ
   refine ⟨_,hE.sub,?_⟩
   refine .region (.q z (.q z (.c (.liv [y4,0,0,0,0,0,0,0] (D.int .i64) T.u23 T.t3 hS z z z z ?_ z (fun _=>z) z z z z))))
   intro v6 W hS
   have ⟨r1,hr1,h⟩:=bnd h
   have hT0:=hS.p1
   refine .c (.apprv hr1 hT0 hT0.p1.lendv (fun _=>z) T.u23 T.t3 z z z ?_ z z z z z)
   intro v7 W hS
   refine .qn z (.region (.q z (.q z (.q z (.nil ?_)))))
   cases h
   exact ⟨z,v7,sb z,hS.to [0] z⟩
  refine .exit ?_
  cases h
  exact ⟨by simp,z,v3,sb z,hS.to [0] z⟩
 intro x E W hJ
 obtain ⟨rfl,v8,hE,hS⟩:=hJ
 refine ⟨_,hE.sub,?_⟩
 refine .seq (.g (.qn z (.block ?_)))
 have ⟨y5,hy5,h⟩:=bnd h
 refine .via (.iter (fun s2 E' W'=>∃ (v11 : Hd),SubL E' [(2,(sv v_2)),(7,.int .i64 (a2.length : Int)),(8,.int .i64 (w64 ((w64 (a0 + 4)) + 24))),(9,(sv v11)),(12,.int .i64 s2.2)] ∧ Sep No w W' [rowV (sv v11) 3 1 (D.int .i64) s2.1]) (fun y6 x E' W'=>x = .exit 2 ∧ ∃ (v12 : Hd),SubL E' [(7,.int .i64 (a2.length : Int)),(9,(sv v12))] ∧ Sep No w W' [rowV (sv v12) 3 1 (D.int .i64) y6]) hy5 ⟨v8,sb z,hS.to [0] z⟩ ?_) ?_
 ·intro s2 y7 E W h hI
  obtain ⟨v10,hE,hS⟩:=hI
  refine CW.sub hE ?_
  unfold f58 at h
  refine .seq (.g (.q z (.q z (.q z (.nil ?_)))))
  refine .cs z h ?_ ?_ <;> intro h
  ·refine .skip (.seq (.block (.seq (.region ?_))))
   have ⟨r2,hr2,h⟩:=bnd h
   refine .c (.mkv 0 (D.int .i64) hr2 T.u23 T.t3 hS z z z z z (fun _=>z) ?_ z z z)
   intro v13 W hS
   refine .qn z (.g (.q z (.q z (.q z ?_))))
   have ⟨x2,hx2,h⟩:=bnd h
   refine .s (ixv (hS.keep q_2) hx2 T.u23 T.t3 z z z) z (.s (lde (RV.flat (hS.keep q_2) hx2 z) T.t3 z z z z z) z (.q z ?_))
   have ⟨x3,hx3,h⟩:=bnd h
   refine .s (ixv hS.lendv hx3 T.u23 T.t3 z z z) z ?_
   have ⟨r3,hr3,h⟩:=bnd h
   refine .c (.sev hr3 hx3 hS T.t3 z z z z z z ?_ z z z z z z)
   intro W hS
   refine .nil (.g (.q z (.q z (.q z (.q z (.q z (.q z (.q z (.q z (.q z ?_))))))))))
   have ⟨x4,hx4,h⟩:=bnd h
   refine .s (ixv hS.lendv hx4 T.u23 T.t3 z z z) z ?_
   have ⟨r4,hr4,h⟩:=bnd h
   refine .c (.sev hr4 hx4 hS T.t3 z z z z z z ?_ z z z z z z)
   intro W hS
   refine .nil (.region (.q z (.q z ?_)))
   have ⟨r5,hr5,h⟩:=bnd h
   have hT0:=hS.p1
   refine .c (.apprv hr5 hT0 hT0.p1.lendv (fun _=>z) T.u23 T.t3 z z z ?_ z z z z z)
   intro v14 W hS
   refine .qn z (.region (.q z (.q z (.q z (.nil ?_)))))
   cases h
   exact ⟨z,v14,sb z,hS.to [0] z⟩
  refine .exit ?_
  cases h
  exact ⟨by simp,z,v10,sb z,hS.to [0] z⟩
 intro x E W hJ
 obtain ⟨rfl,v15,hE,hS⟩:=hJ
 refine ⟨_,hE.sub,?_⟩
 refine .g (.q z (.q z (.q z ?_)))
 have ⟨r6,hr6,h⟩:=bnd h
 refine .c (.appz 0 hr6 hS T.u23 T.u3 T.t3 z z z z ?_ (fun _=>z) z z z z z z)
 intro v16 W hS
 obtain rfl:=Option.some.inj h
 exact .qn z (.ret (fin_ret (vs:=[_]) v16 (rt z rn) z (hS.to [0] z)))
theorem fed {a0 : List Int} {a1 : Int} {a2 : Int} {v_0 : Hd} {S : Nat → Prop} {w : World} {r : Machine} (h : f8a a0 a1 a2 = some r) (hO : Owns w [rowV (sv v_0) 3 1 (D.int .i64) a0] S) (hlt : ∀ b,S b → b < w.heap.size) : Calls Tryz.prog 37 #[(sv v_0),.int .i64 a1,.int .i64 a2] w (Ret S w (fun s : Hd × Hd=>.agg #[(sv s.1),.int .i64 r.Pc,(sv s.2)]) (fun s=>[rowV (sv s.1) 3 1 (D.int .i64) r.Regs,rowV (sv s.2) 3 1 (D.int .i64) r.Mem])):=by
 unfold f8a at h
 refine enter Tryz.func37 z z ?_
 have hS:=Sep.startM hO hlt
 refine .g (.c (.alloc T.t25 hS ?_ z z z))
 intro g1 W hS
 refine .nil (.seq (.region ?_))
 have ⟨r1,hr1,h⟩:=bnd h
 refine .c (.mkv 0 (D.int .i64) hr1 T.u23 T.t3 hS z z z z z (fun _=>z) ?_ z z z)
 intro v1 W hS
 refine .q z (.q z (.q z (.s (bs T.s25 z z) z (.c (.alloc T.t25 hS ?_ z z z)))))
 intro g2 W hS
 refine .c (.st T.t25 hS z z z ?_ z z z z z)
 intro W hS
 refine .nil (.g (.q z (.q z (.q z (.qn z (.seq (.rk 8 hS [0,0,0,0] T.mix ?_)))))))
 intro W hS
 have hT:=hS.to [0,0,0,0] z
 refine .ts 0 z (fun W hT=>fa T.f25_0 z z z) hT z (by kernel_rfl) (.ts 1 z (fun W hT=>ld T.t23 hT z z z z z) hT z (by kernel_rfl) (.tp 2 z z hT (by kernel_rfl) (.tp 3 z z hT (by kernel_rfl) (.tp 4 z z hT (by kernel_rfl) ?_))))
 have ⟨x1,hx1,h⟩:=bnd h
 refine .ts 5 z (fun W hT=>ixv hS.p3.lendv hx1 T.u23 T.t3 z z z) hT z (by kernel_rfl) (.ts 6 z (fun W hT=>lde (RV.flat hT.p3.lendv hx1 z) T.t3 z z z z z) hT z (by kernel_rfl) ?_)
 have ⟨x2,hx2,h⟩:=bnd h
 refine .ts 7 z (fun W hT=>ixv hS.p1.lendv hx2 T.u23 T.t3 z z z) hT z (by kernel_rfl) ?_
 have ⟨r2,hr2,h⟩:=bnd h
 refine .by1 8 z (.sev hr2 hx2 hS.p1 T.t3 z z z z z z ?_ z z z z z z) (by kernel_rfl)
 intro W hS
 refine ⟨fun h=>absurd z h,?_⟩
 refine .done (.g (.s (fa T.f25_0 z z z) z (.s (ld T.t23 hS.p1 z z z z z) z (.q z (.q z ?_))))) (by kernel_rfl)
 have ⟨x3,hx3,h⟩:=bnd h
 refine .s (ixv hS.lendv hx3 T.u23 T.t3 z z z) z ?_
 have ⟨r3,hr3,h⟩:=bnd h
 refine .c (.sev hr3 hx3 hS T.t3 z z z z z z ?_ z z z z z z)
 intro W hS
 refine .nil (.g (.s (fa T.f25_0 z z z) z (.s (ld T.t23 hS.p1 z z z z z) z (.q z (.q z ?_)))))
 have ⟨x4,hx4,h⟩:=bnd h
 refine .s (ixv hS.lendv hx4 T.u23 T.t3 z z z) z ?_
 have ⟨r4,hr4,h⟩:=bnd h
 refine .c (.sev hr4 hx4 hS T.t3 z z z z z z ?_ z z z z z z)
 intro W hS
 refine .nil (.g (.s (ld T.t25 hS.p1 z z z z z) z (.c (.st T.t25 hS.p2 z z z ?_ z z z z z))))
 intro W hS
 cases h
 exact .nil (.ret (fin_ret (vs:=[_]) (v1,v_0) (rc hS T.t25 z rn z z) z (hS.to [1,2] z)))
def fe6 (w : World) (r : Machine × Int × Bool) : Env → World → Prop:=Fin Tryz.prog Tryz.f23 No w (fun s : Hd × Hd=>.tuple #[.agg #[(sv s.1),.int .i64 r.1.Pc,(sv s.2)],.int .i64 r.2.1,.bool r.2.2]) (fun s=>[rowV (sv s.1) 3 1 (D.int .i64) r.1.Regs,rowV (sv s.2) 3 1 (D.int .i64) r.1.Mem]) .ret
theorem fdr {a0 : List Int} {a1 : List (List Instr)} {v_0 : Hd} {v_1 : Hd} {w : World} {r : Machine × Int × Bool} (h : f4s a0 a1 = some r) (q_0 : RV w (Old No w) (sv v_0) 3 1 (D.int .i64) a0) (q_1 : RV w (Old No w) (sv v_1) 68 1 (fun (l : List Instr)=>D.row 87 5 (l.map dInstr)) a1) : Calls Tryz.prog 23 #[(sv v_0),(sv v_1)] w (Ret No w (fun s : Hd × Hd=>.tuple #[.agg #[(sv s.1),.int .i64 r.1.Pc,(sv s.2)],.int .i64 r.2.1,.bool r.2.2]) (fun s=>[rowV (sv s.1) 3 1 (D.int .i64) r.1.Regs,rowV (sv s.2) 3 1 (D.int .i64) r.1.Mem])):=by
 unfold f4s at h
 refine enter Tryz.func23 z z ?_
 have hS:=Sep.start w
 refine .g (.c (.alloc T.t25 hS ?_ z z z))
 intro g1 W hS
 refine .q z (.qn z (.g (.s (bs T.s25 z z) z (.c (.alloc T.t25 hS ?_ z z z)))))
 intro g2 W hS
 refine .c (.st T.t25 hS z z z ?_ z z z z z)
 intro W hS
 refine .nil (.seq (.g (.q z ?_)))
 have ⟨y1,hy1,h⟩:=bnd h
 refine .c (.call0 hS Tryz.func33 (fdu hy1 (hS.keep q_0)) z z ?_ z z z z)
 intro W hS
 refine .q z (.q z ?_)
 have ⟨b1,hb1,h⟩:=bnd h
 refine .chunk 5 24 (b1) hS ?_ ?_
 ·refine .both (!y1) (fun hb=>?_) (fun hb=>?_)
  ·refine .xx hb z (.xx hb z (.xx hb z (.xx hb z ?_)))
   cases sel_t hb hb1
   exact .s (pkt hb z z z) z (.nil (ck 5 hS z z z z))
  have hg1:=hb
  have h:=sel_f hb hb1
  refine .g hg1 (.q z (.g hg1 (.s (lenv (hS.keep q_1) T.u56 z z) z ?_) z)) z
  have ⟨y2,hy2,h⟩:=bnd h
  refine .g hg1 (.c (.call0 hS Tryz.func28 (f06 hy2) z z ?_ z z z z)) z
  intro W hS
  refine .g hg1 (.q z (.s (pkf hg1 z z z) z ?_)) z
  cases h
  exact .nil (ck 5 hS z z z z)
 intro W hS
 refine .nil (.cond z (fun hb=>?_) (fun hb=>?_))
 ·have h:=sel_t hb h
  refine .g (.s (ld T.t25 hS z z z z z) z (.c (.st T.t25 hS.p1 z z z ?_ z z z z z)))
  intro W hS
  refine .q z (.qn z (.ret ?_))
  have hS:=hS.nilv 3 1 (D.int .i64)
  have hS:=hS.nilv 3 1 (D.int .i64)
  cases h
  exact fin_ret (vs:=[_,_,_]) (nilH,nilH) (rc hS.p2 T.t25 z (rt z (rt z rn)) z z) z (hS.to [1,0] z)
 have h:=sel_f hb h
 refine .skip (.g (.c (.liv [] (D.int .i64) T.u23 T.t3 hS z z z z ?_ z (fun _=>z) z z z z)))
 intro v1 W hS
 have ⟨y3,hy3,h⟩:=bnd h
 refine .c (.call1v hS Tryz.func35 (fe8 hy3) z z ?_ z z z z)
 intro v2 W hS
 have ⟨y4,hy4,h⟩:=bnd h
 have hS:=hS.p1
 refine .c (.callS2 (L0:=[rowV (sv v1) 3 1 (D.int .i64) []]) hS Tryz.func34 (fun S h1 h2 h3=>(fbm hy4 (h3.rdv (k:=0) z) h2 (zz h1))) z z ?_ z z z z)
 rintro v3 W hS
 refine .q z (.q z (.q z (.q z (.qn z (.g (.c (.liv [] (D.int .i64) T.u23 T.t3 hS z z z z ?_ z (fun _=>z) z z z z)))))))
 intro v4 W hS
 refine .qn z (.seq (.g (.qn z (.block ?_))))
 have ⟨y5,hy5,h⟩:=bnd h
 refine .via (.iter (fun s1 E' W'=>∃ (v9 : Hd) (v10 : Hd),SubL E' [(0,(sv v_0)),(1,(sv v_1)),(4,.pointer (some ⟨g1,0,none⟩)),(7,.pointer (some ⟨g2,0,none⟩)),(8,(sv v9)),(10,(sv v10)),(11,.int .i64 s1.2.2)] ∧ Sep No w W' [rowV (sv v2) 87 5 dInstr y3,.box g2 25 [(sv nilH),.int .i64 0,(sv nilH)],.box g1 25 [(sv nilH),.int .i64 0,(sv nilH)],rowV (sv v9) 3 1 (D.int .i64) s1.1,rowV (sv v10) 3 1 (D.int .i64) s1.2.1]) (fun y6 x E' W'=>(match y6 with | .inl o1=>x = .ret ∧ fe6 w o1 E' W' | .inr o2=>x = .exit 0 ∧ ∃ (v11 : Hd) (v12 : Hd),SubL E' [(0,(sv v_0)),(4,.pointer (some ⟨g1,0,none⟩)),(7,.pointer (some ⟨g2,0,none⟩)),(8,(sv v11)),(10,(sv v12))] ∧ Sep No w W' [rowV (sv v2) 87 5 dInstr y3,.box g2 25 [(sv nilH),.int .i64 0,(sv nilH)],.box g1 25 [(sv nilH),.int .i64 0,(sv nilH)],rowV (sv v11) 3 1 (D.int .i64) o2.1,rowV (sv v12) 3 1 (D.int .i64) o2.2])) hy5 ⟨v3,v4,sb rfl,hS.to [2,2,2,1,0] rfl⟩ ?_) ?_
 ·intro s1 y7 E W h hI
  obtain ⟨v7,v8,hE,hS⟩:=hI
  refine CW.sub hE ?_
  unfold f36 at h
  refine .seq (.g (.q z (.q z (.s (lenv (hS.keep q_1) T.u56 z z) z (.q z (.nil ?_))))))
  refine .cs z h ?_ ?_ <;> intro h
  ·refine .skip (.seq (.block (.g (.q z (.q z (.s (lenv hS.p3.lendv T.u23 z z) z (.c (.liv [(s1.1.length : Int)] (D.int .i64) T.u23 T.t3 hS z z z z ?_ z (fun _=>z) z z z z))))))))
   intro v13 W hS
   have ⟨r1,hr1,h⟩:=bnd h
   have hT0:=hS.p5
   refine .c (.apprv hr1 hT0 hT0.p1.lendv (fun _=>z) T.u23 T.t3 z z z ?_ z z z z z)
   intro v14 W hS
   refine .qn z (.seq (.g (.q z (.q z ?_))))
   have ⟨x1,hx1,h⟩:=bnd h
   obtain ⟨k1,hd,hck1⟩:=RV.el2 q_1 hx1
   obtain ⟨v15,k1,rfl,q9,hd1⟩:=rrowv q_1 hd
   obtain rfl:=rnil q_1 hd1
   refine .s (ixv (hS.keep q_1) hx1 T.u56 T.t68 z z z) z (.s (lde (hck1 _ hS.agree) T.t68 z z z z z) z (.s (lenv (hS.keep (q9 _ q_1)) T.u68 z z) z (.qn z (.cond z (fun hb=>?_) (fun hb=>?_)))))
   ·have h:=sel_t hb h
    refine .g (.s (ld T.t25 hS.p3 z z z z z) z (.c (.st T.t25 hS.p4 z z z ?_ z z z z z)))
    intro W hS
    refine .q z (.qn z (.ret ?_))
    have hS:=hS.nilv 3 1 (D.int .i64)
    have hS:=hS.nilv 3 1 (D.int .i64)
    cases h
    exact ⟨by simp,z,fin_ret (vs:=[_,_,_]) (nilH,nilH) (rc hS.p2 T.t25 z (rt z (rt z rn)) z z) z (hS.to [1,0] z)⟩
   have h:=sel_f hb h
   refine .skip (.g (.q z (.q z (.q z ?_))))
   have ⟨x2,hx2,h⟩:=bnd h
   obtain ⟨k2,hd,hck2⟩:=RV.el2 q_1 hx2
   obtain ⟨v16,k2,rfl,q10,hd1⟩:=rrowv q_1 hd
   obtain rfl:=rnil q_1 hd1
   refine .s (ixv (hS.keep q_1) hx2 T.u56 T.t68 z z z) z (.s (lde (hck2 _ hS.agree) T.t68 z z z z z) z ?_)
   have ⟨y8,hy8,h⟩:=bnd h
   have hS:=hS.p5
   refine .c (.callS2 (L0:=[rowV (sv v7) 3 1 (D.int .i64) s1.1]) hS Tryz.func34 (fun S h1 h2 h3=>(fbm hy8 (hS.keepS (q10 _ q_1) h1) h2 (zz h1))) z z ?_ z z z z)
   rintro v17 W hS
   refine .q z (.q z (.q z (.q z (.qn z (.seq (.g (.q z (.q z (.nil ?_)))))))))
   refine .cs z h ?_ ?_ <;> intro h
   ·refine .g (.s (ld T.t25 hS.p4 z z z z z) z (.c (.st T.t25 hS.p5 z z z ?_ z z z z z)))
    intro W hS
    refine .q z (.qn z (.ret ?_))
    have hS:=hS.nilv 3 1 (D.int .i64)
    have hS:=hS.nilv 3 1 (D.int .i64)
    cases h
    exact ⟨by simp,z,fin_ret (vs:=[_,_,_]) (nilH,nilH) (rc hS.p2 T.t25 z (rt z (rt z rn)) z z) z (hS.to [1,0] z)⟩
   refine .skip (.region (.q z (.qn z (.region (.q z (.q z (.q z (.nil ?_))))))))
   cases h
   exact ⟨z,v17,v14,sb z,hS.to [3,3,3,0,0] z⟩
  refine .exit ?_
  cases h
  exact ⟨by simp,z,v7,v8,sb z,hS.to [0,0,0,0,0] z⟩
 intro x E W hJ
 rcases y5 with o3 | o4
 ·obtain ⟨rfl,hF⟩:=hJ
  refine ⟨_,fun _ _ h=>h,?_⟩
  cases h
  exact hF
 obtain ⟨rfl,v18,v19,hE,hS⟩:=hJ
 refine ⟨_,hE.sub,?_⟩
 refine .g (.q z (.s (lenv hS.p3.lendv T.u23 z z) z (.qn z (.g (.q z (.q z (.q z (.q z ?_))))))))
 have ⟨y9,hy9,h⟩:=bnd h
 refine .c (.call1v hS Tryz.func36 (feu hy9 (hS.keep q_0) hS.p4.lendv) z z ?_ z z z z)
 intro v20 W hS
 have ⟨r2,hr2,h⟩:=bnd h
 have hT0:=hS.p4
 refine .c (.apprv hr2 hT0 hT0.p1.lendv (fun _=>z) T.u23 T.t3 z z z ?_ z z z z z)
 intro v21 W hS
 refine .qn z (.seq (.g (.q z (.s (lenv hS.lendv T.u23 z z) z (.qn z (.cond z (fun hb=>?_) (fun hb=>?_)))))))
 ·have h:=sel_t hb h
  refine .g (.s (ld T.t25 hS.p3 z z z z z) z (.c (.st T.t25 hS.p4 z z z ?_ z z z z z)))
  intro W hS
  refine .q z (.qn z (.ret ?_))
  have hS:=hS.nilv 3 1 (D.int .i64)
  have hS:=hS.nilv 3 1 (D.int .i64)
  cases h
  exact fin_ret (vs:=[_,_,_]) (nilH,nilH) (rc hS.p2 T.t25 z (rt z (rt z rn)) z z) z (hS.to [1,0] z)
 have h:=sel_f hb h
 refine .skip (.g (.q z (.q z (.q z ?_))))
 have ⟨x3,hx3,h⟩:=bnd h
 refine .s (ixv hS.p5.lendv hx3 T.u23 T.t3 z z z) z (.s (lde (RV.flat hS.p5.lendv hx3 z) T.t3 z z z z z) z ?_)
 have ⟨y10,hy10,h⟩:=bnd h
 refine .c (.callS2 (L0:=[rowV (sv v21) 3 1 (D.int .i64) r2]) hS Tryz.func37 (fun S h1 h2 h3=>(fed hy10 h2 (zz h1))) z z ?_ z z z z)
 rintro ⟨v22,v23⟩ W hS
 refine .q z (.q z (.c (.st T.t25 hS.p5 z z z ?_ z z z z z)))
 intro W hS
 cases h
 exact .q z (.qn z (.ret (fin_ret (vs:=[_,_,_]) (v22,v23) (rc hS T.t25 z (rt z (rt z rn)) z z) z (hS.to [1,1] z))))
def ff6 (w : World) (r : Bool) : Env → World → Prop:=Fin Tryz.prog Tryz.f17 No w (fun s : Unit=>.bool r) (fun s=>[]) .ret
theorem f7b {a0 : List Int} {a1 : Int} {v_0 : Hd} {w : World} {r : Bool} (h : f0z a0 a1 = some r) (q_0 : RV w (Old No w) (sv v_0) 3 1 (D.int .i64) a0) : Calls Tryz.prog 17 #[(sv v_0),.int .i64 a1] w (Ret No w (fun s : Unit=>.bool r) (fun s=>[])):=by
 unfold f0z at h
 refine enter Tryz.func17 z z ?_
 have hS:=Sep.start w
 refine .g (.qn z (.seq (.g (.q z (.s (lenv (hS.keep q_0) T.u23 z z) z (.q z (.q z (.nil ?_))))))))
 refine .cs z h ?_ ?_ <;> intro h
 ·obtain rfl:=Option.some.inj h
  exact .g (.qn z (.ret (fin_ret (vs:=[_]) () (rt z rn) z (hS.to [] z))))
 refine .skip (.seq (.g (.qn z (.block ?_))))
 have ⟨y1,hy1,h⟩:=bnd h
 refine .via (.iter (fun s1 E' W'=>SubL E' [(0,(sv v_0)),(5,.int .i64 s1)] ∧ Sep No w W' []) (fun y2 x E' W'=>(match y2 with | .inl o1=>x = .ret ∧ ff6 w o1 E' W' | .inr o2=>x = .exit 0 ∧ SubL E' [] ∧ Sep No w W' [])) hy1 ⟨sb rfl,hS.to [] rfl⟩ ?_) ?_
 ·intro s1 y3 E W h hI
  obtain ⟨hE,hS⟩:=hI
  refine CW.sub hE ?_
  unfold f2l at h
  refine .seq (.g (.q z (.q z (.s (lenv (hS.keep q_0) T.u23 z z) z (.q z (.nil ?_))))))
  refine .cs z h ?_ ?_ <;> intro h
  ·refine .skip (.seq (.block (.g (.q z (.q z ?_)))))
   have ⟨x1,hx1,h⟩:=bnd h
   refine .s (ixv (hS.keep q_0) hx1 T.u23 T.t3 z z z) z (.s (lde (RV.flat (hS.keep q_0) hx1 z) T.t3 z z z z z) z ?_)
   have ⟨y4,hy4,h⟩:=bnd h
   refine .c (.call0 hS Tryz.func27 (f2u hy4) z z ?_ z z z z)
   intro W hS
   refine .q z (.nil ?_)
   refine .cs z h ?_ ?_ <;> intro h
   ·refine .g (.qn z (.ret ?_))
    cases h
    exact ⟨by simp,z,fin_ret (vs:=[_]) () (rt z rn) z (hS.to [] z)⟩
   refine .skip (.region (.q z (.q z (.q z (.nil ?_)))))
   cases h
   exact ⟨z,sb z,hS.to [] z⟩
  refine .exit ?_
  cases h
  exact ⟨by simp,z,sb z,hS.to [] z⟩
 intro x E W hJ
 rcases y1 with o3 | o4
 ·obtain ⟨rfl,hF⟩:=hJ
  refine ⟨_,fun _ _ h=>h,?_⟩
  cases h
  exact hF
 obtain ⟨rfl,hE,hS⟩:=hJ
 refine ⟨_,hE.sub,?_⟩
 obtain rfl:=Option.some.inj h
 exact .g (.qn z (.ret (fin_ret (vs:=[_]) () (rt z rn) z (hS.to [] z))))
theorem fa5 {a0 : Machine} {v_0_Regs : Hd} {v_0_Mem : Hd} {w : World} {r : Bool} (h : f1c a0 = some r) (q_0_Regs : RV w (Old No w) (sv v_0_Regs) 3 1 (D.int .i64) a0.Regs) (q_0_Mem : RV w (Old No w) (sv v_0_Mem) 3 1 (D.int .i64) a0.Mem) : Calls Tryz.prog 16 #[.agg #[(sv v_0_Regs),.int .i64 a0.Pc,(sv v_0_Mem)]] w (Ret No w (fun s : Unit=>.bool r) (fun s=>[])):=by
 unfold f1c at h
 refine enter Tryz.func16 z z ?_
 have hS:=Sep.start w
 refine .g (.c (.box hS z z ?_ z z))
 intro g1 W hS
 refine .qn z (.g (.s (fa T.f25_0 z z z) z (.s (ld T.t23 hS z z z z z) z ?_)))
 have ⟨y1,hy1,h⟩:=bnd h
 refine .c (.call0 hS Tryz.func17 (f7b hy1 (hS.keep q_0_Regs)) z z ?_ z z z z)
 intro W hS
 refine .q z ?_
 have ⟨b1,hb1,h⟩:=bnd h
 refine .chunk 6 12 (b1) hS ?_ ?_
 ·refine .both (y1) (fun hb=>?_) (fun hb=>?_)
  ·have hg1:=hb
   have h:=sel_t hb hb1
   refine .g hg1 (.s (fa T.f25_0 z z z) z (.g hg1 (.s (ld T.t23 hS z z z z z) z ?_) z)) z
   have ⟨x1,hx1,h⟩:=bnd h
   refine .g hg1 (.s (ixv (hS.keep q_0_Regs) hx1 T.u23 T.t3 z z z) z (.g hg1 (.s (lde (RV.flat (hS.keep q_0_Regs) hx1 z) T.t3 z z z z z) z (.g hg1 (.q z (.s (pkt hg1 z z z) z ?_)) z)) z)) z
   cases h
   exact .nil (ck 6 hS z z z z)
  refine .xx hb z (.xx hb z (.xx hb z (.xx hb z (.xx hb z ?_))))
  cases sel_f hb hb1
  exact .s (pkf hb z z z) z (.nil (ck 6 hS z z z z))
 intro W hS
 refine .q z ?_
 have ⟨b2,hb2,h⟩:=bnd h
 refine .chunk 4 17 (b2) hS ?_ ?_
 ·refine .both (b1) (fun hb=>?_) (fun hb=>?_)
  ·have hg2:=hb
   have h:=sel_t hb hb2
   refine .g hg2 (.s (fa T.f25_1 z z z) z (.g hg2 (.s (ld T.t3 hS z z z z z) z ?_) z)) z
   have ⟨y2,hy2,h⟩:=bnd h
   refine .g hg2 (.c (.call0 hS Tryz.func27 (f2u hy2) z z ?_ z z z z)) z
   intro W hS
   refine .s (pkt hg2 z z z) z ?_
   cases h
   exact .nil (ck 4 hS z z z z)
  refine .xx hb z (.xx hb z (.xx hb z ?_))
  cases sel_f hb hb2
  exact .s (pkf hb z z z) z (.nil (ck 4 hS z z z z))
 intro W hS
 refine .q z (.chunk 5 23 (b2 && (decide ((a0.Mem.length : Int) ≤ 10000))) hS ?_ ?_)
 ·refine .both (b2) (fun hb=>?_) (fun hb=>?_)
  ·have hg3:=hb
   exact .g hg3 (.s (fa T.f25_2 z z z) z (.g hg3 (.s (ld T.t23 hS z z z z z) z (.g hg3 (.s (lenv (hS.keep q_0_Mem) T.u23 z z) z (.g hg3 (.q z (.s (pkt hg3 z z z) z (.nil (ck 5 hS z (and_t hg3) z z)))) z)) z)) z)) z
  exact .xx hb z (.xx hb z (.xx hb z (.xx hb z (.s (pkf hb z z z) z (.nil (ck 5 hS z (and_f hb) z z))))))
 intro W hS
 refine .q z ?_
 have ⟨b3,hb3,h⟩:=bnd h
 refine .chunk 7 31 (b3) hS ?_ ?_
 ·refine .both (b2 && (decide ((a0.Mem.length : Int) ≤ 10000))) (fun hb=>?_) (fun hb=>?_)
  ·have hg4:=hb
   have h:=sel_t hb hb3
   refine .g hg4 (.s (fa T.f25_2 z z z) z (.g hg4 (.s (ld T.t23 hS z z z z z) z (.g hg4 (.s (fa T.f25_2 z z z) z (.g hg4 (.s (ld T.t23 hS z z z z z) z (.g hg4 (.s (lenv (hS.keep q_0_Mem) T.u23 z z) z ?_) z)) z)) z)) z)) z
   have ⟨y3,hy3,h⟩:=bnd h
   refine .g hg4 (.c (.call0 hS Tryz.func17 (f7b hy3 (hS.keep q_0_Mem)) z z ?_ z z z z)) z
   intro W hS
   refine .s (pkt hg4 z z z) z ?_
   cases h
   exact .nil (ck 7 hS z z z z)
  refine .xx hb z (.xx hb z (.xx hb z (.xx hb z (.xx hb z (.xx hb z ?_)))))
  cases sel_f hb hb3
  exact .s (pkf hb z z z) z (.nil (ck 7 hS z z z z))
 intro W hS
 obtain rfl:=Option.some.inj h
 exact .qn z (.ret (fin_ret (vs:=[_]) () (rt z rn) z (hS.to [] z)))
theorem fek {a0 : Machine} {v_0_Regs : Hd} {v_0_Mem : Hd} {w : World} {r : Machine} (h : f7z a0 = some r) (q_0_Regs : RV w (Old No w) (sv v_0_Regs) 3 1 (D.int .i64) a0.Regs) (q_0_Mem : RV w (Old No w) (sv v_0_Mem) 3 1 (D.int .i64) a0.Mem) : Calls Tryz.prog 38 #[.agg #[(sv v_0_Regs),.int .i64 a0.Pc,(sv v_0_Mem)]] w (Ret No w (fun s : Hd × Hd=>.agg #[(sv s.1),.int .i64 r.Pc,(sv s.2)]) (fun s=>[rowV (sv s.1) 3 1 (D.int .i64) r.Regs,rowV (sv s.2) 3 1 (D.int .i64) r.Mem])):=by
 unfold f7z at h
 refine enter Tryz.func38 z z ?_
 have hS:=Sep.start w
 refine .g (.c (.box hS z z ?_ z z))
 intro g1 W hS
 refine .c (.alloc T.t25 hS ?_ z z z)
 intro g2 W hS
 refine .nil (.seq ?_)
 have ⟨r1,hr1,h⟩:=bnd h
 have ⟨r2,hr2,h⟩:=bnd h
 refine .via (R':=fun x E' W'=>x = .normal ∧ ∃ (v1 : Hd) (v2 : Hd),SubL E' [(2,.pointer (some ⟨g2,0,none⟩))] ∧ Sep No w W' [.box g2 25 [(sv v1),.int .i64 a0.Pc,(sv v2)],.box g1 25 [(sv v_0_Regs),.int .i64 a0.Pc,(sv v_0_Mem)],rowV (sv v1) 3 1 (D.int .i64) r1,rowV (sv v2) 3 1 (D.int .i64) r2]) ?_ ?_
 ·refine .rk 11 hS [0,0] T.mix ?_
  intro W hS
  have hT:=hS.to [0,0] z
  refine .ts 1 z (fun W hT=>fa T.f25_0 z z z) hT z (by kernel_rfl) (.ts 2 z (fun W hT=>ld T.t23 hT.p1 z z z z z) hT z (by kernel_rfl) (.ts 4 z (fun W hT=>fa T.f25_1 z z z) hT z (by kernel_rfl) (.ts 5 z (fun W hT=>ld T.t3 hT.p1 z z z z z) hT z (by kernel_rfl) (.ts 7 z (fun W hT=>fa T.f25_2 z z z) hT z (by kernel_rfl) (.ts 8 z (fun W hT=>ld T.t23 hT.p1 z z z z z) hT z (by kernel_rfl) (.by [0,6] ⟨⟨_,z,?_⟩,⟨_,z,?_⟩,trivial⟩ (by kernel_rfl) z))))))
  ·refine (.liv [] (D.int .i64) T.u23 T.t3 hS z z z z ?_ z (fun _=>z) z z z z)
   intro v3 W hS
   have hT:=hS.to [1,1] z
   refine ⟨fun _=>hT,.by [3,6] ⟨⟨_,z,?_⟩,⟨_,z,?_⟩,trivial⟩ (by kernel_rfl) z⟩
   ·refine (.apprv hr1 hS (hS.keep q_0_Regs) (fun _=>z) T.u23 T.t3 z z z ?_ z z z z z)
    intro v4 W hS
    have hT:=hS.to [1,1] z
    refine ⟨fun _=>hT,.by1 6 z (.liv [] (D.int .i64) T.u23 T.t3 hS z z z z ?_ z (fun _=>z) z z z z) (by kernel_rfl)⟩
    intro v5 W hS
    have hT:=hS.to [2,2] z
    refine ⟨fun _=>hT,.by1 9 z (.apprv hr2 hS (hS.keep q_0_Mem) (fun _=>z) T.u23 T.t3 z z z ?_ z z z z z) (by kernel_rfl)⟩
    intro v6 W hS
    have hT:=hS.to [2,2] z
    refine ⟨fun _=>hT,.ts 10 z (fun W hT=>bs T.s25 z z) hT z (by kernel_rfl) (.by1 11 z (.st T.t25 hS.p2 z z z ?_ z z z z z) (by kernel_rfl))⟩
    intro W hS
    refine ⟨fun h=>absurd z h,?_⟩
    exact .done (⟨z,v4,v6,sb z,hS.to [0,2,1,0] z⟩) (by kernel_rfl)
   refine (.liv [] (D.int .i64) T.u23 T.t3 hS z z z z ?_ z (fun _=>z) z z z z)
   intro v7 W hS
   have hT:=hS.to [2,2] z
   refine ⟨fun _=>hT,.by1 3 z (.apprv hr1 hS.p1 (hS.keep q_0_Regs) (fun _=>z) T.u23 T.t3 z z z ?_ z z z z z) (by kernel_rfl)⟩
   intro v8 W hS
   have hT:=hS.to [2,2] z
   refine ⟨fun _=>hT,.by1 9 z (.apprv hr2 hS.p1 (hS.keep q_0_Mem) (fun _=>z) T.u23 T.t3 z z z ?_ z z z z z) (by kernel_rfl)⟩
   intro v9 W hS
   have hT:=hS.to [2,2] z
   refine ⟨fun _=>hT,.ts 10 z (fun W hT=>bs T.s25 z z) hT z (by kernel_rfl) (.by1 11 z (.st T.t25 hS.p2 z z z ?_ z z z z z) (by kernel_rfl))⟩
   intro W hS
   refine ⟨fun h=>absurd z h,?_⟩
   exact .done (⟨z,v8,v9,sb z,hS.to [0,2,1,0] z⟩) (by kernel_rfl)
  refine (.liv [] (D.int .i64) T.u23 T.t3 hS z z z z ?_ z (fun _=>z) z z z z)
  intro v10 W hS
  have hT:=hS.to [1,1] z
  refine ⟨fun _=>hT,.by1 0 z (.liv [] (D.int .i64) T.u23 T.t3 hS z z z z ?_ z (fun _=>z) z z z z) (by kernel_rfl)⟩
  intro v11 W hS
  have hT:=hS.to [2,2] z
  refine ⟨fun _=>hT,.by1 3 z (.apprv hr1 hS (hS.keep q_0_Regs) (fun _=>z) T.u23 T.t3 z z z ?_ z z z z z) (by kernel_rfl)⟩
  intro v12 W hS
  have hT:=hS.to [2,2] z
  refine ⟨fun _=>hT,.by1 9 z (.apprv hr2 hS.p1 (hS.keep q_0_Mem) (fun _=>z) T.u23 T.t3 z z z ?_ z z z z z) (by kernel_rfl)⟩
  intro v13 W hS
  have hT:=hS.to [2,2] z
  refine ⟨fun _=>hT,.ts 10 z (fun W hT=>bs T.s25 z z) hT z (by kernel_rfl) (.by1 11 z (.st T.t25 hS.p2 z z z ?_ z z z z z) (by kernel_rfl))⟩
  intro W hS
  refine ⟨fun h=>absurd z h,?_⟩
  exact .done (⟨z,v12,v13,sb z,hS.to [0,2,1,0] z⟩) (by kernel_rfl)
 intro x E W hJ
 obtain ⟨rfl,v14,v15,hE,hS⟩:=hJ
 refine ⟨_,hE.sub,?_⟩
 cases h
 exact .ret (fin_ret (vs:=[_]) (v14,v15) (rc hS T.t25 z rn z z) z (hS.to [2,2] z))
theorem fbk {a0 : List Int} {a1 : Int} {v_0 : Hd} {w : World} {r : Bool} (h : f4g a0 a1 = some r) (q_0 : RV w (Old No w) (sv v_0) 3 1 (D.int .i64) a0) : Calls Tryz.prog 53 #[(sv v_0),.int .i64 a1] w (Ret No w (fun s : Unit=>.bool r) (fun s=>[])):=by
 unfold f4g at h
 refine enter Tryz.func53 z z ?_
 have hS:=Sep.start w
 refine .g (.qn z (.g (.q z (.q z (.q z (.chunk 4 11 ((decide (a1 ≥ 0)) && ((Int.tmod a1 4) == 0)) hS ?_ ?_))))))
 ·refine .both (decide (a1 ≥ 0)) (fun hb=>?_) (fun hb=>?_)
  ·have hg1:=hb
   exact .g hg1 (.q z (.g hg1 (.q z (.g hg1 (.q z (.s (pkt hg1 z z z) z (.nil (ck 4 hS z (and_t hg1) z z)))) z)) z)) z
  exact .xx hb z (.xx hb z (.xx hb z (.s (pkf hb z z z) z (.nil (ck 4 hS z (and_f hb) z z)))))
 intro W hS
 refine .q z (.chunk 6 18 (((decide (a1 ≥ 0)) && ((Int.tmod a1 4) == 0)) && (decide ((w64 (Int.tdiv a1 4)) < (a0.length : Int)))) hS ?_ ?_)
 ·refine .both ((decide (a1 ≥ 0)) && ((Int.tmod a1 4) == 0)) (fun hb=>?_) (fun hb=>?_)
  ·have hg2:=hb
   exact .g hg2 (.q z (.g hg2 (.q z (.g hg2 (.q z (.g hg2 (.s (lenv (hS.keep q_0) T.u23 z z) z (.g hg2 (.q z (.s (pkt hg2 z z z) z (.nil (ck 6 hS z (and_t hg2) z z)))) z)) z)) z)) z)) z
  exact .xx hb z (.xx hb z (.xx hb z (.xx hb z (.xx hb z (.s (pkf hb z z z) z (.nil (ck 6 hS z (and_f hb) z z)))))))
 intro W hS
 cases h
 exact .qn z (.ret (fin_ret (vs:=[_]) () (rt z rn) z (hS.to [] z)))
def ffn (w : World) (r : Int) : Env → World → Prop:=Fin Tryz.prog Tryz.f80 No w (fun s : Unit=>.int .i64 r) (fun s=>[]) .ret
theorem fc2 {a0 : Int} {w : World} {r : Int} (h : f69 a0 = some r) : Calls Tryz.prog 80 #[.int .i64 a0] w (Ret No w (fun s : Unit=>.int .i64 r) (fun s=>[])):=by
 unfold f69 at h
 refine enter Tryz.func80 z z ?_
 have hS:=Sep.start w
 refine .g (.qn z (.seq (.g (.q z ?_))))
 have ⟨y1,hy1,h⟩:=bnd h
 refine .c (.call0 hS Tryz.func95 (f07 hy1) z z ?_ z z z z)
 intro W hS
 refine .nil (.block (.g (.q z (.q z (.nil ?_)))))
 refine .cs z h ?_ ?_ <;> intro h
 ·refine .seq (.g (.qn z (.block ?_)))
  have ⟨y2,hy2,h⟩:=bnd h
  refine .via (.iter (fun s1 E' W'=>SubL E' [(0,.int .i64 a0),(3,.int .i64 s1)] ∧ Sep No w W' []) (fun y3 x E' W'=>(match y3 with | .inl o1=>x = .ret ∧ ffn w o1 E' W' | .inr o2=>x = .exit 1 ∧ SubL E' [] ∧ Sep No w W' [])) hy2 ⟨sb rfl,hS.to [] rfl⟩ ?_) ?_
  ·intro s1 y4 E W h hI
   obtain ⟨hE,hS⟩:=hI
   refine CW.sub hE ?_
   unfold f70 at h
   refine .seq (.g (.q z (.q z (.nil ?_))))
   refine .cs z h ?_ ?_ <;> intro h
   ·refine .skip (.seq (.block (.g (.q z ?_))))
    have ⟨y5,hy5,h⟩:=bnd h
    refine .c (.call0 hS Tryz.func95 (f07 hy5) z z ?_ z z z z)
    intro W hS
    refine .q z ?_
    have ⟨y6,hy6,h⟩:=bnd h
    refine .c (.call0 hS Tryz.func106 (fay hy6) z z ?_ z z z z)
    intro W hS
    refine .q z (.q z ?_)
    have ⟨b1,hb1,h⟩:=bnd h
    refine .chunk 6 23 (b1) hS ?_ ?_
    ·refine .both (y5 == y6) (fun hb=>?_) (fun hb=>?_)
     ·have hg1:=hb
      have h:=sel_t hb hb1
      refine .g hg1 (.q z ?_) z
      have ⟨y7,hy7,h⟩:=bnd h
      refine .g hg1 (.c (.call0 hS Tryz.func95 (f07 hy7) z z ?_ z z z z)) z
      intro W hS
      refine .g hg1 (.q z ?_) z
      have ⟨y8,hy8,h⟩:=bnd h
      refine .g hg1 (.c (.call0 hS Tryz.func105 (fb1 hy8) z z ?_ z z z z)) z
      intro W hS
      refine .g hg1 (.q z (.s (pkt hg1 z z z) z ?_)) z
      cases h
      exact .nil (ck 6 hS z z z z)
     refine .xx hb z (.xx hb z (.xx hb z (.xx hb z (.xx hb z ?_))))
     cases sel_f hb hb1
     exact .s (pkf hb z z z) z (.nil (ck 6 hS z z z z))
    intro W hS
    refine .nil ?_
    refine .cs z h ?_ ?_ <;> intro h
    ·refine .g (.q z (.qn z (.ret ?_)))
     cases h
     exact ⟨by simp,z,fin_ret (vs:=[_]) () (rt z rn) z (hS.to [] z)⟩
    refine .skip (.region (.q z (.q z (.q z (.nil ?_)))))
    cases h
    exact ⟨z,sb z,hS.to [] z⟩
   refine .exit ?_
   cases h
   exact ⟨by simp,z,sb z,hS.to [] z⟩
  intro x E W hJ
  rcases y2 with o3 | o4
  ·obtain ⟨rfl,hF⟩:=hJ
   refine ⟨_,fun _ _ h=>h,?_⟩
   cases h
   exact hF
  obtain ⟨rfl,hE,hS⟩:=hJ
  refine ⟨_,hE.sub,?_⟩
  cases h
  exact .g (.qn z (.ret (fin_ret (vs:=[_]) () (rt z rn) z (hS.to [] z))))
 refine .g (.q z (.q z (.nil ?_)))
 refine .cs z h ?_ ?_ <;> intro h
 ·refine .seq (.g (.q z ?_))
  have ⟨y9,hy9,h⟩:=bnd h
  refine .c (.call0 hS Tryz.func95 (f07 hy9) z z ?_ z z z z)
  intro W hS
  refine .q z (.nil ?_)
  refine .cs z h ?_ ?_ <;> intro h
  ·cases h
   exact .g (.qn z (.ret (fin_ret (vs:=[_]) () (rt z rn) z (hS.to [] z))))
  cases h
  exact .skip (.g (.qn z (.ret (fin_ret (vs:=[_]) () (rt z rn) z (hS.to [] z)))))
 refine .g (.q z (.q z (.nil ?_)))
 refine .cs z h ?_ ?_ <;> intro h
 ·cases h
  exact .g (.qn z (.ret (fin_ret (vs:=[_]) () (rt z rn) z (hS.to [] z))))
 refine .g (.q z (.q z (.nil ?_)))
 refine .cs z h ?_ ?_ <;> intro h
 ·cases h
  exact .g (.qn z (.ret (fin_ret (vs:=[_]) () (rt z rn) z (hS.to [] z))))
 refine .g (.q z (.q z (.nil ?_)))
 refine .cs z h ?_ ?_ <;> intro h
 ·cases h
  exact .g (.qn z (.ret (fin_ret (vs:=[_]) () (rt z rn) z (hS.to [] z))))
 refine .g (.q z (.q z (.nil ?_)))
 refine .cs z h ?_ ?_ <;> intro h
 ·refine .seq (.g (.q z ?_))
  have ⟨y10,hy10,h⟩:=bnd h
  refine .c (.call0 hS Tryz.func95 (f07 hy10) z z ?_ z z z z)
  intro W hS
  refine .q z (.nil ?_)
  refine .cs z h ?_ ?_ <;> intro h
  ·cases h
   exact .g (.qn z (.ret (fin_ret (vs:=[_]) () (rt z rn) z (hS.to [] z))))
  cases h
  exact .skip (.g (.qn z (.ret (fin_ret (vs:=[_]) () (rt z rn) z (hS.to [] z)))))
 refine .g (.q z (.q z (.nil ?_)))
 refine .cs z h ?_ ?_ <;> intro h
 ·cases h
  exact .g (.qn z (.ret (fin_ret (vs:=[_]) () (rt z rn) z (hS.to [] z))))
 refine .g (.q z (.q z (.nil ?_)))
 refine .cs z h ?_ ?_ <;> intro h
 ·cases h
  exact .g (.qn z (.ret (fin_ret (vs:=[_]) () (rt z rn) z (hS.to [] z))))
 refine .g (.q z (.q z (.nil ?_)))
 refine .cs z h ?_ ?_ <;> intro h
 ·cases h
  exact .g (.qn z (.ret (fin_ret (vs:=[_]) () (rt z rn) z (hS.to [] z))))
 cases h
 exact .skip (.g (.qn z (.ret (fin_ret (vs:=[_]) () (rt z rn) z (hS.to [] z)))))
theorem fco {a0 : Int} {a1 : Int} {w : World} {r : Instr} (h : f0a a0 a1 = some r) : Calls Tryz.prog 81 #[.int .i64 a0,.int .i64 a1] w (Ret No w (fun s : Unit=>.agg #[.int .i64 r.Op,.int .i64 r.Rd,.int .i64 r.Rs,.int .i64 r.Rt,.int .i64 r.Imm]) (fun s=>[])):=by
 unfold f0a at h
 refine enter Tryz.func81 z z ?_
 have hS:=Sep.start w
 refine .g (.c (.alloc T.t87 hS ?_ z z z))
 intro g1 W hS
 refine .nil (.g (.q z ?_))
 have ⟨y1,hy1,h⟩:=bnd h
 refine .c (.call0 hS Tryz.func95 (f07 hy1) z z ?_ z z z z)
 intro W hS
 refine .qn z (.g (.q z ?_))
 have ⟨y2,hy2,h⟩:=bnd h
 refine .c (.call0 hS Tryz.func95 (f07 hy2) z z ?_ z z z z)
 intro W hS
 refine .qn z (.g (.q z ?_))
 have ⟨y3,hy3,h⟩:=bnd h
 refine .c (.call0 hS Tryz.func95 (f07 hy3) z z ?_ z z z z)
 intro W hS
 refine .qn z (.seq (.block (.g (.q z (.q z (.q z (.nil ?_)))))))
 refine .cs z h ?_ ?_ <;> intro h
 ·refine .g (.q z (.q z (.q z (.q z (.s (bs T.s87 z z) z (.c (.st T.t87 hS z z z ?_ z z z z z)))))))
  intro W hS
  cases h
  exact .nil (.ret (fin_ret (vs:=[_]) () (rc hS T.t87 z rn z z) z (hS.to [] z)))
 refine .g (.q z (.q z (.q z (.nil ?_))))
 refine .cs z h ?_ ?_ <;> intro h
 ·refine .g (.q z (.q z (.q z (.q z ?_))))
  have ⟨y4,hy4,h⟩:=bnd h
  refine .c (.call0 hS Tryz.func95 (f07 hy4) z z ?_ z z z z)
  intro W hS
  have ⟨y5,hy5,h⟩:=bnd h
  refine .c (.call0 hS Tryz.func94 (f3d hy5) z z ?_ z z z z)
  intro W hS
  refine .s (bs T.s87 z z) z (.c (.st T.t87 hS z z z ?_ z z z z z))
  intro W hS
  cases h
  exact .nil (.ret (fin_ret (vs:=[_]) () (rc hS T.t87 z rn z z) z (hS.to [] z)))
 refine .g (.q z (.q z (.q z (.nil ?_))))
 refine .cs z h ?_ ?_ <;> intro h
 ·refine .g (.q z (.q z (.q z (.q z ?_))))
  have ⟨y6,hy6,h⟩:=bnd h
  refine .c (.call0 hS Tryz.func95 (f07 hy6) z z ?_ z z z z)
  intro W hS
  refine .q z (.q z (.q z ?_))
  have ⟨y7,hy7,h⟩:=bnd h
  refine .c (.call0 hS Tryz.func94 (f3d hy7) z z ?_ z z z z)
  intro W hS
  refine .s (bs T.s87 z z) z (.c (.st T.t87 hS z z z ?_ z z z z z))
  intro W hS
  cases h
  exact .nil (.ret (fin_ret (vs:=[_]) () (rc hS T.t87 z rn z z) z (hS.to [] z)))
 refine .g (.q z (.q z (.q z (.chunk 3 53 ((a0 == 17) || (a0 == 18)) hS ?_ ?_))))
 ·refine .both (a0 == 17) (fun hb=>?_) (fun hb=>?_)
  ·exact .xx hb z (.xx hb z (.s (pkt hb z z z) z (.nil (ck 3 hS z (or_t hb) z z))))
  have hg1:=hb
  exact .g hg1 (.q z (.g hg1 (.q z (.s (pkf hg1 z z z) z (.nil (ck 3 hS z (or_f hg1) z z)))) z)) z
 intro W hS
 refine .q z (.nil ?_)
 refine .cs z h ?_ ?_ <;> intro h
 ·refine .g (.q z ?_)
  have ⟨y8,hy8,h⟩:=bnd h
  refine .c (.call0 hS Tryz.func95 (f07 hy8) z z ?_ z z z z)
  intro W hS
  refine .q z (.q z ?_)
  have ⟨y9,hy9,h⟩:=bnd h
  refine .c (.call0 hS Tryz.func95 (f07 hy9) z z ?_ z z z z)
  intro W hS
  refine .q z (.q z (.q z ?_))
  have ⟨y10,hy10,h⟩:=bnd h
  refine .c (.call0 hS Tryz.func95 (f07 hy10) z z ?_ z z z z)
  intro W hS
  refine .q z (.q z (.q z ?_))
  have ⟨y11,hy11,h⟩:=bnd h
  refine .c (.call0 hS Tryz.func95 (f07 hy11) z z ?_ z z z z)
  intro W hS
  refine .q z (.q z (.qn z (.g (.q z (.q z (.q z (.q z ?_)))))))
  have ⟨y12,hy12,h⟩:=bnd h
  refine .c (.call0 hS Tryz.func94 (f3d hy12) z z ?_ z z z z)
  intro W hS
  refine .s (bs T.s87 z z) z (.c (.st T.t87 hS z z z ?_ z z z z z))
  intro W hS
  cases h
  exact .nil (.ret (fin_ret (vs:=[_]) () (rc hS T.t87 z rn z z) z (hS.to [] z)))
 refine .g (.q z (.q z (.q z (.nil ?_))))
 refine .cs z h ?_ ?_ <;> intro h
 ·refine .g (.q z (.q z (.q z ?_)))
  have ⟨y13,hy13,h⟩:=bnd h
  refine .c (.call0 hS Tryz.func95 (f07 hy13) z z ?_ z z z z)
  intro W hS
  refine .s (bs T.s87 z z) z (.c (.st T.t87 hS z z z ?_ z z z z z))
  intro W hS
  cases h
  exact .nil (.ret (fin_ret (vs:=[_]) () (rc hS T.t87 z rn z z) z (hS.to [] z)))
 refine .g (.q z (.q z (.q z (.nil ?_))))
 refine .cs z h ?_ ?_ <;> intro h
 ·refine .g (.q z ?_)
  have ⟨y14,hy14,h⟩:=bnd h
  refine .c (.call0 hS Tryz.func95 (f07 hy14) z z ?_ z z z z)
  intro W hS
  refine .q z (.q z ?_)
  have ⟨y15,hy15,h⟩:=bnd h
  refine .c (.call0 hS Tryz.func95 (f07 hy15) z z ?_ z z z z)
  intro W hS
  refine .q z (.q z (.q z ?_))
  have ⟨y16,hy16,h⟩:=bnd h
  refine .c (.call0 hS Tryz.func95 (f07 hy16) z z ?_ z z z z)
  intro W hS
  refine .q z (.q z (.q z ?_))
  have ⟨y17,hy17,h⟩:=bnd h
  refine .c (.call0 hS Tryz.func95 (f07 hy17) z z ?_ z z z z)
  intro W hS
  refine .q z (.q z (.qn z (.g (.q z (.q z (.q z ?_))))))
  have ⟨y18,hy18,h⟩:=bnd h
  refine .c (.call0 hS Tryz.func94 (f3d hy18) z z ?_ z z z z)
  intro W hS
  refine .s (bs T.s87 z z) z (.c (.st T.t87 hS z z z ?_ z z z z z))
  intro W hS
  cases h
  exact .nil (.ret (fin_ret (vs:=[_]) () (rc hS T.t87 z rn z z) z (hS.to [] z)))
 refine .skip (.g (.q z (.s (bs T.s87 z z) z (.c (.st T.t87 hS z z z ?_ z z z z z)))))
 intro W hS
 cases h
 exact .nil (.ret (fin_ret (vs:=[_]) () (rc hS T.t87 z rn z z) z (hS.to [] z)))
theorem f79 {a0 : Int} {w : World} {r : Instr × Bool} (h : f2f a0 = some r) : Calls Tryz.prog 54 #[.int .i64 a0] w (Ret No w (fun s : Unit=>.tuple #[.agg #[.int .i64 r.1.Op,.int .i64 r.1.Rd,.int .i64 r.1.Rs,.int .i64 r.1.Rt,.int .i64 r.1.Imm],.bool r.2]) (fun s=>[])):=by
 unfold f2f at h
 refine enter Tryz.func54 z z ?_
 have hS:=Sep.start w
 refine .g (.c (.alloc T.t87 hS ?_ z z z))
 intro g1 W hS
 refine .qn z (.seq (.g (.q z ?_)))
 have ⟨y1,hy1,h⟩:=bnd h
 refine .c (.call0 hS Tryz.func28 (f06 hy1) z z ?_ z z z z)
 intro W hS
 refine .q z (.q z ?_)
 have ⟨b1,hb1,h⟩:=bnd h
 refine .chunk 4 12 (b1) hS ?_ ?_
 ·refine .both (!y1) (fun hb=>?_) (fun hb=>?_)
  ·refine .xx hb z (.xx hb z (.xx hb z ?_))
   cases sel_t hb hb1
   exact .s (pkt hb z z z) z (.nil (ck 4 hS z z z z))
  have hg1:=hb
  have h:=sel_f hb hb1
  refine .g hg1 (.q z ?_) z
  have ⟨y2,hy2,h⟩:=bnd h
  refine .g hg1 (.c (.call0 hS Tryz.func80 (fc2 hy2) z z ?_ z z z z)) z
  intro W hS
  refine .g hg1 (.q z (.s (pkf hg1 z z z) z ?_)) z
  cases h
  exact .nil (ck 4 hS z z z z)
 intro W hS
 refine .nil ?_
 refine .cs z h ?_ ?_ <;> intro h
 ·refine .g (.s (bs T.s87 z z) z (.c (.st T.t87 hS z z z ?_ z z z z z)))
  intro W hS
  cases h
  exact .qn z (.ret (fin_ret (vs:=[_,_]) () (rc hS T.t87 z (rt z rn) z z) z (hS.to [] z)))
 refine .skip (.g (.q z ?_))
 have ⟨y3,hy3,h⟩:=bnd h
 refine .c (.call0 hS Tryz.func80 (fc2 hy3) z z ?_ z z z z)
 intro W hS
 refine .q z ?_
 have ⟨y4,hy4,h⟩:=bnd h
 refine .c (.call0 hS Tryz.func81 (fco hy4) z z ?_ z z z z)
 intro W hS
 refine .c (.alloc T.t87 hS ?_ z z z)
 intro g2 W hS
 refine .c (.st T.t87 hS z z z ?_ z z z z z)
 intro W hS
 refine .nil (.seq (.g (.s (ld T.t87 hS z z z z z) z ?_)))
 have ⟨y5,hy5,h⟩:=bnd h
 refine .c (.call0 hS Tryz.func72 (fap hy5) z z ?_ z z z z)
 intro W hS
 refine .q z (.q z (.nil ?_))
 refine .cs z h ?_ ?_ <;> intro h
 ·refine .g (.s (bs T.s87 z z) z (.c (.st T.t87 hS.p1 z z z ?_ z z z z z)))
  intro W hS
  cases h
  exact .qn z (.ret (fin_ret (vs:=[_,_]) () (rc hS T.t87 z (rt z rn) z z) z (hS.to [] z)))
 refine .skip (.g (.s (ld T.t87 hS z z z z z) z (.c (.st T.t87 hS.p1 z z z ?_ z z z z z))))
 intro W hS
 cases h
 exact .qn z (.ret (fin_ret (vs:=[_,_]) () (rc hS T.t87 z (rt z rn) z z) z (hS.to [] z)))
theorem f30 {a0 : Machine} {a1 : Int} {a2 : Int} {v_0_Regs : Hd} {v_0_Mem : Hd} {g_0 : Nat} {S : Nat → Prop} {w : World} {r : (List Int)} (h : f25 a0 a1 a2 = some r) (q_0_Mem : RV w (Old S w) (sv v_0_Mem) 3 1 (D.int .i64) a0.Mem) (hO : Owns w [rowV (sv v_0_Regs) 3 1 (D.int .i64) a0.Regs,.box g_0 25 [(sv v_0_Regs),.int .i64 a0.Pc,(sv v_0_Mem)]] S) (hlt : ∀ b,S b → b < w.heap.size) : Calls Tryz.prog 84 #[.pointer (some ⟨g_0,0,none⟩),.int .i64 a1,.int .i64 a2] w (Ret S w (fun s : Hd=>.tuple #[]) (fun s=>[.box g_0 25 [(sv s),.int .i64 a0.Pc,(sv v_0_Mem)],rowV (sv s) 3 1 (D.int .i64) r])):=by
 unfold f25 at h
 refine enter Tryz.func84 z z ?_
 have hS:=Sep.startM hO hlt
 refine .g (.q z (.q z (.nil ?_)))
 refine .cs z h ?_ ?_ <;> intro h
 ·refine .region (.q z (.q z (.s (fa T.f25_0 z z z) z (.s (ld T.t23 hS.p1 z z z z z) z (.q z (.q z ?_))))))
  have ⟨x1,hx1,h⟩:=bnd h
  refine .s (ixv hS.lendv hx1 T.u23 T.t3 z z z) z ?_
  have ⟨r1,hr1,h⟩:=bnd h
  refine .c (.sev hr1 hx1 hS T.t3 z z z z z z ?_ z z z z z z)
  intro W hS
  obtain rfl:=Option.some.inj h
  exact .nil (fin_ret (vs:=[]) v_0_Regs (rn) z (hS.to [1,0] z))
 cases h
 exact .skip (fin_ret (vs:=[]) v_0_Regs (rn) z (hS.to [1,0] z))
theorem fes {a0 : Machine} {a1 : Instr} {v_0_Regs : Hd} {v_0_Mem : Hd} {g_0 : Nat} {S : Nat → Prop} {w : World} {r : Bool × (List Int) × Int × (List Int)} (h : fb5 a0 a1 = some r) (hO : Owns w [rowV (sv v_0_Regs) 3 1 (D.int .i64) a0.Regs,rowV (sv v_0_Mem) 3 1 (D.int .i64) a0.Mem,.box g_0 25 [(sv v_0_Regs),.int .i64 a0.Pc,(sv v_0_Mem)]] S) (hlt : ∀ b,S b → b < w.heap.size) : Calls Tryz.prog 82 #[.pointer (some ⟨g_0,0,none⟩),.agg #[.int .i64 a1.Op,.int .i64 a1.Rd,.int .i64 a1.Rs,.int .i64 a1.Rt,.int .i64 a1.Imm]] w (Ret S w (fun s : Hd × Hd=>.bool r.1) (fun s=>[.box g_0 25 [(sv s.1),.int .i64 r.2.2.1,(sv s.2)],rowV (sv s.1) 3 1 (D.int .i64) r.2.1,rowV (sv s.2) 3 1 (D.int .i64) r.2.2.2])):=by
 unfold fb5 at h
 refine enter Tryz.func82 z z ?_
 have hS:=Sep.startM hO hlt
 refine .g (.c (.box hS z z ?_ z z))
 intro g1 W hS
 refine .qn z (.seq (.rk 13 hS [0,0,0,0] T.mix ?_))
 intro W hS
 have hT:=hS.to [0,0,0,0] z
 refine .tp 0 z z hT (by kernel_rfl) (.tp 1 z z hT (by kernel_rfl) (.ts 2 z (fun W hT=>fa T.f25_0 z z z) hT z (by kernel_rfl) (.ts 3 z (fun W hT=>ld T.t23 hT.p3 z z z z z) hT z (by kernel_rfl) (.ts 4 z (fun W hT=>fa T.f87_2 z z z) hT z (by kernel_rfl) (.ts 5 z (fun W hT=>ld T.t3 hT z z z z z) hT z (by kernel_rfl) ?_)))))
 have ⟨x1,hx1,h⟩:=bnd h
 refine .ts 6 z (fun W hT=>ixv hS.p1.lendv hx1 T.u23 T.t3 z z z) hT z (by kernel_rfl) (.ts 7 z (fun W hT=>lde (RV.flat hT.p1.lendv hx1 z) T.t3 z z z z z) hT z (by kernel_rfl) (.ts 8 z (fun W hT=>fa T.f87_4 z z z) hT z (by kernel_rfl) (.ts 9 z (fun W hT=>ld T.t3 hT z z z z z) hT z (by kernel_rfl) (.tp 10 z z hT (by kernel_rfl) ?_))))
 have ⟨y1,hy1,h⟩:=bnd h
 refine .by1 11 z (.call0 hS Tryz.func45 (f12 hy1) z z ?_ z z z z) (by kernel_rfl)
 intro W hS
 have hT:=hS.to [0,0,0,0] z
 refine ⟨fun _=>hT,.tp 12 z z hT (by kernel_rfl) (.done (.seq (.g (.q z (.q z (.s (fa T.f25_2 z z z) z (.s (ld T.t23 hS.p3 z z z z z) z (.q z ?_))))))) (by kernel_rfl))⟩
 have ⟨y2,hy2,h⟩:=bnd h
 refine .c (.call0 hS Tryz.func53 (fbk hy2 hS.p2.lendv) z z ?_ z z z z)
 intro W hS
 refine .q z (.nil ?_)
 refine .cs z h ?_ ?_ <;> intro h
 ·cases h
  exact .g (.qn z (.ret (fin_ret (vs:=[_]) (v_0_Regs,v_0_Mem) (rt z rn) z (hS.to [3,1,1] z))))
 refine .skip ?_
 have ⟨y3,hy3,h⟩:=bnd h
 refine .seq (CW.via (R':=fun x E' W'=>x = .normal ∧ ∃ (v1 : Hd),SubL E' [(0,.pointer (some ⟨g_0,0,none⟩))] ∧ Sep S w W' [.box g1 87 [.int .i64 a1.Op,.int .i64 a1.Rd,.int .i64 a1.Rs,.int .i64 a1.Rt,.int .i64 a1.Imm],rowV (sv v_0_Mem) 3 1 (D.int .i64) y3.2,.box g_0 25 [(sv v1),.int .i64 a0.Pc,(sv v_0_Mem)],rowV (sv v1) 3 1 (D.int .i64) y3.1]) ?_ ?_)
 ·have h:=hy3
  refine .g (.s (fa T.f87_0 z z z) z (.s (ld T.t3 hS z z z z z) z (.qn z (.cond z (fun hb=>?_) (fun hb=>?_)))))
  ·have h:=sel_t hb h
   refine .rk 12 hS [0,1] T.mix ?_
   intro W hS
   have hT:=hS.to [0,1] z
   refine .tp 0 z z hT (by kernel_rfl) (.ts 1 z (fun W hT=>fa T.f87_1 z z z) hT z (by kernel_rfl) (.ts 2 z (fun W hT=>ld T.t3 hT z z z z z) hT z (by kernel_rfl) (.tp 3 z z hT (by kernel_rfl) (.tp 4 z z hT (by kernel_rfl) (.ts 5 z (fun W hT=>fa T.f25_2 z z z) hT z (by kernel_rfl) (.tp 7 z z hT (by kernel_rfl) (.tp 8 z z hT (by kernel_rfl) (.by1 6 z (.runs (ld T.t23 hS.p3 z z z z z) z z ?_) (by kernel_rfl)))))))))
   have hT:=hS.to [0,1] z
   refine ⟨fun _=>hT,?_⟩
   have ⟨x2,hx2,h⟩:=bnd h
   refine .ts 9 z (fun W hT=>ixv hS.p2.lendv hx2 T.u23 T.t3 z z z) hT z (by kernel_rfl) (.ts 10 z (fun W hT=>lde (RV.flat hT.p1.lendv hx2 z) T.t3 z z z z z) hT z (by kernel_rfl) ?_)
   have ⟨y4,hy4,h⟩:=bnd h
   have hS:=hS.p3
   have hS:=hS.p2
   refine .by1 11 z (.callS2 (L0:=[rowV (sv v_0_Regs) 3 1 (D.int .i64) a0.Regs,.box g_0 25 [(sv v_0_Regs),.int .i64 a0.Pc,(sv v_0_Mem)]]) hS Tryz.func84 (fun S h1 h2 h3=>(f30 hy4 (h3.rdv (k:=1) z) h2 (zz h1))) z z ?_ z z z z) (by kernel_rfl)
   rintro v2 W hS
   have hT:=hS.to [2,2] z
   refine ⟨fun _=>hT,.done ?_ (by kernel_rfl)⟩
   cases h
   exact ⟨z,v2,sb z,hS.to [2,2,0,0] z⟩
  have h:=sel_f hb h
  refine .rk 15 hS [0,0,0,0] T.mix ?_
  intro W hS
  have hT:=hS.to [0,0,0,0] z
  refine .tp 0 z z hT (by kernel_rfl) (.tp 1 z z hT (by kernel_rfl) (.ts 2 z (fun W hT=>fa T.f25_2 z z z) hT z (by kernel_rfl) (.ts 3 z (fun W hT=>ld T.t23 hT.p3 z z z z z) hT z (by kernel_rfl) (.tp 4 z z hT (by kernel_rfl) (.tp 5 z z hT (by kernel_rfl) (.tp 6 z z hT (by kernel_rfl) (.tp 7 z z hT (by kernel_rfl) (.ts 8 z (fun W hT=>fa T.f25_0 z z z) hT z (by kernel_rfl) (.ts 9 z (fun W hT=>ld T.t23 hT.p3 z z z z z) hT z (by kernel_rfl) (.ts 10 z (fun W hT=>fa T.f87_3 z z z) hT z (by kernel_rfl) (.ts 11 z (fun W hT=>ld T.t3 hT z z z z z) hT z (by kernel_rfl) ?_)))))))))))
  have ⟨x3,hx3,h⟩:=bnd h
  refine .ts 12 z (fun W hT=>ixv hS.p1.lendv hx3 T.u23 T.t3 z z z) hT z (by kernel_rfl) (.ts 13 z (fun W hT=>lde (RV.flat hT.p1.lendv hx3 z) T.t3 z z z z z) hT z (by kernel_rfl) ?_)
  have ⟨x4,hx4,h⟩:=bnd h
  refine .ts 14 z (fun W hT=>ixv hS.p2.lendv hx4 T.u23 T.t3 z z z) hT z (by kernel_rfl) ?_
  have ⟨r1,hr1,h⟩:=bnd h
  refine .by1 15 z (.sev hr1 hx4 hS.p2 T.t3 z z z z z z ?_ z z z z z z) (by kernel_rfl)
  intro W hS
  refine ⟨fun h=>absurd z h,?_⟩
  refine .done ?_ (by kernel_rfl)
  cases h
  exact ⟨z,v_0_Regs,sb z,hS.to [1,0,1,0] z⟩
 intro x E W hJ
 obtain ⟨rfl,v3,hE,hS⟩:=hJ
 refine ⟨_,hE.sub,?_⟩
 refine .g (.q z (.q z (.q z (.s (fa T.f25_1 z z z) z (.s (ld T.t3 hS.p2 z z z z z) z (.q z (.q z (.s (fa T.f25_1 z z z) z (.c (.st T.t3 hS.p2 z z z ?_ z z z z z))))))))))
 intro W hS
 cases h
 exact .nil (.g (.qn z (.ret (fin_ret (vs:=[_]) (v3,v_0_Mem) (rt z rn) z (hS.to [0,2,1] z)))))
theorem fdx {a0 : Machine} {a1 : Instr} {v_0_Regs : Hd} {v_0_Mem : Hd} {g_0 : Nat} {S : Nat → Prop} {w : World} {r : (List Int) × Int} (h : fb6 a0 a1 = some r) (q_0_Mem : RV w (Old S w) (sv v_0_Mem) 3 1 (D.int .i64) a0.Mem) (hO : Owns w [rowV (sv v_0_Regs) 3 1 (D.int .i64) a0.Regs,.box g_0 25 [(sv v_0_Regs),.int .i64 a0.Pc,(sv v_0_Mem)]] S) (hlt : ∀ b,S b → b < w.heap.size) : Calls Tryz.prog 83 #[.pointer (some ⟨g_0,0,none⟩),.agg #[.int .i64 a1.Op,.int .i64 a1.Rd,.int .i64 a1.Rs,.int .i64 a1.Rt,.int .i64 a1.Imm]] w (Ret S w (fun s : Hd=>.tuple #[]) (fun s=>[.box g_0 25 [(sv s),.int .i64 r.2,(sv v_0_Mem)],rowV (sv s) 3 1 (D.int .i64) r.1])):=by
 unfold fb6 at h
 refine enter Tryz.func83 z z ?_
 have hS:=Sep.startM hO hlt
 refine .g (.c (.box hS z z ?_ z z))
 intro g1 W hS
 refine .nil (.g (.q z (.q z (.s (fa T.f25_1 z z z) z (.s (ld T.t3 hS.p2 z z z z z) z (.q z ?_))))))
 have ⟨y1,hy1,h⟩:=bnd h
 refine .c (.call0 hS Tryz.func45 (f12 hy1) z z ?_ z z z z)
 intro W hS
 refine .qn z (.seq (.rk 18 hS [0,0,0] T.mix ?_))
 intro W hS
 have hT:=hS.to [0,0,0] z
 refine .tp 0 z z hT (by kernel_rfl) (.tp 1 z z hT (by kernel_rfl) (.ts 2 z (fun W hT=>fa T.f25_0 z z z) hT z (by kernel_rfl) (.ts 3 z (fun W hT=>ld T.t23 hT.p2 z z z z z) hT z (by kernel_rfl) (.ts 4 z (fun W hT=>fa T.f87_2 z z z) hT z (by kernel_rfl) (.ts 5 z (fun W hT=>ld T.t3 hT z z z z z) hT z (by kernel_rfl) ?_)))))
 have ⟨x1,hx1,h⟩:=bnd h
 refine .ts 6 z (fun W hT=>ixv hS.p1.lendv hx1 T.u23 T.t3 z z z) hT z (by kernel_rfl) (.ts 7 z (fun W hT=>lde (RV.flat hT.p1.lendv hx1 z) T.t3 z z z z z) hT z (by kernel_rfl) (.tp 8 z z hT (by kernel_rfl) (.tp 9 z z hT (by kernel_rfl) (.ts 10 z (fun W hT=>fa T.f25_0 z z z) hT z (by kernel_rfl) (.ts 11 z (fun W hT=>ld T.t23 hT.p2 z z z z z) hT z (by kernel_rfl) (.ts 12 z (fun W hT=>fa T.f87_3 z z z) hT z (by kernel_rfl) (.ts 13 z (fun W hT=>ld T.t3 hT z z z z z) hT z (by kernel_rfl) ?_)))))))
 have ⟨x2,hx2,h⟩:=bnd h
 refine .ts 14 z (fun W hT=>ixv hS.p1.lendv hx2 T.u23 T.t3 z z z) hT z (by kernel_rfl) (.ts 15 z (fun W hT=>lde (RV.flat hT.p1.lendv hx2 z) T.t3 z z z z z) hT z (by kernel_rfl) (.tp 16 z z hT (by kernel_rfl) (.tp 17 z z hT (by kernel_rfl) (.done (.block (.g (.s (fa T.f87_0 z z z) z (.s (ld T.t3 hS z z z z z) z (.q z (.qn z (.cond z (fun hb=>?_) (fun hb=>?_)))))))) (by kernel_rfl)))))
 ·have h:=sel_t hb h
  refine .seq (.rk 13 hS [0,0,0] T.mix ?_)
  intro W hS
  have hT:=hS.to [0,0,0] z
  refine .tp 0 z z hT (by kernel_rfl) (.tp 1 z z hT (by kernel_rfl) (.ts 2 z (fun W hT=>fa T.f25_0 z z z) hT z (by kernel_rfl) (.ts 3 z (fun W hT=>ld T.t23 hT.p2 z z z z z) hT z (by kernel_rfl) (.ts 4 z (fun W hT=>fa T.f87_2 z z z) hT z (by kernel_rfl) (.ts 5 z (fun W hT=>ld T.t3 hT z z z z z) hT z (by kernel_rfl) ?_)))))
  have ⟨x3,hx3,h⟩:=bnd h
  refine .ts 6 z (fun W hT=>ixv hS.p1.lendv hx3 T.u23 T.t3 z z z) hT z (by kernel_rfl) (.ts 7 z (fun W hT=>lde (RV.flat hT.p1.lendv hx3 z) T.t3 z z z z z) hT z (by kernel_rfl) (.ts 8 z (fun W hT=>fa T.f87_4 z z z) hT z (by kernel_rfl) (.ts 9 z (fun W hT=>ld T.t3 hT z z z z z) hT z (by kernel_rfl) (.tp 10 z z hT (by kernel_rfl) ?_))))
  have ⟨y2,hy2,h⟩:=bnd h
  refine .by1 11 z (.call0 hS Tryz.func45 (f12 hy2) z z ?_ z z z z) (by kernel_rfl)
  intro W hS
  have hT:=hS.to [0,0,0] z
  refine ⟨fun _=>hT,.tp 12 z z hT (by kernel_rfl) (.done (.g (.q z (.s (fa T.f87_1 z z z) z (.s (ld T.t3 hS z z z z z) z (.q z ?_))))) (by kernel_rfl))⟩
  have ⟨y3,hy3,h⟩:=bnd h
  have hS:=hS.p2
  have hS:=hS.p2
  refine .c (.callS2 (L0:=[rowV (sv v_0_Regs) 3 1 (D.int .i64) a0.Regs,.box g_0 25 [(sv v_0_Regs),.int .i64 a0.Pc,(sv v_0_Mem)]]) hS Tryz.func84 (fun S h1 h2 h3=>(f30 hy3 (hS.keepS q_0_Mem h1) h2 (zz h1))) z z ?_ z z z z)
  rintro v1 W hS
  refine .nil (.region (.q z (.q z (.q z (.q z (.q z (.q z (.s (fa T.f25_1 z z z) z (.c (.st T.t3 hS z z z ?_ z z z z z))))))))))
  intro W hS
  cases h
  exact .nil (fin_ret (vs:=[]) v1 (rn) z (hS.to [0,0] z))
 have h:=sel_f hb h
 refine .g (.s (fa T.f87_0 z z z) z (.s (ld T.t3 hS z z z z z) z (.q z (.qn z (.cond z (fun hb=>?_) (fun hb=>?_))))))
 ·have h:=sel_t hb h
  refine .g (.q z (.s (fa T.f87_1 z z z) z (.s (ld T.t3 hS z z z z z) z (.q z ?_))))
  have ⟨y4,hy4,h⟩:=bnd h
  have hS:=hS.p2
  have hS:=hS.p2
  refine .c (.callS2 (L0:=[rowV (sv v_0_Regs) 3 1 (D.int .i64) a0.Regs,.box g_0 25 [(sv v_0_Regs),.int .i64 a0.Pc,(sv v_0_Mem)]]) hS Tryz.func84 (fun S h1 h2 h3=>(f30 hy4 (hS.keepS q_0_Mem h1) h2 (zz h1))) z z ?_ z z z z)
  rintro v2 W hS
  refine .nil (.rk 11 hS [0,0,0] T.mix ?_)
  intro W hS
  have hT:=hS.to [0,0,0] z
  refine .tp 0 z z hT (by kernel_rfl) (.tp 1 z z hT (by kernel_rfl) (.tp 2 z z hT (by kernel_rfl) (.ts 3 z (fun W hT=>fa T.f25_1 z z z) hT z (by kernel_rfl) (.ts 4 z (fun W hT=>ld T.t3 hT z z z z z) hT z (by kernel_rfl) (.ts 5 z (fun W hT=>fa T.f87_4 z z z) hT z (by kernel_rfl) (.ts 6 z (fun W hT=>ld T.t3 hT.p2 z z z z z) hT z (by kernel_rfl) (.tp 7 z z hT (by kernel_rfl) ?_)))))))
  have ⟨y5,hy5,h⟩:=bnd h
  refine .by1 8 z (.call0 hS Tryz.func45 (f12 hy5) z z ?_ z z z z) (by kernel_rfl)
  intro W hS
  have hT:=hS.to [0,0,0] z
  refine ⟨fun _=>hT,.by1 9 z (.runs (pr z) z z ?_) (by kernel_rfl)⟩
  have hT:=hS.to [0,0,0] z
  refine ⟨fun _=>hT,.ts 10 z (fun W hT=>fa T.f25_1 z z z) hT z (by kernel_rfl) (.by1 11 z (.st T.t3 hS z z z ?_ z z z z z) (by kernel_rfl))⟩
  intro W hS
  refine ⟨fun h=>absurd z h,?_⟩
  cases h
  exact .done (fin_ret (vs:=[]) v2 (rn) z (hS.to [0,0] z)) (by kernel_rfl)
 have h:=sel_f hb h
 refine .g (.q z (.s (fa T.f87_0 z z z) z (.s (ld T.t3 hS z z z z z) z (.q z (.s (eqb T.u4 z z z) z (.q z (.nil ?_)))))))
 refine .cs z h ?_ ?_ <;> intro h
 ·refine .rk 11 hS [0,0,0] T.mix ?_
  intro W hS
  have hT:=hS.to [0,0,0] z
  refine .tp 0 z z hT (by kernel_rfl) (.tp 1 z z hT (by kernel_rfl) (.tp 2 z z hT (by kernel_rfl) (.ts 3 z (fun W hT=>fa T.f25_1 z z z) hT z (by kernel_rfl) (.ts 4 z (fun W hT=>ld T.t3 hT.p2 z z z z z) hT z (by kernel_rfl) (.ts 5 z (fun W hT=>fa T.f87_4 z z z) hT z (by kernel_rfl) (.ts 6 z (fun W hT=>ld T.t3 hT z z z z z) hT z (by kernel_rfl) (.tp 7 z z hT (by kernel_rfl) ?_)))))))
  have ⟨y6,hy6,h⟩:=bnd h
  refine .by1 8 z (.call0 hS Tryz.func45 (f12 hy6) z z ?_ z z z z) (by kernel_rfl)
  intro W hS
  have hT:=hS.to [0,0,0] z
  refine ⟨fun _=>hT,.by1 9 z (.runs (pr z) z z ?_) (by kernel_rfl)⟩
  have hT:=hS.to [0,0,0] z
  refine ⟨fun _=>hT,.ts 10 z (fun W hT=>fa T.f25_1 z z z) hT z (by kernel_rfl) (.by1 11 z (.st T.t3 hS.p2 z z z ?_ z z z z z) (by kernel_rfl))⟩
  intro W hS
  refine ⟨fun h=>absurd z h,?_⟩
  cases h
  exact .done (fin_ret (vs:=[]) v_0_Regs (rn) z (hS.to [0,1] z)) (by kernel_rfl)
 refine .region (.q z (.q z (.q z (.s (fa T.f25_1 z z z) z (.c (.st T.t3 hS.p2 z z z ?_ z z z z z))))))
 intro W hS
 cases h
 exact .nil (fin_ret (vs:=[]) v_0_Regs (rn) z (hS.to [0,1] z))
theorem ffc {a0 : Int} {a1 : Int} {a2 : Int} {w : World} {r : Int} (h : fak a0 a1 a2 = some r) : Calls Tryz.prog 86 #[.int .i64 a0,.int .i64 a1,.int .i64 a2] w (Ret No w (fun s : Unit=>.int .i64 r) (fun s=>[])):=by
 unfold fak at h
 refine enter Tryz.func86 z z ?_
 have hS:=Sep.start w
 refine .g (.qn z (.g (.c (.liv [8,9,10,11,12,3,1,2,6,7,5] (D.int .i64) T.u23 T.t3 hS z z z z ?_ z (fun _=>z) z z z z))))
 intro v1 W hS
 refine .qn z (.g (.q z (.q z (.q z ?_))))
 have ⟨x1,hx1,h⟩:=bnd h
 refine .s (ixv hS.lendv hx1 T.u23 T.t3 z z z) z (.s (lde (RV.flat hS.lendv hx1 z) T.t3 z z z z z) z (.q z (.q z ?_)))
 have ⟨y1,hy1,h⟩:=bnd h
 refine .c (.call0 hS Tryz.func107 (fc7 hy1) z z ?_ z z z z)
 intro W hS
 cases h
 exact .q z (.q z (.q z (.q z (.qn z (.g (.q z (.qn z (.ret (fin_ret (vs:=[_]) () (rt z rn) z (hS.to [] z))))))))))
def ffm (w : World) (S : Nat → Prop) (v_0_Regs : Hd) (v_0_Mem : Hd) (g_0 : Nat) (a0 : Machine) (a1 : Instr) (r : Bool × (List Int) × Int × (List Int)) : Env → World → Prop:=Fin Tryz.prog Tryz.f56 S w (fun s : Hd × Hd=>.bool r.1) (fun s=>[.box g_0 25 [(sv s.1),.int .i64 r.2.2.1,(sv s.2)],rowV (sv s.1) 3 1 (D.int .i64) r.2.1,rowV (sv s.2) 3 1 (D.int .i64) r.2.2.2]) .ret
theorem ffh {a0 : Machine} {a1 : Instr} {v_0_Regs : Hd} {v_0_Mem : Hd} {g_0 : Nat} {S : Nat → Prop} {w : World} {r : Bool × (List Int) × Int × (List Int)} (h : fau a0 a1 = some r) (hO : Owns w [rowV (sv v_0_Regs) 3 1 (D.int .i64) a0.Regs,rowV (sv v_0_Mem) 3 1 (D.int .i64) a0.Mem,.box g_0 25 [(sv v_0_Regs),.int .i64 a0.Pc,(sv v_0_Mem)]] S) (hlt : ∀ b,S b → b < w.heap.size) : Calls Tryz.prog 56 #[.pointer (some ⟨g_0,0,none⟩),.agg #[.int .i64 a1.Op,.int .i64 a1.Rd,.int .i64 a1.Rs,.int .i64 a1.Rt,.int .i64 a1.Imm]] w (Ret S w (fun s : Hd × Hd=>.bool r.1) (fun s=>[.box g_0 25 [(sv s.1),.int .i64 r.2.2.1,(sv s.2)],rowV (sv s.1) 3 1 (D.int .i64) r.2.1,rowV (sv s.2) 3 1 (D.int .i64) r.2.2.2])):=by
 unfold fau at h
 refine enter Tryz.func56 z z ?_
 have hS:=Sep.startM hO hlt
 refine .g (.c (.box hS z z ?_ z z))
 intro g1 W hS
 refine .qn z (.seq (.rk 9 hS [0,0,0,0] T.mix ?_))
 intro W hS
 have hT:=hS.to [0,0,0,0] z
 refine .tp 0 z z hT (by kernel_rfl) (.tp 1 z z hT (by kernel_rfl) (.ts 2 z (fun W hT=>fa T.f25_0 z z z) hT z (by kernel_rfl) (.ts 3 z (fun W hT=>ld T.t23 hT.p3 z z z z z) hT z (by kernel_rfl) (.ts 4 z (fun W hT=>fa T.f87_2 z z z) hT z (by kernel_rfl) (.ts 5 z (fun W hT=>ld T.t3 hT z z z z z) hT z (by kernel_rfl) ?_)))))
 have ⟨x1,hx1,h⟩:=bnd h
 refine .ts 6 z (fun W hT=>ixv hS.p1.lendv hx1 T.u23 T.t3 z z z) hT z (by kernel_rfl) (.ts 7 z (fun W hT=>lde (RV.flat hT.p1.lendv hx1 z) T.t3 z z z z z) hT z (by kernel_rfl) (.tp 8 z z hT (by kernel_rfl) (.done ?_ (by kernel_rfl))))
 have ⟨y1,hy1,h⟩:=bnd h
 refine .seq (CW.via (R':=fun x E' W'=>(match y1 with | .inl o1=>x = .normal ∧ ∃ (v1 : Hd),SubL E' [(0,.pointer (some ⟨g_0,0,none⟩))] ∧ Sep S w W' [.box g1 87 [.int .i64 a1.Op,.int .i64 a1.Rd,.int .i64 a1.Rs,.int .i64 a1.Rt,.int .i64 a1.Imm],rowV (sv v_0_Mem) 3 1 (D.int .i64) a0.Mem,.box g_0 25 [(sv v1),.int .i64 a0.Pc,(sv v_0_Mem)],rowV (sv v1) 3 1 (D.int .i64) o1] | .inr o2=>x = .ret ∧ ffm w S v_0_Regs v_0_Mem g_0 a0 a1 o2 E' W')) ?_ ?_)
 ·have h:=hy1
  refine .g (.s (fa T.f87_0 z z z) z (.s (ld T.t3 hS z z z z z) z (.nil (.block ?_))))
  have ⟨y2,hy2,h⟩:=bnd h
  refine .seq (CW.via (R':=fun x E' W'=>x = .normal ∧ SubL E' [(0,.pointer (some ⟨g_0,0,none⟩)),(3,.pointer (some ⟨g1,0,none⟩)),(5,.int .i64 x1),(15,.int .i64 a1.Op),(32,.bool y2)] ∧ Sep S w W' [.box g1 87 [.int .i64 a1.Op,.int .i64 a1.Rd,.int .i64 a1.Rs,.int .i64 a1.Rt,.int .i64 a1.Imm],rowV (sv v_0_Regs) 3 1 (D.int .i64) a0.Regs,rowV (sv v_0_Mem) 3 1 (D.int .i64) a0.Mem,.box g_0 25 [(sv v_0_Regs),.int .i64 a0.Pc,(sv v_0_Mem)]]) ?_ ?_)
  ·have h:=hy2
   refine .g (.q z (.q z (.nil ?_)))
   refine .cs z h ?_ ?_ <;> intro h
   ·refine .skip ?_
    cases h
    exact ⟨z,sb z,hS.to [0,0,0,0] z⟩
   refine .region (.q z (.q z (.nil ?_)))
   cases h
   exact ⟨z,sb z,hS.to [0,0,0,0] z⟩
  intro x E W hJ
  obtain ⟨rfl,hE,hS⟩:=hJ
  refine ⟨_,hE.sub,?_⟩
  refine .cond z (fun hb=>?_) (fun hb=>?_)
  ·have h:=sel_t hb h
   refine .g (.q z (.s (ld T.t87 hS z z z z z) z ?_))
   have ⟨y3,hy3,h⟩:=bnd h
   have hS:=hS.p3
   have hS:=hS.p3
   have hS:=hS.p3
   refine .c (.callS2 (L0:=[rowV (sv v_0_Regs) 3 1 (D.int .i64) a0.Regs,rowV (sv v_0_Mem) 3 1 (D.int .i64) a0.Mem,.box g_0 25 [(sv v_0_Regs),.int .i64 a0.Pc,(sv v_0_Mem)]]) hS Tryz.func82 (fun S h1 h2 h3=>(fes hy3 h2 (zz h1))) z z ?_ z z z z)
   rintro ⟨v2,v3⟩ W hS
   refine .qn z (.ret ?_)
   cases h
   exact ⟨z,fin_ret (vs:=[_]) (v2,v3) (rt z rn) z (hS.to [0,0,0] z)⟩
  have h:=sel_f hb h
  have ⟨y4,hy4,h⟩:=bnd h
  refine .seq (CW.via (R':=fun x E' W'=>x = .normal ∧ SubL E' [(0,.pointer (some ⟨g_0,0,none⟩)),(3,.pointer (some ⟨g1,0,none⟩)),(5,.int .i64 x1),(15,.int .i64 a1.Op),(38,.bool y4)] ∧ Sep S w W' [.box g1 87 [.int .i64 a1.Op,.int .i64 a1.Rd,.int .i64 a1.Rs,.int .i64 a1.Rt,.int .i64 a1.Imm],rowV (sv v_0_Regs) 3 1 (D.int .i64) a0.Regs,rowV (sv v_0_Mem) 3 1 (D.int .i64) a0.Mem,.box g_0 25 [(sv v_0_Regs),.int .i64 a0.Pc,(sv v_0_Mem)]]) ?_ ?_)
  ·have h:=hy4
   refine .g (.q z (.q z (.nil ?_)))
   refine .cs z h ?_ ?_ <;> intro h
   ·refine .skip ?_
    cases h
    exact ⟨z,sb z,hS.to [0,0,0,0] z⟩
   refine .g (.q z (.q z (.nil ?_)))
   refine .cs z h ?_ ?_ <;> intro h
   ·refine .skip ?_
    cases h
    exact ⟨z,sb z,hS.to [0,0,0,0] z⟩
   refine .g (.q z (.q z (.nil ?_)))
   refine .cs z h ?_ ?_ <;> intro h
   ·refine .skip ?_
    cases h
    exact ⟨z,sb z,hS.to [0,0,0,0] z⟩
   refine .region (.q z (.q z (.nil ?_)))
   cases h
   exact ⟨z,sb z,hS.to [0,0,0,0] z⟩
  intro x E W hJ
  obtain ⟨rfl,hE,hS⟩:=hJ
  refine ⟨_,hE.sub,?_⟩
  refine .cond z (fun hb=>?_) (fun hb=>?_)
  ·have h:=sel_t hb h
   refine .g (.q z (.s (ld T.t87 hS z z z z z) z ?_))
   have ⟨y5,hy5,h⟩:=bnd h
   have hS:=hS.p3
   have hS:=hS.p2
   refine .c (.callS2 (L0:=[rowV (sv v_0_Regs) 3 1 (D.int .i64) a0.Regs,.box g_0 25 [(sv v_0_Regs),.int .i64 a0.Pc,(sv v_0_Mem)]]) hS Tryz.func83 (fun S h1 h2 h3=>(fdx hy5 (h3.rdv (k:=1) z) h2 (zz h1))) z z ?_ z z z z)
   rintro v4 W hS
   refine .nil (.g (.qn z (.ret ?_)))
   cases h
   exact ⟨z,fin_ret (vs:=[_]) (v4,v_0_Mem) (rt z rn) z (hS.to [0,0,1] z)⟩
  have h:=sel_f hb h
  refine .g (.q z (.qn z (.cond z (fun hb=>?_) (fun hb=>?_))))
  ·have h:=sel_t hb h
   refine .rk 9 hS [0,1] T.mix ?_
   intro W hS
   have hT:=hS.to [0,1] z
   refine .tp 0 z z hT (by kernel_rfl) (.ts 1 z (fun W hT=>fa T.f87_1 z z z) hT z (by kernel_rfl) (.ts 2 z (fun W hT=>ld T.t3 hT z z z z z) hT z (by kernel_rfl) (.tp 3 z z hT (by kernel_rfl) (.ts 4 z (fun W hT=>fa T.f87_4 z z z) hT z (by kernel_rfl) (.ts 5 z (fun W hT=>ld T.t3 hT z z z z z) hT z (by kernel_rfl) (.tp 6 z z hT (by kernel_rfl) ?_))))))
   have ⟨y6,hy6,h⟩:=bnd h
   refine .by1 7 z (.call0 hS Tryz.func45 (f12 hy6) z z ?_ z z z z) (by kernel_rfl)
   intro W hS
   have hT:=hS.to [0,1] z
   refine ⟨fun _=>hT,?_⟩
   have ⟨y7,hy7,h⟩:=bnd h
   have hS:=hS.p3
   have hS:=hS.p2
   refine .by1 8 z (.callS2 (L0:=[rowV (sv v_0_Regs) 3 1 (D.int .i64) a0.Regs,.box g_0 25 [(sv v_0_Regs),.int .i64 a0.Pc,(sv v_0_Mem)]]) hS Tryz.func84 (fun S h1 h2 h3=>(f30 hy7 (h3.rdv (k:=1) z) h2 (zz h1))) z z ?_ z z z z) (by kernel_rfl)
   rintro v5 W hS
   have hT:=hS.to [2,2] z
   refine ⟨fun _=>hT,.done ?_ (by kernel_rfl)⟩
   cases h
   exact ⟨z,v5,sb z,hS.to [2,2,0,0] z⟩
  have h:=sel_f hb h
  refine .g (.q z (.qn z (.cond z (fun hb=>?_) (fun hb=>?_))))
  ·have h:=sel_t hb h
   refine .rk 11 hS [0,1] T.mix ?_
   intro W hS
   have hT:=hS.to [0,1] z
   refine .tp 0 z z hT (by kernel_rfl) (.ts 1 z (fun W hT=>fa T.f87_1 z z z) hT z (by kernel_rfl) (.ts 2 z (fun W hT=>ld T.t3 hT z z z z z) hT z (by kernel_rfl) (.tp 3 z z hT (by kernel_rfl) (.ts 5 z (fun W hT=>fa T.f87_4 z z z) hT z (by kernel_rfl) (.ts 6 z (fun W hT=>ld T.t3 hT z z z z z) hT z (by kernel_rfl) ?_)))))
   have ⟨y8,hy8,h⟩:=bnd h
   refine .by1 4 z (.call0 hS Tryz.func55 (f37 hy8) z z ?_ z z z z) (by kernel_rfl)
   intro W hS
   have hT:=hS.to [0,1] z
   refine ⟨fun _=>hT,?_⟩
   have ⟨y9,hy9,h⟩:=bnd h
   refine .by1 7 z (.call0 hS Tryz.func55 (f37 hy9) z z ?_ z z z z) (by kernel_rfl)
   intro W hS
   have hT:=hS.to [0,1] z
   refine ⟨fun _=>hT,.tp 8 z z hT (by kernel_rfl) ?_⟩
   have ⟨y10,hy10,h⟩:=bnd h
   refine .by1 9 z (.call0 hS Tryz.func85 (faf hy10) z z ?_ z z z z) (by kernel_rfl)
   intro W hS
   have hT:=hS.to [0,1] z
   refine ⟨fun _=>hT,?_⟩
   have ⟨y11,hy11,h⟩:=bnd h
   have hS:=hS.p3
   have hS:=hS.p2
   refine .by1 10 z (.callS2 (L0:=[rowV (sv v_0_Regs) 3 1 (D.int .i64) a0.Regs,.box g_0 25 [(sv v_0_Regs),.int .i64 a0.Pc,(sv v_0_Mem)]]) hS Tryz.func84 (fun S h1 h2 h3=>(f30 hy11 (h3.rdv (k:=1) z) h2 (zz h1))) z z ?_ z z z z) (by kernel_rfl)
   rintro v6 W hS
   have hT:=hS.to [2,2] z
   refine ⟨fun _=>hT,.done ?_ (by kernel_rfl)⟩
   cases h
   exact ⟨z,v6,sb z,hS.to [2,2,0,0] z⟩
  have h:=sel_f hb h
  refine .g (.q z (.qn z (.cond z (fun hb=>?_) (fun hb=>?_))))
  ·have h:=sel_t hb h
   refine .rk 8 hS [0,1] T.mix ?_
   intro W hS
   have hT:=hS.to [0,1] z
   refine .tp 0 z z hT (by kernel_rfl) (.ts 1 z (fun W hT=>fa T.f87_1 z z z) hT z (by kernel_rfl) (.ts 2 z (fun W hT=>ld T.t3 hT z z z z z) hT z (by kernel_rfl) (.ts 3 z (fun W hT=>fa T.f87_4 z z z) hT z (by kernel_rfl) (.ts 4 z (fun W hT=>ld T.t3 hT z z z z z) hT z (by kernel_rfl) (.tp 5 z z hT (by kernel_rfl) ?_)))))
   have ⟨y12,hy12,h⟩:=bnd h
   refine .by1 6 z (.call0 hS Tryz.func45 (f12 hy12) z z ?_ z z z z) (by kernel_rfl)
   intro W hS
   have hT:=hS.to [0,1] z
   refine ⟨fun _=>hT,?_⟩
   have ⟨y13,hy13,h⟩:=bnd h
   have hS:=hS.p3
   have hS:=hS.p2
   refine .by1 7 z (.callS2 (L0:=[rowV (sv v_0_Regs) 3 1 (D.int .i64) a0.Regs,.box g_0 25 [(sv v_0_Regs),.int .i64 a0.Pc,(sv v_0_Mem)]]) hS Tryz.func84 (fun S h1 h2 h3=>(f30 hy13 (h3.rdv (k:=1) z) h2 (zz h1))) z z ?_ z z z z) (by kernel_rfl)
   rintro v7 W hS
   have hT:=hS.to [2,2] z
   refine ⟨fun _=>hT,.done ?_ (by kernel_rfl)⟩
   cases h
   exact ⟨z,v7,sb z,hS.to [2,2,0,0] z⟩
  have h:=sel_f hb h
  refine .rk 16 hS [0,1] T.mix ?_
  intro W hS
  have hT:=hS.to [0,1] z
  refine .tp 0 z z hT (by kernel_rfl) (.ts 1 z (fun W hT=>fa T.f87_1 z z z) hT z (by kernel_rfl) (.ts 2 z (fun W hT=>ld T.t3 hT z z z z z) hT z (by kernel_rfl) (.ts 3 z (fun W hT=>fa T.f87_0 z z z) hT z (by kernel_rfl) (.ts 4 z (fun W hT=>ld T.t3 hT z z z z z) hT z (by kernel_rfl) (.tp 5 z z hT (by kernel_rfl) (.tp 6 z z hT (by kernel_rfl) (.tp 7 z z hT (by kernel_rfl) (.ts 8 z (fun W hT=>fa T.f25_0 z z z) hT z (by kernel_rfl) (.ts 10 z (fun W hT=>fa T.f87_3 z z z) hT z (by kernel_rfl) (.ts 11 z (fun W hT=>ld T.t3 hT z z z z z) hT z (by kernel_rfl) (.by1 9 z (.runs (ld T.t23 hS.p3 z z z z z) z z ?_) (by kernel_rfl))))))))))))
  have hT:=hS.to [0,1] z
  refine ⟨fun _=>hT,?_⟩
  have ⟨x2,hx2,h⟩:=bnd h
  refine .ts 12 z (fun W hT=>ixv hS.p1.lendv hx2 T.u23 T.t3 z z z) hT z (by kernel_rfl) (.by1 13 z (.runs (lde (RV.flat hS.p1.lendv hx2 z) T.t3 z z z z z) z z ?_) (by kernel_rfl))
  have hT:=hS.to [0,1] z
  refine ⟨fun _=>hT,?_⟩
  have ⟨y14,hy14,h⟩:=bnd h
  refine .by1 14 z (.call0 hS Tryz.func86 (ffc hy14) z z ?_ z z z z) (by kernel_rfl)
  intro W hS
  have hT:=hS.to [0,1] z
  refine ⟨fun _=>hT,?_⟩
  have ⟨y15,hy15,h⟩:=bnd h
  have hS:=hS.p3
  have hS:=hS.p2
  refine .by1 15 z (.callS2 (L0:=[rowV (sv v_0_Regs) 3 1 (D.int .i64) a0.Regs,.box g_0 25 [(sv v_0_Regs),.int .i64 a0.Pc,(sv v_0_Mem)]]) hS Tryz.func84 (fun S h1 h2 h3=>(f30 hy15 (h3.rdv (k:=1) z) h2 (zz h1))) z z ?_ z z z z) (by kernel_rfl)
  rintro v8 W hS
  have hT:=hS.to [2,2] z
  refine ⟨fun _=>hT,.done ?_ (by kernel_rfl)⟩
  cases h
  exact ⟨z,v8,sb z,hS.to [2,2,0,0] z⟩
 intro x E W hJ
 rcases y1 with o3 | o4
 ·obtain ⟨rfl,v9,hE,hS⟩:=hJ
  refine ⟨_,hE.sub,?_⟩
  refine .g (.q z (.q z (.q z (.s (fa T.f25_1 z z z) z (.s (ld T.t3 hS.p2 z z z z z) z (.q z (.q z (.s (fa T.f25_1 z z z) z (.c (.st T.t3 hS.p2 z z z ?_ z z z z z))))))))))
  intro W hS
  cases h
  exact .nil (.g (.qn z (.ret (fin_ret (vs:=[_]) (v9,v_0_Mem) (rt z rn) z (hS.to [0,2,1] z)))))
 obtain ⟨rfl,hF⟩:=hJ
 refine ⟨_,fun _ _ h=>h,?_⟩
 cases h
 exact hF
theorem fet {a0 : Machine} {v_0_Regs : Hd} {v_0_Mem : Hd} {g_0 : Nat} {S : Nat → Prop} {w : World} {r : Int × (List Int) × Int × (List Int)} (h : f7q a0 = some r) (hO : Owns w [rowV (sv v_0_Regs) 3 1 (D.int .i64) a0.Regs,rowV (sv v_0_Mem) 3 1 (D.int .i64) a0.Mem,.box g_0 25 [(sv v_0_Regs),.int .i64 a0.Pc,(sv v_0_Mem)]] S) (hlt : ∀ b,S b → b < w.heap.size) : Calls Tryz.prog 39 #[.pointer (some ⟨g_0,0,none⟩)] w (Ret S w (fun s : Hd × Hd=>.int .i64 r.1) (fun s=>[.box g_0 25 [(sv s.1),.int .i64 r.2.2.1,(sv s.2)],rowV (sv s.1) 3 1 (D.int .i64) r.2.1,rowV (sv s.2) 3 1 (D.int .i64) r.2.2.2])):=by
 unfold f7q at h
 refine enter Tryz.func39 z z ?_
 have hS:=Sep.startM hO hlt
 refine .g (.qn z (.seq (.seq (.rk 10 hS [0,0,0] T.mix ?_))))
 intro W hS
 have hT:=hS.to [0,0,0] z
 refine .tp 0 z z hT (by kernel_rfl) (.tp 1 z z hT (by kernel_rfl) (.ts 2 z (fun W hT=>fa T.f25_2 z z z) hT z (by kernel_rfl) (.ts 3 z (fun W hT=>ld T.t23 hT.p2 z z z z z) hT z (by kernel_rfl) (.tp 4 z z hT (by kernel_rfl) (.tp 5 z z hT (by kernel_rfl) (.ts 6 z (fun W hT=>fa T.f25_1 z z z) hT z (by kernel_rfl) (.ts 7 z (fun W hT=>ld T.t3 hT.p2 z z z z z) hT z (by kernel_rfl) ?_)))))))
 have ⟨y1,hy1,h⟩:=bnd h
 refine .by1 8 z (.call0 hS Tryz.func53 (fbk hy1 hS.p1.lendv) z z ?_ z z z z) (by kernel_rfl)
 intro W hS
 have hT:=hS.to [0,0,0] z
 refine ⟨fun _=>hT,.tp 9 z z hT (by kernel_rfl) (.done ?_ (by kernel_rfl))⟩
 refine .cs z h ?_ ?_ <;> intro h
 ·cases h
  exact .g (.qn z (.ret (fin_ret (vs:=[_]) (v_0_Regs,v_0_Mem) (rt z rn) z (hS.to [2,0,0] z))))
 refine .skip (.seq ?_)
 have ⟨x1,hx1,h⟩:=bnd h
 have ⟨y2,hy2,h⟩:=bnd h
 have ⟨y3,hy3,h⟩:=bnd h
 refine .via (R':=fun x E' W'=>x = .normal ∧ ∃ (g1 : Nat),SubL E' [(0,.pointer (some ⟨g_0,0,none⟩)),(3,.pointer (some ⟨g1,0,none⟩)),(4,.bool y3.2)] ∧ Sep S w W' [rowV (sv v_0_Regs) 3 1 (D.int .i64) a0.Regs,rowV (sv v_0_Mem) 3 1 (D.int .i64) a0.Mem,.box g_0 25 [(sv v_0_Regs),.int .i64 a0.Pc,(sv v_0_Mem)],.box g1 87 [.int .i64 y3.1.Op,.int .i64 y3.1.Rd,.int .i64 y3.1.Rs,.int .i64 y3.1.Rt,.int .i64 y3.1.Imm]]) ?_ ?_
 ·refine .rk 19 hS [0,0,0] T.mix ?_
  intro W hS
  have hT:=hS.to [0,0,0] z
  refine .tp 0 z z hT (by kernel_rfl) (.tp 1 z z hT (by kernel_rfl) (.ts 2 z (fun W hT=>fa T.f25_2 z z z) hT z (by kernel_rfl) (.ts 3 z (fun W hT=>ld T.t23 hT.p2 z z z z z) hT z (by kernel_rfl) (.tp 4 z z hT (by kernel_rfl) (.tp 5 z z hT (by kernel_rfl) (.ts 6 z (fun W hT=>fa T.f25_1 z z z) hT z (by kernel_rfl) (.ts 7 z (fun W hT=>ld T.t3 hT.p2 z z z z z) hT z (by kernel_rfl) (.tp 8 z z hT (by kernel_rfl) (.ts 9 z (fun W hT=>ixv hS.p1.lendv hx1 T.u23 T.t3 z z z) hT z (by kernel_rfl) (.ts 10 z (fun W hT=>lde (RV.flat hT.p1.lendv hx1 z) T.t3 z z z z z) hT z (by kernel_rfl) (.by [11,16] ⟨⟨_,z,?_⟩,⟨_,z,?_⟩,trivial⟩ (by kernel_rfl) z)))))))))))
  ·refine (.call0 hS Tryz.func55 (f37 hy2) z z ?_ z z z z)
   intro W hS
   have hT:=hS.to [0,0,0] z
   refine ⟨fun _=>hT,.by [12,16] ⟨⟨_,z,?_⟩,⟨_,z,?_⟩,trivial⟩ (by kernel_rfl) z⟩
   ·refine (.call0 hS Tryz.func54 (f79 hy3) z z ?_ z z z z)
    intro W hS
    have hT:=hS.to [0,0,0] z
    refine ⟨fun _=>hT,.tp 13 z z hT (by kernel_rfl) (.tp 14 z z hT (by kernel_rfl) (.tp 15 z z hT (by kernel_rfl) (.by1 16 z (.alloc T.t87 hS ?_ z z z) (by kernel_rfl))))⟩
    intro g2 W hS
    have hT:=hS.to [1,1,1] z
    refine ⟨fun _=>hT,.by1 17 z (.st T.t87 hS z z z ?_ z z z z z) (by kernel_rfl)⟩
    intro W hS
    have hT:=hS.to [1,1,1] z
    refine ⟨fun _=>hT,?_⟩
    exact .tp 18 z z hT (by kernel_rfl) (.done (⟨z,g2,sb z,hS.to [1,1,1,0] z⟩) (by kernel_rfl))
   refine (.alloc T.t87 hS ?_ z z z)
   intro g3 W hS
   have hT:=hS.to [1,1,1] z
   refine ⟨fun _=>hT,.by1 12 z (.call0 hS Tryz.func54 (f79 hy3) z z ?_ z z z z) (by kernel_rfl)⟩
   intro W hS
   have hT:=hS.to [1,1,1] z
   refine ⟨fun _=>hT,.tp 13 z z hT (by kernel_rfl) (.tp 14 z z hT (by kernel_rfl) (.tp 15 z z hT (by kernel_rfl) (.by1 17 z (.st T.t87 hS z z z ?_ z z z z z) (by kernel_rfl))))⟩
   intro W hS
   have hT:=hS.to [1,1,1] z
   refine ⟨fun _=>hT,?_⟩
   exact .tp 18 z z hT (by kernel_rfl) (.done (⟨z,g3,sb z,hS.to [1,1,1,0] z⟩) (by kernel_rfl))
  refine (.alloc T.t87 hS ?_ z z z)
  intro g4 W hS
  have hT:=hS.to [1,1,1] z
  refine ⟨fun _=>hT,.by1 11 z (.call0 hS Tryz.func55 (f37 hy2) z z ?_ z z z z) (by kernel_rfl)⟩
  intro W hS
  have hT:=hS.to [1,1,1] z
  refine ⟨fun _=>hT,.by1 12 z (.call0 hS Tryz.func54 (f79 hy3) z z ?_ z z z z) (by kernel_rfl)⟩
  intro W hS
  have hT:=hS.to [1,1,1] z
  refine ⟨fun _=>hT,.tp 13 z z hT (by kernel_rfl) (.tp 14 z z hT (by kernel_rfl) (.tp 15 z z hT (by kernel_rfl) (.by1 17 z (.st T.t87 hS z z z ?_ z z z z z) (by kernel_rfl))))⟩
  intro W hS
  have hT:=hS.to [1,1,1] z
  refine ⟨fun _=>hT,?_⟩
  exact .tp 18 z z hT (by kernel_rfl) (.done (⟨z,g4,sb z,hS.to [1,1,1,0] z⟩) (by kernel_rfl))
 intro x E W hJ
 obtain ⟨rfl,g5,hE,hS⟩:=hJ
 refine ⟨_,hE.sub,?_⟩
 refine .seq (.g (.q z (.q z (.nil ?_))))
 refine .cs z h ?_ ?_ <;> intro h
 ·cases h
  exact .g (.qn z (.ret (fin_ret (vs:=[_]) (v_0_Regs,v_0_Mem) (rt z rn) z (hS.to [2,0,0] z))))
 refine .skip (.seq (.g (.s (fa T.f87_0 z z z) z (.s (ld T.t3 hS.p3 z z z z z) z (.qn z (.cond z (fun hb=>?_) (fun hb=>?_)))))))
 ·have h:=sel_t hb h
  cases h
  exact .g (.qn z (.ret (fin_ret (vs:=[_]) (v_0_Regs,v_0_Mem) (rt z rn) z (hS.to [2,0,0] z))))
 have h:=sel_f hb h
 refine .skip (.seq (.g (.q z (.s (ld T.t87 hS.p3 z z z z z) z ?_))))
 have ⟨y4,hy4,h⟩:=bnd h
 have hS:=hS.p2
 have hS:=hS.p2
 have hS:=hS.p2
 refine .c (.callS2 (L0:=[rowV (sv v_0_Regs) 3 1 (D.int .i64) a0.Regs,rowV (sv v_0_Mem) 3 1 (D.int .i64) a0.Mem,.box g_0 25 [(sv v_0_Regs),.int .i64 a0.Pc,(sv v_0_Mem)]]) hS Tryz.func56 (fun S h1 h2 h3=>(ffh hy4 h2 (zz h1))) z z ?_ z z z z)
 rintro ⟨v1,v2⟩ W hS
 refine .q z (.nil ?_)
 refine .cs z h ?_ ?_ <;> intro h
 ·cases h
  exact .g (.qn z (.ret (fin_ret (vs:=[_]) (v1,v2) (rt z rn) z (hS.to [0,0,0] z))))
 cases h
 exact .skip (.g (.qn z (.ret (fin_ret (vs:=[_]) (v1,v2) (rt z rn) z (hS.to [0,0,0] z)))))
def fbn (w : World) (r : Machine × (List Int) × Int) : Env → World → Prop:=Fin Tryz.prog Tryz.f24 No w (fun s : Hd × Hd × Hd=>.tuple #[.agg #[(sv s.1),.int .i64 r.1.Pc,(sv s.2.1)],(sv s.2.2),.int .i64 r.2.2]) (fun s=>[rowV (sv s.1) 3 1 (D.int .i64) r.1.Regs,rowV (sv s.2.1) 3 1 (D.int .i64) r.1.Mem,rowV (sv s.2.2) 3 1 (D.int .i64) r.2.1]) .ret
theorem f1b {a0 : Machine} {a1 : Int} {v_0_Regs : Hd} {v_0_Mem : Hd} {w : World} {r : Machine × (List Int) × Int} (h : f4t a0 a1 = some r) (q_0_Regs : RV w (Old No w) (sv v_0_Regs) 3 1 (D.int .i64) a0.Regs) (q_0_Mem : RV w (Old No w) (sv v_0_Mem) 3 1 (D.int .i64) a0.Mem) : Calls Tryz.prog 24 #[.agg #[(sv v_0_Regs),.int .i64 a0.Pc,(sv v_0_Mem)],.int .i64 a1] w (Ret No w (fun s : Hd × Hd × Hd=>.tuple #[.agg #[(sv s.1),.int .i64 r.1.Pc,(sv s.2.1)],(sv s.2.2),.int .i64 r.2.2]) (fun s=>[rowV (sv s.1) 3 1 (D.int .i64) r.1.Regs,rowV (sv s.2.1) 3 1 (D.int .i64) r.1.Mem,rowV (sv s.2.2) 3 1 (D.int .i64) r.2.1])):=by
 unfold f4t at h
 refine enter Tryz.func24 z z ?_
 have hS:=Sep.start w
 refine .g (.c (.box hS z z ?_ z z))
 intro g1 W hS
 refine .c (.alloc T.t25 hS ?_ z z z)
 intro g2 W hS
 refine .q z (.qn z (.g (.c (.liv [] (D.int .i64) T.u23 T.t3 hS z z z z ?_ z (fun _=>z) z z z z))))
 intro v1 W hS
 refine .qn z (.seq (.g (.s (ld T.t25 hS.p2 z z z z z) z ?_)))
 have ⟨y1,hy1,h⟩:=bnd h
 refine .c (.call0 hS Tryz.func16 (fa5 hy1 (hS.keep q_0_Regs) (hS.keep q_0_Mem)) z z ?_ z z z z)
 intro W hS
 refine .q z (.q z ?_)
 have ⟨b1,hb1,h⟩:=bnd h
 refine .chunk 4 19 (b1) hS ?_ ?_
 ·refine .both (!y1) (fun hb=>?_) (fun hb=>?_)
  ·refine .xx hb z (.xx hb z (.xx hb z ?_))
   cases sel_t hb hb1
   exact .s (pkt hb z z z) z (.nil (ck 4 hS z z z z))
  have hg1:=hb
  have h:=sel_f hb hb1
  refine .g hg1 (.q z ?_) z
  have ⟨y2,hy2,h⟩:=bnd h
  refine .g hg1 (.c (.call0 hS Tryz.func28 (f06 hy2) z z ?_ z z z z)) z
  intro W hS
  refine .g hg1 (.q z (.s (pkf hg1 z z z) z ?_)) z
  cases h
  exact .nil (ck 4 hS z z z z)
 intro W hS
 refine .nil ?_
 refine .cs z h ?_ ?_ <;> intro h
 ·refine .g (.s (bs T.s25 z z) z (.q z (.c (.st T.t25 hS.p1 z z z ?_ z z z z z))))
  intro W hS
  refine .q z (.qn z (.ret ?_))
  have hS:=hS.nilv 3 1 (D.int .i64)
  have hS:=hS.nilv 3 1 (D.int .i64)
  cases h
  exact fin_ret (vs:=[_,_,_]) (nilH,nilH,v1) (rc hS.p2 T.t25 z (rt z (rt z rn)) z z) z (hS.to [1,0,1] z)
 refine .skip (.g (.s (ld T.t25 hS.p2 z z z z z) z ?_))
 have ⟨y3,hy3,h⟩:=bnd h
 refine .c (.call hS Tryz.func38 (fek hy3 (hS.keep q_0_Regs) (hS.keep q_0_Mem)) z z ?_ z z z z)
 rintro ⟨v2,v3⟩ W hS
 refine .c (.alloc T.t25 hS ?_ z z z)
 intro g3 W hS
 refine .c (.st T.t25 hS z z z ?_ z z z z z)
 intro W hS
 refine .nil (.seq (.g (.qn z (.block ?_))))
 have ⟨y4,hy4,h⟩:=bnd h
 refine .via (.iter (fun s1 E' W'=>∃ (v10 : Hd) (v11 : Hd) (v12 : Hd),SubL E' [(1,.int .i64 a1),(4,.pointer (some ⟨g2,0,none⟩)),(7,(sv v10)),(8,.pointer (some ⟨g3,0,none⟩)),(9,.int .i64 s1.2.1)] ∧ Sep No w W' [.box g3 25 [(sv v11),.int .i64 s1.2.2.2.1,(sv v12)],.box g2 25 [(sv nilH),.int .i64 0,(sv nilH)],.box g1 25 [(sv v_0_Regs),.int .i64 a0.Pc,(sv v_0_Mem)],rowV (sv v10) 3 1 (D.int .i64) s1.1,rowV (sv v11) 3 1 (D.int .i64) s1.2.2.1,rowV (sv v12) 3 1 (D.int .i64) s1.2.2.2.2]) (fun y5 x E' W'=>(match y5 with | .inl o1=>x = .ret ∧ fbn w o1 E' W' | .inr o2=>x = .exit 0 ∧ ∃ (v13 : Hd) (v14 : Hd) (v15 : Hd),SubL E' [(4,.pointer (some ⟨g2,0,none⟩)),(7,(sv v13)),(8,.pointer (some ⟨g3,0,none⟩))] ∧ Sep No w W' [.box g3 25 [(sv v14),.int .i64 o2.2.2.1,(sv v15)],.box g2 25 [(sv nilH),.int .i64 0,(sv nilH)],.box g1 25 [(sv v_0_Regs),.int .i64 a0.Pc,(sv v_0_Mem)],rowV (sv v13) 3 1 (D.int .i64) o2.1,rowV (sv v14) 3 1 (D.int .i64) o2.2.1,rowV (sv v15) 3 1 (D.int .i64) o2.2.2.2])) hy4 ⟨v1,v2,v3,sb rfl,hS.to [0,3,3,2,0,0] rfl⟩ ?_) ?_
 ·intro s1 y6 E W h hI
  obtain ⟨v7,v8,v9,hE,hS⟩:=hI
  refine CW.sub hE ?_
  unfold f4j at h
  refine .seq (.g (.q z (.q z (.qn z (.cond z (fun hb=>?_) (fun hb=>?_))))))
  ·have h:=sel_t hb h
   refine .skip ?_
   have ⟨y7,hy7,h⟩:=bnd h
   refine .seq (CW.via (R':=fun x E' W'=>(match y7 with | .inl o3=>x = .normal ∧ ∃ (v16 : Hd) (v17 : Hd) (v18 : Hd),SubL E' [(1,.int .i64 a1),(4,.pointer (some ⟨g2,0,none⟩)),(7,(sv v16)),(8,.pointer (some ⟨g3,0,none⟩)),(9,.int .i64 s1.2.1)] ∧ Sep No w W' [.box g3 25 [(sv v17),.int .i64 o3.2.2.1,(sv v18)],.box g2 25 [(sv nilH),.int .i64 0,(sv nilH)],.box g1 25 [(sv v_0_Regs),.int .i64 a0.Pc,(sv v_0_Mem)],rowV (sv v16) 3 1 (D.int .i64) o3.1,rowV (sv v17) 3 1 (D.int .i64) o3.2.1,rowV (sv v18) 3 1 (D.int .i64) o3.2.2.2] | .inr o4=>x = .ret ∧ fbn w o4 E' W')) ?_ ?_)
   ·have h:=hy7
    refine .block (.seq (.region ?_))
    have ⟨y8,hy8,h⟩:=bnd h
    have hS:=hS.p5
    have hS:=hS.p5
    refine .c (.callS2 (L0:=[rowV (sv v8) 3 1 (D.int .i64) s1.2.2.1,rowV (sv v9) 3 1 (D.int .i64) s1.2.2.2.2,.box g3 25 [(sv v8),.int .i64 s1.2.2.2.1,(sv v9)]]) hS Tryz.func39 (fun S h1 h2 h3=>(fet hy8 h2 (zz h1))) z z ?_ z z z z)
    rintro ⟨v19,v20⟩ W hS
    refine .qn z (.seq (.g (.q z (.q z (.nil ?_)))))
    refine .cs z h ?_ ?_ <;> intro h
    ·refine .exit ?_
     cases h
     exact ⟨z,v7,v19,v20,sb z,hS.to [0,2,2,2,0,0] z⟩
    refine .skip (.seq (.g (.q z (.q z (.q z ?_)))))
    have ⟨b2,hb2,h⟩:=bnd h
    refine .chunk 6 40 (b2) hS ?_ ?_
    ·refine .both (y8.1 != 2) (fun hb=>?_) (fun hb=>?_)
     ·refine .xx hb z (.xx hb z (.xx hb z (.xx hb z (.xx hb z ?_))))
      cases sel_t hb hb2
      exact .s (pkt hb z z z) z (.nil (ck 6 hS z z z z))
     have hg2:=hb
     have h:=sel_f hb hb2
     refine .g hg2 (.s (fa T.f25_0 z z z) z (.g hg2 (.s (ld T.t23 hS z z z z z) z ?_) z)) z
     have ⟨x1,hx1,h⟩:=bnd h
     refine .g hg2 (.s (ixv hS.p1.lendv hx1 T.u23 T.t3 z z z) z (.g hg2 (.s (lde (RV.flat hS.p1.lendv hx1 z) T.t3 z z z z z) z (.g hg2 (.q z (.s (pkf hg2 z z z) z ?_)) z)) z)) z
     cases h
     exact .nil (ck 6 hS z z z z)
    intro W hS
    refine .nil ?_
    refine .cs z h ?_ ?_ <;> intro h
    ·refine .g (.s (ld T.t25 hS z z z z z) z (.q z (.q z (.c (.st T.t25 hS.p3 z z z ?_ z z z z z)))))
     intro W hS
     refine .q z (.qn z (.ret ?_))
     cases h
     exact ⟨z,fin_ret (vs:=[_,_,_]) (v19,v20,v7) (rc hS T.t25 z (rt z (rt z rn)) z z) z (hS.to [2,2,3] z)⟩
    refine .skip (.g (.q z (.s (fa T.f25_0 z z z) z (.s (ld T.t23 hS z z z z z) z ?_))))
    have ⟨x2,hx2,h⟩:=bnd h
    refine .s (ixv hS.p1.lendv hx2 T.u23 T.t3 z z z) z (.s (lde (RV.flat hS.p1.lendv hx2 z) T.t3 z z z z z) z (.c (.liv [x2] (D.int .i64) T.u23 T.t3 hS z z z z ?_ z (fun _=>z) z z z z)))
    intro v21 W hS
    have ⟨r1,hr1,h⟩:=bnd h
    have hT0:=hS.p6
    refine .c (.apprv hr1 hT0 hT0.p1.lendv (fun _=>z) T.u23 T.t3 z z z ?_ z z z z z)
    intro v22 W hS
    refine .qn z (.region (.s (fa T.f25_1 z z z) z (.s (ld T.t3 hS.p2 z z z z z) z (.q z (.s (fa T.f25_1 z z z) z (.c (.st T.t3 hS.p2 z z z ?_ z z z z z)))))))
    intro W hS
    refine .nil ?_
    cases h
    exact ⟨z,v22,v19,v20,sb z,hS.to [0,4,4,0,1,1] z⟩
   intro x E W hJ
   rcases y7 with o5 | o6
   ·obtain ⟨rfl,v23,v24,v25,hE,hS⟩:=hJ
    refine ⟨_,hE.sub,?_⟩
    refine .region (.q z (.q z (.q z (.nil ?_))))
    cases h
    exact ⟨z,v23,v24,v25,sb z,hS.to [0,0,0,0,0,0] z⟩
   obtain ⟨rfl,hF⟩:=hJ
   refine ⟨_,fun _ _ h=>h,?_⟩
   cases h
   exact ⟨by simp,z,hF⟩
  have h:=sel_f hb h
  refine .exit ?_
  cases h
  exact ⟨by simp,z,v7,v8,v9,sb z,hS.to [0,0,0,0,0,0] z⟩
 intro x E W hJ
 rcases y4 with o7 | o8
 ·obtain ⟨rfl,hF⟩:=hJ
  refine ⟨_,fun _ _ h=>h,?_⟩
  cases h
  exact hF
 obtain ⟨rfl,v26,v27,v28,hE,hS⟩:=hJ
 refine ⟨_,hE.sub,?_⟩
 refine .g (.s (ld T.t25 hS z z z z z) z (.q z (.c (.st T.t25 hS.p1 z z z ?_ z z z z z))))
 intro W hS
 cases h
 exact .q z (.qn z (.ret (fin_ret (vs:=[_,_,_]) (v27,v28,v26) (rc hS T.t25 z (rt z (rt z rn)) z z) z (hS.to [4,4,3] z))))
end Go.Proofs.YtmpplggjpmmhlaaGreat.N
