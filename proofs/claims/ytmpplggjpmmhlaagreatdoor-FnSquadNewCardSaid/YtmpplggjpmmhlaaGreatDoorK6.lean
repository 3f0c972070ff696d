/- Printed by a program of mine: that the program's functions compute it. What a row says of its arguments, in the program logic's words: data types in general. What a package-level variable's laid datum says of its cells. -/
import Derived.Test.YtmpplggjpmmhlaaGreatDoorK5
import Derived.RowKit
import Derived.ChangeSlices
import Derived.ChangeArms
import Derived.WideShapes
import Derived.OpenShut
import Derived.LaidMore
import Derived.LaidLaws
import GoSem.ClaimJoined
set_option linter.unusedVariables false
set_option linter.unusedSimpArgs false
set_option maxRecDepth 100000
set_option maxHeartbeats 4000000
namespace Go.Proofs.YtmpplggjpmmhlaaGreatDoor.N
open Go.Proofs.YtmpplggjpmmhlaaGreatDoor.X
theorem fcj {a0 : Quad} {a1 : Int} {w : World} {r : (List Instr)} (h : f8j a0 a1 = some r) : Calls Tryz.prog 128 #[.agg #[.int .i64 a0.Op,.int .i64 a0.Dst,.int .i64 a0.A,.int .i64 a0.B,.int .i64 a0.N],.int .i64 a1] w (Ret No w (fun s : Hd=>(sv s)) (fun s=>[rowV (sv s) 32 5 dInstr r])):=by
 unfold f8j at h
 refine enter Tryz.func128 z z ?_
 have hS:=Sep.start w
 refine .g (.c (.box hS z z ?_ z z))
 intro g1 W hS
 refine .qn z (.seq (.rk 10 hS [0] T.mix ?_))
 intro W hS
 have hT:=hS.to [0] z
 refine .ts 0 z (fun W hT=>fa T.f126_2 z z z) hT z (by kernel_rfl) (.ts 1 z (fun W hT=>ld T.t3 hT z z z z z) hT z (by kernel_rfl) (.tp 2 z z hT (by kernel_rfl) (.ts 4 z (fun W hT=>fa T.f126_3 z z z) hT z (by kernel_rfl) (.ts 5 z (fun W hT=>ld T.t3 hT z z z z z) hT z (by kernel_rfl) (.tp 6 z z hT (by kernel_rfl) ?_)))))
 have ⟨y1,hy1,h⟩:=bnd h
 refine .by1 3 z (.call1v hS Tryz.func126 (f3m hy1) z z ?_ z z z z) (by kernel_rfl)
 intro v1 W hS
 have hT:=hS.to [1] z
 refine ⟨fun _=>hT,?_⟩
 have ⟨y2,hy2,h⟩:=bnd h
 refine .by1 7 z (.call1v hS Tryz.func126 (f3m hy2) z z ?_ z z z z) (by kernel_rfl)
 intro v2 W hS
 have hT:=hS.to [2] z
 refine ⟨fun _=>hT,?_⟩
 have ⟨r1,hr1,h⟩:=bnd h
 have hT0:=hS.p1
 refine .by1 8 z (.apprv hr1 hT0 hT0.p1.lendv (fun _=>z) T.u23 T.t32 z z z ?_ z z z z z) (by kernel_rfl)
 intro v3 W hS
 have hT:=hS.to [2] z
 refine ⟨fun _=>hT,.tp 9 z z hT (by kernel_rfl) (.done (.g (.s (fa T.f126_1 z z z) z (.s (ld T.t3 hS.p2 z z z z z) z (.q z ?_)))) (by kernel_rfl))⟩
 have ⟨y3,hy3,h⟩:=bnd h
 refine .c (.call0 hS Tryz.func123 (f23 hy3) z z ?_ z z z z)
 intro W hS
 refine .qn z (.seq (.rk 17 hS [1,1] T.mix ?_))
 intro W hS
 have hT:=hS.to [1,1] z
 refine .tp 0 z z hT (by kernel_rfl) (.ts 1 z (fun W hT=>fa T.f126_4 z z z) hT z (by kernel_rfl) (.ts 2 z (fun W hT=>ld T.t3 hT.p1 z z z z z) hT z (by kernel_rfl) (.tp 4 z z hT (by kernel_rfl) (.ts 5 z (fun W hT=>fa T.f126_2 z z z) hT z (by kernel_rfl) (.ts 6 z (fun W hT=>ld T.t3 hT.p1 z z z z z) hT z (by kernel_rfl) (.tp 7 z z hT (by kernel_rfl) (.ts 9 z (fun W hT=>fa T.f126_3 z z z) hT z (by kernel_rfl) (.ts 10 z (fun W hT=>ld T.t3 hT.p1 z z z z z) hT z (by kernel_rfl) (.tp 11 z z hT (by kernel_rfl) ?_)))))))))
 have ⟨y4,hy4,h⟩:=bnd h
 refine .by1 3 z (.call0 hS Tryz.func153 (fcq hy4) z z ?_ z z z z) (by kernel_rfl)
 intro W hS
 have hT:=hS.to [1,1] z
 refine ⟨fun _=>hT,?_⟩
 have ⟨y5,hy5,h⟩:=bnd h
 refine .by1 8 z (.call0 hS Tryz.func123 (f23 hy5) z z ?_ z z z z) (by kernel_rfl)
 intro W hS
 have hT:=hS.to [1,1] z
 refine ⟨fun _=>hT,?_⟩
 have ⟨y6,hy6,h⟩:=bnd h
 refine .by1 12 z (.call0 hS Tryz.func123 (f23 hy6) z z ?_ z z z z) (by kernel_rfl)
 intro W hS
 have hT:=hS.to [1,1] z
 refine ⟨fun _=>hT,.ts 13 z (fun W hT=>bs T.s32 z z) hT z (by kernel_rfl) (.by1 14 z (.liv [(Instr.mk y4 y3 y5 y6 0)] dInstr T.u23 T.t32 hS z z z z ?_ z (fun _=>z) z z z z) (by kernel_rfl))⟩
 intro v4 W hS
 have hT:=hS.to [2,2] z
 refine ⟨fun _=>hT,?_⟩
 have ⟨r2,hr2,h⟩:=bnd h
 have hT0:=hS.p1
 refine .by1 15 z (.apprv hr2 hT0 hT0.p1.lendv (fun _=>z) T.u23 T.t32 z z z ?_ z z z z z) (by kernel_rfl)
 intro v5 W hS
 have hT:=hS.to [2,2] z
 refine ⟨fun _=>hT,.tp 16 z z hT (by kernel_rfl) (.done ?_ (by kernel_rfl))⟩
 have ⟨y7,hy7,h⟩:=bnd h
 refine .seq (CW.via (R':=fun x E' W'=>x = .normal ∧ ∃ (v6 : Hd),SubL E' [(1,.int .i64 a1),(2,.pointer (some ⟨g1,0,none⟩)),(5,(sv v6))] ∧ Sep No w W' [rowV (sv v4) 32 5 dInstr [(Instr.mk y4 y3 y5 y6 0)],rowV (sv v2) 32 5 dInstr y2,.box g1 126 [.int .i64 a0.Op,.int .i64 a0.Dst,.int .i64 a0.A,.int .i64 a0.B,.int .i64 a0.N],rowV (sv v6) 32 5 dInstr y7]) ?_ ?_)
 ·have h:=hy7
  refine .g (.s (fa T.f126_4 z z z) z (.s (ld T.t3 hS.p3 z z z z z) z (.q z (.nil ?_))))
  refine .cs z h ?_ ?_ <;> intro h
  ·refine .region (.q z (.q z (.q z (.s (bs T.s32 z z) z (.c (.liv [(Instr.mk 13 y3 y3 0 1)] dInstr T.u23 T.t32 hS z z z z ?_ z (fun _=>z) z z z z))))))
   intro v7 W hS
   have ⟨r3,hr3,h⟩:=bnd h
   have hT0:=hS.p1
   refine .c (.apprv hr3 hT0 hT0.p1.lendv (fun _=>z) T.u23 T.t32 z z z ?_ z z z z z)
   intro v8 W hS
   refine .q z (.nil ?_)
   obtain rfl:=Option.some.inj h
   exact ⟨z,v8,sb z,hS.to [2,2,2,0] z⟩
  refine .skip ?_
  obtain rfl:=Option.some.inj h
  exact ⟨z,v5,sb z,hS.to [1,1,1,0] z⟩
 intro x E W hJ
 obtain ⟨rfl,v9,hE,hS⟩:=hJ
 refine ⟨_,hE.sub,?_⟩
 refine .g (.q z (.s (fa T.f126_1 z z z) z (.s (ld T.t3 hS.p2 z z z z z) z (.q z ?_))))
 have ⟨y8,hy8,h⟩:=bnd h
 have hS:=hS.p3
 refine .c (.callS2 (L0:=[rowV (sv v9) 32 5 dInstr y7]) hS Tryz.func124 (fun S h1 h2 h3=>(f4u hy8 h2 (zz h1))) z z ?_ z z z z)
 rintro v10 W hS
 obtain rfl:=Option.some.inj h
 exact .qn z (.ret (fin_ret (vs:=[_]) v10 (rt z rn) z (hS.to [0] z)))
theorem fbm {a0 : Quad} {a1 : Int} {a2 : Int} {w : World} {r : (List Instr)} (h : f81 a0 a1 a2 = some r) : Calls Tryz.prog 129 #[.agg #[.int .i64 a0.Op,.int .i64 a0.Dst,.int .i64 a0.A,.int .i64 a0.B,.int .i64 a0.N],.int .i64 a1,.int .i64 a2] w (Ret No w (fun s : Hd=>(sv s)) (fun s=>[rowV (sv s) 32 5 dInstr r])):=by
 unfold f81 at h
 refine enter Tryz.func129 z z ?_
 have hS:=Sep.start w
 refine .g (.c (.box hS z z ?_ z z))
 intro g1 W hS
 refine .qn z (.seq (.rk 12 hS [0] T.mix ?_))
 intro W hS
 have hT:=hS.to [0] z
 refine .ts 0 z (fun W hT=>fa T.f126_2 z z z) hT z (by kernel_rfl) (.ts 1 z (fun W hT=>ld T.t3 hT z z z z z) hT z (by kernel_rfl) (.tp 2 z z hT (by kernel_rfl) (.ts 4 z (fun W hT=>fa T.f126_2 z z z) hT z (by kernel_rfl) (.ts 5 z (fun W hT=>ld T.t3 hT z z z z z) hT z (by kernel_rfl) (.tp 6 z z hT (by kernel_rfl) ?_)))))
 have ⟨y1,hy1,h⟩:=bnd h
 refine .by1 3 z (.call1v hS Tryz.func126 (f3m hy1) z z ?_ z z z z) (by kernel_rfl)
 intro v1 W hS
 have hT:=hS.to [1] z
 refine ⟨fun _=>hT,?_⟩
 have ⟨y2,hy2,h⟩:=bnd h
 refine .by1 7 z (.call0 hS Tryz.func123 (f23 hy2) z z ?_ z z z z) (by kernel_rfl)
 intro W hS
 have hT:=hS.to [1] z
 refine ⟨fun _=>hT,.ts 8 z (fun W hT=>bs T.s32 z z) hT z (by kernel_rfl) (.by1 9 z (.liv [(Instr.mk 18 0 y2 0 8)] dInstr T.u23 T.t32 hS z z z z ?_ z (fun _=>z) z z z z) (by kernel_rfl))⟩
 intro v2 W hS
 have hT:=hS.to [2] z
 refine ⟨fun _=>hT,?_⟩
 have ⟨r1,hr1,h⟩:=bnd h
 have hT0:=hS.p1
 refine .by1 10 z (.apprv hr1 hT0 hT0.p1.lendv (fun _=>z) T.u23 T.t32 z z z ?_ z z z z z) (by kernel_rfl)
 intro v3 W hS
 have hT:=hS.to [2] z
 refine ⟨fun _=>hT,.tp 11 z z hT (by kernel_rfl) (.done (.g (.q z (.q z (.q z (.s (lenv hS.lendv T.u23 z z) z (.q z (.q z (.s (bs T.s32 z z) z (.c (.liv [(Instr.mk 20 0 0 0 (w64 (a2 - (w64 (4 * (r1.length : Int))))))] dInstr T.u23 T.t32 hS z z z z ?_ z (fun _=>z) z z z z)))))))))) (by kernel_rfl))⟩
 intro v4 W hS
 have ⟨r2,hr2,h⟩:=bnd h
 have hT0:=hS.p1
 refine .c (.apprv hr2 hT0 hT0.p1.lendv (fun _=>z) T.u23 T.t32 z z z ?_ z z z z z)
 intro v5 W hS
 obtain rfl:=Option.some.inj h
 exact .qn z (.ret (fin_ret (vs:=[_]) v5 (rt z rn) z (hS.to [0] z)))
theorem f3k {a0 : List Instr} {a1 : Int} {v_0 : Hd} {S : Nat → Prop} {w : World} {r : (List Instr)} (h : f1r a0 a1 = some r) (hO : Owns w [rowV (sv v_0) 32 5 dInstr a0] S) (hlt : ∀ b,S b → b < w.heap.size) : Calls Tryz.prog 130 #[(sv v_0),.int .i64 a1] w (Ret S w (fun s : Hd=>(sv s)) (fun s=>[rowV (sv s) 32 5 dInstr r])):=by
 unfold f1r at h
 refine enter Tryz.func130 z z ?_
 have hS:=Sep.startM hO hlt
 refine .g (.qn z (.g (.q z (.q z (.s (bs T.s32 z z) z (.c (.liv [(Instr.mk 12 17 0 0 a1)] dInstr T.u23 T.t32 hS z z z z ?_ z (fun _=>z) z z z z)))))))
 intro v1 W hS
 have ⟨r1,hr1,h⟩:=bnd h
 have hT0:=hS.p1
 refine .c (.apprv hr1 hT0 hT0.p1.lendv (fun _=>z) T.u23 T.t32 z z z ?_ z z z z z)
 intro v2 W hS
 refine .qn z (.g (.q z (.s (bs T.s32 z z) z (.c (.liv [(Instr.mk 15 1 0 0 0)] dInstr T.u23 T.t32 hS z z z z ?_ z (fun _=>z) z z z z)))))
 intro v3 W hS
 have ⟨r2,hr2,h⟩:=bnd h
 have hT0:=hS.p1
 refine .c (.apprv hr2 hT0 hT0.p1.lendv (fun _=>z) T.u23 T.t32 z z z ?_ z z z z z)
 intro v4 W hS
 obtain rfl:=Option.some.inj h
 exact .qn z (.ret (fin_ret (vs:=[_]) v4 (rt z rn) z (hS.to [0] z)))
theorem f98 {a0 : Int} {a1 : Int} {w : World} {r : (List Instr)} (h : f49 a0 a1 = some r) : Calls Tryz.prog 131 #[.int .i64 a0,.int .i64 a1] w (Ret No w (fun s : Hd=>(sv s)) (fun s=>[rowV (sv s) 32 5 dInstr r])):=by
 unfold f49 at h
 refine enter Tryz.func131 z z ?_
 have hS:=Sep.start w
 refine .g (.qn z (.g (.q z (.q z ?_))))
 have ⟨y1,hy1,h⟩:=bnd h
 refine .c (.call1v hS Tryz.func126 (f3m hy1) z z ?_ z z z z)
 intro v1 W hS
 refine .q z (.q z ?_)
 have ⟨y2,hy2,h⟩:=bnd h
 refine .c (.call0 hS Tryz.func123 (f23 hy2) z z ?_ z z z z)
 intro W hS
 have ⟨y3,hy3,h⟩:=bnd h
 refine .c (.call0 hS Tryz.func127 (f88 hy3) z z ?_ z z z z)
 intro W hS
 refine .c (.liv [y3] dInstr T.u23 T.t32 hS z z z z ?_ z (fun _=>z) z z z z)
 intro v2 W hS
 have ⟨r1,hr1,h⟩:=bnd h
 have hT0:=hS.p1
 refine .c (.apprv hr1 hT0 hT0.p1.lendv (fun _=>z) T.u23 T.t32 z z z ?_ z z z z z)
 intro v3 W hS
 obtain rfl:=Option.some.inj h
 exact .qn z (.ret (fin_ret (vs:=[_]) v3 (rt z rn) z (hS.to [0] z)))
theorem f99 {a0 : Int} {w : World} {r : Instr} (h : f5o a0 = some r) : Calls Tryz.prog 132 #[.int .i64 a0] w (Ret No w (fun s : Unit=>.agg #[.int .i64 r.Op,.int .i64 r.Rd,.int .i64 r.Rs,.int .i64 r.Rt,.int .i64 r.Imm]) (fun s=>[])):=by
 unfold f5o at h
 refine enter Tryz.func132 z z ?_
 have hS:=Sep.start w
 refine .g (.c (.alloc T.t32 hS ?_ z z z))
 intro g1 W hS
 refine .nil (.g (.q z (.s (bs T.s32 z z) z (.c (.st T.t32 hS z z z ?_ z z z z z)))))
 intro W hS
 cases h
 exact .nil (.ret (fin_ret (vs:=[_]) () (rc hS T.t32 z rn z z) z (hS.to [] z)))
theorem f8z {a0 : Quad} {a1 : Int} {a2 : Int} {w : World} {r : (List Instr)} (h : f40 a0 a1 a2 = some r) : Calls Tryz.prog 101 #[.agg #[.int .i64 a0.Op,.int .i64 a0.Dst,.int .i64 a0.A,.int .i64 a0.B,.int .i64 a0.N],.int .i64 a1,.int .i64 a2] w (Ret No w (fun s : Hd=>(sv s)) (fun s=>[rowV (sv s) 32 5 dInstr r])):=by
 unfold f40 at h
 refine enter Tryz.func101 z z ?_
 have hS:=Sep.start w
 refine .g (.c (.box hS z z ?_ z z))
 intro g1 W hS
 refine .qn z (.g (.s (fa T.f126_1 z z z) z (.s (ld T.t3 hS z z z z z) z (.q z ?_))))
 have ⟨y1,hy1,h⟩:=bnd h
 refine .c (.call0 hS Tryz.func123 (f23 hy1) z z ?_ z z z z)
 intro W hS
 refine .qn z (.seq (.g (.s (fa T.f126_0 z z z) z (.s (ld T.t3 hS z z z z z) z (.nil (.block (.g (.q z (.qn z (.cond z (fun hb=>?_) (fun hb=>?_)))))))))))
 ·have h:=sel_t hb h
  refine .seq (.rk 9 hS [0] T.mix ?_)
  intro W hS
  have hT:=hS.to [0] z
  refine .tp 0 z z hT (by kernel_rfl) (.ts 1 z (fun W hT=>fa T.f126_4 z z z) hT z (by kernel_rfl) (.ts 2 z (fun W hT=>ld T.t3 hT z z z z z) hT z (by kernel_rfl) (.ts 4 z (fun W hT=>fa T.f126_1 z z z) hT z (by kernel_rfl) (.ts 5 z (fun W hT=>ld T.t3 hT z z z z z) hT z (by kernel_rfl) (.tp 6 z z hT (by kernel_rfl) ?_)))))
  have ⟨y2,hy2,h⟩:=bnd h
  refine .by1 3 z (.call1v hS Tryz.func125 (fax hy2) z z ?_ z z z z) (by kernel_rfl)
  intro v1 W hS
  have hT:=hS.to [1] z
  refine ⟨fun _=>hT,?_⟩
  have ⟨y3,hy3,h⟩:=bnd h
  refine .by1 7 z (.callS2 (L0:=[rowV (sv v1) 32 5 dInstr y2]) hS Tryz.func124 (fun S h1 h2 h3=>(f4u hy3 h2 (zz h1))) z z ?_ z z z z) (by kernel_rfl)
  rintro v2 W hS
  have hT:=hS.to [1] z
  refine ⟨fun _=>hT,?_⟩
  obtain rfl:=Option.some.inj h
  exact .tp 8 z z hT (by kernel_rfl) (.done (.ret (fin_ret (vs:=[_]) v2 (rt z rn) z (hS.to [0] z))) (by kernel_rfl))
 have h:=sel_f hb h
 refine .g (.q z (.qn z (.cond z (fun hb=>?_) (fun hb=>?_))))
 ·have h:=sel_t hb h
  refine .seq (.rk 17 hS [0] T.mix ?_)
  intro W hS
  have hT:=hS.to [0] z
  refine .ts 0 z (fun W hT=>fa T.f126_2 z z z) hT z (by kernel_rfl) (.ts 1 z (fun W hT=>ld T.t3 hT z z z z z) hT z (by kernel_rfl) (.tp 2 z z hT (by kernel_rfl) (.tp 4 z z hT (by kernel_rfl) (.ts 5 z (fun W hT=>fa T.f126_2 z z z) hT z (by kernel_rfl) (.ts 6 z (fun W hT=>ld T.t3 hT z z z z z) hT z (by kernel_rfl) (.tp 7 z z hT (by kernel_rfl) (.ts 12 z (fun W hT=>fa T.f126_1 z z z) hT z (by kernel_rfl) (.ts 13 z (fun W hT=>ld T.t3 hT z z z z z) hT z (by kernel_rfl) (.tp 14 z z hT (by kernel_rfl) ?_)))))))))
  have ⟨y4,hy4,h⟩:=bnd h
  refine .by1 3 z (.call1v hS Tryz.func126 (f3m hy4) z z ?_ z z z z) (by kernel_rfl)
  intro v3 W hS
  have hT:=hS.to [1] z
  refine ⟨fun _=>hT,?_⟩
  have ⟨y5,hy5,h⟩:=bnd h
  refine .by1 8 z (.call0 hS Tryz.func123 (f23 hy5) z z ?_ z z z z) (by kernel_rfl)
  intro W hS
  have hT:=hS.to [1] z
  refine ⟨fun _=>hT,?_⟩
  have ⟨y6,hy6,h⟩:=bnd h
  refine .by1 9 z (.call0 hS Tryz.func127 (f88 hy6) z z ?_ z z z z) (by kernel_rfl)
  intro W hS
  have hT:=hS.to [1] z
  refine ⟨fun _=>hT,.by1 10 z (.liv [y6] dInstr T.u23 T.t32 hS z z z z ?_ z (fun _=>z) z z z z) (by kernel_rfl)⟩
  intro v4 W hS
  have hT:=hS.to [2] z
  refine ⟨fun _=>hT,?_⟩
  have ⟨r1,hr1,h⟩:=bnd h
  have hT0:=hS.p1
  refine .by1 11 z (.apprv hr1 hT0 hT0.p1.lendv (fun _=>z) T.u23 T.t32 z z z ?_ z z z z z) (by kernel_rfl)
  intro v5 W hS
  have hT:=hS.to [2] z
  refine ⟨fun _=>hT,?_⟩
  have ⟨y7,hy7,h⟩:=bnd h
  refine .by1 15 z (.callS2 (L0:=[rowV (sv v5) 32 5 dInstr r1]) hS Tryz.func124 (fun S h1 h2 h3=>(f4u hy7 h2 (zz h1))) z z ?_ z z z z) (by kernel_rfl)
  rintro v6 W hS
  have hT:=hS.to [2] z
  refine ⟨fun _=>hT,?_⟩
  obtain rfl:=Option.some.inj h
  exact .tp 16 z z hT (by kernel_rfl) (.done (.ret (fin_ret (vs:=[_]) v6 (rt z rn) z (hS.to [0] z))) (by kernel_rfl))
 have h:=sel_f hb h
 refine .g (.q z (.q z (.nil ?_)))
 refine .cs z h ?_ ?_ <;> intro h
 ·refine .g (.s (ld T.t126 hS z z z z z) z (.q z ?_))
  have ⟨y8,hy8,h⟩:=bnd h
  refine .c (.call1v hS Tryz.func128 (fcj hy8) z z ?_ z z z z)
  intro v7 W hS
  obtain rfl:=Option.some.inj h
  exact .qn z (.ret (fin_ret (vs:=[_]) v7 (rt z rn) z (hS.to [0] z)))
 refine .g (.q z (.q z (.nil ?_)))
 refine .cs z h ?_ ?_ <;> intro h
 ·refine .g (.q z (.s (bs T.s32 z z) z (.c (.liv [(Instr.mk 20 0 0 0 a2)] dInstr T.u23 T.t32 hS z z z z ?_ z (fun _=>z) z z z z))))
  intro v8 W hS
  cases h
  exact .qn z (.ret (fin_ret (vs:=[_]) v8 (rt z rn) z (hS.to [0] z)))
 refine .g (.q z (.q z (.nil ?_)))
 refine .cs z h ?_ ?_ <;> intro h
 ·refine .g (.s (ld T.t126 hS z z z z z) z (.q z (.q z ?_)))
  have ⟨y9,hy9,h⟩:=bnd h
  refine .c (.call1v hS Tryz.func129 (fbm hy9) z z ?_ z z z z)
  intro v9 W hS
  obtain rfl:=Option.some.inj h
  exact .qn z (.ret (fin_ret (vs:=[_]) v9 (rt z rn) z (hS.to [0] z)))
 refine .g (.q z (.qn z (.cond z (fun hb=>?_) (fun hb=>?_))))
 ·have h:=sel_t hb h
  refine .seq (.rk 11 hS [0] T.mix ?_)
  intro W hS
  have hT:=hS.to [0] z
  refine .ts 0 z (fun W hT=>fa T.f126_2 z z z) hT z (by kernel_rfl) (.ts 1 z (fun W hT=>ld T.t3 hT z z z z z) hT z (by kernel_rfl) (.tp 2 z z hT (by kernel_rfl) (.ts 4 z (fun W hT=>fa T.f126_4 z z z) hT z (by kernel_rfl) (.ts 5 z (fun W hT=>ld T.t3 hT z z z z z) hT z (by kernel_rfl) ?_))))
  have ⟨y10,hy10,h⟩:=bnd h
  refine .by1 3 z (.call1v hS Tryz.func131 (f98 hy10) z z ?_ z z z z) (by kernel_rfl)
  intro v10 W hS
  have hT:=hS.to [1] z
  refine ⟨fun _=>hT,?_⟩
  have ⟨y11,hy11,h⟩:=bnd h
  refine .by1 6 z (.call0 hS Tryz.func132 (f99 hy11) z z ?_ z z z z) (by kernel_rfl)
  intro W hS
  have hT:=hS.to [1] z
  refine ⟨fun _=>hT,.by1 7 z (.liv [y11] dInstr T.u23 T.t32 hS z z z z ?_ z (fun _=>z) z z z z) (by kernel_rfl)⟩
  intro v11 W hS
  have hT:=hS.to [2] z
  refine ⟨fun _=>hT,?_⟩
  have ⟨r2,hr2,h⟩:=bnd h
  have hT0:=hS.p1
  refine .by1 8 z (.apprv hr2 hT0 hT0.p1.lendv (fun _=>z) T.u23 T.t32 z z z ?_ z z z z z) (by kernel_rfl)
  intro v12 W hS
  have hT:=hS.to [2] z
  refine ⟨fun _=>hT,?_⟩
  have ⟨y12,hy12,h⟩:=bnd h
  refine .by1 9 z (.callS2 (L0:=[rowV (sv v12) 32 5 dInstr r2]) hS Tryz.func130 (fun S h1 h2 h3=>(f3k hy12 h2 (zz h1))) z z ?_ z z z z) (by kernel_rfl)
  rintro v13 W hS
  have hT:=hS.to [2] z
  refine ⟨fun _=>hT,?_⟩
  obtain rfl:=Option.some.inj h
  exact .tp 10 z z hT (by kernel_rfl) (.done (.ret (fin_ret (vs:=[_]) v13 (rt z rn) z (hS.to [0] z))) (by kernel_rfl))
 have h:=sel_f hb h
 refine .g (.q z (.qn z (.cond z (fun hb=>?_) (fun hb=>?_))))
 ·have h:=sel_t hb h
  refine .g (.s (fa T.f126_4 z z z) z (.s (ld T.t3 hS z z z z z) z ?_))
  have ⟨y13,hy13,h⟩:=bnd h
  refine .c (.call0 hS Tryz.func132 (f99 hy13) z z ?_ z z z z)
  intro W hS
  refine .c (.liv [y13] dInstr T.u23 T.t32 hS z z z z ?_ z (fun _=>z) z z z z)
  intro v14 W hS
  have ⟨y14,hy14,h⟩:=bnd h
  refine .c (.callS2 (L0:=[rowV (sv v14) 32 5 dInstr [y13]]) hS Tryz.func130 (fun S h1 h2 h3=>(f3k hy14 h2 (zz h1))) z z ?_ z z z z)
  rintro v15 W hS
  refine .qn z (.seq (.rk 10 hS [1] T.mix ?_))
  intro W hS
  have hT:=hS.to [1] z
  refine .tp 0 z z hT (by kernel_rfl) (.tp 1 z z hT (by kernel_rfl) (.ts 5 z (fun W hT=>fa T.f126_1 z z z) hT z (by kernel_rfl) (.ts 6 z (fun W hT=>ld T.t3 hT z z z z z) hT z (by kernel_rfl) (.tp 7 z z hT (by kernel_rfl) ?_))))
  have ⟨y15,hy15,h⟩:=bnd h
  refine .by1 2 z (.call0 hS Tryz.func127 (f88 hy15) z z ?_ z z z z) (by kernel_rfl)
  intro W hS
  have hT:=hS.to [1] z
  refine ⟨fun _=>hT,.by1 3 z (.liv [y15] dInstr T.u23 T.t32 hS z z z z ?_ z (fun _=>z) z z z z) (by kernel_rfl)⟩
  intro v16 W hS
  have hT:=hS.to [2] z
  refine ⟨fun _=>hT,?_⟩
  have ⟨r3,hr3,h⟩:=bnd h
  have hT0:=hS.p1
  refine .by1 4 z (.apprv hr3 hT0 hT0.p1.lendv (fun _=>z) T.u23 T.t32 z z z ?_ z z z z z) (by kernel_rfl)
  intro v17 W hS
  have hT:=hS.to [2] z
  refine ⟨fun _=>hT,?_⟩
  have ⟨y16,hy16,h⟩:=bnd h
  refine .by1 8 z (.callS2 (L0:=[rowV (sv v17) 32 5 dInstr r3]) hS Tryz.func124 (fun S h1 h2 h3=>(f4u hy16 h2 (zz h1))) z z ?_ z z z z) (by kernel_rfl)
  rintro v18 W hS
  have hT:=hS.to [2] z
  refine ⟨fun _=>hT,?_⟩
  obtain rfl:=Option.some.inj h
  exact .tp 9 z z hT (by kernel_rfl) (.done (.ret (fin_ret (vs:=[_]) v18 (rt z rn) z (hS.to [0] z))) (by kernel_rfl))
 have h:=sel_f hb h
 refine .g (.q z (.qn z (.cond z (fun hb=>?_) (fun hb=>?_))))
 ·have h:=sel_t hb h
  refine .g (.c (.liv [] dInstr T.u23 T.t32 hS z z z z ?_ z (fun _=>z) z z z z))
  intro v19 W hS
  have ⟨y17,hy17,h⟩:=bnd h
  refine .c (.callS2 (L0:=[rowV (sv v19) 32 5 dInstr []]) hS Tryz.func130 (fun S h1 h2 h3=>(f3k hy17 h2 (zz h1))) z z ?_ z z z z)
  rintro v20 W hS
  obtain rfl:=Option.some.inj h
  exact .qn z (.ret (fin_ret (vs:=[_]) v20 (rt z rn) z (hS.to [0] z)))
 have h:=sel_f hb h
 refine .g (.q z (.qn z (.cond z (fun hb=>?_) (fun hb=>?_))))
 ·have h:=sel_t hb h
  refine .g (.s (fa T.f126_2 z z z) z (.s (ld T.t3 hS z z z z z) z (.q z ?_)))
  have ⟨y18,hy18,h⟩:=bnd h
  refine .c (.call1v hS Tryz.func131 (f98 hy18) z z ?_ z z z z)
  intro v21 W hS
  have ⟨y19,hy19,h⟩:=bnd h
  refine .c (.callS2 (L0:=[rowV (sv v21) 32 5 dInstr y18]) hS Tryz.func130 (fun S h1 h2 h3=>(f3k hy19 h2 (zz h1))) z z ?_ z z z z)
  rintro v22 W hS
  obtain rfl:=Option.some.inj h
  exact .qn z (.ret (fin_ret (vs:=[_]) v22 (rt z rn) z (hS.to [0] z)))
 have h:=sel_f hb h
 refine .skip (.g (.c (.liv [] dInstr T.u23 T.t32 hS z z z z ?_ z (fun _=>z) z z z z)))
 intro v23 W hS
 have ⟨y20,hy20,h⟩:=bnd h
 refine .c (.callS2 (L0:=[rowV (sv v23) 32 5 dInstr []]) hS Tryz.func130 (fun S h1 h2 h3=>(f3k hy20 h2 (zz h1))) z z ?_ z z z z)
 rintro v24 W hS
 obtain rfl:=Option.some.inj h
 exact .qn z (.ret (fin_ret (vs:=[_]) v24 (rt z rn) z (hS.to [0] z)))
theorem fa7 {a0 : List Quad} {a1 : Int} {v_0 : Hd} {w : World} {r : (List Int)} (h : f4f a0 a1 = some r) (q_0 : RV w (Old No w) (sv v_0) 126 5 dQuad a0) : Calls Tryz.prog 100 #[(sv v_0),.int .i64 a1] w (Ret No w (fun s : Hd=>(sv s)) (fun s=>[rowV (sv s) 3 1 (D.int .i64) r])):=by
 unfold f4f at h
 refine enter Tryz.func100 z z ?_
 have hS:=Sep.start w
 refine .g (.qn z (.g (.c (.liv [] (D.int .i64) T.u25 T.t3 hS z z z z ?_ z (fun _=>z) z z z z))))
 intro v1 W hS
 refine .qn z (.g (.qn z (.seq (.g (.qn z (.block ?_))))))
 have ⟨y1,hy1,h⟩:=bnd h
 refine .via (.iter (fun s1 E' W'=>∃ (v4 : Hd),SubL E' [(0,(sv v_0)),(1,.int .i64 a1),(5,(sv v4)),(6,.int .i64 s1.2.1),(7,.int .i64 s1.2.2)] ∧ Sep No w W' [rowV (sv v4) 3 1 (D.int .i64) s1.1]) (fun y2 x E' W'=>x = .exit 0 ∧ ∃ (v5 : Hd),SubL E' [(5,(sv v5))] ∧ Sep No w W' [rowV (sv v5) 3 1 (D.int .i64) y2]) hy1 ⟨v1,sb z,hS.to [0] z⟩ ?_) ?_
 ·intro s1 y3 E W h hI
  obtain ⟨v3,hE,hS⟩:=hI
  refine CW.sub hE ?_
  unfold f6y at h
  refine .seq (.g (.q z (.q z (.s (lenv (hS.keep q_0) T.u104 z z) z (.q z (.nil ?_))))))
  refine .cs z h ?_ ?_ <;> intro h
  ·refine .skip (.seq (.block (.g (.q z (.q z (.c (.liv [s1.2.1] (D.int .i64) T.u25 T.t3 hS z z z z ?_ z (fun _=>z) z z z z)))))))
   intro v6 W hS
   have ⟨r1,hr1,h⟩:=bnd h
   have hT0:=hS.p1
   refine .c (.apprv hr1 hT0 hT0.p1.lendv (fun _=>z) T.u25 T.t3 z z z ?_ z z z z z)
   intro v7 W hS
   refine .qn z (.region (.q z (.q z (.q z ?_))))
   have ⟨x1,hx1,h⟩:=bnd h
   refine .s (ixv (hS.keep q_0) hx1 T.u104 T.t126 z z z) z (.s (lde (RV.flat (hS.keep q_0) hx1 z) T.t126 z z z z z) z (.q z ?_))
   have ⟨y4,hy4,h⟩:=bnd h
   refine .c (.call1v hS Tryz.func101 (f8z hy4) z z ?_ z z z z)
   intro v8 W hS
   refine .s (lenv hS.lendv T.u23 z z) z (.q z (.qn z (.region (.q z (.q z (.q z (.nil ?_)))))))
   cases h
   exact ⟨z,v7,sb z,hS.to [1] z⟩
  refine .exit ?_
  cases h
  exact ⟨by simp,z,v3,sb z,hS.to [0] z⟩
 intro x E W hJ
 obtain ⟨rfl,v9,hE,hS⟩:=hJ
 refine ⟨_,hE.sub,?_⟩
 obtain rfl:=Option.some.inj h
 exact .g (.q z (.qn z (.ret (fin_ret (vs:=[_]) v9 (rt z rn) z (hS.to [0] z)))))
theorem fbp {a0 : List Quad} {a1 : Int} {v_0 : Hd} {w : World} {r : (List Instr)} (h : f64 a0 a1 = some r) (q_0 : RV w (Old No w) (sv v_0) 126 5 dQuad a0) : Calls Tryz.prog 66 #[(sv v_0),.int .i64 a1] w (Ret No w (fun s : Hd=>(sv s)) (fun s=>[rowV (sv s) 32 5 dInstr r])):=by
 unfold f64 at h
 refine enter Tryz.func66 z z ?_
 have hS:=Sep.start w
 refine .g (.qn z (.g (.q z (.q z ?_))))
 have ⟨y1,hy1,h⟩:=bnd h
 refine .c (.call1v hS Tryz.func100 (fa7 hy1 (hS.keep q_0)) z z ?_ z z z z)
 intro v1 W hS
 refine .qn z (.g (.c (.liv [] dInstr T.u23 T.t32 hS z z z z ?_ z (fun _=>z) z z z z)))
 intro v2 W hS
 refine .qn z (.seq (.g (.qn z (.block ?_))))
 have ⟨y2,hy2,h⟩:=bnd h
 refine .via (.iter (fun s1 E' W'=>∃ (v5 : Hd),SubL E' [(0,(sv v_0)),(1,.int .i64 a1),(5,(sv v1)),(6,(sv v5)),(7,.int .i64 s1.2)] ∧ Sep No w W' [rowV (sv v1) 3 1 (D.int .i64) y1,rowV (sv v5) 32 5 dInstr s1.1]) (fun y3 x E' W'=>x = .exit 0 ∧ ∃ (v6 : Hd),SubL E' [(6,(sv v6))] ∧ Sep No w W' [rowV (sv v1) 3 1 (D.int .i64) y1,rowV (sv v6) 32 5 dInstr y3]) hy2 ⟨v2,sb z,hS.to [1,0] z⟩ ?_) ?_
 ·intro s1 y4 E W h hI
  obtain ⟨v4,hE,hS⟩:=hI
  refine CW.sub hE ?_
  unfold f8a at h
  refine .seq (.g (.q z (.q z (.s (lenv (hS.keep q_0) T.u104 z z) z (.q z (.nil ?_))))))
  refine .cs z h ?_ ?_ <;> intro h
  ·refine .skip (.seq (.block (.g (.q z (.nil ?_)))))
   have ⟨y5,hy5,h⟩:=bnd h
   refine .seq (CW.via (R':=fun x E' W'=>x = .normal ∧ SubL E' [(0,(sv v_0)),(1,.int .i64 a1),(5,(sv v1)),(6,(sv v4)),(7,.int .i64 s1.2),(8,.int .i64 y5)] ∧ Sep No w W' [rowV (sv v1) 3 1 (D.int .i64) y1,rowV (sv v4) 32 5 dInstr s1.1]) ?_ ?_)
   ·have h:=hy5
    refine .g (.q z (.q z ?_))
    have ⟨x1,hx1,h⟩:=bnd h
    refine .s (ixv (hS.keep q_0) hx1 T.u104 T.t126 z z z) z (.s (fe T.f126_0 z z z) z (.s (lde (RV.flat (hS.keep q_0) hx1 z) T.t3 z z z z z) z (.q z (.q z ?_))))
    have ⟨b1,hb1,h⟩:=bnd h
    refine .chunk 7 32 (b1) hS ?_ ?_
    ·refine .both (x1.Op == 4) (fun hb=>?_) (fun hb=>?_)
     ·refine .xx hb z (.xx hb z (.xx hb z (.xx hb z (.xx hb z (.xx hb z ?_)))))
      cases sel_t hb hb1
      exact .s (pkt hb z z z) z (.nil (ck 7 hS z z z z))
     have hg1:=hb
     have h:=sel_f hb hb1
     refine .g hg1 (.q z (.g hg1 (.q z ?_) z)) z
     have ⟨x2,hx2,h⟩:=bnd h
     refine .g hg1 (.s (ixv (hS.keep q_0) hx2 T.u104 T.t126 z z z) z (.g hg1 (.s (fe T.f126_0 z z z) z (.g hg1 (.s (lde (RV.flat (hS.keep q_0) hx2 z) T.t3 z z z z z) z (.g hg1 (.q z (.s (pkf hg1 z z z) z ?_)) z)) z)) z)) z
     cases h
     exact .nil (ck 7 hS z z z z)
    intro W hS
    refine .nil ?_
    refine .cs z h ?_ ?_ <;> intro h
    ·refine .rk 15 hS [0,0] T.mix ?_
     intro W hS
     have hT:=hS.to [0,0] z
     refine .tp 0 z z hT (by kernel_rfl) (.tp 1 z z hT (by kernel_rfl) (.tp 2 z z hT (by kernel_rfl) ?_))
     have ⟨x3,hx3,h⟩:=bnd h
     refine .ts 3 z (fun W hT=>ixv (hS.keep q_0) hx3 T.u104 T.t126 z z z) hT z (by kernel_rfl) (.ts 4 z (fun W hT=>fe T.f126_4 z z z) hT z (by kernel_rfl) (.ts 5 z (fun W hT=>lde (RV.flat (hT.keep q_0) hx3 z) T.t3 z z z z z) hT z (by kernel_rfl) ?_))
     have ⟨x4,hx4,h⟩:=bnd h
     refine .ts 6 z (fun W hT=>ixv hS.lendv hx4 T.u25 T.t3 z z z) hT z (by kernel_rfl) (.ts 7 z (fun W hT=>lde (RV.flat hT.lendv hx4 z) T.t3 z z z z z) hT z (by kernel_rfl) (.tp 8 z z hT (by kernel_rfl) (.tp 9 z z hT (by kernel_rfl) ?_)))
     have ⟨x5,hx5,h⟩:=bnd h
     refine .ts 10 z (fun W hT=>ixv hS.lendv hx5 T.u25 T.t3 z z z) hT z (by kernel_rfl) (.ts 11 z (fun W hT=>lde (RV.flat hT.lendv hx5 z) T.t3 z z z z z) hT z (by kernel_rfl) (.tp 12 z z hT (by kernel_rfl) (.tp 13 z z hT (by kernel_rfl) (.tp 14 z z hT (by kernel_rfl) (.done ?_ (by kernel_rfl))))))
     cases h
     exact ⟨z,sb z,hS.to [0,0] z⟩
    refine .skip ?_
    cases h
    exact ⟨z,sb z,hS.to [0,0] z⟩
   intro x E W hJ
   obtain ⟨rfl,hE,hS⟩:=hJ
   refine ⟨_,hE.sub,?_⟩
   refine .region (.q z (.q z (.q z ?_)))
   have ⟨x6,hx6,h⟩:=bnd h
   refine .s (ixv (hS.keep q_0) hx6 T.u104 T.t126 z z z) z (.s (lde (RV.flat (hS.keep q_0) hx6 z) T.t126 z z z z z) z (.q z (.q z ?_)))
   have ⟨y6,hy6,h⟩:=bnd h
   refine .c (.call1v hS Tryz.func101 (f8z hy6) z z ?_ z z z z)
   intro v7 W hS
   have ⟨r1,hr1,h⟩:=bnd h
   have hT0:=hS.p2
   refine .c (.apprv hr1 hT0 hT0.p1.lendv (fun _=>z) T.u23 T.t32 z z z ?_ z z z z z)
   intro v8 W hS
   refine .qn z (.region (.q z (.q z (.q z (.nil ?_)))))
   cases h
   exact ⟨z,v8,sb z,hS.to [2,0] z⟩
  refine .exit ?_
  cases h
  exact ⟨by simp,z,v4,sb z,hS.to [0,0] z⟩
 intro x E W hJ
 obtain ⟨rfl,v9,hE,hS⟩:=hJ
 refine ⟨_,hE.sub,?_⟩
 obtain rfl:=Option.some.inj h
 exact .g (.q z (.qn z (.ret (fin_ret (vs:=[_]) v9 (rt z rn) z (hS.to [1] z)))))
theorem fbe {k : Nat} {a0 : L6Rd} {v_0_b : Hd} {g_0 : Nat} {S : Nat → Prop} {w : World} {r : (List (List Instr)) × Int} (h : f5b k a0 = some r) (q_0_b : RV w (Old S w) (sv v_0_b) 5 1 (D.int .u8) a0.b) (hO : Owns w [.box g_0 100 [(sv v_0_b),.int .i64 a0.p]] S) (hlt : ∀ b,S b → b < w.heap.size) : Calls Tryz.prog 35 #[.pointer (some ⟨g_0,0,none⟩)] w (Ret S w (fun s : Hd=>(sv s)) (fun s=>[.box g_0 100 [(sv v_0_b),.int .i64 r.2],rowV (sv s) 23 1 (fun (l : List Instr)=>D.row 32 5 (l.map dInstr)) r.1])):=by
 unfold f5b at h
 refine enter Tryz.func35 z z ?_
 have hS:=Sep.startM hO hlt
 refine .g (.qn z (.g (.q z ?_)))
 have ⟨y1,hy1,h⟩:=bnd h
 refine .c (.callS2 (L0:=[.box g_0 100 [(sv v_0_b),.int .i64 a0.p]]) hS Tryz.func65 (fun S h1 h2 h3=>(fau hy1 (hS.keepS q_0_b h1) h2 (zz h1))) z z ?_ z z z z)
 rintro v1 W hS
 refine .qn z (.g (.q z ?_))
 have ⟨y2,hy2,h⟩:=bnd h
 refine .c (.callS2 (L0:=[.box g_0 100 [(sv v_0_b),.int .i64 y1.2]]) hS Tryz.func36 (fun S h1 h2 h3=>(f00 hy2 (hS.keepS q_0_b h1) h2 (zz h1))) z z ?_ z z z z)
 rintro ⟨⟩ W hS
 refine .q z (.qn z (.g (.c (.ligv (L1:=[]) [] (fun (l : List Instr)=>D.row 32 5 (l.map dInstr)) T.u39 T.t23 (hS.to [0,0] z) z z z (.nil) ?_ z (fun _=>z) z z z z z))))
 intro v2 W hS
 refine .qn z (.seq (.g (.qn z (.block ?_))))
 have ⟨y3,hy3,h⟩:=bnd h
 refine .via (.iter (fun s1 E' W'=>∃ (v5 : Hd),SubL E' [(3,(sv v1)),(4,.int .i64 (w64 (1 + y2.1))),(5,(sv v5)),(6,.int .i64 s1.2)] ∧ Sep S w W' [.box g_0 100 [(sv v_0_b),.int .i64 y2.2],rowV (sv v1) 104 1 (fun (l : List Quad)=>D.row 126 5 (l.map dQuad)) y1.1,rowV (sv v5) 23 1 (fun (l : List Instr)=>D.row 32 5 (l.map dInstr)) s1.1]) (fun y4 x E' W'=>x = .exit 0 ∧ ∃ (v6 : Hd),SubL E' [(5,(sv v6))] ∧ Sep S w W' [.box g_0 100 [(sv v_0_b),.int .i64 y2.2],rowV (sv v1) 104 1 (fun (l : List Quad)=>D.row 126 5 (l.map dQuad)) y1.1,rowV (sv v6) 23 1 (fun (l : List Instr)=>D.row 32 5 (l.map dInstr)) y4]) hy3 ⟨v2,sb z,hS.to [1,1,0] z⟩ ?_) ?_
 ·intro s1 y5 E W h hI
  obtain ⟨v4,hE,hS⟩:=hI
  refine CW.sub hE ?_
  unfold f7c at h
  refine .seq (.g (.q z (.q z (.s (lenv hS.p1.lendv T.u101 z z) z (.q z (.nil ?_))))))
  refine .cs z h ?_ ?_ <;> intro h
  ·refine .skip (.seq (.block (.region (.q z (.q z (.q z ?_))))))
   have ⟨x1,hx1,h⟩:=bnd h
   refine .s (ixv hS.p1.lendv hx1 T.u101 T.t104 z z z) z ?_
   obtain ⟨k1,hS⟩:=Sep.outv hS.p1 hx1
   obtain ⟨v7,k1,rfl,hS⟩:=hS.orowv
   obtain ⟨rfl,hS⟩:=hS.onil
   refine .s (lde (hS.p1.hcellsv) T.t104 z z z z z) z (.q z ?_)
   have ⟨y6,hy6,h⟩:=bnd h
   refine .c (.call1v hS Tryz.func66 (fbp hy6 hS.lendv) z z ?_ z z z z)
   intro v8 W hS
   refine .c (.ligv (L1:=[rowV (sv v8) 32 5 dInstr y6]) [y6] (fun (l : List Instr)=>D.row 32 5 (l.map dInstr)) T.u39 T.t23 (hS.to [0,0,0,0,0] z) z z z (.row (.nil)) ?_ z (fun _=>z) z z z z z)
   intro v9 W hS
   have ⟨r1,hr1,h⟩:=bnd h
   refine .c (.appv hr1 (hS.to [4,0,0,0,0] z) T.u39 T.t23 z z z ?_ z z z z z)
   intro v10 W hS
   refine .qn z (.region (.q z (.q z (.q z (.nil ?_)))))
   have hS:=Sep.gat (ds:=[.row 126 5 (x1.map dQuad)]) (cs:=[(sv v7)]) (L1:=[rowV (sv v7) 126 5 dQuad x1]) (.row (.nil)) (hS.to [1,1,0,0] z)
   have hS : Sep _ _ _ [rowV (sv v1) 104 1 (fun (l : List Quad)=>D.row 126 5 (l.map dQuad)) y1.1,rowV (sv v10) 23 1 (fun (l : List Instr)=>D.row 32 5 (l.map dInstr)) r1,.box g_0 100 [(sv v_0_b),.int .i64 y2.2]]:=Sep.back0v hx1 hS
   cases h
   exact ⟨z,v10,sb z,hS.to [2,0,0] z⟩
  refine .exit ?_
  cases h
  exact ⟨by simp,z,v4,sb z,hS.to [0,0,0] z⟩
 intro x E W hJ
 obtain ⟨rfl,v11,hE,hS⟩:=hJ
 refine ⟨_,hE.sub,?_⟩
 cases h
 exact .g (.q z (.qn z (.ret (fin_ret (vs:=[_]) v11 (rt z rn) z (hS.to [0,1] z)))))
theorem faa {a0 : Int} {w : World} {r : Bool} (h : f33 a0 = some r) : Calls Tryz.prog 43 #[.int .i64 a0] w (Ret No w (fun s : Unit=>.bool r) (fun s=>[])):=by
 unfold f33 at h
 refine enter Tryz.func43 z z ?_
 have hS:=Sep.start w
 refine .g (.qn z (.g (.q z (.q z (.q z (.chunk 3 8 ((decide (a0 ≥ (-2147483648))) && (decide (a0 ≤ 2147483647))) hS ?_ ?_))))))
 ·refine .both (decide (a0 ≥ (-2147483648))) (fun hb=>?_) (fun hb=>?_)
  ·have hg1:=hb
   exact .g hg1 (.q z (.g hg1 (.q z (.s (pkt hg1 z z z) z (.nil (ck 3 hS z (and_t hg1) z z)))) z)) z
  exact .xx hb z (.xx hb z (.s (pkf hb z z z) z (.nil (ck 3 hS z (and_f hb) z z))))
 intro W hS
 cases h
 exact .qn z (.ret (fin_ret (vs:=[_]) () (rt z rn) z (hS.to [] z)))
theorem fb6 {a0 : Int} {w : World} {r : Int} (h : f0z a0 = some r) : Calls Tryz.prog 16 #[.int .i64 a0] w (Ret No w (fun s : Unit=>.int .i64 r) (fun s=>[])):=by
 unfold f0z at h
 refine enter Tryz.func16 z z ?_
 have hS:=Sep.start w
 refine .g (.qn z (.seq (.g (.q z ?_))))
 have ⟨y1,hy1,h⟩:=bnd h
 refine .c (.call0 hS Tryz.func43 (faa hy1) z z ?_ z z z z)
 intro W hS
 refine .q z (.nil ?_)
 refine .cs z h ?_ ?_ <;> intro h
 ·cases h
  exact .g (.qn z (.ret (fin_ret (vs:=[_]) () (rt z rn) z (hS.to [] z))))
 cases h
 exact .skip (.g (.q z (.s (cv T.u3 T.u81 z z) z (.s (cv T.u81 T.u3 z z) z (.qn z (.ret (fin_ret (vs:=[_]) () (rt z rn) z (hS.to [] z))))))))
theorem f8w {a0 : Int} {w : World} {r : Int} (h : f0i a0 = some r) : Calls Tryz.prog 69 #[.int .i64 a0] w (Ret No w (fun s : Unit=>.int .u8 r) (fun s=>[])):=by
 unfold f0i at h
 refine enter Tryz.func69 z z ?_
 have hS:=Sep.start w
 refine .g (.qn z (.seq (.block (.g (.q z (.q z (.q z (.chunk 3 9 ((decide (a0 ≥ 1)) && (decide (a0 ≤ 11))) hS ?_ ?_))))))))
 ·refine .both (decide (a0 ≥ 1)) (fun hb=>?_) (fun hb=>?_)
  ·have hg1:=hb
   exact .g hg1 (.q z (.g hg1 (.q z (.s (pkt hg1 z z z) z (.nil (ck 3 hS z (and_t hg1) z z)))) z)) z
  exact .xx hb z (.xx hb z (.s (pkf hb z z z) z (.nil (ck 3 hS z (and_f hb) z z))))
 intro W hS
 refine .q z (.nil ?_)
 refine .cs z h ?_ ?_ <;> intro h
 ·cases h
  exact .g (.qn z (.ret (fin_ret (vs:=[_]) () (rt z rn) z (hS.to [] z))))
 refine .g (.q z (.q z (.q z (.chunk 3 16 ((decide (a0 ≥ 12)) && (decide (a0 ≤ 15))) hS ?_ ?_))))
 ·refine .both (decide (a0 ≥ 12)) (fun hb=>?_) (fun hb=>?_)
  ·have hg2:=hb
   exact .g hg2 (.q z (.g hg2 (.q z (.s (pkt hg2 z z z) z (.nil (ck 3 hS z (and_t hg2) z z)))) z)) z
  exact .xx hb z (.xx hb z (.s (pkf hb z z z) z (.nil (ck 3 hS z (and_f hb) z z))))
 intro W hS
 refine .q z (.nil ?_)
 refine .cs z h ?_ ?_ <;> intro h
 ·cases h
  exact .g (.qn z (.ret (fin_ret (vs:=[_]) () (rt z rn) z (hS.to [] z))))
 refine .g (.q z (.q z (.q z (.nil ?_))))
 refine .cs z h ?_ ?_ <;> intro h
 ·cases h
  exact .g (.qn z (.ret (fin_ret (vs:=[_]) () (rt z rn) z (hS.to [] z))))
 refine .g (.q z (.q z (.q z (.chunk 3 26 ((a0 == 17) || (a0 == 18)) hS ?_ ?_))))
 ·refine .both (a0 == 17) (fun hb=>?_) (fun hb=>?_)
  ·exact .xx hb z (.xx hb z (.s (pkt hb z z z) z (.nil (ck 3 hS z (or_t hb) z z))))
  have hg3:=hb
  exact .g hg3 (.q z (.g hg3 (.q z (.s (pkf hg3 z z z) z (.nil (ck 3 hS z (or_f hg3) z z)))) z)) z
 intro W hS
 refine .q z (.nil ?_)
 refine .cs z h ?_ ?_ <;> intro h
 ·cases h
  exact .g (.qn z (.ret (fin_ret (vs:=[_]) () (rt z rn) z (hS.to [] z))))
 refine .g (.q z (.q z (.q z (.nil ?_))))
 refine .cs z h ?_ ?_ <;> intro h
 ·cases h
  exact .g (.qn z (.ret (fin_ret (vs:=[_]) () (rt z rn) z (hS.to [] z))))
 refine .g (.q z (.q z (.q z (.nil ?_))))
 refine .cs z h ?_ ?_ <;> intro h
 ·cases h
  exact .g (.qn z (.ret (fin_ret (vs:=[_]) () (rt z rn) z (hS.to [] z))))
 refine .g (.q z (.q z (.q z (.nil ?_))))
 refine .cs z h ?_ ?_ <;> intro h
 ·cases h
  exact .g (.qn z (.ret (fin_ret (vs:=[_]) () (rt z rn) z (hS.to [] z))))
 cases h
 exact .skip (.g (.qn z (.ret (fin_ret (vs:=[_]) () (rt z rn) z (hS.to [] z)))))
theorem f4m {a0 : Int} {w : World} {r : Bool} (h : f19 a0 = some r) : Calls Tryz.prog 104 #[.int .i64 a0] w (Ret No w (fun s : Unit=>.bool r) (fun s=>[])):=by
 unfold f19 at h
 refine enter Tryz.func104 z z ?_
 have hS:=Sep.start w
 refine .g (.qn z (.g (.q z (.q z (.q z (.chunk 3 8 ((decide (a0 ≥ 0)) && (decide (a0 < 32))) hS ?_ ?_))))))
 ·refine .both (decide (a0 ≥ 0)) (fun hb=>?_) (fun hb=>?_)
  ·have hg1:=hb
   exact .g hg1 (.q z (.g hg1 (.q z (.s (pkt hg1 z z z) z (.nil (ck 3 hS z (and_t hg1) z z)))) z)) z
  exact .xx hb z (.xx hb z (.s (pkf hb z z z) z (.nil (ck 3 hS z (and_f hb) z z))))
 intro W hS
 cases h
 exact .qn z (.ret (fin_ret (vs:=[_]) () (rt z rn) z (hS.to [] z)))
theorem f9x {a0 : Instr} {w : World} {r : Bool} (h : f1a a0 = some r) : Calls Tryz.prog 72 #[.agg #[.int .i64 a0.Op,.int .i64 a0.Rd,.int .i64 a0.Rs,.int .i64 a0.Rt,.int .i64 a0.Imm]] w (Ret No w (fun s : Unit=>.bool r) (fun s=>[])):=by
 unfold f1a at h
 refine enter Tryz.func72 z z ?_
 have hS:=Sep.start w
 refine .g (.c (.box hS z z ?_ z z))
 intro g1 W hS
 refine .qn z (.seq (.rk 12 hS [0] T.mix ?_))
 intro W hS
 have hT:=hS.to [0] z
 refine .ts 0 z (fun W hT=>fa T.f32_1 z z z) hT z (by kernel_rfl) (.ts 1 z (fun W hT=>ld T.t3 hT z z z z z) hT z (by kernel_rfl) (.ts 3 z (fun W hT=>fa T.f32_2 z z z) hT z (by kernel_rfl) (.ts 4 z (fun W hT=>ld T.t3 hT z z z z z) hT z (by kernel_rfl) (.ts 6 z (fun W hT=>fa T.f32_3 z z z) hT z (by kernel_rfl) (.ts 7 z (fun W hT=>ld T.t3 hT z z z z z) hT z (by kernel_rfl) ?_)))))
 have ⟨y1,hy1,h⟩:=bnd h
 refine .by1 2 z (.call0 hS Tryz.func104 (f4m hy1) z z ?_ z z z z) (by kernel_rfl)
 intro W hS
 have hT:=hS.to [0] z
 refine ⟨fun _=>hT,?_⟩
 have ⟨y2,hy2,h⟩:=bnd h
 refine .by1 5 z (.call0 hS Tryz.func104 (f4m hy2) z z ?_ z z z z) (by kernel_rfl)
 intro W hS
 have hT:=hS.to [0] z
 refine ⟨fun _=>hT,?_⟩
 have ⟨y3,hy3,h⟩:=bnd h
 refine .by1 8 z (.call0 hS Tryz.func104 (f4m hy3) z z ?_ z z z z) (by kernel_rfl)
 intro W hS
 have hT:=hS.to [0] z
 refine ⟨fun _=>hT,.tp 9 z z hT (by kernel_rfl) (.tp 10 z z hT (by kernel_rfl) (.tp 11 z z hT (by kernel_rfl) (.done (.g (.s (fa T.f32_4 z z z) z (.s (ld T.t3 hS z z z z z) z (.q z (.q z (.chunk 4 23 ((decide (a0.Imm ≥ (-2048))) && (decide (a0.Imm ≤ 2047))) hS ?_ ?_)))))) (by kernel_rfl))))⟩
 ·refine .both (decide (a0.Imm ≥ (-2048))) (fun hb=>?_) (fun hb=>?_)
  ·have hg1:=hb
   exact .g hg1 (.s (fa T.f32_4 z z z) z (.g hg1 (.s (ld T.t3 hS z z z z z) z (.g hg1 (.q z (.s (pkt hg1 z z z) z (.nil (ck 4 hS z (and_t hg1) z z)))) z)) z)) z
  exact .xx hb z (.xx hb z (.xx hb z (.s (pkf hb z z z) z (.nil (ck 4 hS z (and_f hb) z z)))))
 intro W hS
 refine .qn z (.seq (.g (.s (fa T.f32_0 z z z) z (.s (ld T.t3 hS z z z z z) z ?_))))
 have ⟨y4,hy4,h⟩:=bnd h
 refine .c (.call0 hS Tryz.func69 (f8w hy4) z z ?_ z z z z)
 intro W hS
 refine .nil (.block (.g (.q z (.q z (.nil ?_)))))
 refine .cs z h ?_ ?_ <;> intro h
 ·refine .g (.q z (.q z (.chunk 2 32 (y1 && y2) hS ?_ ?_)))
  ·refine .both (y1) (fun hb=>?_) (fun hb=>?_)
   ·have hg2:=hb
    exact .g hg2 (.q z (.s (pkt hg2 z z z) z (.nil (ck 2 hS z (and_t hg2) z z)))) z
   exact .xx hb z (.s (pkf hb z z z) z (.nil (ck 2 hS z (and_f hb) z z)))
  intro W hS
  refine .q z (.chunk 2 35 ((y1 && y2) && y3) hS ?_ ?_)
  ·refine .both (y1 && y2) (fun hb=>?_) (fun hb=>?_)
   ·have hg3:=hb
    exact .g hg3 (.q z (.s (pkt hg3 z z z) z (.nil (ck 2 hS z (and_t hg3) z z)))) z
   exact .xx hb z (.s (pkf hb z z z) z (.nil (ck 2 hS z (and_f hb) z z)))
  intro W hS
  refine .q z (.chunk 4 40 (((y1 && y2) && y3) && (a0.Imm == 0)) hS ?_ ?_)
  ·refine .both ((y1 && y2) && y3) (fun hb=>?_) (fun hb=>?_)
   ·have hg4:=hb
    exact .g hg4 (.s (fa T.f32_4 z z z) z (.g hg4 (.s (ld T.t3 hS z z z z z) z (.g hg4 (.q z (.s (pkt hg4 z z z) z (.nil (ck 4 hS z (and_t hg4) z z)))) z)) z)) z
   exact .xx hb z (.xx hb z (.xx hb z (.s (pkf hb z z z) z (.nil (ck 4 hS z (and_f hb) z z)))))
  intro W hS
  cases h
  exact .qn z (.ret (fin_ret (vs:=[_]) () (rt z rn) z (hS.to [] z)))
 refine .g (.q z (.q z (.nil ?_)))
 refine .cs z h ?_ ?_ <;> intro h
 ·refine .g (.q z (.q z (.chunk 2 46 (y1 && y2) hS ?_ ?_)))
  ·refine .both (y1) (fun hb=>?_) (fun hb=>?_)
   ·have hg5:=hb
    exact .g hg5 (.q z (.s (pkt hg5 z z z) z (.nil (ck 2 hS z (and_t hg5) z z)))) z
   exact .xx hb z (.s (pkf hb z z z) z (.nil (ck 2 hS z (and_f hb) z z)))
  intro W hS
  refine .q z (.chunk 4 51 ((y1 && y2) && (a0.Rt == 0)) hS ?_ ?_)
  ·refine .both (y1 && y2) (fun hb=>?_) (fun hb=>?_)
   ·have hg6:=hb
    exact .g hg6 (.s (fa T.f32_3 z z z) z (.g hg6 (.s (ld T.t3 hS z z z z z) z (.g hg6 (.q z (.s (pkt hg6 z z z) z (.nil (ck 4 hS z (and_t hg6) z z)))) z)) z)) z
   exact .xx hb z (.xx hb z (.xx hb z (.s (pkf hb z z z) z (.nil (ck 4 hS z (and_f hb) z z)))))
  intro W hS
  refine .q z (.chunk 2 54 (((y1 && y2) && (a0.Rt == 0)) && ((decide (a0.Imm ≥ (-2048))) && (decide (a0.Imm ≤ 2047)))) hS ?_ ?_)
  ·refine .both ((y1 && y2) && (a0.Rt == 0)) (fun hb=>?_) (fun hb=>?_)
   ·have hg7:=hb
    exact .g hg7 (.q z (.s (pkt hg7 z z z) z (.nil (ck 2 hS z (and_t hg7) z z)))) z
   exact .xx hb z (.s (pkf hb z z z) z (.nil (ck 2 hS z (and_f hb) z z)))
  intro W hS
  cases h
  exact .qn z (.ret (fin_ret (vs:=[_]) () (rt z rn) z (hS.to [] z)))
 refine .g (.q z (.q z (.nil ?_)))
 refine .cs z h ?_ ?_ <;> intro h
 ·refine .g (.s (fa T.f32_1 z z z) z (.s (ld T.t3 hS z z z z z) z (.q z (.q z (.chunk 2 62 ((a0.Rd == 0) && y2) hS ?_ ?_)))))
  ·refine .both (a0.Rd == 0) (fun hb=>?_) (fun hb=>?_)
   ·have hg8:=hb
    exact .g hg8 (.q z (.s (pkt hg8 z z z) z (.nil (ck 2 hS z (and_t hg8) z z)))) z
   exact .xx hb z (.s (pkf hb z z z) z (.nil (ck 2 hS z (and_f hb) z z)))
  intro W hS
  refine .q z (.chunk 2 65 (((a0.Rd == 0) && y2) && y3) hS ?_ ?_)
  ·refine .both ((a0.Rd == 0) && y2) (fun hb=>?_) (fun hb=>?_)
   ·have hg9:=hb
    exact .g hg9 (.q z (.s (pkt hg9 z z z) z (.nil (ck 2 hS z (and_t hg9) z z)))) z
   exact .xx hb z (.s (pkf hb z z z) z (.nil (ck 2 hS z (and_f hb) z z)))
  intro W hS
  refine .q z (.chunk 2 68 ((((a0.Rd == 0) && y2) && y3) && ((decide (a0.Imm ≥ (-2048))) && (decide (a0.Imm ≤ 2047)))) hS ?_ ?_)
  ·refine .both (((a0.Rd == 0) && y2) && y3) (fun hb=>?_) (fun hb=>?_)
   ·have hg10:=hb
    exact .g hg10 (.q z (.s (pkt hg10 z z z) z (.nil (ck 2 hS z (and_t hg10) z z)))) z
   exact .xx hb z (.s (pkf hb z z z) z (.nil (ck 2 hS z (and_f hb) z z)))
  intro W hS
  cases h
  exact .qn z (.ret (fin_ret (vs:=[_]) () (rt z rn) z (hS.to [] z)))
 refine .g (.q z (.q z (.nil ?_)))
 refine .cs z h ?_ ?_ <;> intro h
 ·refine .g (.s (fa T.f32_1 z z z) z (.s (ld T.t3 hS z z z z z) z (.q z (.q z (.chunk 2 76 ((a0.Rd == 0) && y2) hS ?_ ?_)))))
  ·refine .both (a0.Rd == 0) (fun hb=>?_) (fun hb=>?_)
   ·have hg11:=hb
    exact .g hg11 (.q z (.s (pkt hg11 z z z) z (.nil (ck 2 hS z (and_t hg11) z z)))) z
   exact .xx hb z (.s (pkf hb z z z) z (.nil (ck 2 hS z (and_f hb) z z)))
  intro W hS
  refine .q z (.chunk 2 79 (((a0.Rd == 0) && y2) && y3) hS ?_ ?_)
  ·refine .both ((a0.Rd == 0) && y2) (fun hb=>?_) (fun hb=>?_)
   ·have hg12:=hb
    exact .g hg12 (.q z (.s (pkt hg12 z z z) z (.nil (ck 2 hS z (and_t hg12) z z)))) z
   exact .xx hb z (.s (pkf hb z z z) z (.nil (ck 2 hS z (and_f hb) z z)))
  intro W hS
  refine .q z (.chunk 4 84 ((((a0.Rd == 0) && y2) && y3) && (decide (a0.Imm ≥ (-4096)))) hS ?_ ?_)
  ·refine .both (((a0.Rd == 0) && y2) && y3) (fun hb=>?_) (fun hb=>?_)
   ·have hg13:=hb
    exact .g hg13 (.s (fa T.f32_4 z z z) z (.g hg13 (.s (ld T.t3 hS z z z z z) z (.g hg13 (.q z (.s (pkt hg13 z z z) z (.nil (ck 4 hS z (and_t hg13) z z)))) z)) z)) z
   exact .xx hb z (.xx hb z (.xx hb z (.s (pkf hb z z z) z (.nil (ck 4 hS z (and_f hb) z z)))))
  intro W hS
  refine .q z (.chunk 4 89 (((((a0.Rd == 0) && y2) && y3) && (decide (a0.Imm ≥ (-4096)))) && (decide (a0.Imm ≤ 4094))) hS ?_ ?_)
  ·refine .both ((((a0.Rd == 0) && y2) && y3) && (decide (a0.Imm ≥ (-4096)))) (fun hb=>?_) (fun hb=>?_)
   ·have hg14:=hb
    exact .g hg14 (.s (fa T.f32_4 z z z) z (.g hg14 (.s (ld T.t3 hS z z z z z) z (.g hg14 (.q z (.s (pkt hg14 z z z) z (.nil (ck 4 hS z (and_t hg14) z z)))) z)) z)) z
   exact .xx hb z (.xx hb z (.xx hb z (.s (pkf hb z z z) z (.nil (ck 4 hS z (and_f hb) z z)))))
  intro W hS
  refine .q z (.chunk 5 95 ((((((a0.Rd == 0) && y2) && y3) && (decide (a0.Imm ≥ (-4096)))) && (decide (a0.Imm ≤ 4094))) && ((Int.tmod a0.Imm 2) == 0)) hS ?_ ?_)
  ·refine .both (((((a0.Rd == 0) && y2) && y3) && (decide (a0.Imm ≥ (-4096)))) && (decide (a0.Imm ≤ 4094))) (fun hb=>?_) (fun hb=>?_)
   ·have hg15:=hb
    exact .g hg15 (.s (fa T.f32_4 z z z) z (.g hg15 (.s (ld T.t3 hS z z z z z) z (.g hg15 (.q z (.g hg15 (.q z (.s (pkt hg15 z z z) z (.nil (ck 5 hS z (and_t hg15) z z)))) z)) z)) z)) z
   exact .xx hb z (.xx hb z (.xx hb z (.xx hb z (.s (pkf hb z z z) z (.nil (ck 5 hS z (and_f hb) z z))))))
  intro W hS
  cases h
  exact .qn z (.ret (fin_ret (vs:=[_]) () (rt z rn) z (hS.to [] z)))
 refine .g (.q z (.q z (.nil ?_)))
 refine .cs z h ?_ ?_ <;> intro h
 ·refine .g (.q z (.q z (.chunk 4 103 (y1 && (a0.Rs == 0)) hS ?_ ?_)))
  ·refine .both (y1) (fun hb=>?_) (fun hb=>?_)
   ·have hg16:=hb
    exact .g hg16 (.s (fa T.f32_2 z z z) z (.g hg16 (.s (ld T.t3 hS z z z z z) z (.g hg16 (.q z (.s (pkt hg16 z z z) z (.nil (ck 4 hS z (and_t hg16) z z)))) z)) z)) z
   exact .xx hb z (.xx hb z (.xx hb z (.s (pkf hb z z z) z (.nil (ck 4 hS z (and_f hb) z z)))))
  intro W hS
  refine .q z (.chunk 4 108 ((y1 && (a0.Rs == 0)) && (a0.Rt == 0)) hS ?_ ?_)
  ·refine .both (y1 && (a0.Rs == 0)) (fun hb=>?_) (fun hb=>?_)
   ·have hg17:=hb
    exact .g hg17 (.s (fa T.f32_3 z z z) z (.g hg17 (.s (ld T.t3 hS z z z z z) z (.g hg17 (.q z (.s (pkt hg17 z z z) z (.nil (ck 4 hS z (and_t hg17) z z)))) z)) z)) z
   exact .xx hb z (.xx hb z (.xx hb z (.s (pkf hb z z z) z (.nil (ck 4 hS z (and_f hb) z z)))))
  intro W hS
  refine .q z (.chunk 4 113 (((y1 && (a0.Rs == 0)) && (a0.Rt == 0)) && (decide (a0.Imm ≥ 0))) hS ?_ ?_)
  ·refine .both ((y1 && (a0.Rs == 0)) && (a0.Rt == 0)) (fun hb=>?_) (fun hb=>?_)
   ·have hg18:=hb
    exact .g hg18 (.s (fa T.f32_4 z z z) z (.g hg18 (.s (ld T.t3 hS z z z z z) z (.g hg18 (.q z (.s (pkt hg18 z z z) z (.nil (ck 4 hS z (and_t hg18) z z)))) z)) z)) z
   exact .xx hb z (.xx hb z (.xx hb z (.s (pkf hb z z z) z (.nil (ck 4 hS z (and_f hb) z z)))))
  intro W hS
  refine .q z (.chunk 4 118 ((((y1 && (a0.Rs == 0)) && (a0.Rt == 0)) && (decide (a0.Imm ≥ 0))) && (decide (a0.Imm ≤ 1048575))) hS ?_ ?_)
  ·refine .both (((y1 && (a0.Rs == 0)) && (a0.Rt == 0)) && (decide (a0.Imm ≥ 0))) (fun hb=>?_) (fun hb=>?_)
   ·have hg19:=hb
    exact .g hg19 (.s (fa T.f32_4 z z z) z (.g hg19 (.s (ld T.t3 hS z z z z z) z (.g hg19 (.q z (.s (pkt hg19 z z z) z (.nil (ck 4 hS z (and_t hg19) z z)))) z)) z)) z
   exact .xx hb z (.xx hb z (.xx hb z (.s (pkf hb z z z) z (.nil (ck 4 hS z (and_f hb) z z)))))
  intro W hS
  cases h
  exact .qn z (.ret (fin_ret (vs:=[_]) () (rt z rn) z (hS.to [] z)))
 refine .g (.q z (.q z (.nil ?_)))
 refine .cs z h ?_ ?_ <;> intro h
 ·refine .g (.q z (.q z (.chunk 4 126 (y1 && (a0.Rs == 0)) hS ?_ ?_)))
  ·refine .both (y1) (fun hb=>?_) (fun hb=>?_)
   ·have hg20:=hb
    exact .g hg20 (.s (fa T.f32_2 z z z) z (.g hg20 (.s (ld T.t3 hS z z z z z) z (.g hg20 (.q z (.s (pkt hg20 z z z) z (.nil (ck 4 hS z (and_t hg20) z z)))) z)) z)) z
   exact .xx hb z (.xx hb z (.xx hb z (.s (pkf hb z z z) z (.nil (ck 4 hS z (and_f hb) z z)))))
  intro W hS
  refine .q z (.chunk 4 131 ((y1 && (a0.Rs == 0)) && (a0.Rt == 0)) hS ?_ ?_)
  ·refine .both (y1 && (a0.Rs == 0)) (fun hb=>?_) (fun hb=>?_)
   ·have hg21:=hb
    exact .g hg21 (.s (fa T.f32_3 z z z) z (.g hg21 (.s (ld T.t3 hS z z z z z) z (.g hg21 (.q z (.s (pkt hg21 z z z) z (.nil (ck 4 hS z (and_t hg21) z z)))) z)) z)) z
   exact .xx hb z (.xx hb z (.xx hb z (.s (pkf hb z z z) z (.nil (ck 4 hS z (and_f hb) z z)))))
  intro W hS
  refine .q z (.chunk 4 136 (((y1 && (a0.Rs == 0)) && (a0.Rt == 0)) && (decide (a0.Imm ≥ (-1048576)))) hS ?_ ?_)
  ·refine .both ((y1 && (a0.Rs == 0)) && (a0.Rt == 0)) (fun hb=>?_) (fun hb=>?_)
   ·have hg22:=hb
    exact .g hg22 (.s (fa T.f32_4 z z z) z (.g hg22 (.s (ld T.t3 hS z z z z z) z (.g hg22 (.q z (.s (pkt hg22 z z z) z (.nil (ck 4 hS z (and_t hg22) z z)))) z)) z)) z
   exact .xx hb z (.xx hb z (.xx hb z (.s (pkf hb z z z) z (.nil (ck 4 hS z (and_f hb) z z)))))
  intro W hS
  refine .q z (.chunk 4 141 ((((y1 && (a0.Rs == 0)) && (a0.Rt == 0)) && (decide (a0.Imm ≥ (-1048576)))) && (decide (a0.Imm ≤ 1048574))) hS ?_ ?_)
  ·refine .both (((y1 && (a0.Rs == 0)) && (a0.Rt == 0)) && (decide (a0.Imm ≥ (-1048576)))) (fun hb=>?_) (fun hb=>?_)
   ·have hg23:=hb
    exact .g hg23 (.s (fa T.f32_4 z z z) z (.g hg23 (.s (ld T.t3 hS z z z z z) z (.g hg23 (.q z (.s (pkt hg23 z z z) z (.nil (ck 4 hS z (and_t hg23) z z)))) z)) z)) z
   exact .xx hb z (.xx hb z (.xx hb z (.s (pkf hb z z z) z (.nil (ck 4 hS z (and_f hb) z z)))))
  intro W hS
  refine .q z (.chunk 5 147 (((((y1 && (a0.Rs == 0)) && (a0.Rt == 0)) && (decide (a0.Imm ≥ (-1048576)))) && (decide (a0.Imm ≤ 1048574))) && ((Int.tmod a0.Imm 2) == 0)) hS ?_ ?_)
  ·refine .both ((((y1 && (a0.Rs == 0)) && (a0.Rt == 0)) && (decide (a0.Imm ≥ (-1048576)))) && (decide (a0.Imm ≤ 1048574))) (fun hb=>?_) (fun hb=>?_)
   ·have hg24:=hb
    exact .g hg24 (.s (fa T.f32_4 z z z) z (.g hg24 (.s (ld T.t3 hS z z z z z) z (.g hg24 (.q z (.g hg24 (.q z (.s (pkt hg24 z z z) z (.nil (ck 5 hS z (and_t hg24) z z)))) z)) z)) z)) z
   exact .xx hb z (.xx hb z (.xx hb z (.xx hb z (.s (pkf hb z z z) z (.nil (ck 5 hS z (and_f hb) z z))))))
  intro W hS
  cases h
  exact .qn z (.ret (fin_ret (vs:=[_]) () (rt z rn) z (hS.to [] z)))
 refine .g (.q z (.q z (.nil ?_)))
 refine .cs z h ?_ ?_ <;> intro h
 ·cases h
  exact .g (.s (ld T.t32 hS z z z z z) z (.s (bs T.s32 z z) z (.s (eqs T.e32 z z z z) z (.qn z (.ret (fin_ret (vs:=[_]) () (rt z rn) z (hS.to [] z)))))))
 obtain rfl:=Option.some.inj h
 exact .skip (.g (.qn z (.ret (fin_ret (vs:=[_]) () (rt z rn) z (hS.to [] z)))))
theorem f9z {a0 : Int} {w : World} {r : Bool} (h : f2k a0 = some r) : Calls Tryz.prog 39 #[.int .i64 a0] w (Ret No w (fun s : Unit=>.bool r) (fun s=>[])):=by
 unfold f2k at h
 refine enter Tryz.func39 z z ?_
 have hS:=Sep.start w
 refine .g (.qn z (.g (.q z (.q z (.q z (.chunk 3 8 ((decide (a0 ≥ 0)) && (decide (a0 < 4294967296))) hS ?_ ?_))))))
 ·refine .both (decide (a0 ≥ 0)) (fun hb=>?_) (fun hb=>?_)
  ·have hg1:=hb
   exact .g hg1 (.q z (.g hg1 (.q z (.s (pkt hg1 z z z) z (.nil (ck 3 hS z (and_t hg1) z z)))) z)) z
  exact .xx hb z (.xx hb z (.s (pkf hb z z z) z (.nil (ck 3 hS z (and_f hb) z z))))
 intro W hS
 cases h
 exact .qn z (.ret (fin_ret (vs:=[_]) () (rt z rn) z (hS.to [] z)))
theorem fct {a0 : Int} {a1 : Int} {a2 : Int} {w : World} {r : Int} (h : f0j a0 a1 a2 = some r) : Calls Tryz.prog 70 #[.int .i64 a0,.int .i64 a1,.int .i64 a2] w (Ret No w (fun s : Unit=>.int .i64 r) (fun s=>[])):=by
 unfold f0j at h
 refine enter Tryz.func70 z z ?_
 have hS:=Sep.start w
 refine .g (.qn z (.seq (.g (.q z ?_))))
 have ⟨y1,hy1,h⟩:=bnd h
 refine .c (.call0 hS Tryz.func39 (f9z hy1) z z ?_ z z z z)
 intro W hS
 refine .q z (.q z (.chunk 3 13 ((!y1) || (decide (a1 < 0))) hS ?_ ?_))
 ·refine .both (!y1) (fun hb=>?_) (fun hb=>?_)
  ·exact .xx hb z (.xx hb z (.s (pkt hb z z z) z (.nil (ck 3 hS z (or_t hb) z z))))
  have hg1:=hb
  exact .g hg1 (.q z (.g hg1 (.q z (.s (pkf hg1 z z z) z (.nil (ck 3 hS z (or_f hg1) z z)))) z)) z
 intro W hS
 refine .q z (.chunk 3 17 (((!y1) || (decide (a1 < 0))) || (decide (a1 > 31))) hS ?_ ?_)
 ·refine .both ((!y1) || (decide (a1 < 0))) (fun hb=>?_) (fun hb=>?_)
  ·exact .xx hb z (.xx hb z (.s (pkt hb z z z) z (.nil (ck 3 hS z (or_t hb) z z))))
  have hg2:=hb
  exact .g hg2 (.q z (.g hg2 (.q z (.s (pkf hg2 z z z) z (.nil (ck 3 hS z (or_f hg2) z z)))) z)) z
 intro W hS
 refine .q z (.chunk 3 21 ((((!y1) || (decide (a1 < 0))) || (decide (a1 > 31))) || (decide (a2 < 1))) hS ?_ ?_)
 ·refine .both (((!y1) || (decide (a1 < 0))) || (decide (a1 > 31))) (fun hb=>?_) (fun hb=>?_)
  ·exact .xx hb z (.xx hb z (.s (pkt hb z z z) z (.nil (ck 3 hS z (or_t hb) z z))))
  have hg3:=hb
  exact .g hg3 (.q z (.g hg3 (.q z (.s (pkf hg3 z z z) z (.nil (ck 3 hS z (or_f hg3) z z)))) z)) z
 intro W hS
 refine .q z (.chunk 5 27 (((((!y1) || (decide (a1 < 0))) || (decide (a1 > 31))) || (decide (a2 < 1))) || (decide (a2 > (w64 (32 - a1))))) hS ?_ ?_)
 ·refine .both ((((!y1) || (decide (a1 < 0))) || (decide (a1 > 31))) || (decide (a2 < 1))) (fun hb=>?_) (fun hb=>?_)
  ·exact .xx hb z (.xx hb z (.xx hb z (.xx hb z (.s (pkt hb z z z) z (.nil (ck 5 hS z (or_t hb) z z))))))
  have hg4:=hb
  exact .g hg4 (.q z (.g hg4 (.q z (.g hg4 (.q z (.g hg4 (.q z (.s (pkf hg4 z z z) z (.nil (ck 5 hS z (or_f hg4) z z)))) z)) z)) z)) z
 intro W hS
 refine .nil ?_
 refine .cs z h ?_ ?_ <;> intro h
 ·cases h
  exact .g (.qn z (.ret (fin_ret (vs:=[_]) () (rt z rn) z (hS.to [] z))))
 refine .skip (.seq (.rk 8 hS [] T.mix ?_))
 intro W hS
 have hT:=hS.to [] z
 refine .tp 0 z z hT (by kernel_rfl) (.tp 1 z z hT (by kernel_rfl) ?_)
 have ⟨d1,hd1,h⟩:=bnd h
 refine .ts 2 z (fun W hT=>shr_run hd1 z z z) hT z (by kernel_rfl) (.tp 3 z z hT (by kernel_rfl) ?_)
 have ⟨d2,hd2,h⟩:=bnd h
 cases h
 exact .ts 4 z (fun W hT=>shr_run hd2 z z z) hT z (by kernel_rfl) (.tp 5 z z hT (by kernel_rfl) (.tp 6 z z hT (by kernel_rfl) (.tp 7 z z hT (by kernel_rfl) (.done (.ret (fin_ret (vs:=[_]) () (rt z rn) z (hS.to [] z))) (by kernel_rfl)))))
theorem f0d {a0 : Int} {a1 : Int} {a2 : Int} {a3 : Int} {g_3 : Nat} {w : World} {r : Int} (h : f02 a0 a1 a2 a3 = some r) (b_3 : BR w (Old No w) g_3 3 [.int .i64 a3]) : Calls Tryz.prog 73 #[.int .i64 a0,.int .i64 a1,.int .i64 a2,.pointer (some ⟨g_3,0,none⟩)] w (Ret No w (fun s : Unit=>.int .i64 r) (fun s=>[])):=by
 unfold f02 at h
 refine enter Tryz.func73 z z ?_
 have hS:=Sep.start w
 refine .g (.qn z (.g (.s (ldb T.t3 (hS.keepB b_3) z z z z z) z (.q z (.q z ?_)))))
 have ⟨y1,hy1,h⟩:=bnd h
 refine .c (.call0 hS Tryz.func70 (fct hy1) z z ?_ z z z z)
 intro W hS
 refine .q z ?_
 have ⟨d1,hd1,h⟩:=bnd h
 obtain rfl:=Option.some.inj h
 exact .s (shr_run hd1 z z z) z (.qn z (.ret (fin_ret (vs:=[_]) () (rt z rn) z (hS.to [] z))))
theorem f9o {a0 : Instr} {w : World} {r : Int × Bool} (h : f0m a0 = some r) (hG : Gl w) : Calls Tryz.prog 42 #[.agg #[.int .i64 a0.Op,.int .i64 a0.Rd,.int .i64 a0.Rs,.int .i64 a0.Rt,.int .i64 a0.Imm]] w (Ret No w (fun s : Unit=>.tuple #[.int .i64 r.1,.bool r.2]) (fun s=>[])):=by
 unfold f0m at h
 refine enter Tryz.func42 z z ?_
 have hS:=Sep.start w
 refine .g (.c (.box hS z z ?_ z z))
 intro g1 W hS
 refine .q z (.qn z (.seq (.g (.s (ld T.t32 hS z z z z z) z ?_))))
 have ⟨y1,hy1,h⟩:=bnd h
 refine .c (.call0 hS Tryz.func72 (f9x hy1) z z ?_ z z z z)
 intro W hS
 refine .q z (.nil ?_)
 refine .cs z h ?_ ?_ <;> intro h
 ·cases h
  exact .g (.q z (.qn z (.ret (fin_ret (vs:=[_,_]) () (rt z (rt z rn)) z (hS.to [] z)))))
 refine .skip (.g (.s (fa T.f32_0 z z z) z (.s (ld T.t3 hS z z z z z) z (.q z ?_))))
 have ⟨x1,hx1,h⟩:=bnd h
 refine .s (ixt hx1 z T.u76 T.t75 z z z) z (.s (ldt (hG.at hS (fun _ _ h=>h)).1 hx1 T.t75 z z z z z) z (.c (.alloc T.t75 hS ?_ z z z)))
 intro g2 W hS
 refine .c (.st T.t75 hS z z z ?_ z z z z z)
 intro W hS
 refine .nil (.g (.s (fa T.f32_4 z z z) z (.s (ld T.t3 hS.p1 z z z z z) z ?_)))
 have ⟨y2,hy2,h⟩:=bnd h
 refine .c (.call0 hS Tryz.func16 (fb6 hy2) z z ?_ z z z z)
 intro W hS
 refine .c (.alloc T.t3 hS ?_ z z z)
 intro g3 W hS
 refine .c (.st T.t3 hS z z z ?_ z z z z z)
 intro W hS
 refine .nil (.g (.s (mf z z) z (.qn z (.g (.s (fa T.f32_3 z z z) z (.s (ld T.t3 hS.p2 z z z z z) z (.q z (.s (fa T.f32_2 z z z) z (.s (ld T.t3 hS.p2 z z z z z) z (.q z (.q z (.s (fa T.f75_2 z z z) z (.s (ld T.t3 hS.p1 z z z z z) z (.q z (.q z (.s (fa T.f75_1 z z z) z (.s (ld T.t3 hS.p1 z z z z z) z (.q z (.qn z (.seq (.g (.s (fa T.f32_0 z z z) z (.s (ld T.t3 hS.p2 z z z z z) z ?_)))))))))))))))))))))))
 have ⟨y3,hy3,h⟩:=bnd h
 refine .c (.call0 hS Tryz.func69 (f8w hy3) z z ?_ z z z z)
 intro W hS
 refine .nil (.block (.g (.q z (.q z (.nil ?_)))))
 refine .cs z h ?_ ?_ <;> intro h
 ·cases h
  exact .g (.s (fa T.f75_3 z z z) z (.s (ld T.t3 hS.p1 z z z z z) z (.q z (.q z (.q z (.s (fa T.f32_1 z z z) z (.s (ld T.t3 hS.p2 z z z z z) z (.q z (.q z (.q z (.qn z (.ret (fin_ret (vs:=[_,_]) () (rt z (rt z rn)) z (hS.to [] z))))))))))))))
 refine .g (.q z (.q z (.nil ?_)))
 refine .cs z h ?_ ?_ <;> intro h
 ·refine .seq (.rk 10 hS [0,0,0] T.mix ?_)
  intro W hS
  have hT:=hS.to [0,0,0] z
  refine .tp 0 z z hT (by kernel_rfl) (.tp 2 z z hT (by kernel_rfl) (.ts 4 z (fun W hT=>fa T.f32_1 z z z) hT z (by kernel_rfl) (.ts 5 z (fun W hT=>ld T.t3 hT.p2 z z z z z) hT z (by kernel_rfl) (.tp 6 z z hT (by kernel_rfl) ?_))))
  have ⟨y4,hy4,h⟩:=bnd h
  refine .by1 1 z (.callv (vs:=[.int .i64 0,.int .i64 12,.int .i64 20]) (cap:=#[.pointer (some ⟨g3,0,none⟩)]) hS ⟨_,Tryz.func73,z,by kernel_rfl⟩ (f0d hy4 hS.boxB) z z z ?_ z z) (by kernel_rfl)
  rintro ⟨⟩ W hS
  have hT:=hS.to [0,0,0] z
  refine ⟨fun _=>hT,?_⟩
  cases h
  exact .tp 3 z z hT (by kernel_rfl) (.tp 7 z z hT (by kernel_rfl) (.tp 8 z z hT (by kernel_rfl) (.tp 9 z z hT (by kernel_rfl) (.done (.ret (fin_ret (vs:=[_,_]) () (rt z (rt z rn)) z (hS.to [] z))) (by kernel_rfl)))))
 refine .g (.q z (.q z (.nil ?_)))
 refine .cs z h ?_ ?_ <;> intro h
 ·refine .g (.q z ?_)
  have ⟨y5,hy5,h⟩:=bnd h
  refine .c (.callv (vs:=[.int .i64 5,.int .i64 7,.int .i64 25]) (cap:=#[.pointer (some ⟨g3,0,none⟩)]) hS ⟨_,Tryz.func73,z,by kernel_rfl⟩ (f0d hy5 hS.boxB) z z z ?_ z z)
  rintro ⟨⟩ W hS
  refine .q z (.q z (.q z ?_))
  have ⟨y6,hy6,h⟩:=bnd h
  refine .c (.callv (vs:=[.int .i64 0,.int .i64 5,.int .i64 7]) (cap:=#[.pointer (some ⟨g3,0,none⟩)]) hS ⟨_,Tryz.func73,z,by kernel_rfl⟩ (f0d hy6 hS.boxB) z z z ?_ z z)
  rintro ⟨⟩ W hS
  cases h
  exact .q z (.q z (.qn z (.ret (fin_ret (vs:=[_,_]) () (rt z (rt z rn)) z (hS.to [] z)))))
 refine .g (.q z (.q z (.nil ?_)))
 refine .cs z h ?_ ?_ <;> intro h
 ·refine .g (.q z ?_)
  have ⟨y7,hy7,h⟩:=bnd h
  refine .c (.callv (vs:=[.int .i64 12,.int .i64 1,.int .i64 31]) (cap:=#[.pointer (some ⟨g3,0,none⟩)]) hS ⟨_,Tryz.func73,z,by kernel_rfl⟩ (f0d hy7 hS.boxB) z z z ?_ z z)
  rintro ⟨⟩ W hS
  refine .q z ?_
  have ⟨y8,hy8,h⟩:=bnd h
  refine .c (.callv (vs:=[.int .i64 5,.int .i64 6,.int .i64 25]) (cap:=#[.pointer (some ⟨g3,0,none⟩)]) hS ⟨_,Tryz.func73,z,by kernel_rfl⟩ (f0d hy8 hS.boxB) z z z ?_ z z)
  rintro ⟨⟩ W hS
  refine .q z (.q z (.q z (.q z ?_)))
  have ⟨y9,hy9,h⟩:=bnd h
  refine .c (.callv (vs:=[.int .i64 1,.int .i64 4,.int .i64 8]) (cap:=#[.pointer (some ⟨g3,0,none⟩)]) hS ⟨_,Tryz.func73,z,by kernel_rfl⟩ (f0d hy9 hS.boxB) z z z ?_ z z)
  rintro ⟨⟩ W hS
  refine .q z (.q z ?_)
  have ⟨y10,hy10,h⟩:=bnd h
  refine .c (.callv (vs:=[.int .i64 11,.int .i64 1,.int .i64 7]) (cap:=#[.pointer (some ⟨g3,0,none⟩)]) hS ⟨_,Tryz.func73,z,by kernel_rfl⟩ (f0d hy10 hS.boxB) z z z ?_ z z)
  rintro ⟨⟩ W hS
  cases h
  exact .q z (.q z (.qn z (.ret (fin_ret (vs:=[_,_]) () (rt z (rt z rn)) z (hS.to [] z)))))
 refine .g (.q z (.q z (.nil ?_)))
 refine .cs z h ?_ ?_ <;> intro h
 ·refine .seq (.rk 11 hS [0,0,0] T.mix ?_)
  intro W hS
  have hT:=hS.to [0,0,0] z
  refine .tp 0 z z hT (by kernel_rfl) (.ts 2 z (fun W hT=>fa T.f32_1 z z z) hT z (by kernel_rfl) (.ts 3 z (fun W hT=>ld T.t3 hT.p2 z z z z z) hT z (by kernel_rfl) (.tp 4 z z hT (by kernel_rfl) (.ts 6 z (fun W hT=>fa T.f75_1 z z z) hT z (by kernel_rfl) (.ts 7 z (fun W hT=>ld T.t3 hT.p1 z z z z z) hT z (by kernel_rfl) ?_)))))
  have ⟨y11,hy11,h⟩:=bnd h
  refine .by1 1 z (.callv (vs:=[.int .i64 0,.int .i64 20,.int .i64 12]) (cap:=#[.pointer (some ⟨g3,0,none⟩)]) hS ⟨_,Tryz.func73,z,by kernel_rfl⟩ (f0d hy11 hS.boxB) z z z ?_ z z) (by kernel_rfl)
  rintro ⟨⟩ W hS
  have hT:=hS.to [0,0,0] z
  refine ⟨fun _=>hT,?_⟩
  cases h
  exact .tp 5 z z hT (by kernel_rfl) (.tp 8 z z hT (by kernel_rfl) (.tp 9 z z hT (by kernel_rfl) (.tp 10 z z hT (by kernel_rfl) (.done (.ret (fin_ret (vs:=[_,_]) () (rt z (rt z rn)) z (hS.to [] z))) (by kernel_rfl)))))
 refine .g (.q z (.q z (.nil ?_)))
 refine .cs z h ?_ ?_ <;> intro h
 ·refine .seq (.rk 20 hS [0,0,0] T.mix ?_)
  intro W hS
  have hT:=hS.to [0,0,0] z
  refine .tp 0 z z hT (by kernel_rfl) (.tp 2 z z hT (by kernel_rfl) (.tp 5 z z hT (by kernel_rfl) (.tp 8 z z hT (by kernel_rfl) (.ts 11 z (fun W hT=>fa T.f32_1 z z z) hT z (by kernel_rfl) (.ts 12 z (fun W hT=>ld T.t3 hT.p2 z z z z z) hT z (by kernel_rfl) (.tp 13 z z hT (by kernel_rfl) (.ts 15 z (fun W hT=>fa T.f75_1 z z z) hT z (by kernel_rfl) (.ts 16 z (fun W hT=>ld T.t3 hT.p1 z z z z z) hT z (by kernel_rfl) ?_))))))))
  have ⟨y12,hy12,h⟩:=bnd h
  refine .by1 1 z (.callv (vs:=[.int .i64 20,.int .i64 1,.int .i64 31]) (cap:=#[.pointer (some ⟨g3,0,none⟩)]) hS ⟨_,Tryz.func73,z,by kernel_rfl⟩ (f0d hy12 hS.boxB) z z z ?_ z z) (by kernel_rfl)
  rintro ⟨⟩ W hS
  have hT:=hS.to [0,0,0] z
  refine ⟨fun _=>hT,?_⟩
  have ⟨y13,hy13,h⟩:=bnd h
  refine .by1 3 z (.callv (vs:=[.int .i64 1,.int .i64 10,.int .i64 21]) (cap:=#[.pointer (some ⟨g3,0,none⟩)]) hS ⟨_,Tryz.func73,z,by kernel_rfl⟩ (f0d hy13 hS.boxB) z z z ?_ z z) (by kernel_rfl)
  rintro ⟨⟩ W hS
  have hT:=hS.to [0,0,0] z
  refine ⟨fun _=>hT,.tp 4 z z hT (by kernel_rfl) ?_⟩
  have ⟨y14,hy14,h⟩:=bnd h
  refine .by1 6 z (.callv (vs:=[.int .i64 11,.int .i64 1,.int .i64 20]) (cap:=#[.pointer (some ⟨g3,0,none⟩)]) hS ⟨_,Tryz.func73,z,by kernel_rfl⟩ (f0d hy14 hS.boxB) z z z ?_ z z) (by kernel_rfl)
  rintro ⟨⟩ W hS
  have hT:=hS.to [0,0,0] z
  refine ⟨fun _=>hT,.tp 7 z z hT (by kernel_rfl) ?_⟩
  have ⟨y15,hy15,h⟩:=bnd h
  refine .by1 9 z (.callv (vs:=[.int .i64 12,.int .i64 8,.int .i64 12]) (cap:=#[.pointer (some ⟨g3,0,none⟩)]) hS ⟨_,Tryz.func73,z,by kernel_rfl⟩ (f0d hy15 hS.boxB) z z z ?_ z z) (by kernel_rfl)
  rintro ⟨⟩ W hS
  have hT:=hS.to [0,0,0] z
  refine ⟨fun _=>hT,?_⟩
  cases h
  exact .tp 10 z z hT (by kernel_rfl) (.tp 14 z z hT (by kernel_rfl) (.tp 17 z z hT (by kernel_rfl) (.tp 18 z z hT (by kernel_rfl) (.tp 19 z z hT (by kernel_rfl) (.done (.ret (fin_ret (vs:=[_,_]) () (rt z (rt z rn)) z (hS.to [] z))) (by kernel_rfl))))))
 cases h
 exact .skip (.g (.s (fa T.f75_1 z z z) z (.s (ld T.t3 hS.p1 z z z z z) z (.q z (.qn z (.ret (fin_ret (vs:=[_,_]) () (rt z (rt z rn)) z (hS.to [] z))))))))
theorem fcs {a0 : Int} {w : World} {r : Int} (h : f0w a0 = some r) : Calls Tryz.prog 61 #[.int .i64 a0] w (Ret No w (fun s : Unit=>.int .i64 r) (fun s=>[])):=by
 unfold f0w at h
 refine enter Tryz.func61 z z ?_
 have hS:=Sep.start w
 cases h
 exact .g (.qn z (.g (.q z (.s (cv T.u3 T.u21 z z) z (.s (cv T.u21 T.u3 z z) z (.qn z (.ret (fin_ret (vs:=[_]) () (rt z rn) z (hS.to [] z)))))))))
def fcb (w : World) (r : (List Int) × Bool) : Env → World → Prop:=Fin Tryz.prog Tryz.f37 No w (fun s : Hd=>.tuple #[(sv s),.bool r.2]) (fun s=>[rowV (sv s) 3 1 (D.int .i64) r.1]) .ret
theorem fbk {a0 : List Instr} {v_0 : Hd} {w : World} {r : (List Int) × Bool} (h : f66 a0 = some r) (q_0 : RV w (Old No w) (sv v_0) 32 5 dInstr a0) (hG : Gl w) : Calls Tryz.prog 37 #[(sv v_0)] w (Ret No w (fun s : Hd=>.tuple #[(sv s),.bool r.2]) (fun s=>[rowV (sv s) 3 1 (D.int .i64) r.1])):=by
 unfold f66 at h
 refine enter Tryz.func37 z z ?_
 have hS:=Sep.start w
 refine .g (.q z (.qn z (.g (.qn z (.seq (.g (.q z (.s (lenv (hS.keep q_0) T.u23 z z) z (.qn z (.block ?_))))))))))
 have hS:=hS.nilv 3 1 (D.int .i64)
 have ⟨y1,hy1,h⟩:=bnd h
 refine .via (.iter (fun s1 E' W'=>∃ (v3 : Hd),SubL E' [(4,(sv v3)),(9,(sv v_0)),(10,.int .i64 (a0.length : Int)),(11,.int .i64 s1.2)] ∧ Sep No w W' [rowV (sv v3) 3 1 (D.int .i64) s1.1]) (fun y2 x E' W'=>(match y2 with | .inl o1=>x = .ret ∧ fcb w o1 E' W' | .inr o2=>x = .exit 0 ∧ ∃ (v4 : Hd),SubL E' [(4,(sv v4))] ∧ Sep No w W' [rowV (sv v4) 3 1 (D.int .i64) o2])) hy1 ⟨nilH,sb rfl,hS.to [0] rfl⟩ ?_) ?_
 ·intro s1 y3 E W h hI
  obtain ⟨v2,hE,hS⟩:=hI
  refine CW.sub hE ?_
  unfold f2l at h
  refine .g (.qn z (.seq ?_))
  refine .cs z h ?_ ?_ <;> intro h
  ·refine .skip (.seq (.block (.seq (.region ?_))))
   have ⟨x1,hx1,h⟩:=bnd h
   refine .s (ixv (hS.keep q_0) hx1 T.u23 T.t32 z z z) z (.s (lde (RV.flat (hS.keep q_0) hx1 z) T.t32 z z z z z) z (.c (.alloc T.t32 hS ?_ z z z)))
   intro g1 W hS
   refine .c (.st T.t32 hS z z z ?_ z z z z z)
   intro W hS
   refine .nil (.g (.s (ld T.t32 hS z z z z z) z ?_))
   have ⟨y4,hy4,h⟩:=bnd h
   refine .c (.call0 hS Tryz.func42 (f9o hy4 (hG.at hS (fun _ _ h=>h))) z z ?_ z z z z)
   intro W hS
   refine .q z (.q z (.q z (.q z (.qn z (.seq (.g (.q z (.q z (.nil ?_)))))))))
   refine .cs z h ?_ ?_ <;> intro h
   ·refine .g (.q z (.qn z (.ret ?_)))
    have hS:=hS.nilv 3 1 (D.int .i64)
    cases h
    exact ⟨by simp,z,fin_ret (vs:=[_,_]) nilH (rt z (rt z rn)) z (hS.to [0] z)⟩
   refine .skip (.region (.q z (.q z ?_)))
   have ⟨y5,hy5,h⟩:=bnd h
   refine .c (.call0 hS Tryz.func61 (fcs hy5) z z ?_ z z z z)
   intro W hS
   refine .c (.liv [y5] (D.int .i64) T.u25 T.t3 hS z z z z ?_ z (fun _=>z) z z z z)
   intro v5 W hS
   have ⟨r1,hr1,h⟩:=bnd h
   have hT0:=hS.p2
   refine .c (.apprv hr1 hT0 hT0.p1.lendv (fun _=>z) T.u25 T.t3 z z z ?_ z z z z z)
   intro v6 W hS
   refine .qn z (.region (.q z (.q z (.nil ?_))))
   cases h
   exact ⟨z,v6,sb z,hS.to [0] z⟩
  refine .exit ?_
  cases h
  exact ⟨by simp,z,v2,sb z,hS.to [0] z⟩
 intro x E W hJ
 rcases y1 with o3 | o4
 ·obtain ⟨rfl,hF⟩:=hJ
  refine ⟨_,fun _ _ h=>h,?_⟩
  cases h
  exact hF
 obtain ⟨rfl,v7,hE,hS⟩:=hJ
 refine ⟨_,hE.sub,?_⟩
 cases h
 exact .g (.q z (.q z (.qn z (.ret (fin_ret (vs:=[_,_]) v7 (rt z (rt z rn)) z (hS.to [0] z))))))
theorem f92 {a0 : List Instr} {v_0 : Hd} {w : World} {r : Machine × Bool} (h : f1n a0 = some r) (q_0 : RV w (Old No w) (sv v_0) 32 5 dInstr a0) (hG : Gl w) : Calls Tryz.prog 12 #[(sv v_0)] w (Ret No w (fun s : Hd × Hd=>.tuple #[.agg #[(sv s.1),.int .i64 r.1.Pc,(sv s.2)],.bool r.2]) (fun s=>[rowV (sv s.1) 3 1 (D.int .i64) r.1.Regs,rowV (sv s.2) 3 1 (D.int .i64) r.1.Mem])):=by
 unfold f1n at h
 refine enter Tryz.func12 z z ?_
 have hS:=Sep.start w
 refine .g (.c (.alloc T.t27 hS ?_ z z z))
 intro g1 W hS
 refine .qn z (.g (.q z ?_))
 have ⟨y1,hy1,h⟩:=bnd h
 refine .c (.call1v hS Tryz.func37 (fbk hy1 (hS.keep q_0) (hG.at hS (fun _ _ h=>h))) z z ?_ z z z z)
 intro v1 W hS
 refine .q z (.q z (.q z (.q z (.qn z (.seq (.g (.q z (.q z (.q z (.chunk 6 20 ((!y1.2) || (decide ((w64 ((w64 ((y1.1.length : Int) + 1)) + 12)) > 10000))) hS ?_ ?_))))))))))
 ·refine .both (!y1.2) (fun hb=>?_) (fun hb=>?_)
  ·exact .xx hb z (.xx hb z (.xx hb z (.xx hb z (.xx hb z (.s (pkt hb z z z) z (.nil (ck 6 hS z (or_t hb) z z)))))))
  have hg1:=hb
  exact .g hg1 (.q z (.g hg1 (.s (lenv hS.lendv T.u25 z z) z (.g hg1 (.q z (.g hg1 (.q z (.g hg1 (.q z (.s (pkf hg1 z z z) z (.nil (ck 6 hS z (or_f hg1) z z)))) z)) z)) z)) z)) z
 intro W hS
 refine .nil ?_
 refine .cs z h ?_ ?_ <;> intro h
 ·refine .g (.s (bs T.s27 z z) z (.c (.st T.t27 hS.p1 z z z ?_ z z z z z)))
  intro W hS
  refine .qn z (.ret ?_)
  have hS:=hS.nilv 3 1 (D.int .i64)
  have hS:=hS.nilv 3 1 (D.int .i64)
  cases h
  exact fin_ret (vs:=[_,_]) (nilH,nilH) (rc hS.p2 T.t27 z (rt z rn) z z) z (hS.to [1,0] z)
 refine .skip (.seq ?_)
 have ⟨r1,hr1,h⟩:=bnd h
 have ⟨r2,hr2,h⟩:=bnd h
 refine .via (R':=fun x E' W'=>x = .normal ∧ ∃ (g2 : Nat) (v2 : Hd) (v3 : Hd),SubL E' [(2,.pointer (some ⟨g1,0,none⟩)),(6,.pointer (some ⟨g2,0,none⟩))] ∧ Sep No w W' [rowV (sv v1) 3 1 (D.int .i64) y1.1,.box g1 27 [(sv nilH),.int .i64 0,(sv nilH)],.box g2 27 [(sv v2),.int .i64 4,(sv v3)],rowV (sv v2) 3 1 (D.int .i64) r1,rowV (sv v3) 3 1 (D.int .i64) r2]) ?_ ?_
 ·refine .rk 6 hS [0,0] T.mix ?_
  intro W hS
  have hT:=hS.to [0,0] z
  refine .tp 2 z z hT (by kernel_rfl) (.by [0,1,5] ⟨⟨_,z,?_⟩,⟨_,z,?_⟩,⟨_,z,?_⟩,trivial⟩ (by kernel_rfl) z)
  ·refine (.mkv 0 (D.int .i64) hr1 T.u25 T.t3 hS z z z z z (fun _=>z) ?_ z z z)
   intro v4 W hS
   have hT:=hS.to [1,1] z
   refine ⟨fun _=>hT,.by [1,5] ⟨⟨_,z,?_⟩,⟨_,z,?_⟩,trivial⟩ (by kernel_rfl) z⟩
   ·refine (.liv [0] (D.int .i64) T.u25 T.t3 hS z z z z ?_ z (fun _=>z) z z z z)
    intro v5 W hS
    have hT:=hS.to [2,2] z
    refine ⟨fun _=>hT,.by [3,5] ⟨⟨_,z,?_⟩,⟨_,z,?_⟩,trivial⟩ (by kernel_rfl) z⟩
    ·have hT0:=hS
     refine (.apprv hr2 hT0 hT0.p2.lendv (fun _=>z) T.u25 T.t3 z z z ?_ z z z z z)
     intro v6 W hS
     have hT:=hS.to [2,2] z
     refine ⟨fun _=>hT,.ts 4 z (fun W hT=>bs T.s27 z z) hT z (by kernel_rfl) (.by1 5 z (.alloc T.t27 hS ?_ z z z) (by kernel_rfl))⟩
     intro g3 W hS
     have hT:=hS.to [3,3] z
     refine ⟨fun _=>hT,.by1 6 z (.st T.t27 hS z z z ?_ z z z z z) (by kernel_rfl)⟩
     intro W hS
     refine ⟨fun h=>absurd z h,?_⟩
     exact .done (⟨z,g3,v4,v6,sb z,hS.to [3,3,0,1,0] z⟩) (by kernel_rfl)
    refine (.alloc T.t27 hS ?_ z z z)
    intro g4 W hS
    have hT:=hS.to [3,3] z
    refine ⟨fun _=>hT,?_⟩
    have hT0:=hS.p1
    refine .by1 3 z (.apprv hr2 hT0 hT0.p3.lendv (fun _=>z) T.u25 T.t3 z z z ?_ z z z z z) (by kernel_rfl)
    intro v7 W hS
    have hT:=hS.to [3,3] z
    refine ⟨fun _=>hT,.ts 4 z (fun W hT=>bs T.s27 z z) hT z (by kernel_rfl) (.by1 6 z (.st T.t27 hS.p1 z z z ?_ z z z z z) (by kernel_rfl))⟩
    intro W hS
    refine ⟨fun h=>absurd z h,?_⟩
    exact .done (⟨z,g4,v4,v7,sb z,hS.to [3,3,0,1,0] z⟩) (by kernel_rfl)
   refine (.alloc T.t27 hS ?_ z z z)
   intro g5 W hS
   have hT:=hS.to [2,2] z
   refine ⟨fun _=>hT,.by1 1 z (.liv [0] (D.int .i64) T.u25 T.t3 hS z z z z ?_ z (fun _=>z) z z z z) (by kernel_rfl)⟩
   intro v8 W hS
   have hT:=hS.to [3,3] z
   refine ⟨fun _=>hT,?_⟩
   have hT0:=hS
   refine .by1 3 z (.apprv hr2 hT0 hT0.p3.lendv (fun _=>z) T.u25 T.t3 z z z ?_ z z z z z) (by kernel_rfl)
   intro v9 W hS
   have hT:=hS.to [3,3] z
   refine ⟨fun _=>hT,.ts 4 z (fun W hT=>bs T.s27 z z) hT z (by kernel_rfl) (.by1 6 z (.st T.t27 hS.p1 z z z ?_ z z z z z) (by kernel_rfl))⟩
   intro W hS
   refine ⟨fun h=>absurd z h,?_⟩
   exact .done (⟨z,g5,v4,v9,sb z,hS.to [3,3,0,1,0] z⟩) (by kernel_rfl)
  ·refine (.liv [0] (D.int .i64) T.u25 T.t3 hS z z z z ?_ z (fun _=>z) z z z z)
   intro v10 W hS
   have hT:=hS.to [1,1] z
   refine ⟨fun _=>hT,.by [0,3,5] ⟨⟨_,z,?_⟩,⟨_,z,?_⟩,⟨_,z,?_⟩,trivial⟩ (by kernel_rfl) z⟩
   ·refine (.mkv 0 (D.int .i64) hr1 T.u25 T.t3 hS z z z z z (fun _=>z) ?_ z z z)
    intro v11 W hS
    have hT:=hS.to [2,2] z
    refine ⟨fun _=>hT,.by [3,5] ⟨⟨_,z,?_⟩,⟨_,z,?_⟩,trivial⟩ (by kernel_rfl) z⟩
    ·have hT0:=hS.p1
     refine (.apprv hr2 hT0 hT0.p2.lendv (fun _=>z) T.u25 T.t3 z z z ?_ z z z z z)
     intro v12 W hS
     have hT:=hS.to [2,2] z
     refine ⟨fun _=>hT,.ts 4 z (fun W hT=>bs T.s27 z z) hT z (by kernel_rfl) (.by1 5 z (.alloc T.t27 hS ?_ z z z) (by kernel_rfl))⟩
     intro g6 W hS
     have hT:=hS.to [3,3] z
     refine ⟨fun _=>hT,.by1 6 z (.st T.t27 hS z z z ?_ z z z z z) (by kernel_rfl)⟩
     intro W hS
     refine ⟨fun h=>absurd z h,?_⟩
     exact .done (⟨z,g6,v11,v12,sb z,hS.to [3,3,0,1,0] z⟩) (by kernel_rfl)
    refine (.alloc T.t27 hS ?_ z z z)
    intro g7 W hS
    have hT:=hS.to [3,3] z
    refine ⟨fun _=>hT,?_⟩
    have hT0:=hS.p2
    refine .by1 3 z (.apprv hr2 hT0 hT0.p3.lendv (fun _=>z) T.u25 T.t3 z z z ?_ z z z z z) (by kernel_rfl)
    intro v13 W hS
    have hT:=hS.to [3,3] z
    refine ⟨fun _=>hT,.ts 4 z (fun W hT=>bs T.s27 z z) hT z (by kernel_rfl) (.by1 6 z (.st T.t27 hS.p1 z z z ?_ z z z z z) (by kernel_rfl))⟩
    intro W hS
    refine ⟨fun h=>absurd z h,?_⟩
    exact .done (⟨z,g7,v11,v13,sb z,hS.to [3,3,0,1,0] z⟩) (by kernel_rfl)
   ·have hT0:=hS
    refine (.apprv hr2 hT0 hT0.p1.lendv (fun _=>z) T.u25 T.t3 z z z ?_ z z z z z)
    intro v14 W hS
    have hT:=hS.to [1,1] z
    refine ⟨fun _=>hT,.by [0,5] ⟨⟨_,z,?_⟩,⟨_,z,?_⟩,trivial⟩ (by kernel_rfl) z⟩
    ·refine (.mkv 0 (D.int .i64) hr1 T.u25 T.t3 hS z z z z z (fun _=>z) ?_ z z z)
     intro v15 W hS
     have hT:=hS.to [2,2] z
     refine ⟨fun _=>hT,.ts 4 z (fun W hT=>bs T.s27 z z) hT z (by kernel_rfl) (.by1 5 z (.alloc T.t27 hS ?_ z z z) (by kernel_rfl))⟩
     intro g8 W hS
     have hT:=hS.to [3,3] z
     refine ⟨fun _=>hT,.by1 6 z (.st T.t27 hS z z z ?_ z z z z z) (by kernel_rfl)⟩
     intro W hS
     refine ⟨fun h=>absurd z h,?_⟩
     exact .done (⟨z,g8,v15,v14,sb z,hS.to [3,3,0,0,0] z⟩) (by kernel_rfl)
    refine (.alloc T.t27 hS ?_ z z z)
    intro g9 W hS
    have hT:=hS.to [2,2] z
    refine ⟨fun _=>hT,.by1 0 z (.mkv 0 (D.int .i64) hr1 T.u25 T.t3 hS z z z z z (fun _=>z) ?_ z z z) (by kernel_rfl)⟩
    intro v16 W hS
    have hT:=hS.to [3,3] z
    refine ⟨fun _=>hT,.ts 4 z (fun W hT=>bs T.s27 z z) hT z (by kernel_rfl) (.by1 6 z (.st T.t27 hS.p1 z z z ?_ z z z z z) (by kernel_rfl))⟩
    intro W hS
    refine ⟨fun h=>absurd z h,?_⟩
    exact .done (⟨z,g9,v16,v14,sb z,hS.to [3,3,0,0,0] z⟩) (by kernel_rfl)
   refine (.alloc T.t27 hS ?_ z z z)
   intro g10 W hS
   have hT:=hS.to [2,2] z
   refine ⟨fun _=>hT,.by [0,3] ⟨⟨_,z,?_⟩,⟨_,z,?_⟩,trivial⟩ (by kernel_rfl) z⟩
   ·refine (.mkv 0 (D.int .i64) hr1 T.u25 T.t3 hS z z z z z (fun _=>z) ?_ z z z)
    intro v17 W hS
    have hT:=hS.to [3,3] z
    refine ⟨fun _=>hT,?_⟩
    have hT0:=hS.p2
    refine .by1 3 z (.apprv hr2 hT0 hT0.p3.lendv (fun _=>z) T.u25 T.t3 z z z ?_ z z z z z) (by kernel_rfl)
    intro v18 W hS
    have hT:=hS.to [3,3] z
    refine ⟨fun _=>hT,.ts 4 z (fun W hT=>bs T.s27 z z) hT z (by kernel_rfl) (.by1 6 z (.st T.t27 hS.p2 z z z ?_ z z z z z) (by kernel_rfl))⟩
    intro W hS
    refine ⟨fun h=>absurd z h,?_⟩
    exact .done (⟨z,g10,v17,v18,sb z,hS.to [3,3,0,1,0] z⟩) (by kernel_rfl)
   have hT0:=hS.p1
   refine (.apprv hr2 hT0 hT0.p2.lendv (fun _=>z) T.u25 T.t3 z z z ?_ z z z z z)
   intro v19 W hS
   have hT:=hS.to [2,2] z
   refine ⟨fun _=>hT,.by1 0 z (.mkv 0 (D.int .i64) hr1 T.u25 T.t3 hS z z z z z (fun _=>z) ?_ z z z) (by kernel_rfl)⟩
   intro v20 W hS
   have hT:=hS.to [3,3] z
   refine ⟨fun _=>hT,.ts 4 z (fun W hT=>bs T.s27 z z) hT z (by kernel_rfl) (.by1 6 z (.st T.t27 hS.p2 z z z ?_ z z z z z) (by kernel_rfl))⟩
   intro W hS
   refine ⟨fun h=>absurd z h,?_⟩
   exact .done (⟨z,g10,v20,v19,sb z,hS.to [3,3,0,0,0] z⟩) (by kernel_rfl)
  refine (.alloc T.t27 hS ?_ z z z)
  intro g11 W hS
  have hT:=hS.to [1,1] z
  refine ⟨fun _=>hT,.by [0,1] ⟨⟨_,z,?_⟩,⟨_,z,?_⟩,trivial⟩ (by kernel_rfl) z⟩
  ·refine (.mkv 0 (D.int .i64) hr1 T.u25 T.t3 hS z z z z z (fun _=>z) ?_ z z z)
   intro v21 W hS
   have hT:=hS.to [2,2] z
   refine ⟨fun _=>hT,.by1 1 z (.liv [0] (D.int .i64) T.u25 T.t3 hS z z z z ?_ z (fun _=>z) z z z z) (by kernel_rfl)⟩
   intro v22 W hS
   have hT:=hS.to [3,3] z
   refine ⟨fun _=>hT,?_⟩
   have hT0:=hS
   refine .by1 3 z (.apprv hr2 hT0 hT0.p3.lendv (fun _=>z) T.u25 T.t3 z z z ?_ z z z z z) (by kernel_rfl)
   intro v23 W hS
   have hT:=hS.to [3,3] z
   refine ⟨fun _=>hT,.ts 4 z (fun W hT=>bs T.s27 z z) hT z (by kernel_rfl) (.by1 6 z (.st T.t27 hS.p2 z z z ?_ z z z z z) (by kernel_rfl))⟩
   intro W hS
   refine ⟨fun h=>absurd z h,?_⟩
   exact .done (⟨z,g11,v21,v23,sb z,hS.to [3,3,0,1,0] z⟩) (by kernel_rfl)
  refine (.liv [0] (D.int .i64) T.u25 T.t3 hS z z z z ?_ z (fun _=>z) z z z z)
  intro v24 W hS
  have hT:=hS.to [2,2] z
  refine ⟨fun _=>hT,.by [0,3] ⟨⟨_,z,?_⟩,⟨_,z,?_⟩,trivial⟩ (by kernel_rfl) z⟩
  ·refine (.mkv 0 (D.int .i64) hr1 T.u25 T.t3 hS z z z z z (fun _=>z) ?_ z z z)
   intro v25 W hS
   have hT:=hS.to [3,3] z
   refine ⟨fun _=>hT,?_⟩
   have hT0:=hS.p1
   refine .by1 3 z (.apprv hr2 hT0 hT0.p3.lendv (fun _=>z) T.u25 T.t3 z z z ?_ z z z z z) (by kernel_rfl)
   intro v26 W hS
   have hT:=hS.to [3,3] z
   refine ⟨fun _=>hT,.ts 4 z (fun W hT=>bs T.s27 z z) hT z (by kernel_rfl) (.by1 6 z (.st T.t27 hS.p2 z z z ?_ z z z z z) (by kernel_rfl))⟩
   intro W hS
   refine ⟨fun h=>absurd z h,?_⟩
   exact .done (⟨z,g11,v25,v26,sb z,hS.to [3,3,0,1,0] z⟩) (by kernel_rfl)
  have hT0:=hS
  refine (.apprv hr2 hT0 hT0.p2.lendv (fun _=>z) T.u25 T.t3 z z z ?_ z z z z z)
  intro v27 W hS
  have hT:=hS.to [2,2] z
  refine ⟨fun _=>hT,.by1 0 z (.mkv 0 (D.int .i64) hr1 T.u25 T.t3 hS z z z z z (fun _=>z) ?_ z z z) (by kernel_rfl)⟩
  intro v28 W hS
  have hT:=hS.to [3,3] z
  refine ⟨fun _=>hT,.ts 4 z (fun W hT=>bs T.s27 z z) hT z (by kernel_rfl) (.by1 6 z (.st T.t27 hS.p2 z z z ?_ z z z z z) (by kernel_rfl))⟩
  intro W hS
  refine ⟨fun h=>absurd z h,?_⟩
  exact .done (⟨z,g11,v28,v27,sb z,hS.to [3,3,0,0,0] z⟩) (by kernel_rfl)
 intro x E W hJ
 obtain ⟨rfl,g12,v29,v30,hE,hS⟩:=hJ
 refine ⟨_,hE.sub,?_⟩
 refine .g (.s (fa T.f27_0 z z z) z (.s (ld T.t25 hS.p2 z z z z z) z (.s (fa T.f27_2 z z z) z (.s (ld T.t25 hS.p2 z z z z z) z (.s (lenv hS.p4.lendv T.u25 z z) z (.q z ?_))))))
 have ⟨x1,hx1,h⟩:=bnd h
 refine .s (ixv hS.p3.lendv hx1 T.u25 T.t3 z z z) z ?_
 have ⟨r3,hr3,h⟩:=bnd h
 refine .c (.sev hr3 hx1 hS.p3 T.t3 z z z z z z ?_ z z z z z z)
 intro W hS
 refine .nil (.g (.s (fa T.f27_2 z z z) z (.s (ld T.t25 hS.p3 z z z z z) z ?_)))
 have ⟨r4,hr4,h⟩:=bnd h
 refine .c (.appz 0 hr4 hS.p4 T.u25 T.u3 T.t3 z z z z ?_ (fun _=>z) z z z z z z)
 intro v31 W hS
 refine .s (fa T.f27_2 z z z) z (.c (.st T.t25 hS.p4 z z z ?_ z z z z z))
 intro W hS
 refine .nil (.g (.s (ld T.t27 hS z z z z z) z (.c (.st T.t27 hS.p4 z z z ?_ z z z z z))))
 intro W hS
 cases h
 exact .qn z (.ret (fin_ret (vs:=[_,_]) (v29,v31) (rc hS T.t27 z (rt z rn) z z) z (hS.to [3,2] z)))
theorem f1p {a0 : Instr} {a1 : Int} {a2 : Int} {a3 : Int} {w : World} {r : Bool} (h : f14 a0 a1 a2 a3 = some r) : Calls Tryz.prog 133 #[.agg #[.int .i64 a0.Op,.int .i64 a0.Rd,.int .i64 a0.Rs,.int .i64 a0.Rt,.int .i64 a0.Imm],.int .i64 a1,.int .i64 a2,.int .i64 a3] w (Ret No w (fun s : Unit=>.bool r) (fun s=>[])):=by
 unfold f14 at h
 refine enter Tryz.func133 z z ?_
 have hS:=Sep.start w
 refine .g (.c (.box hS z z ?_ z z))
 intro g1 W hS
 refine .qn z (.g (.s (fa T.f32_1 z z z) z (.s (ld T.t3 hS z z z z z) z (.q z (.q z ?_)))))
 have ⟨y1,hy1,h⟩:=bnd h
 refine .c (.call0 hS Tryz.func48 (f07 hy1) z z ?_ z z z z)
 intro W hS
 refine .q z ?_
 have ⟨b1,hb1,h⟩:=bnd h
 refine .chunk 6 20 (b1) hS ?_ ?_
 ·refine .both (y1) (fun hb=>?_) (fun hb=>?_)
  ·have hg1:=hb
   have h:=sel_t hb hb1
   refine .g hg1 (.s (fa T.f32_2 z z z) z (.g hg1 (.s (ld T.t3 hS z z z z z) z (.g hg1 (.q z (.g hg1 (.q z ?_) z)) z)) z)) z
   have ⟨y2,hy2,h⟩:=bnd h
   refine .g hg1 (.c (.call0 hS Tryz.func48 (f07 hy2) z z ?_ z z z z)) z
   intro W hS
   refine .s (pkt hg1 z z z) z ?_
   cases h
   exact .nil (ck 6 hS z z z z)
  refine .xx hb z (.xx hb z (.xx hb z (.xx hb z (.xx hb z ?_))))
  cases sel_f hb hb1
  exact .s (pkf hb z z z) z (.nil (ck 6 hS z z z z))
 intro W hS
 refine .q z ?_
 have ⟨b2,hb2,h⟩:=bnd h
 refine .chunk 6 27 (b2) hS ?_ ?_
 ·refine .both (b1) (fun hb=>?_) (fun hb=>?_)
  ·have hg2:=hb
   have h:=sel_t hb hb2
   refine .g hg2 (.s (fa T.f32_3 z z z) z (.g hg2 (.s (ld T.t3 hS z z z z z) z (.g hg2 (.q z (.g hg2 (.q z ?_) z)) z)) z)) z
   have ⟨y3,hy3,h⟩:=bnd h
   refine .g hg2 (.c (.call0 hS Tryz.func48 (f07 hy3) z z ?_ z z z z)) z
   intro W hS
   refine .s (pkt hg2 z z z) z ?_
   cases h
   exact .nil (ck 6 hS z z z z)
  refine .xx hb z (.xx hb z (.xx hb z (.xx hb z (.xx hb z ?_))))
  cases sel_f hb hb2
  exact .s (pkf hb z z z) z (.nil (ck 6 hS z z z z))
 intro W hS
 obtain rfl:=Option.some.inj h
 exact .qn z (.ret (fin_ret (vs:=[_]) () (rt z rn) z (hS.to [] z)))
end Go.Proofs.YtmpplggjpmmhlaaGreatDoor.N
namespace Go.Proofs.YtmpplggjpmmhlaaGreatDoor.N
open Go.Proofs.YtmpplggjpmmhlaaGreatDoor.X
theorem f93 {a0 : Int} {a1 : Int} {a2 : Int} {w : World} {r : Bool} (h : f48 a0 a1 a2 = some r) : Calls Tryz.prog 134 #[.int .i64 a0,.int .i64 a1,.int .i64 a2] w (Ret No w (fun s : Unit=>.bool r) (fun s=>[])):=by
 unfold f48 at h
 refine enter Tryz.func134 z z ?_
 have hS:=Sep.start w
 refine .g (.qn z (.g (.q z (.q z (.q z ?_)))))
 have ⟨y1,hy1,h⟩:=bnd h
 refine .c (.call0 hS Tryz.func48 (f07 hy1) z z ?_ z z z z)
 intro W hS
 refine .q z (.chunk 4 15 (y1 && ((Int.tmod a0 2) == 0)) hS ?_ ?_)
 ·refine .both (y1) (fun hb=>?_) (fun hb=>?_)
  ·have hg1:=hb
   exact .g hg1 (.q z (.g hg1 (.q z (.g hg1 (.q z (.s (pkt hg1 z z z) z (.nil (ck 4 hS z (and_t hg1) z z)))) z)) z)) z
  exact .xx hb z (.xx hb z (.xx hb z (.s (pkf hb z z z) z (.nil (ck 4 hS z (and_f hb) z z)))))
 intro W hS
 cases h
 exact .qn z (.ret (fin_ret (vs:=[_]) () (rt z rn) z (hS.to [] z)))
theorem f9v {a0 : Instr} {w : World} {r : Bool} (h : f1s a0 = some r) : Calls Tryz.prog 102 #[.agg #[.int .i64 a0.Op,.int .i64 a0.Rd,.int .i64 a0.Rs,.int .i64 a0.Rt,.int .i64 a0.Imm]] w (Ret No w (fun s : Unit=>.bool r) (fun s=>[])):=by
 unfold f1s at h
 refine enter Tryz.func102 z z ?_
 have hS:=Sep.start w
 refine .g (.c (.box hS z z ?_ z z))
 intro g1 W hS
 refine .qn z (.seq (.block (.g (.s (fa T.f32_0 z z z) z (.s (ld T.t3 hS z z z z z) z ?_)))))
 have ⟨y1,hy1,h⟩:=bnd h
 refine .c (.call0 hS Tryz.func48 (f07 hy1) z z ?_ z z z z)
 intro W hS
 refine .q z (.nil ?_)
 refine .cs z h ?_ ?_ <;> intro h
 ·refine .g (.s (ld T.t32 hS z z z z z) z ?_)
  have ⟨y2,hy2,h⟩:=bnd h
  refine .c (.call0 hS Tryz.func133 (f1p hy2) z z ?_ z z z z)
  intro W hS
  refine .q z (.chunk 4 13 (y2 && (a0.Imm == 0)) hS ?_ ?_)
  ·refine .both (y2) (fun hb=>?_) (fun hb=>?_)
   ·have hg1:=hb
    exact .g hg1 (.s (fa T.f32_4 z z z) z (.g hg1 (.s (ld T.t3 hS z z z z z) z (.g hg1 (.q z (.s (pkt hg1 z z z) z (.nil (ck 4 hS z (and_t hg1) z z)))) z)) z)) z
   exact .xx hb z (.xx hb z (.xx hb z (.s (pkf hb z z z) z (.nil (ck 4 hS z (and_f hb) z z)))))
  intro W hS
  cases h
  exact .qn z (.ret (fin_ret (vs:=[_]) () (rt z rn) z (hS.to [] z)))
 refine .g (.s (fa T.f32_0 z z z) z (.s (ld T.t3 hS z z z z z) z ?_))
 have ⟨y3,hy3,h⟩:=bnd h
 refine .c (.call0 hS Tryz.func48 (f07 hy3) z z ?_ z z z z)
 intro W hS
 refine .q z (.nil ?_)
 refine .cs z h ?_ ?_ <;> intro h
 ·refine .g (.s (ld T.t32 hS z z z z z) z ?_)
  have ⟨y4,hy4,h⟩:=bnd h
  refine .c (.call0 hS Tryz.func133 (f1p hy4) z z ?_ z z z z)
  intro W hS
  refine .q z ?_
  have ⟨b1,hb1,h⟩:=bnd h
  refine .chunk 4 24 (b1) hS ?_ ?_
  ·refine .both (y4) (fun hb=>?_) (fun hb=>?_)
   ·have hg2:=hb
    have h:=sel_t hb hb1
    refine .g hg2 (.s (fa T.f32_4 z z z) z (.g hg2 (.s (ld T.t3 hS z z z z z) z ?_) z)) z
    have ⟨y5,hy5,h⟩:=bnd h
    refine .g hg2 (.c (.call0 hS Tryz.func48 (f07 hy5) z z ?_ z z z z)) z
    intro W hS
    refine .s (pkt hg2 z z z) z ?_
    cases h
    exact .nil (ck 4 hS z z z z)
   refine .xx hb z (.xx hb z (.xx hb z ?_))
   cases sel_f hb hb1
   exact .s (pkf hb z z z) z (.nil (ck 4 hS z z z z))
  intro W hS
  obtain rfl:=Option.some.inj h
  exact .qn z (.ret (fin_ret (vs:=[_]) () (rt z rn) z (hS.to [] z)))
 refine .g (.s (fa T.f32_0 z z z) z (.s (ld T.t3 hS z z z z z) z (.q z (.q z (.nil ?_)))))
 refine .cs z h ?_ ?_ <;> intro h
 ·refine .g (.s (ld T.t32 hS z z z z z) z ?_)
  have ⟨y6,hy6,h⟩:=bnd h
  refine .c (.call0 hS Tryz.func133 (f1p hy6) z z ?_ z z z z)
  intro W hS
  refine .q z ?_
  have ⟨b2,hb2,h⟩:=bnd h
  refine .chunk 4 35 (b2) hS ?_ ?_
  ·refine .both (y6) (fun hb=>?_) (fun hb=>?_)
   ·have hg3:=hb
    have h:=sel_t hb hb2
    refine .g hg3 (.s (fa T.f32_4 z z z) z (.g hg3 (.s (ld T.t3 hS z z z z z) z ?_) z)) z
    have ⟨y7,hy7,h⟩:=bnd h
    refine .g hg3 (.c (.call0 hS Tryz.func48 (f07 hy7) z z ?_ z z z z)) z
    intro W hS
    refine .s (pkt hg3 z z z) z ?_
    cases h
    exact .nil (ck 4 hS z z z z)
   refine .xx hb z (.xx hb z (.xx hb z ?_))
   cases sel_f hb hb2
   exact .s (pkf hb z z z) z (.nil (ck 4 hS z z z z))
  intro W hS
  obtain rfl:=Option.some.inj h
  exact .qn z (.ret (fin_ret (vs:=[_]) () (rt z rn) z (hS.to [] z)))
 refine .g (.s (fa T.f32_0 z z z) z (.s (ld T.t3 hS z z z z z) z (.q z (.q z (.chunk 4 44 ((a0.Op == 17) || (a0.Op == 18)) hS ?_ ?_)))))
 ·refine .both (a0.Op == 17) (fun hb=>?_) (fun hb=>?_)
  ·exact .xx hb z (.xx hb z (.xx hb z (.s (pkt hb z z z) z (.nil (ck 4 hS z (or_t hb) z z)))))
  have hg4:=hb
  exact .g hg4 (.s (fa T.f32_0 z z z) z (.g hg4 (.s (ld T.t3 hS z z z z z) z (.g hg4 (.q z (.s (pkf hg4 z z z) z (.nil (ck 4 hS z (or_f hg4) z z)))) z)) z)) z
 intro W hS
 refine .q z (.nil ?_)
 refine .cs z h ?_ ?_ <;> intro h
 ·refine .g (.s (ld T.t32 hS z z z z z) z ?_)
  have ⟨y8,hy8,h⟩:=bnd h
  refine .c (.call0 hS Tryz.func133 (f1p hy8) z z ?_ z z z z)
  intro W hS
  refine .q z ?_
  have ⟨b3,hb3,h⟩:=bnd h
  refine .chunk 4 51 (b3) hS ?_ ?_
  ·refine .both (y8) (fun hb=>?_) (fun hb=>?_)
   ·have hg5:=hb
    have h:=sel_t hb hb3
    refine .g hg5 (.s (fa T.f32_4 z z z) z (.g hg5 (.s (ld T.t3 hS z z z z z) z ?_) z)) z
    have ⟨y9,hy9,h⟩:=bnd h
    refine .g hg5 (.c (.call0 hS Tryz.func134 (f93 hy9) z z ?_ z z z z)) z
    intro W hS
    refine .s (pkt hg5 z z z) z ?_
    cases h
    exact .nil (ck 4 hS z z z z)
   refine .xx hb z (.xx hb z (.xx hb z ?_))
   cases sel_f hb hb3
   exact .s (pkf hb z z z) z (.nil (ck 4 hS z z z z))
  intro W hS
  obtain rfl:=Option.some.inj h
  exact .qn z (.ret (fin_ret (vs:=[_]) () (rt z rn) z (hS.to [] z)))
 refine .g (.s (fa T.f32_0 z z z) z (.s (ld T.t3 hS z z z z z) z (.q z (.q z (.nil ?_)))))
 refine .cs z h ?_ ?_ <;> intro h
 ·refine .g (.s (ld T.t32 hS z z z z z) z ?_)
  have ⟨y10,hy10,h⟩:=bnd h
  refine .c (.call0 hS Tryz.func133 (f1p hy10) z z ?_ z z z z)
  intro W hS
  refine .q z ?_
  have ⟨b4,hb4,h⟩:=bnd h
  refine .chunk 4 62 (b4) hS ?_ ?_
  ·refine .both (y10) (fun hb=>?_) (fun hb=>?_)
   ·have hg6:=hb
    have h:=sel_t hb hb4
    refine .g hg6 (.s (fa T.f32_4 z z z) z (.g hg6 (.s (ld T.t3 hS z z z z z) z ?_) z)) z
    have ⟨y11,hy11,h⟩:=bnd h
    refine .g hg6 (.c (.call0 hS Tryz.func48 (f07 hy11) z z ?_ z z z z)) z
    intro W hS
    refine .s (pkt hg6 z z z) z ?_
    cases h
    exact .nil (ck 4 hS z z z z)
   refine .xx hb z (.xx hb z (.xx hb z ?_))
   cases sel_f hb hb4
   exact .s (pkf hb z z z) z (.nil (ck 4 hS z z z z))
  intro W hS
  obtain rfl:=Option.some.inj h
  exact .qn z (.ret (fin_ret (vs:=[_]) () (rt z rn) z (hS.to [] z)))
 refine .g (.s (fa T.f32_0 z z z) z (.s (ld T.t3 hS z z z z z) z (.q z (.q z (.nil ?_)))))
 refine .cs z h ?_ ?_ <;> intro h
 ·refine .g (.s (ld T.t32 hS z z z z z) z ?_)
  have ⟨y12,hy12,h⟩:=bnd h
  refine .c (.call0 hS Tryz.func133 (f1p hy12) z z ?_ z z z z)
  intro W hS
  refine .q z ?_
  have ⟨b5,hb5,h⟩:=bnd h
  refine .chunk 4 73 (b5) hS ?_ ?_
  ·refine .both (y12) (fun hb=>?_) (fun hb=>?_)
   ·have hg7:=hb
    have h:=sel_t hb hb5
    refine .g hg7 (.s (fa T.f32_4 z z z) z (.g hg7 (.s (ld T.t3 hS z z z z z) z ?_) z)) z
    have ⟨y13,hy13,h⟩:=bnd h
    refine .g hg7 (.c (.call0 hS Tryz.func134 (f93 hy13) z z ?_ z z z z)) z
    intro W hS
    refine .s (pkt hg7 z z z) z ?_
    cases h
    exact .nil (ck 4 hS z z z z)
   refine .xx hb z (.xx hb z (.xx hb z ?_))
   cases sel_f hb hb5
   exact .s (pkf hb z z z) z (.nil (ck 4 hS z z z z))
  intro W hS
  obtain rfl:=Option.some.inj h
  exact .qn z (.ret (fin_ret (vs:=[_]) () (rt z rn) z (hS.to [] z)))
 refine .skip (.g (.s (fa T.f32_0 z z z) z (.s (ld T.t3 hS z z z z z) z (.q z (.q z ?_)))))
 have ⟨b6,hb6,h⟩:=bnd h
 refine .chunk 3 80 (b6) hS ?_ ?_
 ·refine .both (a0.Op == 21) (fun hb=>?_) (fun hb=>?_)
  ·have hg8:=hb
   have h:=sel_t hb hb6
   refine .g hg8 (.s (ld T.t32 hS z z z z z) z ?_) z
   have ⟨y14,hy14,h⟩:=bnd h
   refine .g hg8 (.c (.call0 hS Tryz.func133 (f1p hy14) z z ?_ z z z z)) z
   intro W hS
   refine .s (pkt hg8 z z z) z ?_
   cases h
   exact .nil (ck 3 hS z z z z)
  refine .xx hb z (.xx hb z ?_)
  cases sel_f hb hb6
  exact .s (pkf hb z z z) z (.nil (ck 3 hS z z z z))
 intro W hS
 refine .q z (.chunk 4 85 (b6 && (a0.Imm == 0)) hS ?_ ?_)
 ·refine .both (b6) (fun hb=>?_) (fun hb=>?_)
  ·have hg9:=hb
   exact .g hg9 (.s (fa T.f32_4 z z z) z (.g hg9 (.s (ld T.t3 hS z z z z z) z (.g hg9 (.q z (.s (pkt hg9 z z z) z (.nil (ck 4 hS z (and_t hg9) z z)))) z)) z)) z
  exact .xx hb z (.xx hb z (.xx hb z (.s (pkf hb z z z) z (.nil (ck 4 hS z (and_f hb) z z)))))
 intro W hS
 cases h
 exact .qn z (.ret (fin_ret (vs:=[_]) () (rt z rn) z (hS.to [] z)))
theorem f6l {a0 : Int} {a1 : Int} {w : World} {r : Int} (h : f2t a0 a1 = some r) : Calls Tryz.prog 136 #[.int .i64 a0,.int .i64 a1] w (Ret No w (fun s : Unit=>.int .i64 r) (fun s=>[])):=by
 unfold f2t at h
 refine enter Tryz.func136 z z ?_
 have hS:=Sep.start w
 refine .g (.qn z (.seq (.g (.q z (.q z (.nil ?_))))))
 refine .cs z h ?_ ?_ <;> intro h
 ·cases h
  exact .g (.q z (.q z (.q z (.qn z (.ret (fin_ret (vs:=[_]) () (rt z rn) z (hS.to [] z)))))))
 obtain rfl:=Option.some.inj h
 exact .skip (.g (.q z (.qn z (.ret (fin_ret (vs:=[_]) () (rt z rn) z (hS.to [] z))))))
theorem f09 {a0 : Int} {a1 : Int} {w : World} {r : Int} (h : f0b a0 a1 = some r) : Calls Tryz.prog 137 #[.int .i64 a0,.int .i64 a1] w (Ret No w (fun s : Unit=>.int .i64 r) (fun s=>[])):=by
 unfold f0b at h
 refine enter Tryz.func137 z z ?_
 have hS:=Sep.start w
 refine .g (.qn z (.g (.q z (.q z ?_))))
 have ⟨y1,hy1,h⟩:=bnd h
 refine .c (.call0 hS Tryz.func154 (f2i hy1) z z ?_ z z z z)
 intro W hS
 cases h
 exact .q z (.qn z (.ret (fin_ret (vs:=[_]) () (rt z rn) z (hS.to [] z))))
theorem fap {a0 : Int} {w : World} {r : Int} (h : f76 a0 = some r) : Calls Tryz.prog 143 #[.int .i64 a0] w (Ret No w (fun s : Unit=>.int .i64 r) (fun s=>[])):=by
 unfold f76 at h
 refine enter Tryz.func143 z z ?_
 have hS:=Sep.start w
 refine .g (.qn z (.g (.c (.liv [0,0,0,4,6,7,6,4,1,5,2,0,3,2,0,2,0,1,0,0,0] (D.int .i64) T.u25 T.t3 hS z z z z ?_ z (fun _=>z) z z z z))))
 intro v1 W hS
 refine .q z (.q z ?_)
 have ⟨x1,hx1,h⟩:=bnd h
 obtain rfl:=Option.some.inj h
 exact .s (ixv hS.lendv hx1 T.u25 T.t3 z z z) z (.s (lde (RV.flat hS.lendv hx1 z) T.t3 z z z z z) z (.qn z (.ret (fin_ret (vs:=[_]) () (rt z rn) z (hS.to [] z)))))
theorem f6k {a0 : Instr} {a1 : Int} {w : World} {r : Int} (h : f2u a0 a1 = some r) : Calls Tryz.prog 139 #[.agg #[.int .i64 a0.Op,.int .i64 a0.Rd,.int .i64 a0.Rs,.int .i64 a0.Rt,.int .i64 a0.Imm],.int .i64 a1] w (Ret No w (fun s : Unit=>.int .i64 r) (fun s=>[])):=by
 unfold f2u at h
 refine enter Tryz.func139 z z ?_
 have hS:=Sep.start w
 refine .g (.c (.box hS z z ?_ z z))
 intro g1 W hS
 refine .qn z (.seq (.rk 11 hS [0] T.mix ?_))
 intro W hS
 have hT:=hS.to [0] z
 refine .ts 0 z (fun W hT=>fa T.f32_2 z z z) hT z (by kernel_rfl) (.ts 1 z (fun W hT=>ld T.t3 hT z z z z z) hT z (by kernel_rfl) (.ts 3 z (fun W hT=>fa T.f32_0 z z z) hT z (by kernel_rfl) (.ts 4 z (fun W hT=>ld T.t3 hT z z z z z) hT z (by kernel_rfl) (.tp 8 z z hT (by kernel_rfl) ?_))))
 have ⟨y1,hy1,h⟩:=bnd h
 refine .by1 2 z (.call0 hS Tryz.func137 (f09 hy1) z z ?_ z z z z) (by kernel_rfl)
 intro W hS
 have hT:=hS.to [0] z
 refine ⟨fun _=>hT,?_⟩
 have ⟨y2,hy2,h⟩:=bnd h
 refine .by1 5 z (.call0 hS Tryz.func143 (fap hy2) z z ?_ z z z z) (by kernel_rfl)
 intro W hS
 have hT:=hS.to [0] z
 refine ⟨fun _=>hT,?_⟩
 have ⟨y3,hy3,h⟩:=bnd h
 refine .by1 6 z (.call0 hS Tryz.func137 (f09 hy3) z z ?_ z z z z) (by kernel_rfl)
 intro W hS
 have hT:=hS.to [0] z
 refine ⟨fun _=>hT,?_⟩
 cases h
 exact .tp 7 z z hT (by kernel_rfl) (.tp 9 z z hT (by kernel_rfl) (.tp 10 z z hT (by kernel_rfl) (.done (.ret (fin_ret (vs:=[_]) () (rt z rn) z (hS.to [] z))) (by kernel_rfl))))
theorem f8d {a0 : Instr} {a1 : Int} {w : World} {r : Int} (h : f3o a0 a1 = some r) : Calls Tryz.prog 135 #[.agg #[.int .i64 a0.Op,.int .i64 a0.Rd,.int .i64 a0.Rs,.int .i64 a0.Rt,.int .i64 a0.Imm],.int .i64 a1] w (Ret No w (fun s : Unit=>.int .i64 r) (fun s=>[])):=by
 unfold f3o at h
 refine enter Tryz.func135 z z ?_
 have hS:=Sep.start w
 refine .g (.c (.box hS z z ?_ z z))
 intro g1 W hS
 refine .qn z (.seq (.rk 13 hS [0] T.mix ?_))
 intro W hS
 have hT:=hS.to [0] z
 refine .ts 0 z (fun W hT=>fa T.f32_4 z z z) hT z (by kernel_rfl) (.ts 1 z (fun W hT=>ld T.t3 hT z z z z z) hT z (by kernel_rfl) (.ts 4 z (fun W hT=>ld T.t32 hT z z z z z) hT z (by kernel_rfl) (.tp 5 z z hT (by kernel_rfl) (.ts 8 z (fun W hT=>fa T.f32_1 z z z) hT z (by kernel_rfl) (.ts 9 z (fun W hT=>ld T.t3 hT z z z z z) hT z (by kernel_rfl) ?_)))))
 have ⟨y1,hy1,h⟩:=bnd h
 refine .by1 2 z (.call0 hS Tryz.func136 (f6l hy1) z z ?_ z z z z) (by kernel_rfl)
 intro W hS
 have hT:=hS.to [0] z
 refine ⟨fun _=>hT,?_⟩
 have ⟨y2,hy2,h⟩:=bnd h
 refine .by1 3 z (.call0 hS Tryz.func137 (f09 hy2) z z ?_ z z z z) (by kernel_rfl)
 intro W hS
 have hT:=hS.to [0] z
 refine ⟨fun _=>hT,?_⟩
 have ⟨y3,hy3,h⟩:=bnd h
 refine .by1 6 z (.call0 hS Tryz.func139 (f6k hy3) z z ?_ z z z z) (by kernel_rfl)
 intro W hS
 have hT:=hS.to [0] z
 refine ⟨fun _=>hT,.tp 7 z z hT (by kernel_rfl) ?_⟩
 have ⟨y4,hy4,h⟩:=bnd h
 refine .by1 10 z (.call0 hS Tryz.func137 (f09 hy4) z z ?_ z z z z) (by kernel_rfl)
 intro W hS
 have hT:=hS.to [0] z
 refine ⟨fun _=>hT,?_⟩
 cases h
 exact .tp 11 z z hT (by kernel_rfl) (.tp 12 z z hT (by kernel_rfl) (.done (.ret (fin_ret (vs:=[_]) () (rt z rn) z (hS.to [] z))) (by kernel_rfl)))
theorem fac {a0 : Instr} {w : World} {r : Int} (h : f3y a0 = some r) : Calls Tryz.prog 140 #[.agg #[.int .i64 a0.Op,.int .i64 a0.Rd,.int .i64 a0.Rs,.int .i64 a0.Rt,.int .i64 a0.Imm]] w (Ret No w (fun s : Unit=>.int .i64 r) (fun s=>[])):=by
 unfold f3y at h
 refine enter Tryz.func140 z z ?_
 have hS:=Sep.start w
 refine .g (.c (.box hS z z ?_ z z))
 intro g1 W hS
 refine .qn z (.g (.s (fa T.f32_4 z z z) z (.s (ld T.t3 hS z z z z z) z ?_)))
 have ⟨y1,hy1,h⟩:=bnd h
 refine .c (.call0 hS Tryz.func136 (f6l hy1) z z ?_ z z z z)
 intro W hS
 refine .qn z (.seq (.rk 12 hS [0] T.mix ?_))
 intro W hS
 have hT:=hS.to [0] z
 refine .tp 0 z z hT (by kernel_rfl) (.tp 3 z z hT (by kernel_rfl) (.ts 7 z (fun W hT=>fa T.f32_3 z z z) hT z (by kernel_rfl) (.ts 8 z (fun W hT=>ld T.t3 hT z z z z z) hT z (by kernel_rfl) ?_)))
 have ⟨y2,hy2,h⟩:=bnd h
 refine .by1 1 z (.call0 hS Tryz.func138 (f0y hy2) z z ?_ z z z z) (by kernel_rfl)
 intro W hS
 have hT:=hS.to [0] z
 refine ⟨fun _=>hT,?_⟩
 have ⟨y3,hy3,h⟩:=bnd h
 refine .by1 2 z (.call0 hS Tryz.func137 (f09 hy3) z z ?_ z z z z) (by kernel_rfl)
 intro W hS
 have hT:=hS.to [0] z
 refine ⟨fun _=>hT,?_⟩
 have ⟨y4,hy4,h⟩:=bnd h
 refine .by1 4 z (.call0 hS Tryz.func138 (f0y hy4) z z ?_ z z z z) (by kernel_rfl)
 intro W hS
 have hT:=hS.to [0] z
 refine ⟨fun _=>hT,?_⟩
 have ⟨y5,hy5,h⟩:=bnd h
 refine .by1 5 z (.call0 hS Tryz.func137 (f09 hy5) z z ?_ z z z z) (by kernel_rfl)
 intro W hS
 have hT:=hS.to [0] z
 refine ⟨fun _=>hT,.tp 6 z z hT (by kernel_rfl) ?_⟩
 have ⟨y6,hy6,h⟩:=bnd h
 refine .by1 9 z (.call0 hS Tryz.func137 (f09 hy6) z z ?_ z z z z) (by kernel_rfl)
 intro W hS
 have hT:=hS.to [0] z
 refine ⟨fun _=>hT,.tp 10 z z hT (by kernel_rfl) (.tp 11 z z hT (by kernel_rfl) (.done (.g (.q z (.s (ld T.t32 hS z z z z z) z ?_))) (by kernel_rfl)))⟩
 have ⟨y7,hy7,h⟩:=bnd h
 refine .c (.call0 hS Tryz.func139 (f6k hy7) z z ?_ z z z z)
 intro W hS
 refine .q z (.q z ?_)
 have ⟨y8,hy8,h⟩:=bnd h
 refine .c (.call0 hS Tryz.func138 (f0y hy8) z z ?_ z z z z)
 intro W hS
 have ⟨y9,hy9,h⟩:=bnd h
 refine .c (.call0 hS Tryz.func137 (f09 hy9) z z ?_ z z z z)
 intro W hS
 refine .q z (.q z ?_)
 have ⟨y10,hy10,h⟩:=bnd h
 refine .c (.call0 hS Tryz.func138 (f0y hy10) z z ?_ z z z z)
 intro W hS
 have ⟨y11,hy11,h⟩:=bnd h
 refine .c (.call0 hS Tryz.func137 (f09 hy11) z z ?_ z z z z)
 intro W hS
 cases h
 exact .q z (.qn z (.ret (fin_ret (vs:=[_]) () (rt z rn) z (hS.to [] z))))
theorem fc6 {a0 : Instr} {w : World} {r : Int} (h : f65 a0 = some r) : Calls Tryz.prog 141 #[.agg #[.int .i64 a0.Op,.int .i64 a0.Rd,.int .i64 a0.Rs,.int .i64 a0.Rt,.int .i64 a0.Imm]] w (Ret No w (fun s : Unit=>.int .i64 r) (fun s=>[])):=by
 unfold f65 at h
 refine enter Tryz.func141 z z ?_
 have hS:=Sep.start w
 refine .g (.c (.box hS z z ?_ z z))
 intro g1 W hS
 refine .qn z (.g (.s (fa T.f32_4 z z z) z (.s (ld T.t3 hS z z z z z) z ?_)))
 have ⟨y1,hy1,h⟩:=bnd h
 refine .c (.call0 hS Tryz.func136 (f6l hy1) z z ?_ z z z z)
 intro W hS
 refine .qn z (.g (.q z ?_))
 have ⟨y2,hy2,h⟩:=bnd h
 refine .c (.call0 hS Tryz.func138 (f0y hy2) z z ?_ z z z z)
 intro W hS
 have ⟨y3,hy3,h⟩:=bnd h
 refine .c (.call0 hS Tryz.func137 (f09 hy3) z z ?_ z z z z)
 intro W hS
 refine .q z ?_
 have ⟨y4,hy4,h⟩:=bnd h
 refine .c (.call0 hS Tryz.func138 (f0y hy4) z z ?_ z z z z)
 intro W hS
 have ⟨y5,hy5,h⟩:=bnd h
 refine .c (.call0 hS Tryz.func137 (f09 hy5) z z ?_ z z z z)
 intro W hS
 refine .q z (.q z ?_)
 have ⟨y6,hy6,h⟩:=bnd h
 refine .c (.call0 hS Tryz.func138 (f0y hy6) z z ?_ z z z z)
 intro W hS
 have ⟨y7,hy7,h⟩:=bnd h
 refine .c (.call0 hS Tryz.func137 (f09 hy7) z z ?_ z z z z)
 intro W hS
 refine .q z (.qn z (.seq (.rk 11 hS [0] T.mix ?_)))
 intro W hS
 have hT:=hS.to [0] z
 refine .tp 0 z z hT (by kernel_rfl) (.tp 1 z z hT (by kernel_rfl) (.ts 5 z (fun W hT=>fa T.f32_1 z z z) hT z (by kernel_rfl) (.ts 6 z (fun W hT=>ld T.t3 hT z z z z z) hT z (by kernel_rfl) ?_)))
 have ⟨y8,hy8,h⟩:=bnd h
 refine .by1 2 z (.call0 hS Tryz.func138 (f0y hy8) z z ?_ z z z z) (by kernel_rfl)
 intro W hS
 have hT:=hS.to [0] z
 refine ⟨fun _=>hT,?_⟩
 have ⟨y9,hy9,h⟩:=bnd h
 refine .by1 3 z (.call0 hS Tryz.func137 (f09 hy9) z z ?_ z z z z) (by kernel_rfl)
 intro W hS
 have hT:=hS.to [0] z
 refine ⟨fun _=>hT,.tp 4 z z hT (by kernel_rfl) ?_⟩
 have ⟨y10,hy10,h⟩:=bnd h
 refine .by1 7 z (.call0 hS Tryz.func137 (f09 hy10) z z ?_ z z z z) (by kernel_rfl)
 intro W hS
 have hT:=hS.to [0] z
 refine ⟨fun _=>hT,?_⟩
 cases h
 exact .tp 8 z z hT (by kernel_rfl) (.tp 9 z z hT (by kernel_rfl) (.tp 10 z z hT (by kernel_rfl) (.done (.ret (fin_ret (vs:=[_]) () (rt z rn) z (hS.to [] z))) (by kernel_rfl))))
theorem fal {a0 : Int} {w : World} {r : Int} (h : f77 a0 = some r) : Calls Tryz.prog 142 #[.int .i64 a0] w (Ret No w (fun s : Unit=>.int .i64 r) (fun s=>[])):=by
 unfold f77 at h
 refine enter Tryz.func142 z z ?_
 have hS:=Sep.start w
 refine .g (.qn z (.g (.c (.liv [0,32,1,1,1,0,0,0,0,32,0] (D.int .i64) T.u25 T.t3 hS z z z z ?_ z (fun _=>z) z z z z))))
 intro v1 W hS
 refine .q z (.q z ?_)
 have ⟨x1,hx1,h⟩:=bnd h
 obtain rfl:=Option.some.inj h
 exact .s (ixv hS.lendv hx1 T.u25 T.t3 z z z) z (.s (lde (RV.flat hS.lendv hx1 z) T.t3 z z z z z) z (.qn z (.ret (fin_ret (vs:=[_]) () (rt z rn) z (hS.to [] z)))))
theorem fa6 {a0 : Instr} {w : World} {r : Int} (h : f0r a0 = some r) : Calls Tryz.prog 103 #[.agg #[.int .i64 a0.Op,.int .i64 a0.Rd,.int .i64 a0.Rs,.int .i64 a0.Rt,.int .i64 a0.Imm]] w (Ret No w (fun s : Unit=>.int .i64 r) (fun s=>[])):=by
 unfold f0r at h
 refine enter Tryz.func103 z z ?_
 have hS:=Sep.start w
 refine .g (.c (.box hS z z ?_ z z))
 intro g1 W hS
 refine .qn z (.seq (.g (.s (fa T.f32_0 z z z) z (.s (ld T.t3 hS z z z z z) z (.nil (.block ?_))))))
 have ⟨y1,hy1,h⟩:=bnd h
 refine .seq (CW.via (R':=fun x E' W'=>x = .normal ∧ SubL E' [(1,.pointer (some ⟨g1,0,none⟩)),(5,.int .i64 a0.Op),(6,.bool y1)] ∧ Sep No w W' [.box g1 32 [.int .i64 a0.Op,.int .i64 a0.Rd,.int .i64 a0.Rs,.int .i64 a0.Rt,.int .i64 a0.Imm]]) ?_ ?_)
 ·have h:=hy1
  refine .g (.q z (.q z (.nil ?_)))
  refine .cs z h ?_ ?_ <;> intro h
  ·refine .skip ?_
   cases h
   exact ⟨z,sb z,hS.to [0] z⟩
  refine .region (.q z (.q z (.nil ?_)))
  cases h
  exact ⟨z,sb z,hS.to [0] z⟩
 intro x E W hJ
 obtain ⟨rfl,hE,hS⟩:=hJ
 refine ⟨_,hE.sub,?_⟩
 refine .cs z h ?_ ?_ <;> intro h
 ·refine .g (.s (ld T.t32 hS z z z z z) z ?_)
  have ⟨y2,hy2,h⟩:=bnd h
  refine .c (.call0 hS Tryz.func135 (f8d hy2) z z ?_ z z z z)
  intro W hS
  obtain rfl:=Option.some.inj h
  exact .qn z (.ret (fin_ret (vs:=[_]) () (rt z rn) z (hS.to [] z)))
 refine .g (.q z (.q z (.nil ?_)))
 refine .cs z h ?_ ?_ <;> intro h
 ·refine .g (.s (ld T.t32 hS z z z z z) z ?_)
  have ⟨y3,hy3,h⟩:=bnd h
  refine .c (.call0 hS Tryz.func135 (f8d hy3) z z ?_ z z z z)
  intro W hS
  obtain rfl:=Option.some.inj h
  exact .qn z (.ret (fin_ret (vs:=[_]) () (rt z rn) z (hS.to [] z)))
 refine .g (.q z (.q z (.nil ?_)))
 refine .cs z h ?_ ?_ <;> intro h
 ·refine .g (.s (ld T.t32 hS z z z z z) z ?_)
  have ⟨y4,hy4,h⟩:=bnd h
  refine .c (.call0 hS Tryz.func135 (f8d hy4) z z ?_ z z z z)
  intro W hS
  obtain rfl:=Option.some.inj h
  exact .qn z (.ret (fin_ret (vs:=[_]) () (rt z rn) z (hS.to [] z)))
 refine .g (.q z (.q z (.nil ?_)))
 refine .cs z h ?_ ?_ <;> intro h
 ·refine .g (.s (fa T.f32_4 z z z) z (.s (ld T.t3 hS z z z z z) z ?_))
  have ⟨y5,hy5,h⟩:=bnd h
  refine .c (.call0 hS Tryz.func136 (f6l hy5) z z ?_ z z z z)
  intro W hS
  refine .qn z (.seq (.rk 15 hS [0] T.mix ?_))
  intro W hS
  have hT:=hS.to [0] z
  refine .tp 0 z z hT (by kernel_rfl) (.ts 3 z (fun W hT=>fa T.f32_3 z z z) hT z (by kernel_rfl) (.ts 4 z (fun W hT=>ld T.t3 hT z z z z z) hT z (by kernel_rfl) (.ts 7 z (fun W hT=>ld T.t32 hT z z z z z) hT z (by kernel_rfl) (.tp 10 z z hT (by kernel_rfl) ?_))))
  have ⟨y6,hy6,h⟩:=bnd h
  refine .by1 1 z (.call0 hS Tryz.func138 (f0y hy6) z z ?_ z z z z) (by kernel_rfl)
  intro W hS
  have hT:=hS.to [0] z
  refine ⟨fun _=>hT,?_⟩
  have ⟨y7,hy7,h⟩:=bnd h
  refine .by1 2 z (.call0 hS Tryz.func137 (f09 hy7) z z ?_ z z z z) (by kernel_rfl)
  intro W hS
  have hT:=hS.to [0] z
  refine ⟨fun _=>hT,?_⟩
  have ⟨y8,hy8,h⟩:=bnd h
  refine .by1 5 z (.call0 hS Tryz.func137 (f09 hy8) z z ?_ z z z z) (by kernel_rfl)
  intro W hS
  have hT:=hS.to [0] z
  refine ⟨fun _=>hT,.tp 6 z z hT (by kernel_rfl) ?_⟩
  have ⟨y9,hy9,h⟩:=bnd h
  refine .by1 8 z (.call0 hS Tryz.func139 (f6k hy9) z z ?_ z z z z) (by kernel_rfl)
  intro W hS
  have hT:=hS.to [0] z
  refine ⟨fun _=>hT,.tp 9 z z hT (by kernel_rfl) ?_⟩
  have ⟨y10,hy10,h⟩:=bnd h
  refine .by1 11 z (.call0 hS Tryz.func138 (f0y hy10) z z ?_ z z z z) (by kernel_rfl)
  intro W hS
  have hT:=hS.to [0] z
  refine ⟨fun _=>hT,?_⟩
  have ⟨y11,hy11,h⟩:=bnd h
  refine .by1 12 z (.call0 hS Tryz.func137 (f09 hy11) z z ?_ z z z z) (by kernel_rfl)
  intro W hS
  have hT:=hS.to [0] z
  refine ⟨fun _=>hT,?_⟩
  cases h
  exact .tp 13 z z hT (by kernel_rfl) (.tp 14 z z hT (by kernel_rfl) (.done (.ret (fin_ret (vs:=[_]) () (rt z rn) z (hS.to [] z))) (by kernel_rfl)))
 have ⟨y12,hy12,h⟩:=bnd h
 refine .seq (CW.via (R':=fun x E' W'=>x = .normal ∧ SubL E' [(1,.pointer (some ⟨g1,0,none⟩)),(5,.int .i64 a0.Op),(38,.bool y12)] ∧ Sep No w W' [.box g1 32 [.int .i64 a0.Op,.int .i64 a0.Rd,.int .i64 a0.Rs,.int .i64 a0.Rt,.int .i64 a0.Imm]]) ?_ ?_)
 ·have h:=hy12
  refine .g (.q z (.q z (.nil ?_)))
  refine .cs z h ?_ ?_ <;> intro h
  ·refine .skip ?_
   cases h
   exact ⟨z,sb z,hS.to [0] z⟩
  refine .region (.q z (.q z (.nil ?_)))
  cases h
  exact ⟨z,sb z,hS.to [0] z⟩
 intro x E W hJ
 obtain ⟨rfl,hE,hS⟩:=hJ
 refine ⟨_,hE.sub,?_⟩
 refine .cs z h ?_ ?_ <;> intro h
 ·refine .g (.s (ld T.t32 hS z z z z z) z ?_)
  have ⟨y13,hy13,h⟩:=bnd h
  refine .c (.call0 hS Tryz.func140 (fac hy13) z z ?_ z z z z)
  intro W hS
  obtain rfl:=Option.some.inj h
  exact .qn z (.ret (fin_ret (vs:=[_]) () (rt z rn) z (hS.to [] z)))
 refine .g (.q z (.q z (.nil ?_)))
 refine .cs z h ?_ ?_ <;> intro h
 ·refine .seq (.rk 9 hS [0] T.mix ?_)
  intro W hS
  have hT:=hS.to [0] z
  refine .ts 0 z (fun W hT=>fa T.f32_4 z z z) hT z (by kernel_rfl) (.ts 1 z (fun W hT=>ld T.t3 hT z z z z z) hT z (by kernel_rfl) (.ts 3 z (fun W hT=>fa T.f32_1 z z z) hT z (by kernel_rfl) (.ts 4 z (fun W hT=>ld T.t3 hT z z z z z) hT z (by kernel_rfl) ?_)))
  have ⟨y14,hy14,h⟩:=bnd h
  refine .by1 2 z (.call0 hS Tryz.func137 (f09 hy14) z z ?_ z z z z) (by kernel_rfl)
  intro W hS
  have hT:=hS.to [0] z
  refine ⟨fun _=>hT,?_⟩
  have ⟨y15,hy15,h⟩:=bnd h
  refine .by1 5 z (.call0 hS Tryz.func137 (f09 hy15) z z ?_ z z z z) (by kernel_rfl)
  intro W hS
  have hT:=hS.to [0] z
  refine ⟨fun _=>hT,?_⟩
  cases h
  exact .tp 6 z z hT (by kernel_rfl) (.tp 7 z z hT (by kernel_rfl) (.tp 8 z z hT (by kernel_rfl) (.done (.ret (fin_ret (vs:=[_]) () (rt z rn) z (hS.to [] z))) (by kernel_rfl))))
 refine .g (.q z (.q z (.nil ?_)))
 refine .cs z h ?_ ?_ <;> intro h
 ·refine .g (.s (ld T.t32 hS z z z z z) z ?_)
  have ⟨y16,hy16,h⟩:=bnd h
  refine .c (.call0 hS Tryz.func141 (fc6 hy16) z z ?_ z z z z)
  intro W hS
  obtain rfl:=Option.some.inj h
  exact .qn z (.ret (fin_ret (vs:=[_]) () (rt z rn) z (hS.to [] z)))
 refine .g (.q z (.q z (.nil ?_)))
 refine .cs z h ?_ ?_ <;> intro h
 ·cases h
  exact .g (.qn z (.ret (fin_ret (vs:=[_]) () (rt z rn) z (hS.to [] z))))
 refine .skip (.seq (.rk 16 hS [0] T.mix ?_))
 intro W hS
 have hT:=hS.to [0] z
 refine .ts 0 z (fun W hT=>fa T.f32_0 z z z) hT z (by kernel_rfl) (.ts 1 z (fun W hT=>ld T.t3 hT z z z z z) hT z (by kernel_rfl) (.ts 4 z (fun W hT=>fa T.f32_3 z z z) hT z (by kernel_rfl) (.ts 5 z (fun W hT=>ld T.t3 hT z z z z z) hT z (by kernel_rfl) (.ts 8 z (fun W hT=>ld T.t32 hT z z z z z) hT z (by kernel_rfl) (.ts 11 z (fun W hT=>fa T.f32_1 z z z) hT z (by kernel_rfl) (.ts 12 z (fun W hT=>ld T.t3 hT z z z z z) hT z (by kernel_rfl) ?_))))))
 have ⟨y17,hy17,h⟩:=bnd h
 refine .by1 2 z (.call0 hS Tryz.func142 (fal hy17) z z ?_ z z z z) (by kernel_rfl)
 intro W hS
 have hT:=hS.to [0] z
 refine ⟨fun _=>hT,?_⟩
 have ⟨y18,hy18,h⟩:=bnd h
 refine .by1 3 z (.call0 hS Tryz.func137 (f09 hy18) z z ?_ z z z z) (by kernel_rfl)
 intro W hS
 have hT:=hS.to [0] z
 refine ⟨fun _=>hT,?_⟩
 have ⟨y19,hy19,h⟩:=bnd h
 refine .by1 6 z (.call0 hS Tryz.func137 (f09 hy19) z z ?_ z z z z) (by kernel_rfl)
 intro W hS
 have hT:=hS.to [0] z
 refine ⟨fun _=>hT,.tp 7 z z hT (by kernel_rfl) ?_⟩
 have ⟨y20,hy20,h⟩:=bnd h
 refine .by1 9 z (.call0 hS Tryz.func139 (f6k hy20) z z ?_ z z z z) (by kernel_rfl)
 intro W hS
 have hT:=hS.to [0] z
 refine ⟨fun _=>hT,.tp 10 z z hT (by kernel_rfl) ?_⟩
 have ⟨y21,hy21,h⟩:=bnd h
 refine .by1 13 z (.call0 hS Tryz.func137 (f09 hy21) z z ?_ z z z z) (by kernel_rfl)
 intro W hS
 have hT:=hS.to [0] z
 refine ⟨fun _=>hT,?_⟩
 cases h
 exact .tp 14 z z hT (by kernel_rfl) (.tp 15 z z hT (by kernel_rfl) (.done (.ret (fin_ret (vs:=[_]) () (rt z rn) z (hS.to [] z))) (by kernel_rfl)))
theorem f9r {a0 : Instr} {w : World} {r : Int × Bool} (h : f15 a0 = some r) : Calls Tryz.prog 67 #[.agg #[.int .i64 a0.Op,.int .i64 a0.Rd,.int .i64 a0.Rs,.int .i64 a0.Rt,.int .i64 a0.Imm]] w (Ret No w (fun s : Unit=>.tuple #[.int .i64 r.1,.bool r.2]) (fun s=>[])):=by
 unfold f15 at h
 refine enter Tryz.func67 z z ?_
 have hS:=Sep.start w
 refine .g (.c (.box hS z z ?_ z z))
 intro g1 W hS
 refine .q z (.qn z (.seq (.g (.s (ld T.t32 hS z z z z z) z ?_))))
 have ⟨y1,hy1,h⟩:=bnd h
 refine .c (.call0 hS Tryz.func102 (f9v hy1) z z ?_ z z z z)
 intro W hS
 refine .q z (.nil ?_)
 refine .cs z h ?_ ?_ <;> intro h
 ·cases h
  exact .g (.q z (.qn z (.ret (fin_ret (vs:=[_,_]) () (rt z (rt z rn)) z (hS.to [] z)))))
 refine .skip (.g (.s (ld T.t32 hS z z z z z) z ?_))
 have ⟨y2,hy2,h⟩:=bnd h
 refine .c (.call0 hS Tryz.func103 (fa6 hy2) z z ?_ z z z z)
 intro W hS
 cases h
 exact .q z (.qn z (.ret (fin_ret (vs:=[_,_]) () (rt z (rt z rn)) z (hS.to [] z))))
def fcl (w : World) (S : Nat → Prop) (v_0 : Hd) (v_1 : Hd) (a0 : List Int) (a1 : List Instr) (r : (List Int) × Bool) : Env → World → Prop:=Fin Tryz.prog Tryz.f38 S w (fun s : Hd=>.tuple #[(sv s),.bool r.2]) (fun s=>[rowV (sv s) 3 1 (D.int .i64) r.1]) .ret
theorem fc1 {a0 : List Int} {a1 : List Instr} {v_0 : Hd} {v_1 : Hd} {S : Nat → Prop} {w : World} {r : (List Int) × Bool} (h : f6b a0 a1 = some r) (q_1 : RV w (Old S w) (sv v_1) 32 5 dInstr a1) (hO : Owns w [rowV (sv v_0) 3 1 (D.int .i64) a0] S) (hlt : ∀ b,S b → b < w.heap.size) : Calls Tryz.prog 38 #[(sv v_0),(sv v_1)] w (Ret S w (fun s : Hd=>.tuple #[(sv s),.bool r.2]) (fun s=>[rowV (sv s) 3 1 (D.int .i64) r.1])):=by
 unfold f6b at h
 refine enter Tryz.func38 z z ?_
 have hS:=Sep.startM hO hlt
 refine .g (.q z (.qn z (.seq (.g (.qn z (.block ?_))))))
 have ⟨y1,hy1,h⟩:=bnd h
 refine .via (.iter (fun s1 E' W'=>∃ (v3 : Hd),SubL E' [(0,(sv v3)),(1,(sv v_1)),(6,.int .i64 s1.2)] ∧ Sep S w W' [rowV (sv v3) 3 1 (D.int .i64) s1.1]) (fun y2 x E' W'=>(match y2 with | .inl o1=>x = .ret ∧ fcl w S v_0 v_1 a0 a1 o1 E' W' | .inr o2=>x = .exit 0 ∧ ∃ (v4 : Hd),SubL E' [(0,(sv v4))] ∧ Sep S w W' [rowV (sv v4) 3 1 (D.int .i64) o2])) hy1 ⟨v_0,sb rfl,hS.to [0] rfl⟩ ?_) ?_
 ·intro s1 y3 E W h hI
  obtain ⟨v2,hE,hS⟩:=hI
  refine CW.sub hE ?_
  unfold f2f at h
  refine .seq (.g (.q z (.q z (.s (lenv (hS.keep q_1) T.u23 z z) z (.q z (.nil ?_))))))
  refine .cs z h ?_ ?_ <;> intro h
  ·refine .skip (.seq (.block (.g (.q z (.q z ?_)))))
   have ⟨x1,hx1,h⟩:=bnd h
   refine .s (ixv (hS.keep q_1) hx1 T.u23 T.t32 z z z) z (.s (lde (RV.flat (hS.keep q_1) hx1 z) T.t32 z z z z z) z ?_)
   have ⟨y4,hy4,h⟩:=bnd h
   refine .c (.call0 hS Tryz.func67 (f9r hy4) z z ?_ z z z z)
   intro W hS
   refine .q z (.q z (.q z (.q z (.qn z (.seq (.g (.q z (.q z (.nil ?_)))))))))
   refine .cs z h ?_ ?_ <;> intro h
   ·refine .g (.q z (.q z (.qn z (.ret ?_))))
    cases h
    exact ⟨by simp,z,fin_ret (vs:=[_,_]) v2 (rt z (rt z rn)) z (hS.to [0] z)⟩
   refine .skip (.region (.q z (.q z ?_)))
   have ⟨y5,hy5,h⟩:=bnd h
   refine .c (.call0 hS Tryz.func68 (f29 hy5) z z ?_ z z z z)
   intro W hS
   refine .c (.liv [y5] (D.int .i64) T.u25 T.t3 hS z z z z ?_ z (fun _=>z) z z z z)
   intro v5 W hS
   have ⟨r1,hr1,h⟩:=bnd h
   have hT0:=hS.p1
   refine .c (.apprv hr1 hT0 hT0.p1.lendv (fun _=>z) T.u25 T.t3 z z z ?_ z z z z z)
   intro v6 W hS
   refine .qn z (.region (.q z (.q z (.q z (.nil ?_)))))
   cases h
   exact ⟨z,v6,sb z,hS.to [0] z⟩
  refine .exit ?_
  cases h
  exact ⟨by simp,z,v2,sb z,hS.to [0] z⟩
 intro x E W hJ
 rcases y1 with o3 | o4
 ·obtain ⟨rfl,hF⟩:=hJ
  refine ⟨_,fun _ _ h=>h,?_⟩
  cases h
  exact hF
 obtain ⟨rfl,v7,hE,hS⟩:=hJ
 refine ⟨_,hE.sub,?_⟩
 cases h
 exact .g (.q z (.q z (.qn z (.ret (fin_ret (vs:=[_,_]) v7 (rt z (rt z rn)) z (hS.to [0] z))))))
theorem fbl {a0 : List Instr} {v_0 : Hd} {w : World} {r : Machine × Bool} (h : f2d a0 = some r) (q_0 : RV w (Old No w) (sv v_0) 32 5 dInstr a0) : Calls Tryz.prog 13 #[(sv v_0)] w (Ret No w (fun s : Hd × Hd=>.tuple #[.agg #[(sv s.1),.int .i64 r.1.Pc,(sv s.2)],.bool r.2]) (fun s=>[rowV (sv s.1) 3 1 (D.int .i64) r.1.Regs,rowV (sv s.2) 3 1 (D.int .i64) r.1.Mem])):=by
 unfold f2d at h
 refine enter Tryz.func13 z z ?_
 have hS:=Sep.start w
 refine .g (.c (.alloc T.t27 hS ?_ z z z))
 intro g1 W hS
 refine .qn z (.seq (.g (.q z (.s (lenv (hS.keep q_0) T.u23 z z) z (.qn z (.cond z (fun hb=>?_) (fun hb=>?_)))))))
 ·have h:=sel_t hb h
  refine .g (.s (bs T.s27 z z) z (.c (.st T.t27 hS z z z ?_ z z z z z)))
  intro W hS
  refine .qn z (.ret ?_)
  have hS:=hS.nilv 3 1 (D.int .i64)
  have hS:=hS.nilv 3 1 (D.int .i64)
  cases h
  exact fin_ret (vs:=[_,_]) (nilH,nilH) (rc hS.p2 T.t27 z (rt z rn) z z) z (hS.to [1,0] z)
 have h:=sel_f hb h
 refine .skip (.g (.c (.liv [0] (D.int .i64) T.u25 T.t3 hS z z z z ?_ z (fun _=>z) z z z z)))
 intro v1 W hS
 refine .q z ?_
 have ⟨y1,hy1,h⟩:=bnd h
 refine .c (.callS2 (L0:=[rowV (sv v1) 3 1 (D.int .i64) [0]]) hS Tryz.func38 (fun S h1 h2 h3=>(fc1 hy1 (hS.keepS q_0 h1) h2 (zz h1))) z z ?_ z z z z)
 rintro v2 W hS
 refine .q z (.q z (.q z (.q z (.qn z (.seq (.g (.q z (.q z (.nil ?_)))))))))
 refine .cs z h ?_ ?_ <;> intro h
 ·refine .g (.s (bs T.s27 z z) z (.c (.st T.t27 hS.p1 z z z ?_ z z z z z)))
  intro W hS
  refine .qn z (.ret ?_)
  have hS:=hS.nilv 3 1 (D.int .i64)
  have hS:=hS.nilv 3 1 (D.int .i64)
  cases h
  exact fin_ret (vs:=[_,_]) (nilH,nilH) (rc hS.p2 T.t27 z (rt z rn) z z) z (hS.to [1,0] z)
 refine .skip (.seq (.region ?_))
 have ⟨r1,hr1,h⟩:=bnd h
 refine .c (.mkv 0 (D.int .i64) hr1 T.u25 T.t3 hS z z z z z (fun _=>z) ?_ z z z)
 intro v3 W hS
 refine .s (bs T.s27 z z) z (.c (.alloc T.t27 hS ?_ z z z))
 intro g2 W hS
 refine .c (.st T.t27 hS z z z ?_ z z z z z)
 intro W hS
 refine .nil (.g (.s (fa T.f27_0 z z z) z (.s (ld T.t25 hS z z z z z) z (.q z (.s (lenv hS.p2.lendv T.u25 z z) z (.q z ?_))))))
 have ⟨x1,hx1,h⟩:=bnd h
 refine .s (ixv hS.p1.lendv hx1 T.u25 T.t3 z z z) z ?_
 have ⟨r2,hr2,h⟩:=bnd h
 refine .c (.sev hr2 hx1 hS.p1 T.t3 z z z z z z ?_ z z z z z z)
 intro W hS
 refine .nil (.g (.q z ?_))
 have ⟨r3,hr3,h⟩:=bnd h
 refine .c (.appz 0 hr3 hS.p2 T.u25 T.u3 T.t3 z z z z ?_ (fun _=>z) z z z z z z)
 intro v4 W hS
 refine .s (fa T.f27_2 z z z) z (.c (.st T.t25 hS.p2 z z z ?_ z z z z z))
 intro W hS
 refine .nil (.g (.s (ld T.t27 hS z z z z z) z (.c (.st T.t27 hS.p3 z z z ?_ z z z z z))))
 intro W hS
 cases h
 exact .qn z (.ret (fin_ret (vs:=[_,_]) (v3,v4) (rc hS T.t27 z (rt z rn) z z) z (hS.to [3,2] z)))
def fc7 (w : World) (r : Bool) : Env → World → Prop:=Fin Tryz.prog Tryz.f18 No w (fun s : Unit=>.bool r) (fun s=>[]) .ret
theorem f4p {a0 : List Int} {a1 : List Int} {v_0 : Hd} {v_1 : Hd} {w : World} {r : Bool} (h : f1v a0 a1 = some r) (q_0 : RV w (Old No w) (sv v_0) 3 1 (D.int .i64) a0) (q_1 : RV w (Old No w) (sv v_1) 3 1 (D.int .i64) a1) : Calls Tryz.prog 18 #[(sv v_0),(sv v_1)] w (Ret No w (fun s : Unit=>.bool r) (fun s=>[])):=by
 unfold f1v at h
 refine enter Tryz.func18 z z ?_
 have hS:=Sep.start w
 refine .g (.qn z (.seq (.g (.q z (.s (lenv (hS.keep q_0) T.u25 z z) z (.q z (.s (lenv (hS.keep q_1) T.u25 z z) z (.q z (.nil ?_)))))))))
 refine .cs z h ?_ ?_ <;> intro h
 ·obtain rfl:=Option.some.inj h
  exact .g (.qn z (.ret (fin_ret (vs:=[_]) () (rt z rn) z (hS.to [] z))))
 refine .skip (.seq (.g (.qn z (.block ?_))))
 have ⟨y1,hy1,h⟩:=bnd h
 refine .via (.iter (fun s1 E' W'=>SubL E' [(0,(sv v_0)),(1,(sv v_1)),(5,.int .i64 s1)] ∧ Sep No w W' []) (fun y2 x E' W'=>(match y2 with | .inl o1=>x = .ret ∧ fc7 w o1 E' W' | .inr o2=>x = .exit 0 ∧ SubL E' [] ∧ Sep No w W' [])) hy1 ⟨sb rfl,hS.to [] rfl⟩ ?_) ?_
 ·intro s1 y3 E W h hI
  obtain ⟨hE,hS⟩:=hI
  refine CW.sub hE ?_
  unfold f39 at h
  refine .seq (.g (.q z (.q z (.s (lenv (hS.keep q_0) T.u25 z z) z (.q z (.nil ?_))))))
  refine .cs z h ?_ ?_ <;> intro h
  ·refine .skip (.seq (.block (.seq (.rk 9 hS [] T.mix ?_))))
   intro W hS
   have hT:=hS.to [] z
   refine .tp 0 z z hT (by kernel_rfl) (.tp 1 z z hT (by kernel_rfl) ?_)
   have ⟨x1,hx1,h⟩:=bnd h
   refine .ts 2 z (fun W hT=>ixv (hS.keep q_0) hx1 T.u25 T.t3 z z z) hT z (by kernel_rfl) (.ts 3 z (fun W hT=>lde (RV.flat (hT.keep q_0) hx1 z) T.t3 z z z z z) hT z (by kernel_rfl) (.tp 4 z z hT (by kernel_rfl) (.tp 5 z z hT (by kernel_rfl) ?_)))
   have ⟨x2,hx2,h⟩:=bnd h
   refine .ts 6 z (fun W hT=>ixv (hS.keep q_1) hx2 T.u25 T.t3 z z z) hT z (by kernel_rfl) (.ts 7 z (fun W hT=>lde (RV.flat (hT.keep q_1) hx2 z) T.t3 z z z z z) hT z (by kernel_rfl) (.tp 8 z z hT (by kernel_rfl) (.done ?_ (by kernel_rfl))))
   refine .cs z h ?_ ?_ <;> intro h
   ·refine .g (.qn z (.ret ?_))
    cases h
    exact ⟨by simp,z,fin_ret (vs:=[_]) () (rt z rn) z (hS.to [] z)⟩
   refine .skip (.region (.q z (.q z (.q z (.nil ?_)))))
   cases h
   exact ⟨z,sb z,hS.to [] z⟩
  refine .exit ?_
  cases h
  exact ⟨by simp,z,sb z,hS.to [] z⟩
 intro x E W hJ
 rcases y1 with o3 | o4
 ·obtain ⟨rfl,hF⟩:=hJ
  refine ⟨_,fun _ _ h=>h,?_⟩
  cases h
  exact hF
 obtain ⟨rfl,hE,hS⟩:=hJ
 refine ⟨_,hE.sub,?_⟩
 obtain rfl:=Option.some.inj h
 exact .g (.qn z (.ret (fin_ret (vs:=[_]) () (rt z rn) z (hS.to [] z))))
theorem f8b {a0 : Machine} {a1 : Machine} {v_0_Regs : Hd} {v_0_Mem : Hd} {v_1_Regs : Hd} {v_1_Mem : Hd} {w : World} {r : Bool} (h : f1y a0 a1 = some r) (q_0_Regs : RV w (Old No w) (sv v_0_Regs) 3 1 (D.int .i64) a0.Regs) (q_0_Mem : RV w (Old No w) (sv v_0_Mem) 3 1 (D.int .i64) a0.Mem) (q_1_Regs : RV w (Old No w) (sv v_1_Regs) 3 1 (D.int .i64) a1.Regs) (q_1_Mem : RV w (Old No w) (sv v_1_Mem) 3 1 (D.int .i64) a1.Mem) : Calls Tryz.prog 14 #[.agg #[(sv v_0_Regs),.int .i64 a0.Pc,(sv v_0_Mem)],.agg #[(sv v_1_Regs),.int .i64 a1.Pc,(sv v_1_Mem)]] w (Ret No w (fun s : Unit=>.bool r) (fun s=>[])):=by
 unfold f1y at h
 refine enter Tryz.func14 z z ?_
 have hS:=Sep.start w
 refine .g (.c (.box hS z z ?_ z z))
 intro g1 W hS
 refine .c (.box hS z z ?_ z z)
 intro g2 W hS
 refine .qn z (.g (.s (fa T.f27_1 z z z) z (.s (ld T.t3 hS.p1 z z z z z) z (.s (fa T.f27_1 z z z) z (.s (ld T.t3 hS z z z z z) z (.q z (.q z ?_)))))))
 have ⟨b1,hb1,h⟩:=bnd h
 refine .chunk 6 16 (b1) hS ?_ ?_
 ·refine .both (a0.Pc == a1.Pc) (fun hb=>?_) (fun hb=>?_)
  ·have hg1:=hb
   have h:=sel_t hb hb1
   refine .g hg1 (.s (fa T.f27_0 z z z) z (.g hg1 (.s (ld T.t25 hS.p1 z z z z z) z (.g hg1 (.s (fa T.f27_0 z z z) z (.g hg1 (.s (ld T.t25 hS z z z z z) z ?_) z)) z)) z)) z
   have ⟨y1,hy1,h⟩:=bnd h
   refine .g hg1 (.c (.call0 hS Tryz.func18 (f4p hy1 (hS.keep q_0_Regs) (hS.keep q_1_Regs)) z z ?_ z z z z)) z
   intro W hS
   refine .s (pkt hg1 z z z) z ?_
   cases h
   exact .nil (ck 6 hS z z z z)
  refine .xx hb z (.xx hb z (.xx hb z (.xx hb z (.xx hb z ?_))))
  cases sel_f hb hb1
  exact .s (pkf hb z z z) z (.nil (ck 6 hS z z z z))
 intro W hS
 refine .q z ?_
 have ⟨b2,hb2,h⟩:=bnd h
 refine .chunk 6 23 (b2) hS ?_ ?_
 ·refine .both (b1) (fun hb=>?_) (fun hb=>?_)
  ·have hg2:=hb
   have h:=sel_t hb hb2
   refine .g hg2 (.s (fa T.f27_2 z z z) z (.g hg2 (.s (ld T.t25 hS.p1 z z z z z) z (.g hg2 (.s (fa T.f27_2 z z z) z (.g hg2 (.s (ld T.t25 hS z z z z z) z ?_) z)) z)) z)) z
   have ⟨y2,hy2,h⟩:=bnd h
   refine .g hg2 (.c (.call0 hS Tryz.func18 (f4p hy2 (hS.keep q_0_Mem) (hS.keep q_1_Mem)) z z ?_ z z z z)) z
   intro W hS
   refine .s (pkt hg2 z z z) z ?_
   cases h
   exact .nil (ck 6 hS z z z z)
  refine .xx hb z (.xx hb z (.xx hb z (.xx hb z (.xx hb z ?_))))
  cases sel_f hb hb2
  exact .s (pkf hb z z z) z (.nil (ck 6 hS z z z z))
 intro W hS
 obtain rfl:=Option.some.inj h
 exact .qn z (.ret (fin_ret (vs:=[_]) () (rt z rn) z (hS.to [] z)))
end Go.Proofs.YtmpplggjpmmhlaaGreatDoor.N
namespace Go.Proofs.YtmpplggjpmmhlaaGreatDoor.N
open Go.Proofs.YtmpplggjpmmhlaaGreatDoor.X
theorem f9e {k : Nat} {a0 : List Int} {v_0 : Hd} {w : World} {r : (List Int) × (List (List Instr))} (h : f2r k a0 = some r) (q_0 : RV w (Old No w) (sv v_0) 5 1 (D.int .u8) a0) : Calls Tryz.prog 19 #[(sv v_0)] w (Ret No w (fun s : Hd × Hd=>.tuple #[(sv s.1),(sv s.2)]) (fun s=>[rowV (sv s.1) 3 1 (D.int .i64) r.1,frzE [((sv s.2),23,1,List.map (fun (l : List Instr)=>D.row 32 5 (l.map dInstr)) r.2)] []])):=by
 unfold f2r at h
 refine enter Tryz.func19 z z ?_
 have hS:=Sep.start w
 have Q_0:=q_0
 refine .g (.q z (.qn z (.g (.q z ?_))))
 have ⟨y1,hy1,h⟩:=bnd h
 have hQ1:=hS
 refine .c (.call hS Tryz.func34 (fci hy1 (hS.keep q_0)) z z ?_ z z z z)
 rintro ⟨g1,⟨v1,q1⟩⟩ W hS
 refine .qn z (.g (.q z ?_))
 have ⟨y2,hy2,h⟩:=bnd h
 refine .c (.callS2 (L0:=[.box g1 100 [(sv v1),.int .i64 y1.p]]) hS Tryz.func35 (fun S h1 h2 h3=>(fbe hy2 (hS.keepS (hQ1.wasA (q1 _ (hQ1.keepA q_0 Q_0))) h1) h2 (zz h1))) z z ?_ z z z z)
 rintro v2 W hS
 refine .qn z (.g (.q z ?_))
 have ⟨y3,hy3,h⟩:=bnd h
 refine .c (.callS2 (L0:=[.box g1 100 [(sv v1),.int .i64 y2.2]]) hS Tryz.func36 (fun S h1 h2 h3=>(f00 hy3 (hS.keepS (hQ1.wasA (q1 _ (hQ1.keepA q_0 Q_0))) h1) h2 (zz h1))) z z ?_ z z z z)
 rintro ⟨⟩ W hS
 refine .q z (.q z ?_)
 have ⟨y4,hy4,h⟩:=bnd h
 refine .c (.callS2 (L0:=[.box g1 100 [(sv v1),.int .i64 y3.2]]) hS Tryz.func36 (fun S h1 h2 h3=>(f00 hy4 (hS.keepS (hQ1.wasA (q1 _ (hQ1.keepA q_0 Q_0))) h1) h2 (zz h1))) z z ?_ z z z z)
 rintro ⟨⟩ W hS
 refine .q z (.c (.liv [w64 (1 + y3.1),w64 (1 + y4.1)] (D.int .i64) T.u25 T.t3 hS z z z z ?_ z (fun _=>z) z z z z))
 intro v3 W hS
 refine .q z (.nil ?_)
 have ⟨y5,hy5,h⟩:=bnd h
 refine .seq (CW.via (R':=fun x E' W'=>x = .normal ∧ ∃ (v4 : Hd),SubL E' [(5,(sv v4)),(6,(sv v3))] ∧ Sep No w W' [rowV (sv v3) 3 1 (D.int .i64) y5.2.2,.box g1 100 [(sv v1),.int .i64 y5.2.1],frzE [((sv v4),23,1,List.map (fun (l : List Instr)=>D.row 32 5 (l.map dInstr)) y5.1)] []]) ?_ ?_)
 ·have h:=hy5
  refine .g (.q z ?_)
  have ⟨y6,hy6,h⟩:=bnd h
  have hS:=hS.p1
  refine .c (.callS2 (L0:=[.box g1 100 [(sv v1),.int .i64 y4.2]]) hS Tryz.func36 (fun S h1 h2 h3=>(f00 hy6 (hS.keepS (hQ1.wasA (q1 _ (hQ1.keepA q_0 Q_0))) h1) h2 (zz h1))) z z ?_ z z z z)
  rintro ⟨⟩ W hS
  refine .nil (.block (.g (.q z (.q z (.nil ?_)))))
  refine .cs z h ?_ ?_ <;> intro h
  ·refine .region (.q z ?_)
   have ⟨x1,hx1,h⟩:=bnd h
   refine .s (ixv hS.p1.lendv hx1 T.u25 T.t3 z z z) z ?_
   have ⟨r1,hr1,h⟩:=bnd h
   refine .c (.sev hr1 hx1 hS.p1 T.t3 z z z z z z ?_ z z z z z z)
   intro W hS
   refine .nil ?_
   have hS : Sep _ _ _ [frzE [((sv v2),23,1,List.map (fun (l : List Instr)=>D.row 32 5 (l.map dInstr)) y2.1)] [],rowV (sv v3) 3 1 (D.int .i64) r1,.box g1 100 [(sv v1),.int .i64 y6.2]]:=Sep.frz hS.p2
   cases h
   exact ⟨z,v2,sb z,hS.to [1,1,0] z⟩
  refine .g (.q z (.q z (.nil ?_)))
  refine .cs z h ?_ ?_ <;> intro h
  ·have ⟨x2,hx2,h⟩:=bnd h
   obtain ⟨k1,hS⟩:=Sep.outv hS.p2 hx2
   obtain ⟨v5,k1,rfl,hS⟩:=hS.orowv
   obtain ⟨rfl,hS⟩:=hS.onil
   have ⟨r2,hr2,h⟩:=bnd h
   have hS : Sep _ _ _ [mulE (sv v2) 23 1 (List.map (fun (l : List Instr)=>D.row 32 5 (l.map dInstr)) y2.1) (Int.toNat 0) [(sv v5)] (.row 32 5 (x2.map dInstr)),.box g1 100 [(sv v1),.int .i64 y6.2],rowV (sv v3) 3 1 (D.int .i64) [w64 (1 + y3.1),w64 (1 + y4.1)]]:=(Sep.gat (ds:=[.row 32 5 (x2.map dInstr)]) (cs:=[(sv v5)]) (L1:=[rowV (sv v5) 32 5 dInstr x2]) (.row (.nil)) (hS.to [0,0,0,0] z)).mul
   refine .rm 11 (fun W=>Sep No w W [frzE [((sv v2),23,1,List.map (fun (l : List Instr)=>D.row 32 5 (l.map dInstr)) y2.1),((sv v5),32,5,List.map dInstr x2)] [((sv v2),Int.toNat 0 * 1,(sv v5))]]) hS T.mix ?_
   intro W hS
   have hT : Sep _ _ W [frzE [((sv v2),23,1,List.map (fun (l : List Instr)=>D.row 32 5 (l.map dInstr)) y2.1),((sv v5),32,5,List.map dInstr x2)] [((sv v2),Int.toNat 0 * 1,(sv v5))]]:=Sep.mulz hx2 z (hS.to [0] z)
   refine .tp 0 z (fun W=>pr z) hT (.tp 1 z (fun W=>pr z) hT (.tp 4 z (fun W=>pr z) hT (.tp 7 z (fun W=>pr z) hT (.tp 2 z (fun W=>ixv (hT.lendz 0 z) hx2 T.u39 T.t23 z z z) hT (.tp 5 z (fun W=>ixv (hT.lendz 0 z) hx2 T.u39 T.t23 z z z) hT (.tp 8 z (fun W=>ixv (hT.lendz 0 z) hx2 T.u39 T.t23 z z z) hT (.t1 3 10 z (fun W hT=>lde (hT.cellz 0 z) T.t23 z z z z z) hT (.t1 6 10 z (fun W hT=>lde (hT.cellz 0 z) T.t23 z z z z z) hT (.t1 9 10 z (fun W hT=>lde (hT.cellz 0 z) T.t23 z z z z z) hT (.by1 10 z (.lir (k:=3) hS T.u39 T.t23 z z z z ?_ z z z) (by kernel_rfl)) (by kernel_rfl) z z) (by kernel_rfl) z z) (by kernel_rfl) z z) (by kernel_rfl) z z) (by kernel_rfl) z z) (by kernel_rfl) z z) (by kernel_rfl) z z) (by kernel_rfl) z z) (by kernel_rfl) z z) (by kernel_rfl) z z
   intro v6 W hS
   refine ⟨fun _=>Sep.mulz hx2 z (hS.to [1] z),?_⟩
   refine .byd 11 z (.apm hr2 hx2 hS T.u39 T.t23 z z z ?_ z z z z z) (by kernel_rfl) (by kernel_rfl)
   intro v7 W hS
   refine .byd 12 z (.runs (pr z) z z (.done ?_ (by kernel_rfl))) (by kernel_rfl) (by kernel_rfl)
   cases h
   exact ⟨z,v7,sb z,hS.to [2,1,0] z⟩
  refine .g (.q z (.q z (.nil ?_)))
  refine .cs z h ?_ ?_ <;> intro h
  ·refine .region (.q z (.q z ?_))
   have ⟨x3,hx3,h⟩:=bnd h
   refine .s (ixv hS.p2.lendv hx3 T.u39 T.t23 z z z) z ?_
   obtain ⟨k2,hS⟩:=Sep.outv hS.p2 hx3
   obtain ⟨v8,k2,rfl,hS⟩:=hS.orowv
   obtain ⟨rfl,hS⟩:=hS.onil
   refine .s (lde (hS.p1.hcellsv) T.t23 z z z z z) z (.s (bs T.s32 z z) z (.c (.liv [(Instr.mk 0 0 0 0 0)] dInstr T.u23 T.t32 hS z z z z ?_ z (fun _=>z) z z z z)))
   intro v9 W hS
   have ⟨r3,hr3,h⟩:=bnd h
   have hT0:=hS.p1
   refine .c (.apprv hr3 hT0 hT0.p1.lendv (fun _=>z) T.u23 T.t32 z z z ?_ z z z z z)
   intro v10 W hS
   refine .s (ixh hS.p2 hx3 T.u39 T.t23 z z z) z (.c (.sthv hS.p2 T.t23 z z z ?_ z z z z z z))
   intro W hS
   refine .nil ?_
   have hS:=Sep.gat (ds:=[.row 32 5 (r3.map dInstr)]) (cs:=[(sv v10)]) (L1:=[rowV (sv v10) 32 5 dInstr r3]) (.row (.nil)) (hS.to [1,0,0,0,0] z)
   have hS : Sep _ _ _ [rowV (sv v2) 23 1 (fun (l : List Instr)=>D.row 32 5 (l.map dInstr)) (y2.1.set (Int.toNat 0) r3),rowV (sv v9) 32 5 dInstr [(Instr.mk 0 0 0 0 0)],.box g1 100 [(sv v1),.int .i64 y6.2],rowV (sv v3) 3 1 (D.int .i64) [w64 (1 + y3.1),w64 (1 + y4.1)]]:=hS.backv
   have hS : Sep _ _ _ [frzE [((sv v2),23,1,List.map (fun (l : List Instr)=>D.row 32 5 (l.map dInstr)) (y2.1.set (Int.toNat 0) r3))] [],rowV (sv v9) 32 5 dInstr [(Instr.mk 0 0 0 0 0)],.box g1 100 [(sv v1),.int .i64 y6.2],rowV (sv v3) 3 1 (D.int .i64) [w64 (1 + y3.1),w64 (1 + y4.1)]]:=Sep.frz hS
   cases h
   exact ⟨z,v2,sb z,hS.to [3,2,0] z⟩
  refine .skip ?_
  have hS : Sep _ _ _ [frzE [((sv v2),23,1,List.map (fun (l : List Instr)=>D.row 32 5 (l.map dInstr)) y2.1)] [],.box g1 100 [(sv v1),.int .i64 y6.2],rowV (sv v3) 3 1 (D.int .i64) [w64 (1 + y3.1),w64 (1 + y4.1)]]:=Sep.frz hS.p2
  cases h
  exact ⟨z,v2,sb z,hS.to [2,1,0] z⟩
 intro x E W hJ
 obtain ⟨rfl,v11,hE,hS⟩:=hJ
 refine ⟨_,hE.sub,?_⟩
 cases h
 exact .g (.q z (.q z (.q z (.qn z (.ret (fin_ret (vs:=[_,_]) (v3,v11) (rt z (rt z rn)) z (hS.to [0,1] z)))))))
def fa9 (w : World) (r : Bool) : Env → World → Prop:=Fin Tryz.prog Tryz.f45 No w (fun s : Unit=>.bool r) (fun s=>[]) .ret
theorem f9w {a0 : List Int} {v_0 : Hd} {w : World} {r : Bool} (h : f3n a0 = some r) (q_0 : RV w (Old No w) (sv v_0) 3 1 (D.int .i64) a0) : Calls Tryz.prog 45 #[(sv v_0)] w (Ret No w (fun s : Unit=>.bool r) (fun s=>[])):=by
 unfold f3n at h
 refine enter Tryz.func45 z z ?_
 have hS:=Sep.start w
 refine .g (.qn z (.seq (.g (.q z (.s (lenv (hS.keep q_0) T.u25 z z) z (.qn z (.block ?_)))))))
 have ⟨y1,hy1,h⟩:=bnd h
 refine .via (.iter (fun s1 E' W'=>SubL E' [(0,(sv v_0)),(5,(sv v_0)),(6,.int .i64 (a0.length : Int)),(7,.int .i64 s1)] ∧ Sep No w W' []) (fun y2 x E' W'=>(match y2 with | .inl o1=>x = .ret ∧ fa9 w o1 E' W' | .inr o2=>x = .exit 0 ∧ SubL E' [(0,(sv v_0))] ∧ Sep No w W' [])) hy1 ⟨sb rfl,hS.to [] rfl⟩ ?_) ?_
 ·intro s1 y3 E W h hI
  obtain ⟨hE,hS⟩:=hI
  refine CW.sub hE ?_
  unfold f1l at h
  refine .g (.qn z (.seq ?_))
  refine .cs z h ?_ ?_ <;> intro h
  ·refine .skip (.seq (.block (.seq (.region ?_))))
   have ⟨x1,hx1,h⟩:=bnd h
   refine .s (ixv (hS.keep q_0) hx1 T.u25 T.t3 z z z) z (.s (lde (RV.flat (hS.keep q_0) hx1 z) T.t3 z z z z z) z (.qn z (.g (.q z (.q z (.q z (.chunk 3 16 ((decide (x1 < 1)) || (decide (x1 > 4))) hS ?_ ?_)))))))
   ·refine .both (decide (x1 < 1)) (fun hb=>?_) (fun hb=>?_)
    ·exact .xx hb z (.xx hb z (.s (pkt hb z z z) z (.nil (ck 3 hS z (or_t hb) z z))))
    have hg1:=hb
    exact .g hg1 (.q z (.g hg1 (.q z (.s (pkf hg1 z z z) z (.nil (ck 3 hS z (or_f hg1) z z)))) z)) z
   intro W hS
   refine .nil ?_
   refine .cs z h ?_ ?_ <;> intro h
   ·refine .g (.qn z (.ret ?_))
    cases h
    exact ⟨by simp,z,fin_ret (vs:=[_]) () (rt z rn) z (hS.to [] z)⟩
   refine .skip (.region (.q z (.q z (.nil ?_))))
   cases h
   exact ⟨z,sb z,hS.to [] z⟩
  refine .exit ?_
  cases h
  exact ⟨by simp,z,sb z,hS.to [] z⟩
 intro x E W hJ
 rcases y1 with o3 | o4
 ·obtain ⟨rfl,hF⟩:=hJ
  refine ⟨_,fun _ _ h=>h,?_⟩
  cases h
  exact hF
 obtain ⟨rfl,hE,hS⟩:=hJ
 refine ⟨_,hE.sub,?_⟩
 cases h
 exact .g (.q z (.s (lenv (hS.keep q_0) T.u25 z z) z (.q z (.qn z (.ret (fin_ret (vs:=[_]) () (rt z rn) z (hS.to [] z)))))))
theorem faw {a0 : List Int} {v_0 : Hd} {w : World} {r : (List Box)} (h : f4x a0 = some r) (q_0 : RV w (Old No w) (sv v_0) 3 1 (D.int .i64) a0) : Calls Tryz.prog 46 #[(sv v_0)] w (Ret No w (fun s : Hd=>(sv s)) (fun s=>[rowV (sv s) 51 2 dBox r])):=by
 unfold f4x at h
 refine enter Tryz.func46 z z ?_
 have hS:=Sep.start w
 refine .g (.qn z (.g (.qn z (.seq (.g (.q z (.s (lenv (hS.keep q_0) T.u25 z z) z (.qn z (.block ?_)))))))))
 have hS:=hS.nilv 51 2 dBox
 have ⟨y1,hy1,h⟩:=bnd h
 refine .via (.iter (fun s1 E' W'=>∃ (v3 : Hd),SubL E' [(3,(sv v3)),(6,(sv v_0)),(7,.int .i64 (a0.length : Int)),(8,.int .i64 s1.2)] ∧ Sep No w W' [rowV (sv v3) 51 2 dBox s1.1]) (fun y2 x E' W'=>x = .exit 0 ∧ ∃ (v4 : Hd),SubL E' [(3,(sv v4))] ∧ Sep No w W' [rowV (sv v4) 51 2 dBox y2]) hy1 ⟨nilH,sb z,hS.to [0] z⟩ ?_) ?_
 ·intro s1 y3 E W h hI
  obtain ⟨v2,hE,hS⟩:=hI
  refine CW.sub hE ?_
  unfold f4l at h
  refine .g (.qn z (.seq ?_))
  refine .cs z h ?_ ?_ <;> intro h
  ·refine .skip (.seq (.block (.seq (.region ?_))))
   have ⟨x1,hx1,h⟩:=bnd h
   refine .s (ixv (hS.keep q_0) hx1 T.u25 T.t3 z z z) z (.s (lde (RV.flat (hS.keep q_0) hx1 z) T.t3 z z z z z) z (.qn z (.region (.q z (.q z (.s (bs T.s51 z z) z ?_))))))
   have hS:=hS.nilv 3 1 (D.int .i64)
   refine .c (.ligv (L1:=[rowV (sv nilH) 3 1 (D.int .i64) []]) [(Box.mk x1 [])] dBox T.u43 T.t51 (hS.to [0,0] z) z z z (.agg (.flat (c1:=[.int .i64 x1]) z (.row .nil))) ?_ z (fun _=>z) z z z z z)
   intro v5 W hS
   have ⟨r1,hr1,h⟩:=bnd h
   refine .c (.appv hr1 (hS.to [1,0] z) T.u43 T.t51 z z z ?_ z z z z z)
   intro v6 W hS
   refine .qn z (.region (.q z (.q z (.nil ?_))))
   cases h
   exact ⟨z,v6,sb z,hS.to [0] z⟩
  refine .exit ?_
  cases h
  exact ⟨by simp,z,v2,sb z,hS.to [0] z⟩
 intro x E W hJ
 obtain ⟨rfl,v7,hE,hS⟩:=hJ
 refine ⟨_,hE.sub,?_⟩
 obtain rfl:=Option.some.inj h
 exact .g (.q z (.qn z (.ret (fin_ret (vs:=[_]) v7 (rt z rn) z (hS.to [0] z)))))
def fbo (w : World) (r : Squad × Bool) : Env → World → Prop:=Fin Tryz.prog Tryz.f20 No w (fun s : Hd × Hd × Hd=>.tuple #[.agg #[(sv s.1),(sv s.2.1),.int .i64 r.1.Turn,.int .i64 r.1.Idle,(sv s.2.2)],.bool r.2]) (fun s=>[rowV (sv s.1) 27 3 dMachine r.1.Harts,rowV (sv s.2.1) 51 2 dBox r.1.Boxes,rowV (sv s.2.2) 3 1 (D.int .i64) r.1.Out]) .ret
theorem fag {a0 : List Int} {a1 : List (List Instr)} {v_0 : Hd} {v_1 : Hd} {w : World} {r : Squad × Bool} (h : f5h a0 a1 = some r) (q_0 : RV w (Old No w) (sv v_0) 3 1 (D.int .i64) a0) (q_1 : RV w (Old No w) (sv v_1) 23 1 (fun (l : List Instr)=>D.row 32 5 (l.map dInstr)) a1) (hG : Gl w) : Calls Tryz.prog 20 #[(sv v_0),(sv v_1)] w (Ret No w (fun s : Hd × Hd × Hd=>.tuple #[.agg #[(sv s.1),(sv s.2.1),.int .i64 r.1.Turn,.int .i64 r.1.Idle,(sv s.2.2)],.bool r.2]) (fun s=>[rowV (sv s.1) 27 3 dMachine r.1.Harts,rowV (sv s.2.1) 51 2 dBox r.1.Boxes,rowV (sv s.2.2) 3 1 (D.int .i64) r.1.Out])):=by
 unfold f5h at h
 refine enter Tryz.func20 z z ?_
 have hS:=Sep.start w
 refine .g (.c (.alloc T.t45 hS ?_ z z z))
 intro g1 W hS
 refine .qn z (.seq (.g (.q z ?_)))
 have ⟨y1,hy1,h⟩:=bnd h
 refine .c (.call0 hS Tryz.func45 (f9w hy1 (hS.keep q_0)) z z ?_ z z z z)
 intro W hS
 refine .q z (.q z (.chunk 4 18 ((!y1) || (decide ((a1.length : Int) < 1))) hS ?_ ?_))
 ·refine .both (!y1) (fun hb=>?_) (fun hb=>?_)
  ·exact .xx hb z (.xx hb z (.xx hb z (.s (pkt hb z z z) z (.nil (ck 4 hS z (or_t hb) z z)))))
  have hg1:=hb
  exact .g hg1 (.q z (.g hg1 (.s (lenv (hS.keep q_1) T.u39 z z) z (.g hg1 (.q z (.s (pkf hg1 z z z) z (.nil (ck 4 hS z (or_f hg1) z z)))) z)) z)) z
 intro W hS
 refine .q z (.chunk 4 23 (((!y1) || (decide ((a1.length : Int) < 1))) || (decide ((a1.length : Int) > 3))) hS ?_ ?_)
 ·refine .both ((!y1) || (decide ((a1.length : Int) < 1))) (fun hb=>?_) (fun hb=>?_)
  ·exact .xx hb z (.xx hb z (.xx hb z (.s (pkt hb z z z) z (.nil (ck 4 hS z (or_t hb) z z)))))
  have hg2:=hb
  exact .g hg2 (.q z (.g hg2 (.s (lenv (hS.keep q_1) T.u39 z z) z (.g hg2 (.q z (.s (pkf hg2 z z z) z (.nil (ck 4 hS z (or_f hg2) z z)))) z)) z)) z
 intro W hS
 refine .nil ?_
 refine .cs z h ?_ ?_ <;> intro h
 ·refine .g (.s (bs T.s45 z z) z (.c (.st T.t45 hS z z z ?_ z z z z z)))
  intro W hS
  refine .qn z (.ret ?_)
  have hS:=hS.nilv 27 3 dMachine
  have hS:=hS.nilv 51 2 dBox
  have hS:=hS.nilv 3 1 (D.int .i64)
  cases h
  exact fin_ret (vs:=[_,_]) (nilH,nilH,nilH) (rc hS.p3 T.t45 z (rt z rn) z z) z (hS.to [2,1,0] z)
 refine .skip (.g (.q z ?_))
 have ⟨y2,hy2,h⟩:=bnd h
 refine .c (.call1v hS Tryz.func46 (faw hy2 (hS.keep q_0)) z z ?_ z z z z)
 intro v1 W hS
 refine .s (bs T.s45 z z) z (.c (.alloc T.t45 hS ?_ z z z))
 intro g2 W hS
 refine .c (.st T.t45 hS z z z ?_ z z z z z)
 intro W hS
 refine .nil (.seq (.g (.q z (.s (lenv (hS.keep q_1) T.u39 z z) z (.qn z (.block ?_))))))
 have hS:=hS.nilv 27 3 dMachine
 have ⟨y3,hy3,h⟩:=bnd h
 refine .via (.iter (fun s1 E' W'=>∃ (v4 : Hd),SubL E' [(4,.pointer (some ⟨g1,0,none⟩)),(6,.pointer (some ⟨g2,0,none⟩)),(28,(sv v_1)),(29,.int .i64 (a1.length : Int)),(30,.int .i64 s1.1)] ∧ Sep No w W' [.box g2 45 [(sv v4),(sv v1),.int .i64 0,.int .i64 0,(sv nilH)],rowV (sv v1) 51 2 dBox y2,.box g1 45 [(sv nilH),(sv nilH),.int .i64 0,.int .i64 0,(sv nilH)],rowV (sv v4) 27 3 dMachine s1.2]) (fun y4 x E' W'=>(match y4 with | .inl o1=>x = .ret ∧ fbo w o1 E' W' | .inr o2=>x = .exit 0 ∧ ∃ (v5 : Hd),SubL E' [(4,.pointer (some ⟨g1,0,none⟩)),(6,.pointer (some ⟨g2,0,none⟩))] ∧ Sep No w W' [.box g2 45 [(sv v5),(sv v1),.int .i64 0,.int .i64 0,(sv nilH)],rowV (sv v1) 51 2 dBox y2,.box g1 45 [(sv nilH),(sv nilH),.int .i64 0,.int .i64 0,(sv nilH)],rowV (sv v5) 27 3 dMachine o2])) hy3 ⟨nilH,sb rfl,hS.to [1,1,1,0] rfl⟩ ?_) ?_
 ·intro s1 y5 E W h hI
  obtain ⟨v3,hE,hS⟩:=hI
  refine CW.sub hE ?_
  unfold f3c at h
  refine .g (.qn z (.seq ?_))
  refine .cs z h ?_ ?_ <;> intro h
  ·refine .skip (.seq (.block (.seq (.region ?_))))
   have ⟨x1,hx1,h⟩:=bnd h
   obtain ⟨k1,hd,hck1⟩:=RV.el2 q_1 hx1
   obtain ⟨v6,k1,rfl,q5,hd1⟩:=rrowv q_1 hd
   obtain rfl:=rnil q_1 hd1
   refine .s (ixv (hS.keep q_1) hx1 T.u39 T.t23 z z z) z (.s (lde (hck1 _ hS.agree) T.t23 z z z z z) z (.qn z (.g (.q z ?_))))
   have ⟨y6,hy6,h⟩:=bnd h
   refine .c (.call hS Tryz.func12 (f92 hy6 (hS.keep (q5 _ q_1)) (hG.at hS (fun _ _ h=>h))) z z ?_ z z z z)
   rintro ⟨v7,v8⟩ W hS
   refine .q z (.q z (.q z (.c (.alloc T.t27 hS ?_ z z z))))
   intro g3 W hS
   refine .c (.st T.t27 hS z z z ?_ z z z z z)
   intro W hS
   refine .qn z (.seq (.g (.q z (.q z (.nil ?_)))))
   refine .cs z h ?_ ?_ <;> intro h
   ·refine .g (.s (bs T.s45 z z) z (.c (.st T.t45 hS.p5 z z z ?_ z z z z z)))
    intro W hS
    refine .qn z (.ret ?_)
    have hS:=hS.nilv 27 3 dMachine
    have hS:=hS.nilv 51 2 dBox
    have hS:=hS.nilv 3 1 (D.int .i64)
    cases h
    exact ⟨by simp,z,fin_ret (vs:=[_,_]) (nilH,nilH,nilH) (rc hS.p3 T.t45 z (rt z rn) z z) z (hS.to [2,1,0] z)⟩
   refine .skip (.region (.s (fa T.f45_0 z z z) z (.s (ld T.t42 hS.p3 z z z z z) z (.s (ld T.t27 hS z z z z z) z (.c (.ligv (L1:=[rowV (sv v7) 3 1 (D.int .i64) y6.1.Regs,rowV (sv v8) 3 1 (D.int .i64) y6.1.Mem]) [(Machine.mk y6.1.Regs y6.1.Pc y6.1.Mem)] dMachine T.u42 T.t27 (hS.to [1,1,0,0,0,0,0] z) z z z (.agg (.row (.flat (c1:=[.int .i64 y6.1.Pc]) z (.row .nil)))) ?_ z (fun _=>z) z z z z z))))))
   intro v9 W hS
   have ⟨r1,hr1,h⟩:=bnd h
   refine .c (.appv hr1 (hS.to [5,0,0,0,0,0] z) T.u42 T.t27 z z z ?_ z z z z z)
   intro v10 W hS
   refine .s (fa T.f45_0 z z z) z (.c (.st T.t42 hS.p2 z z z ?_ z z z z z))
   intro W hS
   refine .nil (.region (.q z (.q z (.nil ?_))))
   cases h
   exact ⟨z,v10,sb z,hS.to [0,2,2,0] z⟩
  refine .exit ?_
  cases h
  exact ⟨by simp,z,v3,sb z,hS.to [0,0,0,0] z⟩
 intro x E W hJ
 rcases y3 with o3 | o4
 ·obtain ⟨rfl,hF⟩:=hJ
  refine ⟨_,fun _ _ h=>h,?_⟩
  cases h
  exact hF
 obtain ⟨rfl,v11,hE,hS⟩:=hJ
 refine ⟨_,hE.sub,?_⟩
 refine .g (.s (ld T.t45 hS z z z z z) z (.c (.st T.t45 hS.p2 z z z ?_ z z z z z)))
 intro W hS
 refine .qn z (.ret ?_)
 have hS:=hS.nilv 3 1 (D.int .i64)
 cases h
 exact fin_ret (vs:=[_,_]) (v11,v1,nilH) (rc hS.p1 T.t45 z (rt z rn) z z) z (hS.to [4,3,0] z)
def fc4 (w : World) (r : Bool) : Env → World → Prop:=Fin Tryz.prog Tryz.f47 No w (fun s : Unit=>.bool r) (fun s=>[]) .ret
theorem fbc {a0 : List Int} {v_0 : Hd} {w : World} {r : Bool} (h : f3f a0 = some r) (q_0 : RV w (Old No w) (sv v_0) 3 1 (D.int .i64) a0) : Calls Tryz.prog 47 #[(sv v_0)] w (Ret No w (fun s : Unit=>.bool r) (fun s=>[])):=by
 unfold f3f at h
 refine enter Tryz.func47 z z ?_
 have hS:=Sep.start w
 refine .g (.qn z (.seq (.g (.qn z (.block ?_)))))
 have ⟨y1,hy1,h⟩:=bnd h
 refine .via (.iter (fun s1 E' W'=>SubL E' [(0,(sv v_0)),(3,.int .i64 s1)] ∧ Sep No w W' []) (fun y2 x E' W'=>(match y2 with | .inl o1=>x = .ret ∧ fc4 w o1 E' W' | .inr o2=>x = .exit 0 ∧ SubL E' [(0,(sv v_0))] ∧ Sep No w W' [])) hy1 ⟨sb rfl,hS.to [] rfl⟩ ?_) ?_
 ·intro s1 y3 E W h hI
  obtain ⟨hE,hS⟩:=hI
  refine CW.sub hE ?_
  unfold f4r at h
  refine .seq (.g (.q z (.q z (.s (lenv (hS.keep q_0) T.u25 z z) z (.q z (.nil ?_))))))
  refine .cs z h ?_ ?_ <;> intro h
  ·refine .skip (.seq (.block (.g (.q z (.q z ?_)))))
   have ⟨x1,hx1,h⟩:=bnd h
   refine .s (ixv (hS.keep q_0) hx1 T.u25 T.t3 z z z) z (.s (lde (RV.flat (hS.keep q_0) hx1 z) T.t3 z z z z z) z ?_)
   have ⟨y4,hy4,h⟩:=bnd h
   refine .c (.call0 hS Tryz.func48 (f07 hy4) z z ?_ z z z z)
   intro W hS
   refine .q z (.nil ?_)
   refine .cs z h ?_ ?_ <;> intro h
   ·refine .g (.qn z (.ret ?_))
    cases h
    exact ⟨by simp,z,fin_ret (vs:=[_]) () (rt z rn) z (hS.to [] z)⟩
   refine .skip (.region (.q z (.q z (.q z (.nil ?_)))))
   cases h
   exact ⟨z,sb z,hS.to [] z⟩
  refine .exit ?_
  cases h
  exact ⟨by simp,z,sb z,hS.to [] z⟩
 intro x E W hJ
 rcases y1 with o3 | o4
 ·obtain ⟨rfl,hF⟩:=hJ
  refine ⟨_,fun _ _ h=>h,?_⟩
  cases h
  exact hF
 obtain ⟨rfl,hE,hS⟩:=hJ
 refine ⟨_,hE.sub,?_⟩
 cases h
 exact .g (.q z (.s (lenv (hS.keep q_0) T.u25 z z) z (.q z (.qn z (.ret (fin_ret (vs:=[_]) () (rt z rn) z (hS.to [] z)))))))
theorem fb7 {a0 : List Int} {v_0 : Hd} {w : World} {r : (List Box)} (h : f59 a0 = some r) (q_0 : RV w (Old No w) (sv v_0) 3 1 (D.int .i64) a0) : Calls Tryz.prog 49 #[(sv v_0)] w (Ret No w (fun s : Hd=>(sv s)) (fun s=>[rowV (sv s) 51 2 dBox r])):=by
 unfold f59 at h
 refine enter Tryz.func49 z z ?_
 have hS:=Sep.start w
 refine .g (.qn z (.g (.c (.ligv (L1:=[]) [] dBox T.u43 T.t51 (hS.to [] z) z z z (.nil) ?_ z (fun _=>z) z z z z z))))
 intro v1 W hS
 refine .qn z (.seq (.g (.qn z (.block ?_))))
 have ⟨y1,hy1,h⟩:=bnd h
 refine .via (.iter (fun s1 E' W'=>∃ (v4 : Hd),SubL E' [(0,(sv v_0)),(3,(sv v4)),(4,.int .i64 s1.2)] ∧ Sep No w W' [rowV (sv v4) 51 2 dBox s1.1]) (fun y2 x E' W'=>x = .exit 0 ∧ ∃ (v5 : Hd),SubL E' [(3,(sv v5))] ∧ Sep No w W' [rowV (sv v5) 51 2 dBox y2]) hy1 ⟨v1,sb z,hS.to [0] z⟩ ?_) ?_
 ·intro s1 y3 E W h hI
  obtain ⟨v3,hE,hS⟩:=hI
  refine CW.sub hE ?_
  unfold f4n at h
  refine .seq (.g (.q z (.q z (.s (lenv (hS.keep q_0) T.u25 z z) z (.q z (.nil ?_))))))
  refine .cs z h ?_ ?_ <;> intro h
  ·refine .skip (.seq (.block (.region (.q z (.q z (.q z ?_))))))
   have ⟨x1,hx1,h⟩:=bnd h
   refine .s (ixv (hS.keep q_0) hx1 T.u25 T.t3 z z z) z (.s (lde (RV.flat (hS.keep q_0) hx1 z) T.t3 z z z z z) z (.c (.liv [] (D.int .i64) T.u25 T.t3 hS z z z z ?_ z (fun _=>z) z z z z)))
   intro v6 W hS
   refine .s (bs T.s51 z z) z (.c (.ligv (L1:=[rowV (sv v6) 3 1 (D.int .i64) []]) [(Box.mk x1 [])] dBox T.u43 T.t51 (hS.to [0,0] z) z z z (.agg (.flat (c1:=[.int .i64 x1]) z (.row .nil))) ?_ z (fun _=>z) z z z z z))
   intro v7 W hS
   have ⟨r1,hr1,h⟩:=bnd h
   refine .c (.appv hr1 (hS.to [1,0] z) T.u43 T.t51 z z z ?_ z z z z z)
   intro v8 W hS
   refine .qn z (.region (.q z (.q z (.q z (.nil ?_)))))
   cases h
   exact ⟨z,v8,sb z,hS.to [0] z⟩
  refine .exit ?_
  cases h
  exact ⟨by simp,z,v3,sb z,hS.to [0] z⟩
 intro x E W hJ
 obtain ⟨rfl,v9,hE,hS⟩:=hJ
 refine ⟨_,hE.sub,?_⟩
 obtain rfl:=Option.some.inj h
 exact .g (.q z (.qn z (.ret (fin_ret (vs:=[_]) v9 (rt z rn) z (hS.to [0] z)))))
def fc3 (w : World) (r : Squad × Bool) : Env → World → Prop:=Fin Tryz.prog Tryz.f21 No w (fun s : Hd × Hd × Hd=>.tuple #[.agg #[(sv s.1),(sv s.2.1),.int .i64 r.1.Turn,.int .i64 r.1.Idle,(sv s.2.2)],.bool r.2]) (fun s=>[rowV (sv s.1) 27 3 dMachine r.1.Harts,rowV (sv s.2.1) 51 2 dBox r.1.Boxes,rowV (sv s.2.2) 3 1 (D.int .i64) r.1.Out]) .ret
theorem fba {a0 : List Int} {a1 : List (List Instr)} {v_0 : Hd} {v_1 : Hd} {w : World} {r : Squad × Bool} (h : f51 a0 a1 = some r) (q_0 : RV w (Old No w) (sv v_0) 3 1 (D.int .i64) a0) (q_1 : RV w (Old No w) (sv v_1) 23 1 (fun (l : List Instr)=>D.row 32 5 (l.map dInstr)) a1) : Calls Tryz.prog 21 #[(sv v_0),(sv v_1)] w (Ret No w (fun s : Hd × Hd × Hd=>.tuple #[.agg #[(sv s.1),(sv s.2.1),.int .i64 r.1.Turn,.int .i64 r.1.Idle,(sv s.2.2)],.bool r.2]) (fun s=>[rowV (sv s.1) 27 3 dMachine r.1.Harts,rowV (sv s.2.1) 51 2 dBox r.1.Boxes,rowV (sv s.2.2) 3 1 (D.int .i64) r.1.Out])):=by
 unfold f51 at h
 refine enter Tryz.func21 z z ?_
 have hS:=Sep.start w
 refine .g (.c (.alloc T.t45 hS ?_ z z z))
 intro g1 W hS
 refine .qn z (.seq (.g (.q z ?_)))
 have ⟨y1,hy1,h⟩:=bnd h
 refine .c (.call0 hS Tryz.func47 (fbc hy1 (hS.keep q_0)) z z ?_ z z z z)
 intro W hS
 refine .q z (.q z ?_)
 have ⟨b1,hb1,h⟩:=bnd h
 refine .chunk 5 18 (b1) hS ?_ ?_
 ·refine .both (!y1) (fun hb=>?_) (fun hb=>?_)
  ·refine .xx hb z (.xx hb z (.xx hb z (.xx hb z ?_)))
   cases sel_t hb hb1
   exact .s (pkt hb z z z) z (.nil (ck 5 hS z z z z))
  have hg1:=hb
  have h:=sel_f hb hb1
  refine .g hg1 (.q z (.g hg1 (.s (lenv (hS.keep q_1) T.u39 z z) z ?_) z)) z
  have ⟨y2,hy2,h⟩:=bnd h
  refine .g hg1 (.c (.call0 hS Tryz.func48 (f07 hy2) z z ?_ z z z z)) z
  intro W hS
  refine .g hg1 (.q z (.s (pkf hg1 z z z) z ?_)) z
  cases h
  exact .nil (ck 5 hS z z z z)
 intro W hS
 refine .nil ?_
 refine .cs z h ?_ ?_ <;> intro h
 ·refine .g (.s (bs T.s45 z z) z (.c (.st T.t45 hS z z z ?_ z z z z z)))
  intro W hS
  refine .qn z (.ret ?_)
  have hS:=hS.nilv 27 3 dMachine
  have hS:=hS.nilv 51 2 dBox
  have hS:=hS.nilv 3 1 (D.int .i64)
  cases h
  exact fin_ret (vs:=[_,_]) (nilH,nilH,nilH) (rc hS.p3 T.t45 z (rt z rn) z z) z (hS.to [2,1,0] z)
 refine .skip (.g (.c (.ligv (L1:=[]) [] dMachine T.u42 T.t27 (hS.to [0] z) z z z (.nil) ?_ z (fun _=>z) z z z z z)))
 intro v1 W hS
 refine .q z ?_
 have ⟨y3,hy3,h⟩:=bnd h
 refine .c (.call1v hS Tryz.func49 (fb7 hy3 (hS.keep q_0)) z z ?_ z z z z)
 intro v2 W hS
 refine .c (.liv [] (D.int .i64) T.u25 T.t3 hS z z z z ?_ z (fun _=>z) z z z z)
 intro v3 W hS
 refine .s (bs T.s45 z z) z (.c (.alloc T.t45 hS ?_ z z z))
 intro g2 W hS
 refine .c (.st T.t45 hS z z z ?_ z z z z z)
 intro W hS
 refine .nil (.seq (.g (.qn z (.block ?_))))
 have ⟨y4,hy4,h⟩:=bnd h
 refine .via (.iter (fun s1 E' W'=>∃ (v6 : Hd),SubL E' [(1,(sv v_1)),(4,.pointer (some ⟨g1,0,none⟩)),(6,.pointer (some ⟨g2,0,none⟩)),(7,.int .i64 s1.1)] ∧ Sep No w W' [.box g2 45 [(sv v6),(sv v2),.int .i64 0,.int .i64 0,(sv v3)],rowV (sv v3) 3 1 (D.int .i64) [],rowV (sv v2) 51 2 dBox y3,.box g1 45 [(sv nilH),(sv nilH),.int .i64 0,.int .i64 0,(sv nilH)],rowV (sv v6) 27 3 dMachine s1.2]) (fun y5 x E' W'=>(match y5 with | .inl o1=>x = .ret ∧ fc3 w o1 E' W' | .inr o2=>x = .exit 0 ∧ ∃ (v7 : Hd),SubL E' [(4,.pointer (some ⟨g1,0,none⟩)),(6,.pointer (some ⟨g2,0,none⟩))] ∧ Sep No w W' [.box g2 45 [(sv v7),(sv v2),.int .i64 0,.int .i64 0,(sv v3)],rowV (sv v3) 3 1 (D.int .i64) [],rowV (sv v2) 51 2 dBox y3,.box g1 45 [(sv nilH),(sv nilH),.int .i64 0,.int .i64 0,(sv nilH)],rowV (sv v7) 27 3 dMachine o2])) hy4 ⟨v1,sb rfl,hS.to [0,0,0,1,0] rfl⟩ ?_) ?_
 ·intro s1 y6 E W h hI
  obtain ⟨v5,hE,hS⟩:=hI
  refine CW.sub hE ?_
  unfold f36 at h
  refine .seq (.g (.q z (.q z (.s (lenv (hS.keep q_1) T.u39 z z) z (.q z (.nil ?_))))))
  refine .cs z h ?_ ?_ <;> intro h
  ·refine .skip (.seq (.block (.g (.q z (.q z ?_)))))
   have ⟨x1,hx1,h⟩:=bnd h
   obtain ⟨k1,hd,hck1⟩:=RV.el2 q_1 hx1
   obtain ⟨v8,k1,rfl,q5,hd1⟩:=rrowv q_1 hd
   obtain rfl:=rnil q_1 hd1
   refine .s (ixv (hS.keep q_1) hx1 T.u39 T.t23 z z z) z (.s (lde (hck1 _ hS.agree) T.t23 z z z z z) z ?_)
   have ⟨y7,hy7,h⟩:=bnd h
   refine .c (.call hS Tryz.func13 (fbl hy7 (hS.keep (q5 _ q_1))) z z ?_ z z z z)
   rintro ⟨v9,v10⟩ W hS
   refine .q z (.q z (.q z (.c (.alloc T.t27 hS ?_ z z z))))
   intro g3 W hS
   refine .c (.st T.t27 hS z z z ?_ z z z z z)
   intro W hS
   refine .qn z (.seq (.g (.q z (.q z (.nil ?_)))))
   refine .cs z h ?_ ?_ <;> intro h
   ·refine .g (.s (bs T.s45 z z) z (.c (.st T.t45 hS.p6 z z z ?_ z z z z z)))
    intro W hS
    refine .qn z (.ret ?_)
    have hS:=hS.nilv 27 3 dMachine
    have hS:=hS.nilv 51 2 dBox
    have hS:=hS.nilv 3 1 (D.int .i64)
    cases h
    exact ⟨by simp,z,fin_ret (vs:=[_,_]) (nilH,nilH,nilH) (rc hS.p3 T.t45 z (rt z rn) z z) z (hS.to [2,1,0] z)⟩
   refine .skip (.region (.s (fa T.f45_0 z z z) z (.s (ld T.t42 hS.p3 z z z z z) z (.s (ld T.t27 hS z z z z z) z (.c (.ligv (L1:=[rowV (sv v9) 3 1 (D.int .i64) y7.1.Regs,rowV (sv v10) 3 1 (D.int .i64) y7.1.Mem]) [(Machine.mk y7.1.Regs y7.1.Pc y7.1.Mem)] dMachine T.u42 T.t27 (hS.to [1,1,0,0,0,0,0,0] z) z z z (.agg (.row (.flat (c1:=[.int .i64 y7.1.Pc]) z (.row .nil)))) ?_ z (fun _=>z) z z z z z))))))
   intro v11 W hS
   have ⟨r1,hr1,h⟩:=bnd h
   refine .c (.appv hr1 (hS.to [6,0,0,0,0,0,0] z) T.u42 T.t27 z z z ?_ z z z z z)
   intro v12 W hS
   refine .s (fa T.f45_0 z z z) z (.c (.st T.t42 hS.p2 z z z ?_ z z z z z))
   intro W hS
   refine .nil (.region (.q z (.q z (.q z (.nil ?_)))))
   cases h
   exact ⟨z,v12,sb z,hS.to [0,2,2,2,0] z⟩
  refine .exit ?_
  cases h
  exact ⟨by simp,z,v5,sb z,hS.to [0,0,0,0,0] z⟩
 intro x E W hJ
 rcases y4 with o3 | o4
 ·obtain ⟨rfl,hF⟩:=hJ
  refine ⟨_,fun _ _ h=>h,?_⟩
  cases h
  exact hF
 obtain ⟨rfl,v13,hE,hS⟩:=hJ
 refine ⟨_,hE.sub,?_⟩
 refine .g (.s (ld T.t45 hS z z z z z) z (.c (.st T.t45 hS.p3 z z z ?_ z z z z z)))
 intro W hS
 cases h
 exact .qn z (.ret (fin_ret (vs:=[_,_]) (v13,v2,v3) (rc hS T.t45 z (rt z rn) z z) z (hS.to [4,3,2] z)))
theorem f94 {a0 : Box} {a1 : Box} {v_0_Items : Hd} {v_1_Items : Hd} {w : World} {r : Bool} (h : f4h a0 a1 = some r) (q_0_Items : RV w (Old No w) (sv v_0_Items) 3 1 (D.int .i64) a0.Items) (q_1_Items : RV w (Old No w) (sv v_1_Items) 3 1 (D.int .i64) a1.Items) : Calls Tryz.prog 23 #[.agg #[.int .i64 a0.Room,(sv v_0_Items)],.agg #[.int .i64 a1.Room,(sv v_1_Items)]] w (Ret No w (fun s : Unit=>.bool r) (fun s=>[])):=by
 unfold f4h at h
 refine enter Tryz.func23 z z ?_
 have hS:=Sep.start w
 refine .g (.c (.box hS z z ?_ z z))
 intro g1 W hS
 refine .c (.box hS z z ?_ z z)
 intro g2 W hS
 refine .qn z (.g (.s (fa T.f51_0 z z z) z (.s (ld T.t3 hS.p1 z z z z z) z (.s (fa T.f51_0 z z z) z (.s (ld T.t3 hS z z z z z) z (.q z (.q z ?_)))))))
 have ⟨b1,hb1,h⟩:=bnd h
 refine .chunk 6 16 (b1) hS ?_ ?_
 ·refine .both (a0.Room == a1.Room) (fun hb=>?_) (fun hb=>?_)
  ·have hg1:=hb
   have h:=sel_t hb hb1
   refine .g hg1 (.s (fa T.f51_1 z z z) z (.g hg1 (.s (ld T.t25 hS.p1 z z z z z) z (.g hg1 (.s (fa T.f51_1 z z z) z (.g hg1 (.s (ld T.t25 hS z z z z z) z ?_) z)) z)) z)) z
   have ⟨y1,hy1,h⟩:=bnd h
   refine .g hg1 (.c (.call0 hS Tryz.func18 (f4p hy1 (hS.keep q_0_Items) (hS.keep q_1_Items)) z z ?_ z z z z)) z
   intro W hS
   refine .s (pkt hg1 z z z) z ?_
   cases h
   exact .nil (ck 6 hS z z z z)
  refine .xx hb z (.xx hb z (.xx hb z (.xx hb z (.xx hb z ?_))))
  cases sel_f hb hb1
  exact .s (pkf hb z z z) z (.nil (ck 6 hS z z z z))
 intro W hS
 obtain rfl:=Option.some.inj h
 exact .qn z (.ret (fin_ret (vs:=[_]) () (rt z rn) z (hS.to [] z)))
def fam (w : World) (r : Bool) : Env → World → Prop:=Fin Tryz.prog Tryz.f50 No w (fun s : Unit=>.bool r) (fun s=>[]) .ret
theorem fad {a0 : List Box} {a1 : List Box} {v_0 : Hd} {v_1 : Hd} {w : World} {r : Bool} (h : f3z a0 a1 = some r) (q_0 : RV w (Old No w) (sv v_0) 51 2 dBox a0) (q_1 : RV w (Old No w) (sv v_1) 51 2 dBox a1) : Calls Tryz.prog 50 #[(sv v_0),(sv v_1)] w (Ret No w (fun s : Unit=>.bool r) (fun s=>[])):=by
 unfold f3z at h
 refine enter Tryz.func50 z z ?_
 have hS:=Sep.start w
 refine .g (.qn z (.seq (.g (.q z (.s (lenv (hS.keep q_0) T.u43 z z) z (.q z (.s (lenv (hS.keep q_1) T.u43 z z) z (.q z (.nil ?_)))))))))
 refine .cs z h ?_ ?_ <;> intro h
 ·obtain rfl:=Option.some.inj h
  exact .g (.qn z (.ret (fin_ret (vs:=[_]) () (rt z rn) z (hS.to [] z))))
 refine .skip (.seq (.g (.qn z (.block ?_))))
 have ⟨y1,hy1,h⟩:=bnd h
 refine .via (.iter (fun s1 E' W'=>SubL E' [(0,(sv v_0)),(1,(sv v_1)),(5,.int .i64 s1)] ∧ Sep No w W' []) (fun y2 x E' W'=>(match y2 with | .inl o1=>x = .ret ∧ fam w o1 E' W' | .inr o2=>x = .exit 0 ∧ SubL E' [] ∧ Sep No w W' [])) hy1 ⟨sb rfl,hS.to [] rfl⟩ ?_) ?_
 ·intro s1 y3 E W h hI
  obtain ⟨hE,hS⟩:=hI
  refine CW.sub hE ?_
  unfold f2o at h
  refine .seq (.g (.q z (.q z (.s (lenv (hS.keep q_0) T.u43 z z) z (.q z (.nil ?_))))))
  refine .cs z h ?_ ?_ <;> intro h
  ·refine .skip (.seq (.block (.seq (.rk 10 hS [] T.mix ?_))))
   intro W hS
   have hT:=hS.to [] z
   refine .tp 0 z z hT (by kernel_rfl) (.tp 1 z z hT (by kernel_rfl) ?_)
   have ⟨x1,hx1,h⟩:=bnd h
   obtain ⟨k1,hd,hck1⟩:=RV.el2 q_0 hx1
   have hd1:=ragg hd
   obtain ⟨k1,rfl,hd2⟩:=rflat q_0 z hd1
   obtain ⟨v1,k1,rfl,q1,hd3⟩:=rrowv q_0 hd2
   obtain rfl:=rnil q_0 hd3
   refine .ts 2 z (fun W hT=>ixv (hS.keep q_0) hx1 T.u43 T.t51 z z z) hT z (by kernel_rfl) (.ts 3 z (fun W hT=>lde (hck1 _ hT.agree) T.t51 z z z z z) hT z (by kernel_rfl) (.tp 4 z z hT (by kernel_rfl) (.tp 5 z z hT (by kernel_rfl) ?_)))
   have ⟨x2,hx2,h⟩:=bnd h
   obtain ⟨k2,hd,hck2⟩:=RV.el2 q_1 hx2
   have hd1:=ragg hd
   obtain ⟨k2,rfl,hd2⟩:=rflat q_1 z hd1
   obtain ⟨v2,k2,rfl,q2,hd3⟩:=rrowv q_1 hd2
   obtain rfl:=rnil q_1 hd3
   refine .ts 6 z (fun W hT=>ixv (hS.keep q_1) hx2 T.u43 T.t51 z z z) hT z (by kernel_rfl) (.ts 7 z (fun W hT=>lde (hck2 _ hT.agree) T.t51 z z z z z) hT z (by kernel_rfl) ?_)
   have ⟨y4,hy4,h⟩:=bnd h
   refine .by1 8 z (.call0 hS Tryz.func23 (f94 hy4 (hS.keep (q1 _ q_0)) (hS.keep (q2 _ q_1))) z z ?_ z z z z) (by kernel_rfl)
   intro W hS
   have hT:=hS.to [] z
   refine ⟨fun _=>hT,.tp 9 z z hT (by kernel_rfl) (.done ?_ (by kernel_rfl))⟩
   refine .cs z h ?_ ?_ <;> intro h
   ·refine .g (.qn z (.ret ?_))
    cases h
    exact ⟨by simp,z,fin_ret (vs:=[_]) () (rt z rn) z (hS.to [] z)⟩
   refine .skip (.region (.q z (.q z (.q z (.nil ?_)))))
   cases h
   exact ⟨z,sb z,hS.to [] z⟩
  refine .exit ?_
  cases h
  exact ⟨by simp,z,sb z,hS.to [] z⟩
 intro x E W hJ
 rcases y1 with o3 | o4
 ·obtain ⟨rfl,hF⟩:=hJ
  refine ⟨_,fun _ _ h=>h,?_⟩
  cases h
  exact hF
 obtain ⟨rfl,hE,hS⟩:=hJ
 refine ⟨_,hE.sub,?_⟩
 obtain rfl:=Option.some.inj h
 exact .g (.qn z (.ret (fin_ret (vs:=[_]) () (rt z rn) z (hS.to [] z))))
def fan (w : World) (r : Bool) : Env → World → Prop:=Fin Tryz.prog Tryz.f22 No w (fun s : Unit=>.bool r) (fun s=>[]) .ret
theorem f8o {a0 : Squad} {a1 : Squad} {v_0_Harts : Hd} {v_0_Boxes : Hd} {v_0_Out : Hd} {v_1_Harts : Hd} {v_1_Boxes : Hd} {v_1_Out : Hd} {w : World} {r : Bool} (h : f30 a0 a1 = some r) (q_0_Harts : RV w (Old No w) (sv v_0_Harts) 27 3 dMachine a0.Harts) (q_0_Boxes : RV w (Old No w) (sv v_0_Boxes) 51 2 dBox a0.Boxes) (q_0_Out : RV w (Old No w) (sv v_0_Out) 3 1 (D.int .i64) a0.Out) (q_1_Harts : RV w (Old No w) (sv v_1_Harts) 27 3 dMachine a1.Harts) (q_1_Boxes : RV w (Old No w) (sv v_1_Boxes) 51 2 dBox a1.Boxes) (q_1_Out : RV w (Old No w) (sv v_1_Out) 3 1 (D.int .i64) a1.Out) : Calls Tryz.prog 22 #[.agg #[(sv v_0_Harts),(sv v_0_Boxes),.int .i64 a0.Turn,.int .i64 a0.Idle,(sv v_0_Out)],.agg #[(sv v_1_Harts),(sv v_1_Boxes),.int .i64 a1.Turn,.int .i64 a1.Idle,(sv v_1_Out)]] w (Ret No w (fun s : Unit=>.bool r) (fun s=>[])):=by
 unfold f30 at h
 refine enter Tryz.func22 z z ?_
 have hS:=Sep.start w
 refine .g (.c (.box hS z z ?_ z z))
 intro g1 W hS
 refine .c (.box hS z z ?_ z z)
 intro g2 W hS
 refine .qn z (.seq (.g (.s (fa T.f45_0 z z z) z (.s (ld T.t42 hS.p1 z z z z z) z (.s (lenv (hS.keep q_0_Harts) T.u42 z z) z (.s (fa T.f45_0 z z z) z (.s (ld T.t42 hS z z z z z) z (.s (lenv (hS.keep q_1_Harts) T.u42 z z) z (.q z (.q z (.chunk 6 19 (((a0.Harts.length : Int) != (a1.Harts.length : Int)) || (a0.Turn != a1.Turn)) hS ?_ ?_)))))))))))
 ·refine .both ((a0.Harts.length : Int) != (a1.Harts.length : Int)) (fun hb=>?_) (fun hb=>?_)
  ·exact .xx hb z (.xx hb z (.xx hb z (.xx hb z (.xx hb z (.s (pkt hb z z z) z (.nil (ck 6 hS z (or_t hb) z z)))))))
  have hg1:=hb
  exact .g hg1 (.s (fa T.f45_2 z z z) z (.g hg1 (.s (ld T.t3 hS.p1 z z z z z) z (.g hg1 (.s (fa T.f45_2 z z z) z (.g hg1 (.s (ld T.t3 hS z z z z z) z (.g hg1 (.q z (.s (pkf hg1 z z z) z (.nil (ck 6 hS z (or_f hg1) z z)))) z)) z)) z)) z)) z
 intro W hS
 refine .q z (.chunk 6 26 ((((a0.Harts.length : Int) != (a1.Harts.length : Int)) || (a0.Turn != a1.Turn)) || (a0.Idle != a1.Idle)) hS ?_ ?_)
 ·refine .both (((a0.Harts.length : Int) != (a1.Harts.length : Int)) || (a0.Turn != a1.Turn)) (fun hb=>?_) (fun hb=>?_)
  ·exact .xx hb z (.xx hb z (.xx hb z (.xx hb z (.xx hb z (.s (pkt hb z z z) z (.nil (ck 6 hS z (or_t hb) z z)))))))
  have hg2:=hb
  exact .g hg2 (.s (fa T.f45_3 z z z) z (.g hg2 (.s (ld T.t3 hS.p1 z z z z z) z (.g hg2 (.s (fa T.f45_3 z z z) z (.g hg2 (.s (ld T.t3 hS z z z z z) z (.g hg2 (.q z (.s (pkf hg2 z z z) z (.nil (ck 6 hS z (or_f hg2) z z)))) z)) z)) z)) z)) z
 intro W hS
 refine .nil ?_
 refine .cs z h ?_ ?_ <;> intro h
 ·obtain rfl:=Option.some.inj h
  exact .g (.qn z (.ret (fin_ret (vs:=[_]) () (rt z rn) z (hS.to [] z))))
 refine .skip (.seq (.g (.qn z (.block ?_))))
 have ⟨y1,hy1,h⟩:=bnd h
 refine .via (.iter (fun s1 E' W'=>SubL E' [(2,.pointer (some ⟨g1,0,none⟩)),(3,.pointer (some ⟨g2,0,none⟩)),(5,.int .i64 s1)] ∧ Sep No w W' [.box g2 45 [(sv v_1_Harts),(sv v_1_Boxes),.int .i64 a1.Turn,.int .i64 a1.Idle,(sv v_1_Out)],.box g1 45 [(sv v_0_Harts),(sv v_0_Boxes),.int .i64 a0.Turn,.int .i64 a0.Idle,(sv v_0_Out)]]) (fun y2 x E' W'=>(match y2 with | .inl o1=>x = .ret ∧ fan w o1 E' W' | .inr o2=>x = .exit 0 ∧ SubL E' [(2,.pointer (some ⟨g1,0,none⟩)),(3,.pointer (some ⟨g2,0,none⟩))] ∧ Sep No w W' [.box g2 45 [(sv v_1_Harts),(sv v_1_Boxes),.int .i64 a1.Turn,.int .i64 a1.Idle,(sv v_1_Out)],.box g1 45 [(sv v_0_Harts),(sv v_0_Boxes),.int .i64 a0.Turn,.int .i64 a0.Idle,(sv v_0_Out)]])) hy1 ⟨sb rfl,hS.to [0,0] rfl⟩ ?_) ?_
 ·intro s1 y3 E W h hI
  obtain ⟨hE,hS⟩:=hI
  refine CW.sub hE ?_
  unfold f2p at h
  refine .seq (.g (.q z (.s (fa T.f45_0 z z z) z (.s (ld T.t42 hS.p1 z z z z z) z (.s (lenv (hS.keep q_0_Harts) T.u42 z z) z (.q z (.nil ?_)))))))
  refine .cs z h ?_ ?_ <;> intro h
  ·refine .skip (.seq (.block (.seq (.rk 12 hS [0,0] T.mix ?_))))
   intro W hS
   have hT:=hS.to [0,0] z
   refine .ts 0 z (fun W hT=>fa T.f45_0 z z z) hT z (by kernel_rfl) (.ts 1 z (fun W hT=>ld T.t42 hT.p1 z z z z z) hT z (by kernel_rfl) (.tp 2 z z hT (by kernel_rfl) ?_))
   have ⟨x1,hx1,h⟩:=bnd h
   obtain ⟨k1,hd,hck1⟩:=RV.el2 q_0_Harts hx1
   have hd1:=ragg hd
   obtain ⟨v1,k1,rfl,q1,hd2⟩:=rrowv q_0_Harts hd1
   obtain ⟨k1,rfl,hd3⟩:=rflat q_0_Harts z hd2
   obtain ⟨v2,k1,rfl,q2,hd4⟩:=rrowv q_0_Harts hd3
   obtain rfl:=rnil q_0_Harts hd4
   refine .ts 3 z (fun W hT=>ixv (hS.keep q_0_Harts) hx1 T.u42 T.t27 z z z) hT z (by kernel_rfl) (.ts 4 z (fun W hT=>lde (hck1 _ hT.agree) T.t27 z z z z z) hT z (by kernel_rfl) (.ts 5 z (fun W hT=>fa T.f45_0 z z z) hT z (by kernel_rfl) (.ts 6 z (fun W hT=>ld T.t42 hT z z z z z) hT z (by kernel_rfl) (.tp 7 z z hT (by kernel_rfl) ?_))))
   have ⟨x2,hx2,h⟩:=bnd h
   obtain ⟨k2,hd,hck2⟩:=RV.el2 q_1_Harts hx2
   have hd1:=ragg hd
   obtain ⟨v3,k2,rfl,q3,hd2⟩:=rrowv q_1_Harts hd1
   obtain ⟨k2,rfl,hd3⟩:=rflat q_1_Harts z hd2
   obtain ⟨v4,k2,rfl,q4,hd4⟩:=rrowv q_1_Harts hd3
   obtain rfl:=rnil q_1_Harts hd4
   refine .ts 8 z (fun W hT=>ixv (hS.keep q_1_Harts) hx2 T.u42 T.t27 z z z) hT z (by kernel_rfl) (.ts 9 z (fun W hT=>lde (hck2 _ hT.agree) T.t27 z z z z z) hT z (by kernel_rfl) ?_)
   have ⟨y4,hy4,h⟩:=bnd h
   refine .by1 10 z (.call0 hS Tryz.func14 (f8b hy4 (hS.keep (q1 _ q_0_Harts)) (hS.keep (q2 _ q_0_Harts)) (hS.keep (q3 _ q_1_Harts)) (hS.keep (q4 _ q_1_Harts))) z z ?_ z z z z) (by kernel_rfl)
   intro W hS
   have hT:=hS.to [0,0] z
   refine ⟨fun _=>hT,.tp 11 z z hT (by kernel_rfl) (.done ?_ (by kernel_rfl))⟩
   refine .cs z h ?_ ?_ <;> intro h
   ·refine .g (.qn z (.ret ?_))
    cases h
    exact ⟨by simp,z,fin_ret (vs:=[_]) () (rt z rn) z (hS.to [] z)⟩
   refine .skip (.region (.q z (.q z (.q z (.nil ?_)))))
   cases h
   exact ⟨z,sb z,hS.to [0,0] z⟩
  refine .exit ?_
  cases h
  exact ⟨by simp,z,sb z,hS.to [0,0] z⟩
 intro x E W hJ
 rcases y1 with o3 | o4
 ·obtain ⟨rfl,hF⟩:=hJ
  refine ⟨_,fun _ _ h=>h,?_⟩
  cases h
  exact hF
 obtain ⟨rfl,hE,hS⟩:=hJ
 refine ⟨_,hE.sub,?_⟩
 refine .g (.s (fa T.f45_1 z z z) z (.s (ld T.t43 hS.p1 z z z z z) z (.s (fa T.f45_1 z z z) z (.s (ld T.t43 hS z z z z z) z ?_))))
 have ⟨y5,hy5,h⟩:=bnd h
 refine .c (.call0 hS Tryz.func50 (fad hy5 (hS.keep q_0_Boxes) (hS.keep q_1_Boxes)) z z ?_ z z z z)
 intro W hS
 refine .q z ?_
 have ⟨b1,hb1,h⟩:=bnd h
 refine .chunk 6 57 (b1) hS ?_ ?_
 ·refine .both (y5) (fun hb=>?_) (fun hb=>?_)
  ·have hg3:=hb
   have h:=sel_t hb hb1
   refine .g hg3 (.s (fa T.f45_4 z z z) z (.g hg3 (.s (ld T.t25 hS.p1 z z z z z) z (.g hg3 (.s (fa T.f45_4 z z z) z (.g hg3 (.s (ld T.t25 hS z z z z z) z ?_) z)) z)) z)) z
   have ⟨y6,hy6,h⟩:=bnd h
   refine .g hg3 (.c (.call0 hS Tryz.func18 (f4p hy6 (hS.keep q_0_Out) (hS.keep q_1_Out)) z z ?_ z z z z)) z
   intro W hS
   refine .s (pkt hg3 z z z) z ?_
   cases h
   exact .nil (ck 6 hS z z z z)
  refine .xx hb z (.xx hb z (.xx hb z (.xx hb z (.xx hb z ?_))))
  cases sel_f hb hb1
  exact .s (pkf hb z z z) z (.nil (ck 6 hS z z z z))
 intro W hS
 obtain rfl:=Option.some.inj h
 exact .qn z (.ret (fin_ret (vs:=[_]) () (rt z rn) z (hS.to [] z)))
def f8l (w : World) (r : Bool) : Env → World → Prop:=Fin Tryz.prog Tryz.f4 No w (fun s : Unit=>.bool r) (fun s=>[]) .ret
theorem fa0 {k : Nat} {a0 : List Int} {v_0 : Hd} {w : World} {r : Bool} (h : f5v k a0 = some r) (q_0 : RV w (Old No w) (sv v_0) 5 1 (D.int .u8) a0) (hG : Gl w) : Calls Tryz.prog 4 #[(sv v_0)] w (Ret No w (fun s : Unit=>.bool r) (fun s=>[])):=by
 unfold f5v at h
 refine enter Tryz.func4 z z ?_
 have hS:=Sep.start w
 refine .g (.qn z (.seq (.g (.q z (.s (lenv (hS.keep q_0) T.u22 z z) z (.q z (.nil ?_)))))))
 refine .cs z h ?_ ?_ <;> intro h
 ·obtain rfl:=Option.some.inj h
  exact .g (.qn z (.ret (fin_ret (vs:=[_]) () (rt z rn) z (hS.to [] z))))
 refine .skip (.g (.q z ?_))
 have ⟨y1,hy1,h⟩:=bnd h
 refine .c (.call hS Tryz.func19 (f9e hy1 (hS.keep q_0)) z z ?_ z z z z)
 rintro ⟨v1,v2⟩ W hS
 refine .q z (.q z (.q z (.q z (.qn z (.g (.q z (.q z ?_)))))))
 have ⟨y2,hy2,h⟩:=bnd h
 refine .c (.call hS Tryz.func20 (fag hy2 hS.lendv (hS.p1.lendz 0 z) (hG.at hS (fun _ _ h=>h))) z z ?_ z z z z)
 rintro ⟨v3,v4,v5⟩ W hS
 refine .q z (.q z (.q z (.c (.alloc T.t45 hS ?_ z z z))))
 intro g1 W hS
 refine .c (.st T.t45 hS z z z ?_ z z z z z)
 intro W hS
 refine .qn z (.g (.q z (.q z ?_)))
 have ⟨y3,hy3,h⟩:=bnd h
 refine .c (.call hS Tryz.func21 (fba hy3 hS.p4.lendv (hS.p5.lendz 0 z)) z z ?_ z z z z)
 rintro ⟨v6,v7,v8⟩ W hS
 refine .q z (.q z (.q z (.c (.alloc T.t45 hS ?_ z z z))))
 intro g2 W hS
 refine .c (.st T.t45 hS z z z ?_ z z z z z)
 intro W hS
 refine .qn z (.seq (.g (.q z (.q z (.s (neb T.u4 z z z) z (.q z ?_))))))
 have ⟨b1,hb1,h⟩:=bnd h
 refine .chunk 5 41 (b1) hS ?_ ?_
 ·refine .both (y2.2 != y3.2) (fun hb=>?_) (fun hb=>?_)
  ·refine .xx hb z (.xx hb z (.xx hb z (.xx hb z ?_)))
   cases sel_t hb hb1
   exact .s (pkt hb z z z) z (.nil (ck 5 hS z z z z))
  have hg1:=hb
  have h:=sel_f hb hb1
  refine .g hg1 (.s (ld T.t45 hS.p4 z z z z z) z (.g hg1 (.s (ld T.t45 hS z z z z z) z ?_) z)) z
  have ⟨y4,hy4,h⟩:=bnd h
  refine .g hg1 (.c (.call0 hS Tryz.func22 (f8o hy4 hS.p5.lendv hS.p6.lendv hS.p7.lendv hS.p1.lendv hS.p2.lendv hS.p3.lendv) z z ?_ z z z z)) z
  intro W hS
  refine .g hg1 (.q z (.s (pkf hg1 z z z) z ?_)) z
  cases h
  exact .nil (ck 5 hS z z z z)
 intro W hS
 refine .q z (.chunk 3 45 (b1 || (!y2.2)) hS ?_ ?_)
 ·refine .both (b1) (fun hb=>?_) (fun hb=>?_)
  ·exact .xx hb z (.xx hb z (.s (pkt hb z z z) z (.nil (ck 3 hS z (or_t hb) z z))))
  have hg2:=hb
  exact .g hg2 (.q z (.g hg2 (.q z (.s (pkf hg2 z z z) z (.nil (ck 3 hS z (or_f hg2) z z)))) z)) z
 intro W hS
 refine .nil ?_
 refine .cs z h ?_ ?_ <;> intro h
 ·refine .g (.q z (.q z (.s (eqb T.u4 z z z) z (.q z ?_))))
  have ⟨b2,hb2,h⟩:=bnd h
  refine .chunk 4 53 (b2) hS ?_ ?_
  ·refine .both (y2.2 == y3.2) (fun hb=>?_) (fun hb=>?_)
   ·have hg3:=hb
    have h:=sel_t hb hb2
    refine .g hg3 (.s (ld T.t45 hS.p4 z z z z z) z (.g hg3 (.s (ld T.t45 hS z z z z z) z ?_) z)) z
    have ⟨y5,hy5,h⟩:=bnd h
    refine .g hg3 (.c (.call0 hS Tryz.func22 (f8o hy5 hS.p5.lendv hS.p6.lendv hS.p7.lendv hS.p1.lendv hS.p2.lendv hS.p3.lendv) z z ?_ z z z z)) z
    intro W hS
    refine .s (pkt hg3 z z z) z ?_
    cases h
    exact .nil (ck 4 hS z z z z)
   refine .xx hb z (.xx hb z (.xx hb z ?_))
   cases sel_f hb hb2
   exact .s (pkf hb z z z) z (.nil (ck 4 hS z z z z))
  intro W hS
  obtain rfl:=Option.some.inj h
  exact .qn z (.ret (fin_ret (vs:=[_]) () (rt z rn) z (hS.to [] z)))
 refine .skip (.seq (.g (.qn z (.block ?_))))
 have ⟨y6,hy6,h⟩:=bnd h
 refine .via (.iter (fun s1 E' W'=>SubL E' [(3,(sv v1)),(4,(sv v2)),(5,.pointer (some ⟨g1,0,none⟩)),(9,.int .i64 s1)] ∧ Sep No w W' [.box g2 45 [(sv v6),(sv v7),.int .i64 y3.1.Turn,.int .i64 y3.1.Idle,(sv v8)],rowV (sv v6) 27 3 dMachine y3.1.Harts,rowV (sv v7) 51 2 dBox y3.1.Boxes,rowV (sv v8) 3 1 (D.int .i64) y3.1.Out,.box g1 45 [(sv v3),(sv v4),.int .i64 y2.1.Turn,.int .i64 y2.1.Idle,(sv v5)],rowV (sv v3) 27 3 dMachine y2.1.Harts,rowV (sv v4) 51 2 dBox y2.1.Boxes,rowV (sv v5) 3 1 (D.int .i64) y2.1.Out,rowV (sv v1) 3 1 (D.int .i64) y1.1,frzE [((sv v2),23,1,List.map (fun (l : List Instr)=>D.row 32 5 (l.map dInstr)) y1.2)] []]) (fun y7 x E' W'=>(match y7 with | .inl o1=>x = .ret ∧ f8l w o1 E' W' | .inr o2=>x = .exit 0 ∧ SubL E' [(3,(sv v1)),(4,(sv v2)),(5,.pointer (some ⟨g1,0,none⟩))] ∧ Sep No w W' [.box g2 45 [(sv v6),(sv v7),.int .i64 y3.1.Turn,.int .i64 y3.1.Idle,(sv v8)],rowV (sv v6) 27 3 dMachine y3.1.Harts,rowV (sv v7) 51 2 dBox y3.1.Boxes,rowV (sv v8) 3 1 (D.int .i64) y3.1.Out,.box g1 45 [(sv v3),(sv v4),.int .i64 y2.1.Turn,.int .i64 y2.1.Idle,(sv v5)],rowV (sv v3) 27 3 dMachine y2.1.Harts,rowV (sv v4) 51 2 dBox y2.1.Boxes,rowV (sv v5) 3 1 (D.int .i64) y2.1.Out,rowV (sv v1) 3 1 (D.int .i64) y1.1,frzE [((sv v2),23,1,List.map (fun (l : List Instr)=>D.row 32 5 (l.map dInstr)) y1.2)] []])) hy6 ⟨sb rfl,hS.to [0,0,0,0,0,0,0,0,0,0] rfl⟩ ?_) ?_
 ·intro s1 y8 E W h hI
  obtain ⟨hE,hS⟩:=hI
  refine CW.sub hE ?_
  unfold f2b at h
  refine .seq (.g (.q z (.q z (.s (lenv (hS.p9.lendz 0 z) T.u39 z z) z (.q z (.nil ?_))))))
  refine .cs z h ?_ ?_ <;> intro h
  ·refine .skip (.seq (.block (.g (.q z (.q z ?_)))))
   have ⟨x1,hx1,h⟩:=bnd h
   refine .s (ixv (hS.p9.lendz 0 z) hx1 T.u39 T.t23 z z z) z ?_
   obtain ⟨v9,hS⟩:=Sep.opz hS.p9 hx1 z
   refine .s (lde (hS.cellz 0 z) T.t23 z z z z z) z ?_
   have ⟨y9,hy9,h⟩:=bnd h
   refine .c (.call hS Tryz.func12 (f92 hy9 (hS.lendz 1 z) (hG.at hS (fun _ _ h=>h))) z z ?_ z z z z)
   rintro ⟨v10,v11⟩ W hS
   refine .q z (.q z (.q z (.c (.alloc T.t27 hS ?_ z z z))))
   intro g3 W hS
   refine .c (.st T.t27 hS z z z ?_ z z z z z)
   intro W hS
   refine .qn z (.seq ?_)
   have ⟨x2,hx2,h⟩:=bnd h
   obtain ⟨k1,hS⟩:=Sep.outv hS.p9 hx2
   have hS:=hS.oagg
   obtain ⟨v12,k1,rfl,hS⟩:=hS.orowv
   obtain ⟨k1,rfl,hS⟩:=Sep.oflat z hS
   obtain ⟨v13,k1,rfl,hS⟩:=hS.orowv
   obtain ⟨rfl,hS⟩:=hS.onil
   have ⟨b4,hb4,h⟩:=bnd h
   refine .via (R':=fun x E' W'=>x = .normal ∧ SubL E' [(3,(sv v1)),(4,(sv v2)),(5,.pointer (some ⟨g1,0,none⟩)),(9,.int .i64 s1),(79,.bool b4)] ∧ Sep No w W' [frzE [((sv v2),23,1,List.map (fun (l : List Instr)=>D.row 32 5 (l.map dInstr)) y1.2)] [],.box g3 27 [(sv v10),.int .i64 y9.1.Pc,(sv v11)],rowV (sv v10) 3 1 (D.int .i64) y9.1.Regs,rowV (sv v11) 3 1 (D.int .i64) y9.1.Mem,.box g2 45 [(sv v6),(sv v7),.int .i64 y3.1.Turn,.int .i64 y3.1.Idle,(sv v8)],rowV (sv v6) 27 3 dMachine y3.1.Harts,rowV (sv v7) 51 2 dBox y3.1.Boxes,rowV (sv v8) 3 1 (D.int .i64) y3.1.Out,.box g1 45 [(sv v3),(sv v4),.int .i64 y2.1.Turn,.int .i64 y2.1.Idle,(sv v5)],rowV (sv v3) 27 3 dMachine y2.1.Harts,rowV (sv v4) 51 2 dBox y2.1.Boxes,rowV (sv v5) 3 1 (D.int .i64) y2.1.Out,rowV (sv v1) 3 1 (D.int .i64) y1.1]) ?_ ?_
   ·refine .rk 12 hS [0,0,0,0,0,0,0,0,0,0,0,0,0,0,0] T.mix ?_
    intro W hS
    have hT:=hS.to [0,0,0,0,0,0,0,0,0,0,0,0,0,0,0] z
    refine .tp 0 z z hT (by kernel_rfl) (.tp 1 z z hT (by kernel_rfl) (.tp 2 z z hT (by kernel_rfl) (.both (!y9.2) (fun hb=>?_) (fun hb=>?_))))
    ·refine .off 3 z hb hT (.off 4 z hb hT (.off 5 z hb hT (.off 6 z hb hT (.off 7 z hb hT (.off 8 z hb hT (.off 9 z hb hT (.off 10 z hb hT (.ts 11 z (fun W hT=>pkt hb z z z) hT z (by kernel_rfl) (.eqv 79 z (bool_eq (sel_t hb hb4)) (.done ?_ (by kernel_rfl)))) (by kernel_rfl) z z) (by kernel_rfl) z z) (by kernel_rfl) z z) (by kernel_rfl) z z) (by kernel_rfl) z z) (by kernel_rfl) z z) (by kernel_rfl) z z) (by kernel_rfl) z z
     have hS : Sep _ _ _ [frzE [((sv v2),23,1,List.map (fun (l : List Instr)=>D.row 32 5 (l.map dInstr)) y1.2)] [],rowV (sv v13) 3 1 (D.int .i64) x2.Mem,rowV (sv v12) 3 1 (D.int .i64) x2.Regs,holeV (sv v3) 27 3 dMachine y2.1.Harts (Int.toNat s1) [(sv v12),.int .i64 x2.Pc,(sv v13)],.box g3 27 [(sv v10),.int .i64 y9.1.Pc,(sv v11)],rowV (sv v10) 3 1 (D.int .i64) y9.1.Regs,rowV (sv v11) 3 1 (D.int .i64) y9.1.Mem,.box g2 45 [(sv v6),(sv v7),.int .i64 y3.1.Turn,.int .i64 y3.1.Idle,(sv v8)],rowV (sv v6) 27 3 dMachine y3.1.Harts,rowV (sv v7) 51 2 dBox y3.1.Boxes,rowV (sv v8) 3 1 (D.int .i64) y3.1.Out,.box g1 45 [(sv v3),(sv v4),.int .i64 y2.1.Turn,.int .i64 y2.1.Idle,(sv v5)],rowV (sv v4) 51 2 dBox y2.1.Boxes,rowV (sv v5) 3 1 (D.int .i64) y2.1.Out,rowV (sv v1) 3 1 (D.int .i64) y1.1]:=Sep.wkz hS.p6
     have hS:=Sep.gat (ds:=[dMachine x2]) (cs:=[(sv v12),.int .i64 x2.Pc,(sv v13)]) (L1:=[rowV (sv v12) 3 1 (D.int .i64) x2.Regs,rowV (sv v13) 3 1 (D.int .i64) x2.Mem]) (.agg (.row (.flat (c1:=[.int .i64 x2.Pc]) z (.row .nil)))) (hS.to [2,1,1,0,0,0,0,0,0,0,0,0,0,0,0] z)
     have hS : Sep _ _ _ [rowV (sv v3) 27 3 dMachine y2.1.Harts,frzE [((sv v2),23,1,List.map (fun (l : List Instr)=>D.row 32 5 (l.map dInstr)) y1.2)] [],.box g3 27 [(sv v10),.int .i64 y9.1.Pc,(sv v11)],rowV (sv v10) 3 1 (D.int .i64) y9.1.Regs,rowV (sv v11) 3 1 (D.int .i64) y9.1.Mem,.box g2 45 [(sv v6),(sv v7),.int .i64 y3.1.Turn,.int .i64 y3.1.Idle,(sv v8)],rowV (sv v6) 27 3 dMachine y3.1.Harts,rowV (sv v7) 51 2 dBox y3.1.Boxes,rowV (sv v8) 3 1 (D.int .i64) y3.1.Out,.box g1 45 [(sv v3),(sv v4),.int .i64 y2.1.Turn,.int .i64 y2.1.Idle,(sv v5)],rowV (sv v4) 51 2 dBox y2.1.Boxes,rowV (sv v5) 3 1 (D.int .i64) y2.1.Out,rowV (sv v1) 3 1 (D.int .i64) y1.1]:=Sep.back0v hx2 hS
     exact ⟨z,sb z,hS.to [1,1,1,1,1,1,1,1,1,0,0,0,0] z⟩
    have hg5:=hb
    have h_b4:=sel_f hb hb4
    refine .t1g 3 z hg5 (fun W hT=>ld T.t27 hT.p3 z z z z z) hT (.t1g 4 z hg5 (fun W hT=>fa T.f45_0 z z z) hT (.t1g 5 z hg5 (fun W hT=>ld T.t42 hT.p11 z z z z z) hT (.t1g 6 z hg5 (fun W hT=>pr z) hT (.t1g 7 z hg5 (fun W hT=>ixh hT.p2 hx2 T.u42 T.t27 z z z) hT (.t1g 8 z hg5 (fun W hT=>lde (hT.p2.hcellsv) T.t27 z z z z z) hT ?_ (by kernel_rfl) z z) (by kernel_rfl) z z) (by kernel_rfl) z z) (by kernel_rfl) z z) (by kernel_rfl) z z) (by kernel_rfl) z z
    have ⟨y11,hy11,h_b4⟩:=bnd h_b4
    refine .by1 9 z (.gd hg5 (.call0 hS Tryz.func14 (f8b hy11 hS.p4.lendv hS.p5.lendv hS.p1.lendv hS.lendv) z z ?_ z z z z) z) (by kernel_rfl)
    intro W hS
    have hT:=hS.to [0,0,0,0,0,0,0,0,0,0,0,0,0,0,0] z
    refine ⟨fun _=>hT,.t1g 10 z hg5 (fun W hT=>pr z) hT (.ts 11 z (fun W hT=>pkf hg5 z z z) hT z (by kernel_rfl) (.eqv 79 z (bool_eq h_b4) (.done ?_ (by kernel_rfl)))) (by kernel_rfl) z z⟩
    have hS : Sep _ _ _ [frzE [((sv v2),23,1,List.map (fun (l : List Instr)=>D.row 32 5 (l.map dInstr)) y1.2)] [],rowV (sv v13) 3 1 (D.int .i64) x2.Mem,rowV (sv v12) 3 1 (D.int .i64) x2.Regs,holeV (sv v3) 27 3 dMachine y2.1.Harts (Int.toNat s1) [(sv v12),.int .i64 x2.Pc,(sv v13)],.box g3 27 [(sv v10),.int .i64 y9.1.Pc,(sv v11)],rowV (sv v10) 3 1 (D.int .i64) y9.1.Regs,rowV (sv v11) 3 1 (D.int .i64) y9.1.Mem,.box g2 45 [(sv v6),(sv v7),.int .i64 y3.1.Turn,.int .i64 y3.1.Idle,(sv v8)],rowV (sv v6) 27 3 dMachine y3.1.Harts,rowV (sv v7) 51 2 dBox y3.1.Boxes,rowV (sv v8) 3 1 (D.int .i64) y3.1.Out,.box g1 45 [(sv v3),(sv v4),.int .i64 y2.1.Turn,.int .i64 y2.1.Idle,(sv v5)],rowV (sv v4) 51 2 dBox y2.1.Boxes,rowV (sv v5) 3 1 (D.int .i64) y2.1.Out,rowV (sv v1) 3 1 (D.int .i64) y1.1]:=Sep.wkz hS.p6
    have hS:=Sep.gat (ds:=[dMachine x2]) (cs:=[(sv v12),.int .i64 x2.Pc,(sv v13)]) (L1:=[rowV (sv v12) 3 1 (D.int .i64) x2.Regs,rowV (sv v13) 3 1 (D.int .i64) x2.Mem]) (.agg (.row (.flat (c1:=[.int .i64 x2.Pc]) z (.row .nil)))) (hS.to [2,1,1,0,0,0,0,0,0,0,0,0,0,0,0] z)
    have hS : Sep _ _ _ [rowV (sv v3) 27 3 dMachine y2.1.Harts,frzE [((sv v2),23,1,List.map (fun (l : List Instr)=>D.row 32 5 (l.map dInstr)) y1.2)] [],.box g3 27 [(sv v10),.int .i64 y9.1.Pc,(sv v11)],rowV (sv v10) 3 1 (D.int .i64) y9.1.Regs,rowV (sv v11) 3 1 (D.int .i64) y9.1.Mem,.box g2 45 [(sv v6),(sv v7),.int .i64 y3.1.Turn,.int .i64 y3.1.Idle,(sv v8)],rowV (sv v6) 27 3 dMachine y3.1.Harts,rowV (sv v7) 51 2 dBox y3.1.Boxes,rowV (sv v8) 3 1 (D.int .i64) y3.1.Out,.box g1 45 [(sv v3),(sv v4),.int .i64 y2.1.Turn,.int .i64 y2.1.Idle,(sv v5)],rowV (sv v4) 51 2 dBox y2.1.Boxes,rowV (sv v5) 3 1 (D.int .i64) y2.1.Out,rowV (sv v1) 3 1 (D.int .i64) y1.1]:=Sep.back0v hx2 hS
    exact ⟨z,sb z,hS.to [1,1,1,1,1,1,1,1,1,0,0,0,0] z⟩
   intro x E W hJ
   obtain ⟨rfl,hE,hS⟩:=hJ
   refine ⟨_,hE.sub,?_⟩
   refine .cs z h ?_ ?_ <;> intro h
   ·refine .g (.qn z (.ret ?_))
    cases h
    exact ⟨by simp,z,fin_ret (vs:=[_]) () (rt z rn) z (hS.to [] z)⟩
   refine .skip (.region (.q z (.q z (.q z (.nil ?_)))))
   cases h
   exact ⟨z,sb z,hS.to [4,4,4,4,4,4,4,4,4,0] z⟩
  refine .exit ?_
  cases h
  exact ⟨by simp,z,sb z,hS.to [0,0,0,0,0,0,0,0,0,0] z⟩
 intro x E W hJ
 rcases y6 with o3 | o4
 ·obtain ⟨rfl,hF⟩:=hJ
  refine ⟨_,fun _ _ h=>h,?_⟩
  cases h
  exact hF
 obtain ⟨rfl,hE,hS⟩:=hJ
 refine ⟨_,hE.sub,?_⟩
 refine .seq (.g (.qn z (.block ?_)))
 have ⟨y12,hy12,h⟩:=bnd h
 refine .via (.iter (fun s2 E' W'=>SubL E' [(3,(sv v1)),(4,(sv v2)),(5,.pointer (some ⟨g1,0,none⟩)),(12,.int .i64 s2)] ∧ Sep No w W' [.box g2 45 [(sv v6),(sv v7),.int .i64 y3.1.Turn,.int .i64 y3.1.Idle,(sv v8)],rowV (sv v6) 27 3 dMachine y3.1.Harts,rowV (sv v7) 51 2 dBox y3.1.Boxes,rowV (sv v8) 3 1 (D.int .i64) y3.1.Out,.box g1 45 [(sv v3),(sv v4),.int .i64 y2.1.Turn,.int .i64 y2.1.Idle,(sv v5)],rowV (sv v3) 27 3 dMachine y2.1.Harts,rowV (sv v4) 51 2 dBox y2.1.Boxes,rowV (sv v5) 3 1 (D.int .i64) y2.1.Out,rowV (sv v1) 3 1 (D.int .i64) y1.1,frzE [((sv v2),23,1,List.map (fun (l : List Instr)=>D.row 32 5 (l.map dInstr)) y1.2)] []]) (fun y13 x E' W'=>(match y13 with | .inl o5=>x = .ret ∧ f8l w o5 E' W' | .inr o6=>x = .exit 2 ∧ SubL E' [(4,(sv v2)),(5,.pointer (some ⟨g1,0,none⟩))] ∧ Sep No w W' [.box g2 45 [(sv v6),(sv v7),.int .i64 y3.1.Turn,.int .i64 y3.1.Idle,(sv v8)],rowV (sv v6) 27 3 dMachine y3.1.Harts,rowV (sv v7) 51 2 dBox y3.1.Boxes,rowV (sv v8) 3 1 (D.int .i64) y3.1.Out,.box g1 45 [(sv v3),(sv v4),.int .i64 y2.1.Turn,.int .i64 y2.1.Idle,(sv v5)],rowV (sv v3) 27 3 dMachine y2.1.Harts,rowV (sv v4) 51 2 dBox y2.1.Boxes,rowV (sv v5) 3 1 (D.int .i64) y2.1.Out,rowV (sv v1) 3 1 (D.int .i64) y1.1,frzE [((sv v2),23,1,List.map (fun (l : List Instr)=>D.row 32 5 (l.map dInstr)) y1.2)] []])) hy12 ⟨sb rfl,hS.to [0,0,0,0,0,0,0,0,0,0] rfl⟩ ?_) ?_
 ·intro s2 y14 E W h hI
  obtain ⟨hE,hS⟩:=hI
  refine CW.sub hE ?_
  unfold f2c at h
  refine .seq (.g (.q z (.q z (.s (lenv hS.p8.lendv T.u25 z z) z (.q z (.nil ?_))))))
  refine .cs z h ?_ ?_ <;> intro h
  ·refine .skip (.seq (.block (.seq ?_)))
   have ⟨x3,hx3,h⟩:=bnd h
   obtain ⟨k2,hS⟩:=Sep.outv hS.p6 hx3
   have hS:=hS.oagg
   obtain ⟨k2,rfl,hS⟩:=Sep.oflat z hS
   obtain ⟨v14,k2,rfl,hS⟩:=hS.orowv
   obtain ⟨rfl,hS⟩:=hS.onil
   refine .rk 12 hS [0,0,0,0,0,0,0,0,0,0,0] T.mix ?_
   intro W hS
   have hT:=hS.to [0,0,0,0,0,0,0,0,0,0,0] z
   refine .ts 0 z (fun W hT=>fa T.f45_1 z z z) hT z (by kernel_rfl) (.ts 1 z (fun W hT=>ld T.t43 hT.p6 z z z z z) hT z (by kernel_rfl) (.tp 2 z z hT (by kernel_rfl) (.ts 3 z (fun W hT=>ixh hT.p1 hx3 T.u43 T.t51 z z z) hT z (by kernel_rfl) (.ts 4 z (fun W hT=>lde (hT.p1.hcellsv) T.t51 z z z z z) hT z (by kernel_rfl) (.tp 5 z z hT (by kernel_rfl) (.tp 6 z z hT (by kernel_rfl) ?_))))))
   have ⟨x5,hx5,h⟩:=bnd h
   refine .ts 7 z (fun W hT=>ixv hS.p9.lendv hx5 T.u25 T.t3 z z z) hT z (by kernel_rfl) (.ts 8 z (fun W hT=>lde (RV.flat hT.p9.lendv hx5 z) T.t3 z z z z z) hT z (by kernel_rfl) (.ts 9 z (fun W hT=>bs T.s51 z z) hT z (by kernel_rfl) ?_))
   have ⟨y16,hy16,h⟩:=bnd h
   refine .by1 10 z (.call0 hS Tryz.func23 (f94 hy16 hS.lendv (RV.nil _ _ _ _ _)) z z ?_ z z z z) (by kernel_rfl)
   intro W hS
   have hT:=hS.to [0,0,0,0,0,0,0,0,0,0,0] z
   refine ⟨fun _=>hT,.tp 11 z z hT (by kernel_rfl) (.done ?_ (by kernel_rfl))⟩
   refine .cs z h ?_ ?_ <;> intro h
   ·refine .g (.qn z (.ret ?_))
    cases h
    exact ⟨by simp,z,fin_ret (vs:=[_]) () (rt z rn) z (hS.to [] z)⟩
   refine .skip (.region (.q z (.q z (.q z (.nil ?_)))))
   have hS:=Sep.gat (ds:=[dBox x3]) (cs:=[.int .i64 x3.Room,(sv v14)]) (L1:=[rowV (sv v14) 3 1 (D.int .i64) x3.Items]) (.agg (.flat (c1:=[.int .i64 x3.Room]) z (.row .nil))) (hS.to [0,0,0,0,0,0,0,0,0,0,0] z)
   have hS : Sep _ _ _ [rowV (sv v4) 51 2 dBox y2.1.Boxes,.box g2 45 [(sv v6),(sv v7),.int .i64 y3.1.Turn,.int .i64 y3.1.Idle,(sv v8)],rowV (sv v6) 27 3 dMachine y3.1.Harts,rowV (sv v7) 51 2 dBox y3.1.Boxes,rowV (sv v8) 3 1 (D.int .i64) y3.1.Out,.box g1 45 [(sv v3),(sv v4),.int .i64 y2.1.Turn,.int .i64 y2.1.Idle,(sv v5)],rowV (sv v3) 27 3 dMachine y2.1.Harts,rowV (sv v5) 3 1 (D.int .i64) y2.1.Out,rowV (sv v1) 3 1 (D.int .i64) y1.1,frzE [((sv v2),23,1,List.map (fun (l : List Instr)=>D.row 32 5 (l.map dInstr)) y1.2)] []]:=Sep.back0v hx3 hS
   cases h
   exact ⟨z,sb z,hS.to [1,1,1,1,1,1,0,0,0,0] z⟩
  refine .exit ?_
  cases h
  exact ⟨by simp,z,sb z,hS.to [0,0,0,0,0,0,0,0,0,0] z⟩
 intro x E W hJ
 rcases y12 with o7 | o8
 ·obtain ⟨rfl,hF⟩:=hJ
  refine ⟨_,fun _ _ h=>h,?_⟩
  cases h
  exact hF
 obtain ⟨rfl,hE,hS⟩:=hJ
 refine ⟨_,hE.sub,?_⟩
 refine .g (.s (fa T.f45_0 z z z) z (.s (ld T.t42 hS.p4 z z z z z) z (.s (lenv hS.p5.lendv T.u42 z z) z (.q z (.s (lenv (hS.p9.lendz 0 z) T.u39 z z) z (.q z (.q z (.chunk 5 109 (((y2.1.Harts.length : Int) == (y1.2.length : Int)) && ((y2.1.Out.length : Int) == 0)) hS ?_ ?_))))))))
 ·refine .both ((y2.1.Harts.length : Int) == (y1.2.length : Int)) (fun hb=>?_) (fun hb=>?_)
  ·have hg6:=hb
   exact .g hg6 (.s (fa T.f45_4 z z z) z (.g hg6 (.s (ld T.t25 hS.p4 z z z z z) z (.g hg6 (.s (lenv hS.p7.lendv T.u25 z z) z (.g hg6 (.q z (.s (pkt hg6 z z z) z (.nil (ck 5 hS z (and_t hg6) z z)))) z)) z)) z)) z
  exact .xx hb z (.xx hb z (.xx hb z (.xx hb z (.s (pkf hb z z z) z (.nil (ck 5 hS z (and_f hb) z z))))))
 intro W hS
 refine .q z (.chunk 4 114 ((((y2.1.Harts.length : Int) == (y1.2.length : Int)) && ((y2.1.Out.length : Int) == 0)) && (y2.1.Idle == 0)) hS ?_ ?_)
 ·refine .both (((y2.1.Harts.length : Int) == (y1.2.length : Int)) && ((y2.1.Out.length : Int) == 0)) (fun hb=>?_) (fun hb=>?_)
  ·have hg7:=hb
   exact .g hg7 (.s (fa T.f45_3 z z z) z (.g hg7 (.s (ld T.t3 hS.p4 z z z z z) z (.g hg7 (.q z (.s (pkt hg7 z z z) z (.nil (ck 4 hS z (and_t hg7) z z)))) z)) z)) z
  exact .xx hb z (.xx hb z (.xx hb z (.s (pkf hb z z z) z (.nil (ck 4 hS z (and_f hb) z z)))))
 intro W hS
 cases h
 exact .qn z (.ret (fin_ret (vs:=[_]) () (rt z rn) z (hS.to [] z)))
end Go.Proofs.YtmpplggjpmmhlaaGreatDoor.N
namespace Go.Proofs.YtmpplggjpmmhlaaGreatDoor.X
variable {P : Program} {w : World} {T : Nat → Prop} {t e : TypeId} {size : Nat} {k : IntKind} {α : Type} {enc : α → D} {H : Type} {en : TypeId × Value → H} {base : Nat} {spare : Nat → Bool} {held : Bool}
def styp (P : Program) (t : TypeId) : Option (List TypeId):=match P.underlying t with
 | some (.struct fs)=>some (fs.toList.map (·.type))
 | _=>none
mutual
def Typ (P : Program) : D → TypeId → Prop
 | .int k n,t=>P.underlying t = some (.int k) ∧ (Lit.int k n).wf = true
 | .bool _,t=>P.underlying t = some .bool
 | .str s,t=>P.underlying t = some .string ∧ s.size ≤ maxLen
 | .row e size xs,t=>P.underlying t = some (.slice e) ∧ size = P.cellsOf e ∧ Typs P xs e
 | .agg xs,t=>∃ ts,styp P t = some ts ∧ TypF P xs ts
def Typs (P : Program) : List D → TypeId → Prop
 | [],_=>True
 | x :: xs,e=>Typ P x e ∧ Typs P xs e
def TypF (P : Program) : List D → List TypeId → Prop
 | [],[]=>True
 | x :: xs,t :: ts=>Typ P x t ∧ TypF P xs ts
 | _,_=>False
end
def contig (P : Program) : List Field → Nat → Option Nat
 | [],k=>some k
 | f :: r,k=>match Nat.beq f.offset k with
  | true=>contig P r (k + P.cellsOf f.type)
  | false=>none
def okT (P : Program) (ts : List TypeId) (t : TypeId) : Bool:=match P.underlying t with
 | some (.int _) | some .bool | some .string=>Nat.beq (P.cellsOf t) 1
 | some (.slice e)=>Nat.beq (P.cellsOf t) 1 && ts.contains e && !(Nat.beq (P.cellsOf e) 0)
 | some (.struct fs)=>(match contig P fs.toList 0 with
  | some n=>Nat.beq n (P.cellsOf t)
  | none=>false) && fs.toList.all (fun f=>ts.contains f.type)
 | _=>false
theorem D.rd_length : ∀ {d : D} {cs : List Value},D.rd w d T cs → cs.length = d.sz
 | .int _ _,_,h=>by simp only [D.rd] at h; subst h; rfl
 | .bool _,_,h=>by simp only [D.rd] at h; subst h; rfl
 | .str _,_,h=>by simp only [D.rd] at h; subst h; rfl
 | .row _ _ _,_,⟨A,cap,c,h1,_⟩=>by subst h1; rfl
 | .agg xs,_,h=>by simp only [D.sz]; exact rds_length (xs:=xs) h
theorem Typs.append : ∀ {xs ys : List D},Typs P xs e → Typs P ys e → Typs P (xs ++ ys) e
 | [],_,_,h=>h
 | x :: xs,_,⟨h1,h2⟩,h=>⟨h1,Typs.append h2 h⟩
theorem old_of_cell {a : Addr} {v : Value} (h : w.cell? a = some v) : Old No w a.block:=⟨World.block_lt_of_cell? w a h,id⟩
theorem trod_typ {ts : List TypeId} (hts : ts.all (okT P ts) = true) : ∀ {fuel : Nat} {t : TypeId} {cs : List Value} {x : DataW H × List MemPlace},t ∈ ts → DataW.trod en P w base spare held fuel t cs = some x → ∃ d,Typ P d t ∧ D.rd w d (Old No w) cs ∧ d.sz = P.cellsOf t:=by
 intro fuel
 induction fuel with
 | zero=>intro t cs x _ h; simp [DataW.trod] at h
 | succ fuel ih =>
  intro t cs x ht h
  have hok:=List.all_eq_true.1 hts t ht
  unfold okT at hok
  split at hok
  ·rename_i k hu
   obtain ⟨n,rfl,_,hw⟩:=DataW.trod_int hu h
   exact ⟨.int k n,⟨hu,hw⟩,rfl,(Nat.eq_of_beq_eq_true hok).symm⟩
  ·rename_i hu
   obtain ⟨b,rfl,_⟩:=DataW.trod_bool hu h
   exact ⟨.bool b,hu,rfl,(Nat.eq_of_beq_eq_true hok).symm⟩
  ·rename_i hu
   obtain ⟨s,rfl,_,hs⟩:=DataW.trod_string hu h
   exact ⟨.str s,⟨hu,hs⟩,rfl,(Nat.eq_of_beq_eq_true hok).symm⟩
  ·rename_i e hu
   simp only [Bool.and_eq_true,Bool.not_eq_true'] at hok
   obtain ⟨⟨h1,h2⟩,h3⟩:=hok
   have he : e ∈ ts:=by simpa using h2
   have h0 : P.cellsOf e ≠ 0:=by intro h0; rw [h0] at h3; cases h3
   have hc1:=(Nat.eq_of_beq_eq_true h1).symm
   rcases DataW.trod_slice hu h with ⟨rfl,_⟩ | ⟨a,len,cap,elems,rest,n,hn,rfl,_,hb,hl,hm,hlen,hel,_,_⟩
   ·exact ⟨.row e (P.cellsOf e) [],⟨hu,rfl,trivial⟩,⟨none,0,[],rfl,Nat.le_refl _,Nat.zero_le _,by simp,fun h=>absurd rfl h,rfl⟩,hc1⟩
   ·obtain rfl : fuel = n:=by omega
    have key : ∀ m,m ≤ len → ∃ ds c,ds.length = m ∧ Typs P ds e ∧ (∀ x ∈ ds,x.sz = P.cellsOf e) ∧ D.rds w ds (Old No w) c ∧ c.length = m * P.cellsOf e ∧ ∀ j u,c[j]? = some u → w.cell? (a.add j) = some u:=by
     intro m
     induction m with
     | zero=>intro _; exact ⟨[],[],rfl,trivial,by simp,rfl,by simp,by simp⟩
     | succ m ihm =>
      intro hle
      obtain ⟨ds,c,k1,k2,k3,k4,k5,k6⟩:=ihm (by omega)
      have hi:=hel m (by omega)
      have hs : ∃ y,elems[m]? = some y:=⟨_,List.getElem?_eq_getElem (by omega)⟩
      obtain ⟨y,hy⟩:=hs
      rw [hy,Option.bind_eq_some_iff] at hi
      obtain ⟨ci,hci,hyi⟩:=hi
      obtain ⟨d,g1,g2,g3⟩:=ih he hyi
      obtain ⟨_,q2,q3⟩:=World.cells?_some hci
      refine ⟨ds ++ [d],c ++ ci,by simp [k1],k2.append ⟨g1,trivial⟩,fun x hx=>?_,rds_app k4 ⟨ci,[],by simp,D.rd_length g2,g2,rfl⟩,by rw [List.length_append,k5,q2,Nat.add_mul]; omega,fun j u hj=>?_⟩
      ·rcases List.mem_append.1 hx with hx | hx
       ·exact k3 x hx
       ·rw [List.mem_singleton.1 hx]; exact g3
      ·rcases Nat.lt_or_ge j c.length with hj' | hj'
       ·rw [List.getElem?_append_left hj'] at hj; exact k6 j u hj
       ·rw [List.getElem?_append_right hj'] at hj
        have hlt : j - c.length < P.cellsOf e:=by
         rcases Nat.lt_or_ge (j - c.length) ci.length with h | h
         ·omega
         ·rw [List.getElem?_eq_none h] at hj; cases hj
        have:=q3 _ hlt
        rw [hj,Addr.add_add,← k5] at this
        rw [show c.length + (j - c.length) = j by omega] at this
        exact this
    obtain ⟨ds,c,k1,k2,k3,k4,k5,k6⟩:=key len (Nat.le_refl _)
    refine ⟨.row e (P.cellsOf e) ds,⟨hu,rfl,k2⟩,⟨some a,cap,c,by rw [k1],by omega,by omega,k3,fun hne=>⟨a,rfl,?_,k6⟩,k4⟩,hc1⟩
    have hpos : 0 < c.length:=by
     rw [k5,← k1]
     exact Nat.mul_pos (List.length_pos_iff.2 hne) (by omega)
    have h6:=k6 0 _ (List.getElem?_eq_getElem hpos)
    simp only [Addr.add,if_true] at h6
    exact old_of_cell h6
  ·rename_i fs hu
   simp only [Bool.and_eq_true] at hok
   obtain ⟨h1,h2⟩:=hok
   split at h1
   ·rename_i tot hcg
    obtain rfl:=Nat.eq_of_beq_eq_true h1
    obtain ⟨xs,n,hn,_,hlen,hxl,hf⟩:=DataW.trod_struct hu h
    obtain rfl : fuel = n:=by omega
    have key : ∀ (gs : List Field) (o : Nat),(∀ f ∈ gs,f.type ∈ ts ∧ ∃ y,DataW.trod en P w base spare held fuel f.type ((cs.drop f.offset).take (P.cellsOf f.type)) = some y) → contig P gs o = some (P.cellsOf t) →
      ∃ ds,TypF P ds (gs.map (·.type)) ∧ D.rds w ds (Old No w) (cs.drop o) ∧ o + D.szs ds = P.cellsOf t:=by
     intro gs
     induction gs with
     | nil =>
      intro o _ hc
      simp only [contig,Option.some.injEq] at hc
      subst hc
      exact ⟨[],trivial,by rw [← hlen,List.drop_length]; rfl,rfl⟩
     | cons f gs ihg =>
      intro o hall hc
      simp only [contig] at hc
      split at hc
      ·rename_i ho
       have ho':=Nat.eq_of_beq_eq_true ho
       obtain ⟨hft,y,hy⟩:=hall f (by simp)
       obtain ⟨d,g1,g2,g3⟩:=ih hft hy
       obtain ⟨ds,q1,q2,q3⟩:=ihg _ (fun g hg=>hall g (by simp [hg])) hc
       rw [ho'] at g2
       refine ⟨d :: ds,⟨g1,q1⟩,⟨_,_,?_,D.rd_length g2,g2,q2⟩,?_⟩
       ·rw [← List.drop_drop,List.take_append_drop]
       ·simp only [D.szs,g3]; omega
      ·cases hc
    obtain ⟨ds,q1,q2,q3⟩:=key fs.toList 0 (fun f hf'=>⟨by have:=List.all_eq_true.1 h2 f hf'; simpa using this,by
      obtain ⟨i,hi⟩:=List.getElem?_of_mem hf'
      have hi' : fs[i]? = some f:=by simpa using hi
      have hlt : i < xs.length:=by
       have:=(List.getElem?_eq_some_iff.1 hi).1
       rw [hxl]
       simpa using this
      exact ⟨_,(hf i f hi').trans (List.getElem?_eq_getElem hlt)⟩⟩) hcg
    exact ⟨.agg ds,⟨_,by simp only [styp,hu],q1⟩,q2,by simp only [D.sz]; omega⟩
   ·cases h1
  ·cases hok
def Dec (P : Program) (t : TypeId) (enc : α → D) (Wf : α → Prop) : Prop:=∀ d,Typ P d t → ∃ x,d = enc x ∧ Wf x
theorem Dec.int (hu : P.underlying t = some (.int k)) : Dec P t (D.int k) (fun n=>(Lit.int k n).wf = true):=by
 intro d h
 cases d with
 | int k' n =>
  obtain ⟨h1,h2⟩:=h
  rw [hu] at h1
  injection h1 with h1
  injection h1 with h1
  subst h1
  exact ⟨n,rfl,h2⟩
 | bool b=>rw [show P.underlying t = some .bool from h] at hu; cases hu
 | str s=>rw [show P.underlying t = some .string from h.1] at hu; cases hu
 | row e s xs=>rw [h.1] at hu; cases hu
 | agg xs=>obtain ⟨ts,h1,_⟩:=h; simp [styp,hu] at h1
theorem Dec.bool (hu : P.underlying t = some .bool) : Dec P t D.bool (fun _=>True):=by
 intro d h
 cases d with
 | bool b=>exact ⟨b,rfl,trivial⟩
 | int k' n=>rw [h.1] at hu; cases hu
 | str s=>rw [show P.underlying t = some .string from h.1] at hu; cases hu
 | row e s xs=>rw [h.1] at hu; cases hu
 | agg xs=>obtain ⟨ts,h1,_⟩:=h; simp [styp,hu] at h1
theorem Dec.str (hu : P.underlying t = some .string) : Dec P t D.str (fun s=>s.size ≤ maxLen):=by
 intro d h
 cases d with
 | str s=>exact ⟨s,rfl,h.2⟩
 | bool b=>rw [show P.underlying t = some .bool from h] at hu; cases hu
 | int k' n=>rw [h.1] at hu; cases hu
 | row e s xs=>rw [h.1] at hu; cases hu
 | agg xs=>obtain ⟨ts,h1,_⟩:=h; simp [styp,hu] at h1
theorem Dec.list {Wf : α → Prop} (h : Dec P e enc Wf) : ∀ {xs : List D},Typs P xs e → ∃ l : List α,xs = l.map enc ∧ ∀ x ∈ l,Wf x
 | [],_=>⟨[],rfl,by simp⟩
 | d :: xs,⟨h1,h2⟩=>by
  obtain ⟨x,rfl,hx⟩:=h d h1
  obtain ⟨l,rfl,hl⟩:=Dec.list h h2
  exact ⟨x :: l,rfl,fun y hy=>(List.mem_cons.1 hy).elim (fun e=>e ▸ hx) (hl y)⟩
theorem Dec.slice {Wf : α → Prop} (hu : P.underlying t = some (.slice e)) (hc : P.cellsOf e = size) (h : Dec P e enc Wf) : Dec P t (fun (l : List α)=>D.row e size (l.map enc)) (fun l=>∀ x ∈ l,Wf x):=by
 intro d hd
 cases d with
 | row e' s xs =>
  obtain ⟨h1,h2,h3⟩:=hd
  rw [hu] at h1
  injection h1 with h1
  injection h1 with h1
  subst h1
  obtain ⟨l,rfl,hl⟩:=h.list h3
  exact ⟨l,by rw [h2,hc],hl⟩
 | bool b=>rw [show P.underlying t = some .bool from hd] at hu; cases hu
 | int k' n=>rw [hd.1] at hu; cases hu
 | str s=>rw [show P.underlying t = some .string from hd.1] at hu; cases hu
 | agg xs=>obtain ⟨ts,h1,_⟩:=hd; simp [styp,hu] at h1
end Go.Proofs.YtmpplggjpmmhlaaGreatDoor.X
namespace Go.Proofs.YtmpplggjpmmhlaaGreatDoor.X
variable {P : Program} {w : World} {T : Nat → Prop} {t e : TypeId} {size : Nat} {k : IntKind} {α : Type} {H : Type} {en : TypeId × Value → H} {base : Nat} {spare : Nat → Bool} {held : Bool}
def dcells : DataW H → List Value
 | .lit (.int k n)=>[.int k n]
 | .lit (.bool b)=>[.bool b]
 | .lit (.string s)=>[.string ⟨s.toArray⟩]
 | .agg ds=>dcellsL ds
 | _=>[]
where dcellsL : List (DataW H) → List Value
 | []=>[]
 | d :: r=>dcells d ++ dcellsL r
theorem dcellsL_map {γ : Type} (f : γ → DataW H) : ∀ {xs : List γ},dcells.dcellsL (xs.map f) = (xs.map fun x=>dcells (f x)).flatten
 | []=>rfl
 | x :: xs=>by simp only [List.map_cons,dcells.dcellsL,List.flatten_cons,dcellsL_map f]
def okF (P : Program) (ts : List TypeId) (t : TypeId) : Bool:=match P.underlying t with
 | some (.int _) | some .bool | some .string=>Nat.beq (P.cellsOf t) 1
 | some (.array n e)=>Nat.beq (P.cellsOf t) (n * P.cellsOf e) && ts.contains e
 | some (.struct fs)=>(match contig P fs.toList 0 with
  | some n=>Nat.beq n (P.cellsOf t)
  | none=>false) && fs.toList.all (fun f=>ts.contains f.type)
 | _=>false
theorem trod_cells {ts : List TypeId} (hts : ts.all (okF P ts) = true) : ∀ {fuel : Nat} {t : TypeId} {cs : List Value} {x : DataW H × List MemPlace},t ∈ ts → DataW.trod en P w base spare held fuel t cs = some x → cs = dcells x.1 ∧ cs.length = P.cellsOf t:=by
 intro fuel
 induction fuel with
 | zero=>intro t cs x _ h; simp [DataW.trod] at h
 | succ fuel ih =>
  intro t cs x ht h
  have hok:=List.all_eq_true.1 hts t ht
  unfold okF at hok
  split at hok
  ·rename_i k hu
   obtain ⟨n,rfl,rfl,hw⟩:=DataW.trod_int hu h
   exact ⟨rfl,(Nat.eq_of_beq_eq_true hok).symm⟩
  ·rename_i hu
   obtain ⟨b,rfl,rfl⟩:=DataW.trod_bool hu h
   exact ⟨rfl,(Nat.eq_of_beq_eq_true hok).symm⟩
  ·rename_i hu
   obtain ⟨s,rfl,rfl,hs⟩:=DataW.trod_string hu h
   exact ⟨by simp [dcells],(Nat.eq_of_beq_eq_true hok).symm⟩
  ·rename_i n e hu
   simp only [Bool.and_eq_true] at hok
   obtain ⟨h1,h2⟩:=hok
   have he : e ∈ ts:=by simpa using h2
   have h1':=Nat.eq_of_beq_eq_true h1
   obtain ⟨xs,m,hn,rfl,hlen,hxl,hel⟩:=DataW.trod_array hu h
   obtain rfl : fuel = m:=by omega
   refine ⟨?_,hlen⟩
   have key : ∀ j,j ≤ n → cs.take (j * P.cellsOf e) = ((xs.take j).map fun y=>dcells y.1).flatten:=by
    intro j
    induction j with
    | zero=>intro _; simp
    | succ j ihj =>
     intro hj
     have hi:=hel j (by omega)
     have hlt : j < xs.length:=by omega
     rw [List.getElem?_eq_getElem hlt] at hi
     obtain ⟨g1,g2⟩:=ih he hi
     rw [← List.take_append_getElem hlt,List.map_append,List.flatten_append,← ihj (by omega)]
     simp only [List.map_cons,List.map_nil,List.flatten_cons,List.flatten_nil,List.append_nil]
     rw [← g1,Nat.add_mul,Nat.one_mul,List.take_add]
   have:=key n (Nat.le_refl _)
   rw [List.take_of_length_le (by omega),List.take_of_length_le (by omega)] at this
   rw [this]
   show _ = dcells.dcellsL (xs.map (·.1))
   rw [dcellsL_map]
  ·rename_i fs hu
   simp only [Bool.and_eq_true] at hok
   obtain ⟨h1,h2⟩:=hok
   split at h1
   ·rename_i tot hcg
    obtain rfl:=Nat.eq_of_beq_eq_true h1
    obtain ⟨xs,n,hn,rfl,hlen,hxl,hf⟩:=DataW.trod_struct hu h
    obtain rfl : fuel = n:=by omega
    refine ⟨?_,hlen⟩
    have key : ∀ (gs : List Field) (o i : Nat),(∀ j f,gs[j]? = some f → fs[i + j]? = some f ∧ f.type ∈ ts) → i + gs.length = xs.length → contig P gs o = some (P.cellsOf t) → cs.drop o = ((xs.drop i).map fun y=>dcells y.1).flatten:=by
     intro gs
     induction gs with
     | nil =>
      intro o i _ hlen2 hc
      simp only [contig,Option.some.injEq] at hc
      simp only [List.length_nil,Nat.add_zero] at hlen2
      rw [hc,← hlen,List.drop_length,hlen2,List.drop_length]
      rfl
     | cons f gs ihg =>
      intro o i hall hlen2 hc
      simp only [contig] at hc
      split at hc
      ·rename_i ho
       have ho':=Nat.eq_of_beq_eq_true ho
       obtain ⟨hf0,hft⟩:=hall 0 f rfl
       have hi:=hf i f (by simpa using hf0)
       have hlt : i < xs.length:=by simp only [List.length_cons] at hlen2; omega
       rw [List.getElem?_eq_getElem hlt,ho'] at hi
       obtain ⟨g1,g2⟩:=ih hft hi
       have hr:=ihg (o + P.cellsOf f.type) (i + 1) (fun j f' hj=>by
        have:=hall (j + 1) f' (by simpa using hj)
        rwa [show i + (j + 1) = i + 1 + j by omega] at this) (by simp only [List.length_cons] at hlen2; omega) hc
       rw [List.drop_eq_getElem_cons hlt,List.map_cons,List.flatten_cons,← g1,← hr,← List.drop_drop,List.take_append_drop]
      ·cases hc
    have:=key fs.toList 0 0 (fun j f hj=>⟨by simpa using hj,by
     have:=List.all_eq_true.1 h2 f (List.mem_of_getElem? hj)
     simpa using this⟩) (by simp [hxl]) hcg
    simp only [List.drop_zero] at this
    rw [this]
    show _ = dcells.dcellsL (xs.map (·.1))
    rw [dcellsL_map]
   ·cases h1
  ·cases hok
theorem flat_get {f : α → List Value} (hs : ∀ x,(f x).length = size) : ∀ {l : List α} {i j : Nat} {x : α} {u : Value},l[i]? = some x → (f x)[j]? = some u → ((l.map f).flatten)[i * size + j]? = some u
 | [],i,j,x,u,h,_=>by simp at h
 | y :: ys,0,j,x,u,h,hu=>by
  have : y = x:=by simpa using h
  subst this
  have hlt : j < (f y).length:=by
   rcases Nat.lt_or_ge j (f y).length with h | h
   ·exact h
   ·rw [List.getElem?_eq_none h] at hu; cases hu
  simp only [List.map_cons,List.flatten_cons,Nat.zero_mul,Nat.zero_add]
  rw [List.getElem?_append_left hlt]
  exact hu
 | y :: ys,i + 1,j,x,u,h,hu=>by
  have ih:=flat_get hs (l:=ys) (i:=i) (j:=j) (by simpa using h) hu
  simp only [List.map_cons,List.flatten_cons]
  rw [List.getElem?_append_right (by rw [hs,Nat.add_mul]; omega),hs]
  rw [show (i + 1) * size + j - size = i * size + j by rw [Nat.add_mul]; omega]
  exact ih
theorem tab_of {g : Nat} {f : α → List Value} {l : List α} {cs : Array Value} (hs : ∀ x,(f x).length = size) (hc : cs.toList = (l.map f).flatten) (hv : ∀ j,w.cell? ⟨g,j,none⟩ = cs[j]?) (h0 : Nat.ble 1 ((l.map f).flatten).length = true) : Tab g size f l w:=
 have h1 : 0 < cs.size:=by
  have h1:=Nat.le_of_ble_eq_true h0
  rw [← hc,Array.length_toList] at h1
  omega
 ⟨World.block_lt_of_cell? w ⟨g,0,none⟩ ((hv 0).trans (Array.getElem?_eq_getElem h1)),fun i x hx j v hj=>by
  rw [hv]
  have:=flat_get hs hx hj
  rw [← hc] at this
  simpa using this⟩
theorem vars_one {sp : Nat → Bool} {n1 : String} {gs : List (DataW H)} {ps : List MemPlace} (h : DataW.TrodVars en P w sp [n1] gs ps) : ∃ g1,gs = [g1]:=by
 match gs,h with
 | [],h=>exact h.elim
 | [g1],_=>exact ⟨g1,rfl⟩
 | g1 :: g2 :: r,h=>obtain ⟨_,_,_,_,_,_,_,_,_,_,h,_⟩:=h; exact h.elim
theorem laid_cells {ts : List TypeId} (hts : ts.all (okF P ts) = true) {n : String} {d : DataW Unit} {r : List (String × DataW Unit)} {ps : List MemPlace} {g t : Nat} (hg : P.globalNamed n = some g) (ht : (P.globals[g]?).map (·.type) = some t) (hm : t ∈ ts)
  (h : DataW.LaidVars P w ((n,d) :: r) ps) : ∃ cs : Array Value,cs.toList = dcells d ∧ (∀ j,w.cell? ⟨g,j,none⟩ = cs[j]?) ∧ ∃ qs,DataW.LaidVars P w r qs:=by
 obtain ⟨g',t',cs,fuel,p,q,h1,h2,h3,h4,h5,_⟩:=h
 obtain rfl:=Option.some.inj (hg.symm.trans h1)
 obtain rfl:=Option.some.inj (ht.symm.trans h2)
 exact ⟨cs,(trod_cells hts hm h4).1,fun j=>World.var?_cell hg h3 j,q,h5⟩
end Go.Proofs.YtmpplggjpmmhlaaGreatDoor.X
