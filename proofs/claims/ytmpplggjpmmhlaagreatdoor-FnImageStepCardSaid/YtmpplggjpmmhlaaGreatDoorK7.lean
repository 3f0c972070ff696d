/- Printed by a program of mine: that the program's functions compute it. What a row says of its arguments, in the program logic's words: data types in general. What a package-level variable's laid datum says of its cells. -/
import Derived.Test.YtmpplggjpmmhlaaGreatDoorK6
import Derived.RowKit
import Derived.ChangeSlices
import Derived.ChangeArms
import Derived.WideShapes
import Derived.OpenShut
import Derived.LaidMore
import Derived.LaidLaws
import GoSem.ClaimJoined
set_option linter.unusedVariables false
set_option linter.unusedSimpArgs false
set_option maxRecDepth 100000
set_option maxHeartbeats 4000000
namespace Go.Proofs.YtmpplggjpmmhlaaGreatDoor.N
open Go.Proofs.YtmpplggjpmmhlaaGreatDoor.X
theorem f0m {a0 : Int} {a1 : Int} {a2 : Int} {w : World} {r : Instr} (h : f0t a0 a1 a2 = some r) : Calls Tryz.prog 87 #[.int .i64 a0,.int .i64 a1,.int .i64 a2] w (Ret No w (fun s : Unit=>.agg #[.int .i64 r.Op,.int .i64 r.Rd,.int .i64 r.Rs,.int .i64 r.Rt,.int .i64 r.Imm]) (fun s=>[])):=by
 unfold f0t at h
 refine enter Tryz.func87 z z ?_
 have hS:=Sep.start w
 refine .g (.c (.alloc T.t32 hS ?_ z z z))
 intro g1 W hS
 refine .nil (.g (.q z (.q z (.q z (.s (bs T.s32 z z) z (.c (.st T.t32 hS z z z ?_ z z z z z)))))))
 intro W hS
 cases h
 exact .nil (.ret (fin_ret (vs:=[_]) () (rc hS T.t32 z rn z z) z (hS.to [] z)))
theorem f2u {a0 : Int} {a1 : Int} {a2 : Int} {a3 : Int} {a4 : Int} {w : World} {r : Instr} (h : f3a a0 a1 a2 a3 a4 = some r) : Calls Tryz.prog 105 #[.int .i64 a0,.int .i64 a1,.int .i64 a2,.int .i64 a3,.int .i64 a4] w (Ret No w (fun s : Unit=>.agg #[.int .i64 r.Op,.int .i64 r.Rd,.int .i64 r.Rs,.int .i64 r.Rt,.int .i64 r.Imm]) (fun s=>[])):=by
 unfold f3a at h
 refine enter Tryz.func105 z z ?_
 have hS:=Sep.start w
 refine .g (.c (.alloc T.t32 hS ?_ z z z))
 intro g1 W hS
 refine .nil (.g (.q z (.q z (.q z (.q z (.q z (.q z (.q z (.s (bs T.s32 z z) z (.c (.st T.t32 hS z z z ?_ z z z z z)))))))))))
 intro W hS
 cases h
 exact .nil (.ret (fin_ret (vs:=[_]) () (rc hS T.t32 z rn z z) z (hS.to [] z)))
theorem fbx {a0 : Int} {a1 : Int} {w : World} {r : Instr} (h : fap a0 a1 = some r) : Calls Tryz.prog 106 #[.int .i64 a0,.int .i64 a1] w (Ret No w (fun s : Unit=>.agg #[.int .i64 r.Op,.int .i64 r.Rd,.int .i64 r.Rs,.int .i64 r.Rt,.int .i64 r.Imm]) (fun s=>[])):=by
 unfold fap at h
 refine enter Tryz.func106 z z ?_
 have hS:=Sep.start w
 refine .g (.c (.alloc T.t32 hS ?_ z z z))
 intro g1 W hS
 refine .nil (.g (.q z (.q z (.q z (.q z (.s (bs T.s32 z z) z (.c (.st T.t32 hS z z z ?_ z z z z z))))))))
 intro W hS
 cases h
 exact .nil (.ret (fin_ret (vs:=[_]) () (rc hS T.t32 z rn z z) z (hS.to [] z)))
theorem fdn {w : World} {r : (List Instr)} (h : fai = some r) : Calls Tryz.prog 81 #[] w (Ret No w (fun s : Hd=>(sv s)) (fun s=>[rowV (sv s) 32 5 dInstr r])):=by
 unfold fai at h
 refine enter Tryz.func81 z z ?_
 have hS:=Sep.start w
 refine .g (.qn z (.seq (.region ?_)))
 have ⟨y1,hy1,h⟩:=bnd h
 refine .c (.call0 hS Tryz.func87 (f0m hy1) z z ?_ z z z z)
 intro W hS
 have ⟨y2,hy2,h⟩:=bnd h
 refine .c (.call0 hS Tryz.func105 (f2u hy2) z z ?_ z z z z)
 intro W hS
 have ⟨y3,hy3,h⟩:=bnd h
 refine .c (.call0 hS Tryz.func87 (f0m hy3) z z ?_ z z z z)
 intro W hS
 have ⟨y4,hy4,h⟩:=bnd h
 refine .c (.call0 hS Tryz.func105 (f2u hy4) z z ?_ z z z z)
 intro W hS
 have ⟨y5,hy5,h⟩:=bnd h
 refine .c (.call0 hS Tryz.func87 (f0m hy5) z z ?_ z z z z)
 intro W hS
 have ⟨y6,hy6,h⟩:=bnd h
 refine .c (.call0 hS Tryz.func105 (f2u hy6) z z ?_ z z z z)
 intro W hS
 have ⟨y7,hy7,h⟩:=bnd h
 refine .c (.call0 hS Tryz.func87 (f0m hy7) z z ?_ z z z z)
 intro W hS
 have ⟨y8,hy8,h⟩:=bnd h
 refine .c (.call0 hS Tryz.func105 (f2u hy8) z z ?_ z z z z)
 intro W hS
 have ⟨y9,hy9,h⟩:=bnd h
 refine .c (.call0 hS Tryz.func106 (fbx hy9) z z ?_ z z z z)
 intro W hS
 refine .c (.liv [y1,y2,y3,y4,y5,y6,y7,y8,y9] dInstr T.u23 T.t32 hS z z z z ?_ z (fun _=>z) z z z z)
 intro v1 W hS
 cases h
 exact .qn z (.ret (fin_ret (vs:=[_]) v1 (rt z rn) z (hS.to [0] z)))
theorem f1y {a0 : Int} {a1 : Int} {a2 : Int} {a3 : Int} {w : World} {r : Instr} (h : f2i a0 a1 a2 a3 = some r) : Calls Tryz.prog 107 #[.int .i64 a0,.int .i64 a1,.int .i64 a2,.int .i64 a3] w (Ret No w (fun s : Unit=>.agg #[.int .i64 r.Op,.int .i64 r.Rd,.int .i64 r.Rs,.int .i64 r.Rt,.int .i64 r.Imm]) (fun s=>[])):=by
 unfold f2i at h
 refine enter Tryz.func107 z z ?_
 have hS:=Sep.start w
 refine .g (.c (.alloc T.t32 hS ?_ z z z))
 intro g1 W hS
 refine .nil (.g (.q z (.q z (.q z (.q z (.s (bs T.s32 z z) z (.c (.st T.t32 hS z z z ?_ z z z z z))))))))
 intro W hS
 cases h
 exact .nil (.ret (fin_ret (vs:=[_]) () (rc hS T.t32 z rn z z) z (hS.to [] z)))
theorem f13 {a0 : Int} {a1 : Int} {a2 : Int} {w : World} {r : Instr} (h : f1g a0 a1 a2 = some r) : Calls Tryz.prog 108 #[.int .i64 a0,.int .i64 a1,.int .i64 a2] w (Ret No w (fun s : Unit=>.agg #[.int .i64 r.Op,.int .i64 r.Rd,.int .i64 r.Rs,.int .i64 r.Rt,.int .i64 r.Imm]) (fun s=>[])):=by
 unfold f1g at h
 refine enter Tryz.func108 z z ?_
 have hS:=Sep.start w
 refine .g (.c (.alloc T.t32 hS ?_ z z z))
 intro g1 W hS
 refine .nil (.g (.q z (.q z (.q z (.s (bs T.s32 z z) z (.c (.st T.t32 hS z z z ?_ z z z z z)))))))
 intro W hS
 cases h
 exact .nil (.ret (fin_ret (vs:=[_]) () (rc hS T.t32 z rn z z) z (hS.to [] z)))
theorem f1p {a0 : Int} {a1 : Int} {a2 : Int} {w : World} {r : Instr} (h : f24 a0 a1 a2 = some r) : Calls Tryz.prog 109 #[.int .i64 a0,.int .i64 a1,.int .i64 a2] w (Ret No w (fun s : Unit=>.agg #[.int .i64 r.Op,.int .i64 r.Rd,.int .i64 r.Rs,.int .i64 r.Rt,.int .i64 r.Imm]) (fun s=>[])):=by
 unfold f24 at h
 refine enter Tryz.func109 z z ?_
 have hS:=Sep.start w
 refine .g (.c (.alloc T.t32 hS ?_ z z z))
 intro g1 W hS
 refine .nil (.g (.q z (.q z (.q z (.s (bs T.s32 z z) z (.c (.st T.t32 hS z z z ?_ z z z z z)))))))
 intro W hS
 cases h
 exact .nil (.ret (fin_ret (vs:=[_]) () (rc hS T.t32 z rn z z) z (hS.to [] z)))
theorem f7b {a0 : Int} {w : World} {r : Instr} (h : f5g a0 = some r) : Calls Tryz.prog 110 #[.int .i64 a0] w (Ret No w (fun s : Unit=>.agg #[.int .i64 r.Op,.int .i64 r.Rd,.int .i64 r.Rs,.int .i64 r.Rt,.int .i64 r.Imm]) (fun s=>[])):=by
 unfold f5g at h
 refine enter Tryz.func110 z z ?_
 have hS:=Sep.start w
 refine .g (.c (.alloc T.t32 hS ?_ z z z))
 intro g1 W hS
 refine .nil (.g (.q z (.s (bs T.s32 z z) z (.c (.st T.t32 hS z z z ?_ z z z z z)))))
 intro W hS
 cases h
 exact .nil (.ret (fin_ret (vs:=[_]) () (rc hS T.t32 z rn z z) z (hS.to [] z)))
theorem fee {w : World} {r : (List Instr)} (h : fb4 = some r) : Calls Tryz.prog 82 #[] w (Ret No w (fun s : Hd=>(sv s)) (fun s=>[rowV (sv s) 32 5 dInstr r])):=by
 unfold fb4 at h
 refine enter Tryz.func82 z z ?_
 have hS:=Sep.start w
 refine .g (.qn z (.seq (.region ?_)))
 have ⟨y1,hy1,h⟩:=bnd h
 refine .c (.call0 hS Tryz.func87 (f0m hy1) z z ?_ z z z z)
 intro W hS
 have ⟨y2,hy2,h⟩:=bnd h
 refine .c (.call0 hS Tryz.func107 (f1y hy2) z z ?_ z z z z)
 intro W hS
 have ⟨y3,hy3,h⟩:=bnd h
 refine .c (.call0 hS Tryz.func107 (f1y hy3) z z ?_ z z z z)
 intro W hS
 have ⟨y4,hy4,h⟩:=bnd h
 refine .c (.call0 hS Tryz.func108 (f13 hy4) z z ?_ z z z z)
 intro W hS
 have ⟨y5,hy5,h⟩:=bnd h
 refine .c (.call0 hS Tryz.func108 (f13 hy5) z z ?_ z z z z)
 intro W hS
 have ⟨y6,hy6,h⟩:=bnd h
 refine .c (.call0 hS Tryz.func105 (f2u hy6) z z ?_ z z z z)
 intro W hS
 have ⟨y7,hy7,h⟩:=bnd h
 refine .c (.call0 hS Tryz.func108 (f13 hy7) z z ?_ z z z z)
 intro W hS
 have ⟨y8,hy8,h⟩:=bnd h
 refine .c (.call0 hS Tryz.func107 (f1y hy8) z z ?_ z z z z)
 intro W hS
 have ⟨y9,hy9,h⟩:=bnd h
 refine .c (.call0 hS Tryz.func107 (f1y hy9) z z ?_ z z z z)
 intro W hS
 have ⟨y10,hy10,h⟩:=bnd h
 refine .c (.call0 hS Tryz.func87 (f0m hy10) z z ?_ z z z z)
 intro W hS
 have ⟨y11,hy11,h⟩:=bnd h
 refine .c (.call0 hS Tryz.func107 (f1y hy11) z z ?_ z z z z)
 intro W hS
 have ⟨y12,hy12,h⟩:=bnd h
 refine .c (.call0 hS Tryz.func107 (f1y hy12) z z ?_ z z z z)
 intro W hS
 have ⟨y13,hy13,h⟩:=bnd h
 refine .c (.call0 hS Tryz.func109 (f1p hy13) z z ?_ z z z z)
 intro W hS
 have ⟨y14,hy14,h⟩:=bnd h
 refine .c (.call0 hS Tryz.func87 (f0m hy14) z z ?_ z z z z)
 intro W hS
 have ⟨y15,hy15,h⟩:=bnd h
 refine .c (.call0 hS Tryz.func109 (f1p hy15) z z ?_ z z z z)
 intro W hS
 have ⟨y16,hy16,h⟩:=bnd h
 refine .c (.call0 hS Tryz.func109 (f1p hy16) z z ?_ z z z z)
 intro W hS
 have ⟨y17,hy17,h⟩:=bnd h
 refine .c (.call0 hS Tryz.func110 (f7b hy17) z z ?_ z z z z)
 intro W hS
 refine .c (.liv [y1,y2,y3,y4,y5,y6,y7,y8,y9,y10,y11,y12,y13,y14,y15,y16,y17] dInstr T.u23 T.t32 hS z z z z ?_ z (fun _=>z) z z z z)
 intro v1 W hS
 cases h
 exact .qn z (.ret (fin_ret (vs:=[_]) v1 (rt z rn) z (hS.to [0] z)))
theorem fel {w : World} {r : (List Instr)} (h : fb2 = some r) : Calls Tryz.prog 83 #[] w (Ret No w (fun s : Hd=>(sv s)) (fun s=>[rowV (sv s) 32 5 dInstr r])):=by
 unfold fb2 at h
 refine enter Tryz.func83 z z ?_
 have hS:=Sep.start w
 refine .g (.qn z (.seq (.region ?_)))
 have ⟨y1,hy1,h⟩:=bnd h
 refine .c (.call0 hS Tryz.func87 (f0m hy1) z z ?_ z z z z)
 intro W hS
 have ⟨y2,hy2,h⟩:=bnd h
 refine .c (.call0 hS Tryz.func107 (f1y hy2) z z ?_ z z z z)
 intro W hS
 have ⟨y3,hy3,h⟩:=bnd h
 refine .c (.call0 hS Tryz.func107 (f1y hy3) z z ?_ z z z z)
 intro W hS
 have ⟨y4,hy4,h⟩:=bnd h
 refine .c (.call0 hS Tryz.func108 (f13 hy4) z z ?_ z z z z)
 intro W hS
 have ⟨y5,hy5,h⟩:=bnd h
 refine .c (.call0 hS Tryz.func105 (f2u hy5) z z ?_ z z z z)
 intro W hS
 have ⟨y6,hy6,h⟩:=bnd h
 refine .c (.call0 hS Tryz.func108 (f13 hy6) z z ?_ z z z z)
 intro W hS
 have ⟨y7,hy7,h⟩:=bnd h
 refine .c (.call0 hS Tryz.func108 (f13 hy7) z z ?_ z z z z)
 intro W hS
 have ⟨y8,hy8,h⟩:=bnd h
 refine .c (.call0 hS Tryz.func87 (f0m hy8) z z ?_ z z z z)
 intro W hS
 have ⟨y9,hy9,h⟩:=bnd h
 refine .c (.call0 hS Tryz.func107 (f1y hy9) z z ?_ z z z z)
 intro W hS
 have ⟨y10,hy10,h⟩:=bnd h
 refine .c (.call0 hS Tryz.func107 (f1y hy10) z z ?_ z z z z)
 intro W hS
 have ⟨y11,hy11,h⟩:=bnd h
 refine .c (.call0 hS Tryz.func108 (f13 hy11) z z ?_ z z z z)
 intro W hS
 have ⟨y12,hy12,h⟩:=bnd h
 refine .c (.call0 hS Tryz.func87 (f0m hy12) z z ?_ z z z z)
 intro W hS
 have ⟨y13,hy13,h⟩:=bnd h
 refine .c (.call0 hS Tryz.func107 (f1y hy13) z z ?_ z z z z)
 intro W hS
 have ⟨y14,hy14,h⟩:=bnd h
 refine .c (.call0 hS Tryz.func109 (f1p hy14) z z ?_ z z z z)
 intro W hS
 have ⟨y15,hy15,h⟩:=bnd h
 refine .c (.call0 hS Tryz.func87 (f0m hy15) z z ?_ z z z z)
 intro W hS
 have ⟨y16,hy16,h⟩:=bnd h
 refine .c (.call0 hS Tryz.func109 (f1p hy16) z z ?_ z z z z)
 intro W hS
 have ⟨y17,hy17,h⟩:=bnd h
 refine .c (.call0 hS Tryz.func109 (f1p hy17) z z ?_ z z z z)
 intro W hS
 have ⟨y18,hy18,h⟩:=bnd h
 refine .c (.call0 hS Tryz.func110 (f7b hy18) z z ?_ z z z z)
 intro W hS
 refine .c (.liv [y1,y2,y3,y4,y5,y6,y7,y8,y9,y10,y11,y12,y13,y14,y15,y16,y17,y18] dInstr T.u23 T.t32 hS z z z z ?_ z (fun _=>z) z z z z)
 intro v1 W hS
 cases h
 exact .qn z (.ret (fin_ret (vs:=[_]) v1 (rt z rn) z (hS.to [0] z)))
theorem fd4 {w : World} {r : (List Instr)} (h : faj = some r) : Calls Tryz.prog 84 #[] w (Ret No w (fun s : Hd=>(sv s)) (fun s=>[rowV (sv s) 32 5 dInstr r])):=by
 unfold faj at h
 refine enter Tryz.func84 z z ?_
 have hS:=Sep.start w
 refine .g (.qn z (.g (.s (bs T.s32 z z) z ?_)))
 have ⟨y1,hy1,h⟩:=bnd h
 refine .c (.call0 hS Tryz.func109 (f1p hy1) z z ?_ z z z z)
 intro W hS
 have ⟨y2,hy2,h⟩:=bnd h
 refine .c (.call0 hS Tryz.func110 (f7b hy2) z z ?_ z z z z)
 intro W hS
 have ⟨y3,hy3,h⟩:=bnd h
 refine .c (.call0 hS Tryz.func87 (f0m hy3) z z ?_ z z z z)
 intro W hS
 have ⟨y4,hy4,h⟩:=bnd h
 refine .c (.call0 hS Tryz.func109 (f1p hy4) z z ?_ z z z z)
 intro W hS
 have ⟨y5,hy5,h⟩:=bnd h
 refine .c (.call0 hS Tryz.func106 (fbx hy5) z z ?_ z z z z)
 intro W hS
 have ⟨y6,hy6,h⟩:=bnd h
 refine .c (.call0 hS Tryz.func87 (f0m hy6) z z ?_ z z z z)
 intro W hS
 have ⟨y7,hy7,h⟩:=bnd h
 refine .c (.call0 hS Tryz.func108 (f13 hy7) z z ?_ z z z z)
 intro W hS
 have ⟨y8,hy8,h⟩:=bnd h
 refine .c (.call0 hS Tryz.func87 (f0m hy8) z z ?_ z z z z)
 intro W hS
 have ⟨y9,hy9,h⟩:=bnd h
 refine .c (.call0 hS Tryz.func109 (f1p hy9) z z ?_ z z z z)
 intro W hS
 refine .c (.liv [(Instr.mk 21 0 0 0 0),y1,y2,y3,y4,y5,y6,y7,y8,y9] dInstr T.u23 T.t32 hS z z z z ?_ z (fun _=>z) z z z z)
 intro v1 W hS
 cases h
 exact .qn z (.ret (fin_ret (vs:=[_]) v1 (rt z rn) z (hS.to [0] z)))
theorem faw {w : World} {r : (List Int)} (h : f8w = some r) : Calls Tryz.prog 111 #[] w (Ret No w (fun s : Hd=>(sv s)) (fun s=>[rowV (sv s) 3 1 (D.int .i64) r])):=by
 unfold f8w at h
 refine enter Tryz.func111 z z ?_
 have hS:=Sep.start w
 refine .g (.qn z (.g (.c (.liv [1,2,8,9,18,19,20,21,22,23,10,11,17] (D.int .i64) T.u25 T.t3 hS z z z z ?_ z (fun _=>z) z z z z))))
 intro v1 W hS
 cases h
 exact .qn z (.ret (fin_ret (vs:=[_]) v1 (rt z rn) z (hS.to [0] z)))
theorem feb {w : World} {r : (List Instr)} (h : f7x = some r) : Calls Tryz.prog 85 #[] w (Ret No w (fun s : Hd=>(sv s)) (fun s=>[rowV (sv s) 32 5 dInstr r])):=by
 unfold f7x at h
 refine enter Tryz.func85 z z ?_
 have hS:=Sep.start w
 refine .g (.qn z (.seq (.region ?_)))
 have ⟨y1,hy1,h⟩:=bnd h
 refine .c (.call0 hS Tryz.func109 (f1p hy1) z z ?_ z z z z)
 intro W hS
 refine .c (.liv [y1] dInstr T.u23 T.t32 hS z z z z ?_ z (fun _=>z) z z z z)
 intro v1 W hS
 refine .qn z (.seq (.region ?_))
 have ⟨y2,hy2,h⟩:=bnd h
 refine .c (.call1v hS Tryz.func111 (faw hy2) z z ?_ z z z z)
 intro v2 W hS
 refine .qn z (.seq (.g (.qn z (.block ?_))))
 have ⟨y3,hy3,h⟩:=bnd h
 refine .via (.iter (fun s1 E' W'=>∃ (v5 : Hd),SubL E' [(1,(sv v5)),(2,(sv v2)),(3,.int .i64 s1.2)] ∧ Sep No w W' [rowV (sv v2) 3 1 (D.int .i64) y2,rowV (sv v5) 32 5 dInstr s1.1]) (fun y4 x E' W'=>x = .exit 0 ∧ ∃ (v6 : Hd),SubL E' [(1,(sv v6))] ∧ Sep No w W' [rowV (sv v2) 3 1 (D.int .i64) y2,rowV (sv v6) 32 5 dInstr y4]) hy3 ⟨v1,sb z,hS.to [0,0] z⟩ ?_) ?_
 ·intro s1 y5 E W h hI
  obtain ⟨v4,hE,hS⟩:=hI
  refine CW.sub hE ?_
  unfold fb8 at h
  refine .seq (.g (.q z (.q z (.s (lenv hS.lendv T.u25 z z) z (.q z (.nil ?_))))))
  refine .cs z h ?_ ?_ <;> intro h
  ·refine .skip (.seq (.block (.region (.q z (.q z (.q z ?_))))))
   have ⟨x1,hx1,h⟩:=bnd h
   refine .s (ixv hS.lendv hx1 T.u25 T.t3 z z z) z (.s (lde (RV.flat hS.lendv hx1 z) T.t3 z z z z z) z (.q z (.q z (.q z ?_))))
   have ⟨y6,hy6,h⟩:=bnd h
   refine .c (.call0 hS Tryz.func109 (f1p hy6) z z ?_ z z z z)
   intro W hS
   refine .c (.liv [y6] dInstr T.u23 T.t32 hS z z z z ?_ z (fun _=>z) z z z z)
   intro v7 W hS
   have ⟨r1,hr1,h⟩:=bnd h
   have hT0:=hS.p2
   refine .c (.apprv hr1 hT0 hT0.p1.lendv (fun _=>z) T.u23 T.t32 z z z ?_ z z z z z)
   intro v8 W hS
   refine .qn z (.region (.q z (.q z (.q z (.nil ?_)))))
   cases h
   exact ⟨z,v8,sb z,hS.to [2,0] z⟩
  refine .exit ?_
  cases h
  exact ⟨by simp,z,v4,sb z,hS.to [0,0] z⟩
 intro x E W hJ
 obtain ⟨rfl,v9,hE,hS⟩:=hJ
 refine ⟨_,hE.sub,?_⟩
 obtain rfl:=Option.some.inj h
 exact .g (.q z (.qn z (.ret (fin_ret (vs:=[_]) v9 (rt z rn) z (hS.to [1] z)))))
theorem fds {w : World} {r : (List Instr)} (h : f7z = some r) : Calls Tryz.prog 86 #[] w (Ret No w (fun s : Hd=>(sv s)) (fun s=>[rowV (sv s) 32 5 dInstr r])):=by
 unfold f7z at h
 refine enter Tryz.func86 z z ?_
 have hS:=Sep.start w
 refine .g (.qn z (.seq (.region ?_)))
 have ⟨y1,hy1,h⟩:=bnd h
 refine .c (.call0 hS Tryz.func108 (f13 hy1) z z ?_ z z z z)
 intro W hS
 have ⟨y2,hy2,h⟩:=bnd h
 refine .c (.call0 hS Tryz.func108 (f13 hy2) z z ?_ z z z z)
 intro W hS
 have ⟨y3,hy3,h⟩:=bnd h
 refine .c (.call0 hS Tryz.func105 (f2u hy3) z z ?_ z z z z)
 intro W hS
 have ⟨y4,hy4,h⟩:=bnd h
 refine .c (.call0 hS Tryz.func87 (f0m hy4) z z ?_ z z z z)
 intro W hS
 have ⟨y5,hy5,h⟩:=bnd h
 refine .c (.call0 hS Tryz.func108 (f13 hy5) z z ?_ z z z z)
 intro W hS
 have ⟨y6,hy6,h⟩:=bnd h
 refine .c (.call0 hS Tryz.func105 (f2u hy6) z z ?_ z z z z)
 intro W hS
 have ⟨y7,hy7,h⟩:=bnd h
 refine .c (.call0 hS Tryz.func108 (f13 hy7) z z ?_ z z z z)
 intro W hS
 refine .c (.liv [y1,y2,y3,y4,y5,y6,y7] dInstr T.u23 T.t32 hS z z z z ?_ z (fun _=>z) z z z z)
 intro v1 W hS
 refine .qn z (.seq (.region ?_))
 have ⟨y8,hy8,h⟩:=bnd h
 refine .c (.call1v hS Tryz.func111 (faw hy8) z z ?_ z z z z)
 intro v2 W hS
 refine .qn z (.seq (.g (.qn z (.block ?_))))
 have ⟨y9,hy9,h⟩:=bnd h
 refine .via (.iter (fun s1 E' W'=>∃ (v5 : Hd),SubL E' [(1,(sv v5)),(2,(sv v2)),(3,.int .i64 s1.2)] ∧ Sep No w W' [rowV (sv v2) 3 1 (D.int .i64) y8,rowV (sv v5) 32 5 dInstr s1.1]) (fun y10 x E' W'=>x = .exit 0 ∧ ∃ (v6 : Hd),SubL E' [(1,(sv v6))] ∧ Sep No w W' [rowV (sv v2) 3 1 (D.int .i64) y8,rowV (sv v6) 32 5 dInstr y10]) hy9 ⟨v1,sb z,hS.to [0,0] z⟩ ?_) ?_
 ·intro s1 y11 E W h hI
  obtain ⟨v4,hE,hS⟩:=hI
  refine CW.sub hE ?_
  unfold fbd at h
  refine .seq (.g (.q z (.q z (.s (lenv hS.lendv T.u25 z z) z (.q z (.nil ?_))))))
  refine .cs z h ?_ ?_ <;> intro h
  ·refine .skip (.seq (.block (.region (.q z (.q z (.q z ?_))))))
   have ⟨x1,hx1,h⟩:=bnd h
   refine .s (ixv hS.lendv hx1 T.u25 T.t3 z z z) z (.s (lde (RV.flat hS.lendv hx1 z) T.t3 z z z z z) z (.q z (.q z (.q z ?_))))
   have ⟨y12,hy12,h⟩:=bnd h
   refine .c (.call0 hS Tryz.func108 (f13 hy12) z z ?_ z z z z)
   intro W hS
   refine .c (.liv [y12] dInstr T.u23 T.t32 hS z z z z ?_ z (fun _=>z) z z z z)
   intro v7 W hS
   have ⟨r1,hr1,h⟩:=bnd h
   have hT0:=hS.p2
   refine .c (.apprv hr1 hT0 hT0.p1.lendv (fun _=>z) T.u23 T.t32 z z z ?_ z z z z z)
   intro v8 W hS
   refine .qn z (.region (.q z (.q z (.q z (.nil ?_)))))
   cases h
   exact ⟨z,v8,sb z,hS.to [2,0] z⟩
  refine .exit ?_
  cases h
  exact ⟨by simp,z,v4,sb z,hS.to [0,0] z⟩
 intro x E W hJ
 obtain ⟨rfl,v9,hE,hS⟩:=hJ
 refine ⟨_,hE.sub,?_⟩
 refine .g (.q z ?_)
 have ⟨y13,hy13,h⟩:=bnd h
 refine .c (.call0 hS Tryz.func108 (f13 hy13) z z ?_ z z z z)
 intro W hS
 have ⟨y14,hy14,h⟩:=bnd h
 refine .c (.call0 hS Tryz.func110 (f7b hy14) z z ?_ z z z z)
 intro W hS
 refine .c (.liv [y13,y14] dInstr T.u23 T.t32 hS z z z z ?_ z (fun _=>z) z z z z)
 intro v10 W hS
 have ⟨r2,hr2,h⟩:=bnd h
 have hT0:=hS.p2
 refine .c (.apprv hr2 hT0 hT0.p1.lendv (fun _=>z) T.u23 T.t32 z z z ?_ z z z z z)
 intro v11 W hS
 obtain rfl:=Option.some.inj h
 exact .qn z (.ret (fin_ret (vs:=[_]) v11 (rt z rn) z (hS.to [0] z)))
theorem fen {w : World} {r : (List Instr)} (h : f7w = some r) : Calls Tryz.prog 52 #[] w (Ret No w (fun s : Hd=>(sv s)) (fun s=>[rowV (sv s) 32 5 dInstr r])):=by
 unfold f7w at h
 refine enter Tryz.func52 z z ?_
 have hS:=Sep.start w
 refine .g (.qn z (.seq (.region ?_)))
 have ⟨y1,hy1,h⟩:=bnd h
 refine .c (.call1v hS Tryz.func81 (fdn hy1) z z ?_ z z z z)
 intro v1 W hS
 have ⟨y2,hy2,h⟩:=bnd h
 refine .c (.call1v hS Tryz.func82 (fee hy2) z z ?_ z z z z)
 intro v2 W hS
 have ⟨r1,hr1,h⟩:=bnd h
 have hT0:=hS.p1
 refine .c (.apprv hr1 hT0 hT0.p1.lendv (fun _=>z) T.u23 T.t32 z z z ?_ z z z z z)
 intro v3 W hS
 refine .qn z (.g (.q z ?_))
 have ⟨y3,hy3,h⟩:=bnd h
 refine .c (.call1v hS Tryz.func83 (fel hy3) z z ?_ z z z z)
 intro v4 W hS
 have ⟨r2,hr2,h⟩:=bnd h
 have hT0:=hS.p1
 refine .c (.apprv hr2 hT0 hT0.p1.lendv (fun _=>z) T.u23 T.t32 z z z ?_ z z z z z)
 intro v5 W hS
 refine .qn z (.g (.q z ?_))
 have ⟨y4,hy4,h⟩:=bnd h
 refine .c (.call1v hS Tryz.func84 (fd4 hy4) z z ?_ z z z z)
 intro v6 W hS
 have ⟨r3,hr3,h⟩:=bnd h
 have hT0:=hS.p1
 refine .c (.apprv hr3 hT0 hT0.p1.lendv (fun _=>z) T.u23 T.t32 z z z ?_ z z z z z)
 intro v7 W hS
 refine .qn z (.g (.q z ?_))
 have ⟨y5,hy5,h⟩:=bnd h
 refine .c (.call1v hS Tryz.func85 (feb hy5) z z ?_ z z z z)
 intro v8 W hS
 have ⟨r4,hr4,h⟩:=bnd h
 have hT0:=hS.p1
 refine .c (.apprv hr4 hT0 hT0.p1.lendv (fun _=>z) T.u23 T.t32 z z z ?_ z z z z z)
 intro v9 W hS
 refine .qn z (.g (.q z ?_))
 have ⟨y6,hy6,h⟩:=bnd h
 refine .c (.call1v hS Tryz.func86 (fds hy6) z z ?_ z z z z)
 intro v10 W hS
 have ⟨r5,hr5,h⟩:=bnd h
 have hT0:=hS.p1
 refine .c (.apprv hr5 hT0 hT0.p1.lendv (fun _=>z) T.u23 T.t32 z z z ?_ z z z z z)
 intro v11 W hS
 refine .qn z (.g (.q z ?_))
 have ⟨y7,hy7,h⟩:=bnd h
 refine .c (.call0 hS Tryz.func87 (f0m hy7) z z ?_ z z z z)
 intro W hS
 refine .s (bs T.s32 z z) z (.c (.liv [y7,(Instr.mk 21 0 0 0 0)] dInstr T.u23 T.t32 hS z z z z ?_ z (fun _=>z) z z z z))
 intro v12 W hS
 have ⟨r6,hr6,h⟩:=bnd h
 have hT0:=hS.p1
 refine .c (.apprv hr6 hT0 hT0.p1.lendv (fun _=>z) T.u23 T.t32 z z z ?_ z z z z z)
 intro v13 W hS
 obtain rfl:=Option.some.inj h
 exact .qn z (.ret (fin_ret (vs:=[_]) v13 (rt z rn) z (hS.to [0] z)))
theorem fdq {a0 : Int} {a1 : List Int} {a2 : List Int} {v_1 : Hd} {v_2 : Hd} {w : World} {r : (List Int)} (h : f7h a0 a1 a2 = some r) (q_1 : RV w (Old No w) (sv v_1) 3 1 (D.int .i64) a1) (q_2 : RV w (Old No w) (sv v_2) 3 1 (D.int .i64) a2) : Calls Tryz.prog 53 #[.int .i64 a0,(sv v_1),(sv v_2)] w (Ret No w (fun s : Hd=>(sv s)) (fun s=>[rowV (sv s) 3 1 (D.int .i64) r])):=by
 unfold f7h at h
 refine enter Tryz.func53 z z ?_
 have hS:=Sep.start w
 refine .g (.qn z (.g (.q z (.s (lenv (hS.keep q_2) T.u25 z z) z (.qn z (.g (.q z (.q z (.q z (.qn z (.g (.q z (.q z (.q z (.q z (.q z (.q z (.q z (.q z (.c (.liv [0,(a2.length : Int),w64 (4 * (w64 ((w64 (a0 + 4)) + 24))),w64 (4 * (w64 ((w64 ((w64 (a0 + 4)) + 24)) + (w64 (16 * (a2.length : Int))))))] (D.int .i64) T.u25 T.t3 hS z z z z ?_ z (fun _=>z) z z z z)))))))))))))))))))))
 intro v1 W hS
 refine .qn z (.seq (.g (.qn z (.block ?_))))
 have ⟨y1,hy1,h⟩:=bnd h
 refine .via (.iter (fun s1 E' W'=>∃ (v4 : Hd),SubL E' [(1,(sv v_1)),(2,(sv v_2)),(7,.int .i64 (a2.length : Int)),(8,.int .i64 (w64 ((w64 (a0 + 4)) + 24))),(9,(sv v4)),(10,.int .i64 s1.2)] ∧ Sep No w W' [rowV (sv v4) 3 1 (D.int .i64) s1.1]) (fun y2 x E' W'=>x = .exit 0 ∧ ∃ (v5 : Hd),SubL E' [(2,(sv v_2)),(7,.int .i64 (a2.length : Int)),(8,.int .i64 (w64 ((w64 (a0 + 4)) + 24))),(9,(sv v5))] ∧ Sep No w W' [rowV (sv v5) 3 1 (D.int .i64) y2]) hy1 ⟨v1,sb z,hS.to [0] z⟩ ?_) ?_
 ·intro s1 y3 E W h hI
  obtain ⟨v3,hE,hS⟩:=hI
  refine CW.sub hE ?_
  unfold f4u at h
  refine .seq (.g (.q z (.q z (.nil ?_))))
  refine .cs z h ?_ ?_ <;> intro h
  ·refine .skip (.seq (.block (.g (.q z (.nil ?_)))))
   have ⟨y4,hy4,h⟩:=bnd h
   refine .seq (CW.via (R':=fun x E' W'=>x = .normal ∧ SubL E' [(1,(sv v_1)),(2,(sv v_2)),(7,.int .i64 (a2.length : Int)),(8,.int .i64 (w64 ((w64 (a0 + 4)) + 24))),(9,(sv v3)),(10,.int .i64 s1.2),(11,.int .i64 y4)] ∧ Sep No w W' [rowV (sv v3) 3 1 (D.int .i64) s1.1]) ?_ ?_)
   ·have h:=hy4
    refine .g (.q z (.q z (.s (lenv (hS.keep q_1) T.u25 z z) z (.q z (.nil ?_)))))
    refine .cs z h ?_ ?_ <;> intro h
    ·refine .region (.q z (.q z ?_))
     have ⟨x1,hx1,h⟩:=bnd h
     refine .s (ixv (hS.keep q_1) hx1 T.u25 T.t3 z z z) z (.s (lde (RV.flat (hS.keep q_1) hx1 z) T.t3 z z z z z) z (.q z (.nil ?_)))
     obtain rfl:=Option.some.inj h
     exact ⟨z,sb z,hS.to [0] z⟩
    refine .skip ?_
    cases h
    exact ⟨z,sb z,hS.to [0] z⟩
   intro x E W hJ
   obtain ⟨rfl,hE,hS⟩:=hJ
   refine ⟨_,hE.sub,?_⟩
   refine .region (.q z (.q z (.c (.liv [y4,0,0,0,0,0,0,0] (D.int .i64) T.u25 T.t3 hS z z z z ?_ z (fun _=>z) z z z z))))
   intro v6 W hS
   have ⟨r1,hr1,h⟩:=bnd h
   have hT0:=hS.p1
   refine .c (.apprv hr1 hT0 hT0.p1.lendv (fun _=>z) T.u25 T.t3 z z z ?_ z z z z z)
   intro v7 W hS
   refine .qn z (.region (.q z (.q z (.q z (.nil ?_)))))
   cases h
   exact ⟨z,v7,sb z,hS.to [0] z⟩
  refine .exit ?_
  cases h
  exact ⟨by simp,z,v3,sb z,hS.to [0] z⟩
 intro x E W hJ
 obtain ⟨rfl,v8,hE,hS⟩:=hJ
 refine ⟨_,hE.sub,?_⟩
 refine .seq (.g (.qn z (.block ?_)))
 have ⟨y5,hy5,h⟩:=bnd h
 refine .via (.iter (fun s2 E' W'=>∃ (v11 : Hd),SubL E' [(2,(sv v_2)),(7,.int .i64 (a2.length : Int)),(8,.int .i64 (w64 ((w64 (a0 + 4)) + 24))),(9,(sv v11)),(12,.int .i64 s2.2)] ∧ Sep No w W' [rowV (sv v11) 3 1 (D.int .i64) s2.1]) (fun y6 x E' W'=>x = .exit 2 ∧ ∃ (v12 : Hd),SubL E' [(7,.int .i64 (a2.length : Int)),(9,(sv v12))] ∧ Sep No w W' [rowV (sv v12) 3 1 (D.int .i64) y6]) hy5 ⟨v8,sb z,hS.to [0] z⟩ ?_) ?_
 ·intro s2 y7 E W h hI
  obtain ⟨v10,hE,hS⟩:=hI
  refine CW.sub hE ?_
  unfold f50 at h
  refine .seq (.g (.q z (.q z (.q z (.nil ?_)))))
  refine .cs z h ?_ ?_ <;> intro h
  ·refine .skip (.seq (.block (.seq (.region ?_))))
   have ⟨r2,hr2,h⟩:=bnd h
   refine .c (.mkv 0 (D.int .i64) hr2 T.u25 T.t3 hS z z z z z (fun _=>z) ?_ z z z)
   intro v13 W hS
   refine .qn z (.g (.q z (.q z (.q z ?_))))
   have ⟨x2,hx2,h⟩:=bnd h
   refine .s (ixv (hS.keep q_2) hx2 T.u25 T.t3 z z z) z (.s (lde (RV.flat (hS.keep q_2) hx2 z) T.t3 z z z z z) z (.q z ?_))
   have ⟨x3,hx3,h⟩:=bnd h
   refine .s (ixv hS.lendv hx3 T.u25 T.t3 z z z) z ?_
   have ⟨r3,hr3,h⟩:=bnd h
   refine .c (.sev hr3 hx3 hS T.t3 z z z z z z ?_ z z z z z z)
   intro W hS
   refine .nil (.g (.q z (.q z (.q z (.q z (.q z (.q z (.q z (.q z (.q z ?_))))))))))
   have ⟨x4,hx4,h⟩:=bnd h
   refine .s (ixv hS.lendv hx4 T.u25 T.t3 z z z) z ?_
   have ⟨r4,hr4,h⟩:=bnd h
   refine .c (.sev hr4 hx4 hS T.t3 z z z z z z ?_ z z z z z z)
   intro W hS
   refine .nil (.region (.q z (.q z ?_)))
   have ⟨r5,hr5,h⟩:=bnd h
   have hT0:=hS.p1
   refine .c (.apprv hr5 hT0 hT0.p1.lendv (fun _=>z) T.u25 T.t3 z z z ?_ z z z z z)
   intro v14 W hS
   refine .qn z (.region (.q z (.q z (.q z (.nil ?_)))))
   cases h
   exact ⟨z,v14,sb z,hS.to [0] z⟩
  refine .exit ?_
  cases h
  exact ⟨by simp,z,v10,sb z,hS.to [0] z⟩
 intro x E W hJ
 obtain ⟨rfl,v15,hE,hS⟩:=hJ
 refine ⟨_,hE.sub,?_⟩
 refine .g (.q z (.q z (.q z ?_)))
 have ⟨r6,hr6,h⟩:=bnd h
 refine .c (.appz 0 hr6 hS T.u25 T.u3 T.t3 z z z z ?_ (fun _=>z) z z z z z z)
 intro v16 W hS
 obtain rfl:=Option.some.inj h
 exact .qn z (.ret (fin_ret (vs:=[_]) v16 (rt z rn) z (hS.to [0] z)))
theorem fe6 {a0 : List Int} {a1 : Int} {a2 : Int} {v_0 : Hd} {S : Nat → Prop} {w : World} {r : Machine} (h : f7g a0 a1 a2 = some r) (hO : Owns w [rowV (sv v_0) 3 1 (D.int .i64) a0] S) (hlt : ∀ b,S b → b < w.heap.size) : Calls Tryz.prog 54 #[(sv v_0),.int .i64 a1,.int .i64 a2] w (Ret S w (fun s : Hd × Hd=>.agg #[(sv s.1),.int .i64 r.Pc,(sv s.2)]) (fun s=>[rowV (sv s.1) 3 1 (D.int .i64) r.Regs,rowV (sv s.2) 3 1 (D.int .i64) r.Mem])):=by
 unfold f7g at h
 refine enter Tryz.func54 z z ?_
 have hS:=Sep.startM hO hlt
 refine .g (.c (.alloc T.t27 hS ?_ z z z))
 intro g1 W hS
 refine .nil (.seq (.region ?_))
 have ⟨r1,hr1,h⟩:=bnd h
 refine .c (.mkv 0 (D.int .i64) hr1 T.u25 T.t3 hS z z z z z (fun _=>z) ?_ z z z)
 intro v1 W hS
 refine .q z (.q z (.q z (.s (bs T.s27 z z) z (.c (.alloc T.t27 hS ?_ z z z)))))
 intro g2 W hS
 refine .c (.st T.t27 hS z z z ?_ z z z z z)
 intro W hS
 refine .nil (.g (.q z (.q z (.q z (.qn z (.seq (.rk 8 hS [0,0,0,0] T.mix ?_)))))))
 intro W hS
 have hT:=hS.to [0,0,0,0] z
 refine .ts 0 z (fun W hT=>fa T.f27_0 z z z) hT z (by kernel_rfl) (.ts 1 z (fun W hT=>ld T.t25 hT z z z z z) hT z (by kernel_rfl) (.tp 2 z z hT (by kernel_rfl) (.tp 3 z z hT (by kernel_rfl) (.tp 4 z z hT (by kernel_rfl) ?_))))
 have ⟨x1,hx1,h⟩:=bnd h
 refine .ts 5 z (fun W hT=>ixv hS.p3.lendv hx1 T.u25 T.t3 z z z) hT z (by kernel_rfl) (.ts 6 z (fun W hT=>lde (RV.flat hT.p3.lendv hx1 z) T.t3 z z z z z) hT z (by kernel_rfl) ?_)
 have ⟨x2,hx2,h⟩:=bnd h
 refine .ts 7 z (fun W hT=>ixv hS.p1.lendv hx2 T.u25 T.t3 z z z) hT z (by kernel_rfl) ?_
 have ⟨r2,hr2,h⟩:=bnd h
 refine .by1 8 z (.sev hr2 hx2 hS.p1 T.t3 z z z z z z ?_ z z z z z z) (by kernel_rfl)
 intro W hS
 refine ⟨fun h=>absurd z h,?_⟩
 refine .done (.g (.s (fa T.f27_0 z z z) z (.s (ld T.t25 hS.p1 z z z z z) z (.q z (.q z ?_))))) (by kernel_rfl)
 have ⟨x3,hx3,h⟩:=bnd h
 refine .s (ixv hS.lendv hx3 T.u25 T.t3 z z z) z ?_
 have ⟨r3,hr3,h⟩:=bnd h
 refine .c (.sev hr3 hx3 hS T.t3 z z z z z z ?_ z z z z z z)
 intro W hS
 refine .nil (.g (.s (fa T.f27_0 z z z) z (.s (ld T.t25 hS.p1 z z z z z) z (.q z (.q z ?_)))))
 have ⟨x4,hx4,h⟩:=bnd h
 refine .s (ixv hS.lendv hx4 T.u25 T.t3 z z z) z ?_
 have ⟨r4,hr4,h⟩:=bnd h
 refine .c (.sev hr4 hx4 hS T.t3 z z z z z z ?_ z z z z z z)
 intro W hS
 refine .nil (.g (.s (ld T.t27 hS.p1 z z z z z) z (.c (.st T.t27 hS.p2 z z z ?_ z z z z z))))
 intro W hS
 cases h
 exact .nil (.ret (fin_ret (vs:=[_]) (v1,v_0) (rc hS T.t27 z rn z z) z (hS.to [1,2] z)))
def fe4 (w : World) (r : Machine × Int × Bool) : Env → World → Prop:=Fin Tryz.prog Tryz.f26 No w (fun s : Hd × Hd=>.tuple #[.agg #[(sv s.1),.int .i64 r.1.Pc,(sv s.2)],.int .i64 r.2.1,.bool r.2.2]) (fun s=>[rowV (sv s.1) 3 1 (D.int .i64) r.1.Regs,rowV (sv s.2) 3 1 (D.int .i64) r.1.Mem]) .ret
theorem fd5 {a0 : List Int} {a1 : List (List Instr)} {v_0 : Hd} {v_1 : Hd} {w : World} {r : Machine × Int × Bool} (h : f4s a0 a1 = some r) (q_0 : RV w (Old No w) (sv v_0) 3 1 (D.int .i64) a0) (q_1 : RV w (Old No w) (sv v_1) 23 1 (fun (l : List Instr)=>D.row 32 5 (l.map dInstr)) a1) : Calls Tryz.prog 26 #[(sv v_0),(sv v_1)] w (Ret No w (fun s : Hd × Hd=>.tuple #[.agg #[(sv s.1),.int .i64 r.1.Pc,(sv s.2)],.int .i64 r.2.1,.bool r.2.2]) (fun s=>[rowV (sv s.1) 3 1 (D.int .i64) r.1.Regs,rowV (sv s.2) 3 1 (D.int .i64) r.1.Mem])):=by
 unfold f4s at h
 refine enter Tryz.func26 z z ?_
 have hS:=Sep.start w
 refine .g (.c (.alloc T.t27 hS ?_ z z z))
 intro g1 W hS
 refine .q z (.qn z (.g (.s (bs T.s27 z z) z (.c (.alloc T.t27 hS ?_ z z z)))))
 intro g2 W hS
 refine .c (.st T.t27 hS z z z ?_ z z z z z)
 intro W hS
 refine .nil (.seq (.g (.q z ?_)))
 have ⟨y1,hy1,h⟩:=bnd h
 refine .c (.call0 hS Tryz.func47 (fd0 hy1 (hS.keep q_0)) z z ?_ z z z z)
 intro W hS
 refine .q z (.q z ?_)
 have ⟨b1,hb1,h⟩:=bnd h
 refine .chunk 5 24 (b1) hS ?_ ?_
 ·refine .both (!y1) (fun hb=>?_) (fun hb=>?_)
  ·refine .xx hb z (.xx hb z (.xx hb z (.xx hb z ?_)))
   cases sel_t hb hb1
   exact .s (pkt hb z z z) z (.nil (ck 5 hS z z z z))
  have hg1:=hb
  have h:=sel_f hb hb1
  refine .g hg1 (.q z (.g hg1 (.s (lenv (hS.keep q_1) T.u39 z z) z ?_) z)) z
  have ⟨y2,hy2,h⟩:=bnd h
  refine .g hg1 (.c (.call0 hS Tryz.func48 (f07 hy2) z z ?_ z z z z)) z
  intro W hS
  refine .g hg1 (.q z (.s (pkf hg1 z z z) z ?_)) z
  cases h
  exact .nil (ck 5 hS z z z z)
 intro W hS
 refine .nil (.cond z (fun hb=>?_) (fun hb=>?_))
 ·have h:=sel_t hb h
  refine .g (.s (ld T.t27 hS z z z z z) z (.c (.st T.t27 hS.p1 z z z ?_ z z z z z)))
  intro W hS
  refine .q z (.qn z (.ret ?_))
  have hS:=hS.nilv 3 1 (D.int .i64)
  have hS:=hS.nilv 3 1 (D.int .i64)
  cases h
  exact fin_ret (vs:=[_,_,_]) (nilH,nilH) (rc hS.p2 T.t27 z (rt z (rt z rn)) z z) z (hS.to [1,0] z)
 have h:=sel_f hb h
 refine .skip (.g (.c (.liv [] (D.int .i64) T.u25 T.t3 hS z z z z ?_ z (fun _=>z) z z z z)))
 intro v1 W hS
 have ⟨y3,hy3,h⟩:=bnd h
 refine .c (.call1v hS Tryz.func52 (fen hy3) z z ?_ z z z z)
 intro v2 W hS
 have ⟨y4,hy4,h⟩:=bnd h
 have hS:=hS.p1
 refine .c (.callS2 (L0:=[rowV (sv v1) 3 1 (D.int .i64) []]) hS Tryz.func38 (fun S h1 h2 h3=>(fbk hy4 (h3.rdv (k:=0) z) h2 (zz h1))) z z ?_ z z z z)
 rintro v3 W hS
 refine .q z (.q z (.q z (.q z (.qn z (.g (.c (.liv [] (D.int .i64) T.u25 T.t3 hS z z z z ?_ z (fun _=>z) z z z z)))))))
 intro v4 W hS
 refine .qn z (.seq (.g (.qn z (.block ?_))))
 have ⟨y5,hy5,h⟩:=bnd h
 refine .via (.iter (fun s1 E' W'=>∃ (v9 : Hd) (v10 : Hd),SubL E' [(0,(sv v_0)),(1,(sv v_1)),(4,.pointer (some ⟨g1,0,none⟩)),(7,.pointer (some ⟨g2,0,none⟩)),(8,(sv v9)),(10,(sv v10)),(11,.int .i64 s1.2.2)] ∧ Sep No w W' [rowV (sv v2) 32 5 dInstr y3,.box g2 27 [(sv nilH),.int .i64 0,(sv nilH)],.box g1 27 [(sv nilH),.int .i64 0,(sv nilH)],rowV (sv v9) 3 1 (D.int .i64) s1.1,rowV (sv v10) 3 1 (D.int .i64) s1.2.1]) (fun y6 x E' W'=>(match y6 with | .inl o1=>x = .ret ∧ fe4 w o1 E' W' | .inr o2=>x = .exit 0 ∧ ∃ (v11 : Hd) (v12 : Hd),SubL E' [(0,(sv v_0)),(4,.pointer (some ⟨g1,0,none⟩)),(7,.pointer (some ⟨g2,0,none⟩)),(8,(sv v11)),(10,(sv v12))] ∧ Sep No w W' [rowV (sv v2) 32 5 dInstr y3,.box g2 27 [(sv nilH),.int .i64 0,(sv nilH)],.box g1 27 [(sv nilH),.int .i64 0,(sv nilH)],rowV (sv v11) 3 1 (D.int .i64) o2.1,rowV (sv v12) 3 1 (D.int .i64) o2.2])) hy5 ⟨v3,v4,sb rfl,hS.to [2,2,2,1,0] rfl⟩ ?_) ?_
 ·intro s1 y7 E W h hI
  obtain ⟨v7,v8,hE,hS⟩:=hI
  refine CW.sub hE ?_
  unfold f39 at h
  refine .seq (.g (.q z (.q z (.s (lenv (hS.keep q_1) T.u39 z z) z (.q z (.nil ?_))))))
  refine .cs z h ?_ ?_ <;> intro h
  ·refine .skip (.seq (.block (.g (.q z (.q z (.s (lenv hS.p3.lendv T.u25 z z) z (.c (.liv [(s1.1.length : Int)] (D.int .i64) T.u25 T.t3 hS z z z z ?_ z (fun _=>z) z z z z))))))))
   intro v13 W hS
   have ⟨r1,hr1,h⟩:=bnd h
   have hT0:=hS.p5
   refine .c (.apprv hr1 hT0 hT0.p1.lendv (fun _=>z) T.u25 T.t3 z z z ?_ z z z z z)
   intro v14 W hS
   refine .qn z (.seq (.g (.q z (.q z ?_))))
   have ⟨x1,hx1,h⟩:=bnd h
   obtain ⟨k1,hd,hck1⟩:=RV.el2 q_1 hx1
   obtain ⟨v15,k1,rfl,q9,hd1⟩:=rrowv q_1 hd
   obtain rfl:=rnil q_1 hd1
   refine .s (ixv (hS.keep q_1) hx1 T.u39 T.t23 z z z) z (.s (lde (hck1 _ hS.agree) T.t23 z z z z z) z (.s (lenv (hS.keep (q9 _ q_1)) T.u23 z z) z (.qn z (.cond z (fun hb=>?_) (fun hb=>?_)))))
   ·have h:=sel_t hb h
    refine .g (.s (ld T.t27 hS.p3 z z z z z) z (.c (.st T.t27 hS.p4 z z z ?_ z z z z z)))
    intro W hS
    refine .q z (.qn z (.ret ?_))
    have hS:=hS.nilv 3 1 (D.int .i64)
    have hS:=hS.nilv 3 1 (D.int .i64)
    cases h
    exact ⟨by simp,z,fin_ret (vs:=[_,_,_]) (nilH,nilH) (rc hS.p2 T.t27 z (rt z (rt z rn)) z z) z (hS.to [1,0] z)⟩
   have h:=sel_f hb h
   refine .skip (.g (.q z (.q z (.q z ?_))))
   have ⟨x2,hx2,h⟩:=bnd h
   obtain ⟨k2,hd,hck2⟩:=RV.el2 q_1 hx2
   obtain ⟨v16,k2,rfl,q10,hd1⟩:=rrowv q_1 hd
   obtain rfl:=rnil q_1 hd1
   refine .s (ixv (hS.keep q_1) hx2 T.u39 T.t23 z z z) z (.s (lde (hck2 _ hS.agree) T.t23 z z z z z) z ?_)
   have ⟨y8,hy8,h⟩:=bnd h
   have hS:=hS.p5
   refine .c (.callS2 (L0:=[rowV (sv v7) 3 1 (D.int .i64) s1.1]) hS Tryz.func38 (fun S h1 h2 h3=>(fbk hy8 (hS.keepS (q10 _ q_1) h1) h2 (zz h1))) z z ?_ z z z z)
   rintro v17 W hS
   refine .q z (.q z (.q z (.q z (.qn z (.seq (.g (.q z (.q z (.nil ?_)))))))))
   refine .cs z h ?_ ?_ <;> intro h
   ·refine .g (.s (ld T.t27 hS.p4 z z z z z) z (.c (.st T.t27 hS.p5 z z z ?_ z z z z z)))
    intro W hS
    refine .q z (.qn z (.ret ?_))
    have hS:=hS.nilv 3 1 (D.int .i64)
    have hS:=hS.nilv 3 1 (D.int .i64)
    cases h
    exact ⟨by simp,z,fin_ret (vs:=[_,_,_]) (nilH,nilH) (rc hS.p2 T.t27 z (rt z (rt z rn)) z z) z (hS.to [1,0] z)⟩
   refine .skip (.region (.q z (.qn z (.region (.q z (.q z (.q z (.nil ?_))))))))
   cases h
   exact ⟨z,v17,v14,sb z,hS.to [3,3,3,0,0] z⟩
  refine .exit ?_
  cases h
  exact ⟨by simp,z,v7,v8,sb z,hS.to [0,0,0,0,0] z⟩
 intro x E W hJ
 rcases y5 with o3 | o4
 ·obtain ⟨rfl,hF⟩:=hJ
  refine ⟨_,fun _ _ h=>h,?_⟩
  cases h
  exact hF
 obtain ⟨rfl,v18,v19,hE,hS⟩:=hJ
 refine ⟨_,hE.sub,?_⟩
 refine .g (.q z (.s (lenv hS.p3.lendv T.u25 z z) z (.qn z (.g (.q z (.q z (.q z (.q z ?_))))))))
 have ⟨y9,hy9,h⟩:=bnd h
 refine .c (.call1v hS Tryz.func53 (fdq hy9 (hS.keep q_0) hS.p4.lendv) z z ?_ z z z z)
 intro v20 W hS
 have ⟨r2,hr2,h⟩:=bnd h
 have hT0:=hS.p4
 refine .c (.apprv hr2 hT0 hT0.p1.lendv (fun _=>z) T.u25 T.t3 z z z ?_ z z z z z)
 intro v21 W hS
 refine .qn z (.seq (.g (.q z (.s (lenv hS.lendv T.u25 z z) z (.qn z (.cond z (fun hb=>?_) (fun hb=>?_)))))))
 ·have h:=sel_t hb h
  refine .g (.s (ld T.t27 hS.p3 z z z z z) z (.c (.st T.t27 hS.p4 z z z ?_ z z z z z)))
  intro W hS
  refine .q z (.qn z (.ret ?_))
  have hS:=hS.nilv 3 1 (D.int .i64)
  have hS:=hS.nilv 3 1 (D.int .i64)
  cases h
  exact fin_ret (vs:=[_,_,_]) (nilH,nilH) (rc hS.p2 T.t27 z (rt z (rt z rn)) z z) z (hS.to [1,0] z)
 have h:=sel_f hb h
 refine .skip (.g (.q z (.q z (.q z ?_))))
 have ⟨x3,hx3,h⟩:=bnd h
 refine .s (ixv hS.p5.lendv hx3 T.u25 T.t3 z z z) z (.s (lde (RV.flat hS.p5.lendv hx3 z) T.t3 z z z z z) z ?_)
 have ⟨y10,hy10,h⟩:=bnd h
 refine .c (.callS2 (L0:=[rowV (sv v21) 3 1 (D.int .i64) r2]) hS Tryz.func54 (fun S h1 h2 h3=>(fe6 hy10 h2 (zz h1))) z z ?_ z z z z)
 rintro ⟨v22,v23⟩ W hS
 refine .q z (.q z (.c (.st T.t27 hS.p5 z z z ?_ z z z z z)))
 intro W hS
 cases h
 exact .q z (.qn z (.ret (fin_ret (vs:=[_,_,_]) (v22,v23) (rc hS T.t27 z (rt z (rt z rn)) z z) z (hS.to [1,1] z))))
theorem f6s {a0 : List Int} {v_0 : Hd} {w : World} {r : (List Int)} (h : f1b a0 = some r) (q_0 : RV w (Old No w) (sv v_0) 3 1 (D.int .i64) a0) : Calls Tryz.prog 55 #[(sv v_0)] w (Ret No w (fun s : Hd=>(sv s)) (fun s=>[rowV (sv s) 3 1 (D.int .i64) r])):=by
 unfold f1b at h
 refine enter Tryz.func55 z z ?_
 have hS:=Sep.start w
 refine .g (.qn z (.seq (.g (.q z (.s (nilq T.u25 z z) z (.nil (.cond z (fun hb=>?_) (fun hb=>?_))))))))
 ·have hl:=RV.isnil q_0 hb
  subst hl
  refine .g (.qn z (.ret ?_))
  have hS:=hS.nilv 3 1 (D.int .i64)
  have h : some [] = some r:=h
  cases h
  exact fin_ret (vs:=[_]) nilH (rt z rn) z (hS.to [0] z)
 refine .skip (.g (.c (.liv [] (D.int .i64) T.u25 T.t3 hS z z z z ?_ z (fun _=>z) z z z z)))
 intro v1 W hS
 refine .q z ?_
 have ⟨r1,hr1,h⟩:=bnd h
 refine .c (.apprv hr1 hS (hS.keep q_0) (fun _=>z) T.u25 T.t3 z z z ?_ z z z z z)
 intro v2 W hS
 obtain rfl:=Option.some.inj h
 exact .qn z (.ret (fin_ret (vs:=[_]) v2 (rt z rn) z (hS.to [0] z)))
def fez (w : World) (r : Bool) : Env → World → Prop:=Fin Tryz.prog Tryz.f93 No w (fun s : Unit=>.bool r) (fun s=>[]) .ret
theorem fb7 {a0 : List Int} {a1 : Int} {v_0 : Hd} {w : World} {r : Bool} (h : f3h a0 a1 = some r) (q_0 : RV w (Old No w) (sv v_0) 3 1 (D.int .i64) a0) : Calls Tryz.prog 93 #[(sv v_0),.int .i64 a1] w (Ret No w (fun s : Unit=>.bool r) (fun s=>[])):=by
 unfold f3h at h
 refine enter Tryz.func93 z z ?_
 have hS:=Sep.start w
 refine .g (.qn z (.seq (.g (.q z (.s (lenv (hS.keep q_0) T.u25 z z) z (.q z (.q z (.nil ?_))))))))
 refine .cs z h ?_ ?_ <;> intro h
 ·obtain rfl:=Option.some.inj h
  exact .g (.qn z (.ret (fin_ret (vs:=[_]) () (rt z rn) z (hS.to [] z))))
 refine .skip (.seq (.g (.qn z (.block ?_))))
 have ⟨y1,hy1,h⟩:=bnd h
 refine .via (.iter (fun s1 E' W'=>SubL E' [(0,(sv v_0)),(5,.int .i64 s1)] ∧ Sep No w W' []) (fun y2 x E' W'=>(match y2 with | .inl o1=>x = .ret ∧ fez w o1 E' W' | .inr o2=>x = .exit 0 ∧ SubL E' [] ∧ Sep No w W' [])) hy1 ⟨sb rfl,hS.to [] rfl⟩ ?_) ?_
 ·intro s1 y3 E W h hI
  obtain ⟨hE,hS⟩:=hI
  refine CW.sub hE ?_
  unfold f54 at h
  refine .seq (.g (.q z (.q z (.s (lenv (hS.keep q_0) T.u25 z z) z (.q z (.nil ?_))))))
  refine .cs z h ?_ ?_ <;> intro h
  ·refine .skip (.seq (.block (.g (.q z (.q z ?_)))))
   have ⟨x1,hx1,h⟩:=bnd h
   refine .s (ixv (hS.keep q_0) hx1 T.u25 T.t3 z z z) z (.s (lde (RV.flat (hS.keep q_0) hx1 z) T.t3 z z z z z) z ?_)
   have ⟨y4,hy4,h⟩:=bnd h
   refine .c (.call0 hS Tryz.func94 (f2t hy4) z z ?_ z z z z)
   intro W hS
   refine .q z (.nil ?_)
   refine .cs z h ?_ ?_ <;> intro h
   ·refine .g (.qn z (.ret ?_))
    cases h
    exact ⟨by simp,z,fin_ret (vs:=[_]) () (rt z rn) z (hS.to [] z)⟩
   refine .skip (.region (.q z (.q z (.q z (.nil ?_)))))
   cases h
   exact ⟨z,sb z,hS.to [] z⟩
  refine .exit ?_
  cases h
  exact ⟨by simp,z,sb z,hS.to [] z⟩
 intro x E W hJ
 rcases y1 with o3 | o4
 ·obtain ⟨rfl,hF⟩:=hJ
  refine ⟨_,fun _ _ h=>h,?_⟩
  cases h
  exact hF
 obtain ⟨rfl,hE,hS⟩:=hJ
 refine ⟨_,hE.sub,?_⟩
 obtain rfl:=Option.some.inj h
 exact .g (.qn z (.ret (fin_ret (vs:=[_]) () (rt z rn) z (hS.to [] z))))
end Go.Proofs.YtmpplggjpmmhlaaGreatDoor.N
namespace Go.Proofs.YtmpplggjpmmhlaaGreatDoor.N
open Go.Proofs.YtmpplggjpmmhlaaGreatDoor.X
theorem fbo {a0 : Machine} {v_0_Regs : Hd} {v_0_Mem : Hd} {w : World} {r : Bool} (h : f3u a0 = some r) (q_0_Regs : RV w (Old No w) (sv v_0_Regs) 3 1 (D.int .i64) a0.Regs) (q_0_Mem : RV w (Old No w) (sv v_0_Mem) 3 1 (D.int .i64) a0.Mem) : Calls Tryz.prog 62 #[.agg #[(sv v_0_Regs),.int .i64 a0.Pc,(sv v_0_Mem)]] w (Ret No w (fun s : Unit=>.bool r) (fun s=>[])):=by
 unfold f3u at h
 refine enter Tryz.func62 z z ?_
 have hS:=Sep.start w
 refine .g (.c (.box hS z z ?_ z z))
 intro g1 W hS
 refine .qn z (.g (.s (fa T.f27_0 z z z) z (.s (ld T.t25 hS z z z z z) z ?_)))
 have ⟨y1,hy1,h⟩:=bnd h
 refine .c (.call0 hS Tryz.func93 (fb7 hy1 (hS.keep q_0_Regs)) z z ?_ z z z z)
 intro W hS
 refine .q z ?_
 have ⟨b1,hb1,h⟩:=bnd h
 refine .chunk 6 12 (b1) hS ?_ ?_
 ·refine .both (y1) (fun hb=>?_) (fun hb=>?_)
  ·have hg1:=hb
   have h:=sel_t hb hb1
   refine .g hg1 (.s (fa T.f27_0 z z z) z (.g hg1 (.s (ld T.t25 hS z z z z z) z ?_) z)) z
   have ⟨x1,hx1,h⟩:=bnd h
   refine .g hg1 (.s (ixv (hS.keep q_0_Regs) hx1 T.u25 T.t3 z z z) z (.g hg1 (.s (lde (RV.flat (hS.keep q_0_Regs) hx1 z) T.t3 z z z z z) z (.g hg1 (.q z (.s (pkt hg1 z z z) z ?_)) z)) z)) z
   cases h
   exact .nil (ck 6 hS z z z z)
  refine .xx hb z (.xx hb z (.xx hb z (.xx hb z (.xx hb z ?_))))
  cases sel_f hb hb1
  exact .s (pkf hb z z z) z (.nil (ck 6 hS z z z z))
 intro W hS
 refine .q z ?_
 have ⟨b2,hb2,h⟩:=bnd h
 refine .chunk 4 17 (b2) hS ?_ ?_
 ·refine .both (b1) (fun hb=>?_) (fun hb=>?_)
  ·have hg2:=hb
   have h:=sel_t hb hb2
   refine .g hg2 (.s (fa T.f27_1 z z z) z (.g hg2 (.s (ld T.t3 hS z z z z z) z ?_) z)) z
   have ⟨y2,hy2,h⟩:=bnd h
   refine .g hg2 (.c (.call0 hS Tryz.func94 (f2t hy2) z z ?_ z z z z)) z
   intro W hS
   refine .s (pkt hg2 z z z) z ?_
   cases h
   exact .nil (ck 4 hS z z z z)
  refine .xx hb z (.xx hb z (.xx hb z ?_))
  cases sel_f hb hb2
  exact .s (pkf hb z z z) z (.nil (ck 4 hS z z z z))
 intro W hS
 refine .q z (.chunk 5 23 (b2 && (decide ((a0.Mem.length : Int) ≤ 10000))) hS ?_ ?_)
 ·refine .both (b2) (fun hb=>?_) (fun hb=>?_)
  ·have hg3:=hb
   exact .g hg3 (.s (fa T.f27_2 z z z) z (.g hg3 (.s (ld T.t25 hS z z z z z) z (.g hg3 (.s (lenv (hS.keep q_0_Mem) T.u25 z z) z (.g hg3 (.q z (.s (pkt hg3 z z z) z (.nil (ck 5 hS z (and_t hg3) z z)))) z)) z)) z)) z
  exact .xx hb z (.xx hb z (.xx hb z (.xx hb z (.s (pkf hb z z z) z (.nil (ck 5 hS z (and_f hb) z z))))))
 intro W hS
 refine .q z ?_
 have ⟨b3,hb3,h⟩:=bnd h
 refine .chunk 7 31 (b3) hS ?_ ?_
 ·refine .both (b2 && (decide ((a0.Mem.length : Int) ≤ 10000))) (fun hb=>?_) (fun hb=>?_)
  ·have hg4:=hb
   have h:=sel_t hb hb3
   refine .g hg4 (.s (fa T.f27_2 z z z) z (.g hg4 (.s (ld T.t25 hS z z z z z) z (.g hg4 (.s (fa T.f27_2 z z z) z (.g hg4 (.s (ld T.t25 hS z z z z z) z (.g hg4 (.s (lenv (hS.keep q_0_Mem) T.u25 z z) z ?_) z)) z)) z)) z)) z
   have ⟨y3,hy3,h⟩:=bnd h
   refine .g hg4 (.c (.call0 hS Tryz.func93 (fb7 hy3 (hS.keep q_0_Mem)) z z ?_ z z z z)) z
   intro W hS
   refine .s (pkt hg4 z z z) z ?_
   cases h
   exact .nil (ck 7 hS z z z z)
  refine .xx hb z (.xx hb z (.xx hb z (.xx hb z (.xx hb z (.xx hb z ?_)))))
  cases sel_f hb hb3
  exact .s (pkf hb z z z) z (.nil (ck 7 hS z z z z))
 intro W hS
 obtain rfl:=Option.some.inj h
 exact .qn z (.ret (fin_ret (vs:=[_]) () (rt z rn) z (hS.to [] z)))
theorem fe8 {a0 : Machine} {v_0_Regs : Hd} {v_0_Mem : Hd} {w : World} {r : Machine} (h : f81 a0 = some r) (q_0_Regs : RV w (Old No w) (sv v_0_Regs) 3 1 (D.int .i64) a0.Regs) (q_0_Mem : RV w (Old No w) (sv v_0_Mem) 3 1 (D.int .i64) a0.Mem) : Calls Tryz.prog 63 #[.agg #[(sv v_0_Regs),.int .i64 a0.Pc,(sv v_0_Mem)]] w (Ret No w (fun s : Hd × Hd=>.agg #[(sv s.1),.int .i64 r.Pc,(sv s.2)]) (fun s=>[rowV (sv s.1) 3 1 (D.int .i64) r.Regs,rowV (sv s.2) 3 1 (D.int .i64) r.Mem])):=by
 unfold f81 at h
 refine enter Tryz.func63 z z ?_
 have hS:=Sep.start w
 refine .g (.c (.box hS z z ?_ z z))
 intro g1 W hS
 refine .c (.alloc T.t27 hS ?_ z z z)
 intro g2 W hS
 refine .nil (.seq ?_)
 have ⟨r1,hr1,h⟩:=bnd h
 have ⟨r2,hr2,h⟩:=bnd h
 refine .via (R':=fun x E' W'=>x = .normal ∧ ∃ (v1 : Hd) (v2 : Hd),SubL E' [(2,.pointer (some ⟨g2,0,none⟩))] ∧ Sep No w W' [.box g2 27 [(sv v1),.int .i64 a0.Pc,(sv v2)],.box g1 27 [(sv v_0_Regs),.int .i64 a0.Pc,(sv v_0_Mem)],rowV (sv v1) 3 1 (D.int .i64) r1,rowV (sv v2) 3 1 (D.int .i64) r2]) ?_ ?_
 ·refine .rk 11 hS [0,0] T.mix ?_
  intro W hS
  have hT:=hS.to [0,0] z
  refine .ts 1 z (fun W hT=>fa T.f27_0 z z z) hT z (by kernel_rfl) (.ts 2 z (fun W hT=>ld T.t25 hT.p1 z z z z z) hT z (by kernel_rfl) (.ts 4 z (fun W hT=>fa T.f27_1 z z z) hT z (by kernel_rfl) (.ts 5 z (fun W hT=>ld T.t3 hT.p1 z z z z z) hT z (by kernel_rfl) (.ts 7 z (fun W hT=>fa T.f27_2 z z z) hT z (by kernel_rfl) (.ts 8 z (fun W hT=>ld T.t25 hT.p1 z z z z z) hT z (by kernel_rfl) (.by [0,6] ⟨⟨_,z,?_⟩,⟨_,z,?_⟩,trivial⟩ (by kernel_rfl) z))))))
  ·refine (.liv [] (D.int .i64) T.u25 T.t3 hS z z z z ?_ z (fun _=>z) z z z z)
   intro v3 W hS
   have hT:=hS.to [1,1] z
   refine ⟨fun _=>hT,.by [3,6] ⟨⟨_,z,?_⟩,⟨_,z,?_⟩,trivial⟩ (by kernel_rfl) z⟩
   ·refine (.apprv hr1 hS (hS.keep q_0_Regs) (fun _=>z) T.u25 T.t3 z z z ?_ z z z z z)
    intro v4 W hS
    have hT:=hS.to [1,1] z
    refine ⟨fun _=>hT,.by1 6 z (.liv [] (D.int .i64) T.u25 T.t3 hS z z z z ?_ z (fun _=>z) z z z z) (by kernel_rfl)⟩
    intro v5 W hS
    have hT:=hS.to [2,2] z
    refine ⟨fun _=>hT,.by1 9 z (.apprv hr2 hS (hS.keep q_0_Mem) (fun _=>z) T.u25 T.t3 z z z ?_ z z z z z) (by kernel_rfl)⟩
    intro v6 W hS
    have hT:=hS.to [2,2] z
    refine ⟨fun _=>hT,.ts 10 z (fun W hT=>bs T.s27 z z) hT z (by kernel_rfl) (.by1 11 z (.st T.t27 hS.p2 z z z ?_ z z z z z) (by kernel_rfl))⟩
    intro W hS
    refine ⟨fun h=>absurd z h,?_⟩
    exact .done (⟨z,v4,v6,sb z,hS.to [0,2,1,0] z⟩) (by kernel_rfl)
   refine (.liv [] (D.int .i64) T.u25 T.t3 hS z z z z ?_ z (fun _=>z) z z z z)
   intro v7 W hS
   have hT:=hS.to [2,2] z
   refine ⟨fun _=>hT,.by1 3 z (.apprv hr1 hS.p1 (hS.keep q_0_Regs) (fun _=>z) T.u25 T.t3 z z z ?_ z z z z z) (by kernel_rfl)⟩
   intro v8 W hS
   have hT:=hS.to [2,2] z
   refine ⟨fun _=>hT,.by1 9 z (.apprv hr2 hS.p1 (hS.keep q_0_Mem) (fun _=>z) T.u25 T.t3 z z z ?_ z z z z z) (by kernel_rfl)⟩
   intro v9 W hS
   have hT:=hS.to [2,2] z
   refine ⟨fun _=>hT,.ts 10 z (fun W hT=>bs T.s27 z z) hT z (by kernel_rfl) (.by1 11 z (.st T.t27 hS.p2 z z z ?_ z z z z z) (by kernel_rfl))⟩
   intro W hS
   refine ⟨fun h=>absurd z h,?_⟩
   exact .done (⟨z,v8,v9,sb z,hS.to [0,2,1,0] z⟩) (by kernel_rfl)
  refine (.liv [] (D.int .i64) T.u25 T.t3 hS z z z z ?_ z (fun _=>z) z z z z)
  intro v10 W hS
  have hT:=hS.to [1,1] z
  refine ⟨fun _=>hT,.by1 0 z (.liv [] (D.int .i64) T.u25 T.t3 hS z z z z ?_ z (fun _=>z) z z z z) (by kernel_rfl)⟩
  intro v11 W hS
  have hT:=hS.to [2,2] z
  refine ⟨fun _=>hT,.by1 3 z (.apprv hr1 hS (hS.keep q_0_Regs) (fun _=>z) T.u25 T.t3 z z z ?_ z z z z z) (by kernel_rfl)⟩
  intro v12 W hS
  have hT:=hS.to [2,2] z
  refine ⟨fun _=>hT,.by1 9 z (.apprv hr2 hS.p1 (hS.keep q_0_Mem) (fun _=>z) T.u25 T.t3 z z z ?_ z z z z z) (by kernel_rfl)⟩
  intro v13 W hS
  have hT:=hS.to [2,2] z
  refine ⟨fun _=>hT,.ts 10 z (fun W hT=>bs T.s27 z z) hT z (by kernel_rfl) (.by1 11 z (.st T.t27 hS.p2 z z z ?_ z z z z z) (by kernel_rfl))⟩
  intro W hS
  refine ⟨fun h=>absurd z h,?_⟩
  exact .done (⟨z,v12,v13,sb z,hS.to [0,2,1,0] z⟩) (by kernel_rfl)
 intro x E W hJ
 obtain ⟨rfl,v14,v15,hE,hS⟩:=hJ
 refine ⟨_,hE.sub,?_⟩
 cases h
 exact .ret (fin_ret (vs:=[_]) (v14,v15) (rc hS T.t27 z rn z z) z (hS.to [2,2] z))
theorem fba {a0 : List Int} {a1 : Int} {v_0 : Hd} {w : World} {r : Bool} (h : f4d a0 a1 = some r) (q_0 : RV w (Old No w) (sv v_0) 3 1 (D.int .i64) a0) : Calls Tryz.prog 95 #[(sv v_0),.int .i64 a1] w (Ret No w (fun s : Unit=>.bool r) (fun s=>[])):=by
 unfold f4d at h
 refine enter Tryz.func95 z z ?_
 have hS:=Sep.start w
 refine .g (.qn z (.g (.q z (.q z (.q z (.chunk 4 11 ((decide (a1 ≥ 0)) && ((Int.tmod a1 4) == 0)) hS ?_ ?_))))))
 ·refine .both (decide (a1 ≥ 0)) (fun hb=>?_) (fun hb=>?_)
  ·have hg1:=hb
   exact .g hg1 (.q z (.g hg1 (.q z (.g hg1 (.q z (.s (pkt hg1 z z z) z (.nil (ck 4 hS z (and_t hg1) z z)))) z)) z)) z
  exact .xx hb z (.xx hb z (.xx hb z (.s (pkf hb z z z) z (.nil (ck 4 hS z (and_f hb) z z)))))
 intro W hS
 refine .q z (.chunk 6 18 (((decide (a1 ≥ 0)) && ((Int.tmod a1 4) == 0)) && (decide ((w64 (Int.tdiv a1 4)) < (a0.length : Int)))) hS ?_ ?_)
 ·refine .both ((decide (a1 ≥ 0)) && ((Int.tmod a1 4) == 0)) (fun hb=>?_) (fun hb=>?_)
  ·have hg2:=hb
   exact .g hg2 (.q z (.g hg2 (.q z (.g hg2 (.q z (.g hg2 (.s (lenv (hS.keep q_0) T.u25 z z) z (.g hg2 (.q z (.s (pkt hg2 z z z) z (.nil (ck 6 hS z (and_t hg2) z z)))) z)) z)) z)) z)) z
  exact .xx hb z (.xx hb z (.xx hb z (.xx hb z (.xx hb z (.s (pkf hb z z z) z (.nil (ck 6 hS z (and_f hb) z z)))))))
 intro W hS
 cases h
 exact .qn z (.ret (fin_ret (vs:=[_]) () (rt z rn) z (hS.to [] z)))
def ffe (w : World) (r : Int) : Env → World → Prop:=Fin Tryz.prog Tryz.f112 No w (fun s : Unit=>.int .i64 r) (fun s=>[]) .ret
theorem fbu {a0 : Int} {w : World} {r : Int} (h : f67 a0 = some r) : Calls Tryz.prog 112 #[.int .i64 a0] w (Ret No w (fun s : Unit=>.int .i64 r) (fun s=>[])):=by
 unfold f67 at h
 refine enter Tryz.func112 z z ?_
 have hS:=Sep.start w
 refine .g (.qn z (.seq (.g (.q z ?_))))
 have ⟨y1,hy1,h⟩:=bnd h
 refine .c (.call0 hS Tryz.func138 (f06 hy1) z z ?_ z z z z)
 intro W hS
 refine .nil (.block (.g (.q z (.q z (.nil ?_)))))
 refine .cs z h ?_ ?_ <;> intro h
 ·refine .seq (.g (.qn z (.block ?_)))
  have ⟨y2,hy2,h⟩:=bnd h
  refine .via (.iter (fun s1 E' W'=>SubL E' [(0,.int .i64 a0),(3,.int .i64 s1)] ∧ Sep No w W' []) (fun y3 x E' W'=>(match y3 with | .inl o1=>x = .ret ∧ ffe w o1 E' W' | .inr o2=>x = .exit 1 ∧ SubL E' [] ∧ Sep No w W' [])) hy2 ⟨sb rfl,hS.to [] rfl⟩ ?_) ?_
  ·intro s1 y4 E W h hI
   obtain ⟨hE,hS⟩:=hI
   refine CW.sub hE ?_
   unfold f6u at h
   refine .seq (.g (.q z (.q z (.nil ?_))))
   refine .cs z h ?_ ?_ <;> intro h
   ·refine .skip (.seq (.block (.g (.q z ?_))))
    have ⟨y5,hy5,h⟩:=bnd h
    refine .c (.call0 hS Tryz.func138 (f06 hy5) z z ?_ z z z z)
    intro W hS
    refine .q z ?_
    have ⟨y6,hy6,h⟩:=bnd h
    refine .c (.call0 hS Tryz.func143 (faz hy6) z z ?_ z z z z)
    intro W hS
    refine .q z (.q z ?_)
    have ⟨b1,hb1,h⟩:=bnd h
    refine .chunk 6 23 (b1) hS ?_ ?_
    ·refine .both (y5 == y6) (fun hb=>?_) (fun hb=>?_)
     ·have hg1:=hb
      have h:=sel_t hb hb1
      refine .g hg1 (.q z ?_) z
      have ⟨y7,hy7,h⟩:=bnd h
      refine .g hg1 (.c (.call0 hS Tryz.func138 (f06 hy7) z z ?_ z z z z)) z
      intro W hS
      refine .g hg1 (.q z ?_) z
      have ⟨y8,hy8,h⟩:=bnd h
      refine .g hg1 (.c (.call0 hS Tryz.func142 (fb0 hy8) z z ?_ z z z z)) z
      intro W hS
      refine .g hg1 (.q z (.s (pkt hg1 z z z) z ?_)) z
      cases h
      exact .nil (ck 6 hS z z z z)
     refine .xx hb z (.xx hb z (.xx hb z (.xx hb z (.xx hb z ?_))))
     cases sel_f hb hb1
     exact .s (pkf hb z z z) z (.nil (ck 6 hS z z z z))
    intro W hS
    refine .nil ?_
    refine .cs z h ?_ ?_ <;> intro h
    ·refine .g (.q z (.qn z (.ret ?_)))
     cases h
     exact ⟨by simp,z,fin_ret (vs:=[_]) () (rt z rn) z (hS.to [] z)⟩
    refine .skip (.region (.q z (.q z (.q z (.nil ?_)))))
    cases h
    exact ⟨z,sb z,hS.to [] z⟩
   refine .exit ?_
   cases h
   exact ⟨by simp,z,sb z,hS.to [] z⟩
  intro x E W hJ
  rcases y2 with o3 | o4
  ·obtain ⟨rfl,hF⟩:=hJ
   refine ⟨_,fun _ _ h=>h,?_⟩
   cases h
   exact hF
  obtain ⟨rfl,hE,hS⟩:=hJ
  refine ⟨_,hE.sub,?_⟩
  cases h
  exact .g (.qn z (.ret (fin_ret (vs:=[_]) () (rt z rn) z (hS.to [] z))))
 refine .g (.q z (.q z (.nil ?_)))
 refine .cs z h ?_ ?_ <;> intro h
 ·refine .seq (.g (.q z ?_))
  have ⟨y9,hy9,h⟩:=bnd h
  refine .c (.call0 hS Tryz.func138 (f06 hy9) z z ?_ z z z z)
  intro W hS
  refine .q z (.nil ?_)
  refine .cs z h ?_ ?_ <;> intro h
  ·cases h
   exact .g (.qn z (.ret (fin_ret (vs:=[_]) () (rt z rn) z (hS.to [] z))))
  cases h
  exact .skip (.g (.qn z (.ret (fin_ret (vs:=[_]) () (rt z rn) z (hS.to [] z)))))
 refine .g (.q z (.q z (.nil ?_)))
 refine .cs z h ?_ ?_ <;> intro h
 ·cases h
  exact .g (.qn z (.ret (fin_ret (vs:=[_]) () (rt z rn) z (hS.to [] z))))
 refine .g (.q z (.q z (.nil ?_)))
 refine .cs z h ?_ ?_ <;> intro h
 ·cases h
  exact .g (.qn z (.ret (fin_ret (vs:=[_]) () (rt z rn) z (hS.to [] z))))
 refine .g (.q z (.q z (.nil ?_)))
 refine .cs z h ?_ ?_ <;> intro h
 ·cases h
  exact .g (.qn z (.ret (fin_ret (vs:=[_]) () (rt z rn) z (hS.to [] z))))
 refine .g (.q z (.q z (.nil ?_)))
 refine .cs z h ?_ ?_ <;> intro h
 ·refine .seq (.g (.q z ?_))
  have ⟨y10,hy10,h⟩:=bnd h
  refine .c (.call0 hS Tryz.func138 (f06 hy10) z z ?_ z z z z)
  intro W hS
  refine .q z (.nil ?_)
  refine .cs z h ?_ ?_ <;> intro h
  ·cases h
   exact .g (.qn z (.ret (fin_ret (vs:=[_]) () (rt z rn) z (hS.to [] z))))
  cases h
  exact .skip (.g (.qn z (.ret (fin_ret (vs:=[_]) () (rt z rn) z (hS.to [] z)))))
 refine .g (.q z (.q z (.nil ?_)))
 refine .cs z h ?_ ?_ <;> intro h
 ·cases h
  exact .g (.qn z (.ret (fin_ret (vs:=[_]) () (rt z rn) z (hS.to [] z))))
 refine .g (.q z (.q z (.nil ?_)))
 refine .cs z h ?_ ?_ <;> intro h
 ·cases h
  exact .g (.qn z (.ret (fin_ret (vs:=[_]) () (rt z rn) z (hS.to [] z))))
 refine .g (.q z (.q z (.nil ?_)))
 refine .cs z h ?_ ?_ <;> intro h
 ·cases h
  exact .g (.qn z (.ret (fin_ret (vs:=[_]) () (rt z rn) z (hS.to [] z))))
 cases h
 exact .skip (.g (.qn z (.ret (fin_ret (vs:=[_]) () (rt z rn) z (hS.to [] z)))))
theorem fcq {a0 : Int} {a1 : Int} {w : World} {r : Instr} (h : f0a a0 a1 = some r) : Calls Tryz.prog 113 #[.int .i64 a0,.int .i64 a1] w (Ret No w (fun s : Unit=>.agg #[.int .i64 r.Op,.int .i64 r.Rd,.int .i64 r.Rs,.int .i64 r.Rt,.int .i64 r.Imm]) (fun s=>[])):=by
 unfold f0a at h
 refine enter Tryz.func113 z z ?_
 have hS:=Sep.start w
 refine .g (.c (.alloc T.t32 hS ?_ z z z))
 intro g1 W hS
 refine .nil (.g (.q z ?_))
 have ⟨y1,hy1,h⟩:=bnd h
 refine .c (.call0 hS Tryz.func138 (f06 hy1) z z ?_ z z z z)
 intro W hS
 refine .qn z (.g (.q z ?_))
 have ⟨y2,hy2,h⟩:=bnd h
 refine .c (.call0 hS Tryz.func138 (f06 hy2) z z ?_ z z z z)
 intro W hS
 refine .qn z (.g (.q z ?_))
 have ⟨y3,hy3,h⟩:=bnd h
 refine .c (.call0 hS Tryz.func138 (f06 hy3) z z ?_ z z z z)
 intro W hS
 refine .qn z (.seq (.block (.g (.q z (.q z (.q z (.nil ?_)))))))
 refine .cs z h ?_ ?_ <;> intro h
 ·refine .g (.q z (.q z (.q z (.q z (.s (bs T.s32 z z) z (.c (.st T.t32 hS z z z ?_ z z z z z)))))))
  intro W hS
  cases h
  exact .nil (.ret (fin_ret (vs:=[_]) () (rc hS T.t32 z rn z z) z (hS.to [] z)))
 refine .g (.q z (.q z (.q z (.nil ?_))))
 refine .cs z h ?_ ?_ <;> intro h
 ·refine .g (.q z (.q z (.q z (.q z ?_))))
  have ⟨y4,hy4,h⟩:=bnd h
  refine .c (.call0 hS Tryz.func138 (f06 hy4) z z ?_ z z z z)
  intro W hS
  have ⟨y5,hy5,h⟩:=bnd h
  refine .c (.call0 hS Tryz.func144 (f3e hy5) z z ?_ z z z z)
  intro W hS
  refine .s (bs T.s32 z z) z (.c (.st T.t32 hS z z z ?_ z z z z z))
  intro W hS
  cases h
  exact .nil (.ret (fin_ret (vs:=[_]) () (rc hS T.t32 z rn z z) z (hS.to [] z)))
 refine .g (.q z (.q z (.q z (.nil ?_))))
 refine .cs z h ?_ ?_ <;> intro h
 ·refine .g (.q z (.q z (.q z (.q z ?_))))
  have ⟨y6,hy6,h⟩:=bnd h
  refine .c (.call0 hS Tryz.func138 (f06 hy6) z z ?_ z z z z)
  intro W hS
  refine .q z (.q z (.q z ?_))
  have ⟨y7,hy7,h⟩:=bnd h
  refine .c (.call0 hS Tryz.func144 (f3e hy7) z z ?_ z z z z)
  intro W hS
  refine .s (bs T.s32 z z) z (.c (.st T.t32 hS z z z ?_ z z z z z))
  intro W hS
  cases h
  exact .nil (.ret (fin_ret (vs:=[_]) () (rc hS T.t32 z rn z z) z (hS.to [] z)))
 refine .g (.q z (.q z (.q z (.chunk 3 53 ((a0 == 17) || (a0 == 18)) hS ?_ ?_))))
 ·refine .both (a0 == 17) (fun hb=>?_) (fun hb=>?_)
  ·exact .xx hb z (.xx hb z (.s (pkt hb z z z) z (.nil (ck 3 hS z (or_t hb) z z))))
  have hg1:=hb
  exact .g hg1 (.q z (.g hg1 (.q z (.s (pkf hg1 z z z) z (.nil (ck 3 hS z (or_f hg1) z z)))) z)) z
 intro W hS
 refine .q z (.nil ?_)
 refine .cs z h ?_ ?_ <;> intro h
 ·refine .g (.q z ?_)
  have ⟨y8,hy8,h⟩:=bnd h
  refine .c (.call0 hS Tryz.func138 (f06 hy8) z z ?_ z z z z)
  intro W hS
  refine .q z (.q z ?_)
  have ⟨y9,hy9,h⟩:=bnd h
  refine .c (.call0 hS Tryz.func138 (f06 hy9) z z ?_ z z z z)
  intro W hS
  refine .q z (.q z (.q z ?_))
  have ⟨y10,hy10,h⟩:=bnd h
  refine .c (.call0 hS Tryz.func138 (f06 hy10) z z ?_ z z z z)
  intro W hS
  refine .q z (.q z (.q z ?_))
  have ⟨y11,hy11,h⟩:=bnd h
  refine .c (.call0 hS Tryz.func138 (f06 hy11) z z ?_ z z z z)
  intro W hS
  refine .q z (.q z (.qn z (.g (.q z (.q z (.q z (.q z ?_)))))))
  have ⟨y12,hy12,h⟩:=bnd h
  refine .c (.call0 hS Tryz.func144 (f3e hy12) z z ?_ z z z z)
  intro W hS
  refine .s (bs T.s32 z z) z (.c (.st T.t32 hS z z z ?_ z z z z z))
  intro W hS
  cases h
  exact .nil (.ret (fin_ret (vs:=[_]) () (rc hS T.t32 z rn z z) z (hS.to [] z)))
 refine .g (.q z (.q z (.q z (.nil ?_))))
 refine .cs z h ?_ ?_ <;> intro h
 ·refine .g (.q z (.q z (.q z ?_)))
  have ⟨y13,hy13,h⟩:=bnd h
  refine .c (.call0 hS Tryz.func138 (f06 hy13) z z ?_ z z z z)
  intro W hS
  refine .s (bs T.s32 z z) z (.c (.st T.t32 hS z z z ?_ z z z z z))
  intro W hS
  cases h
  exact .nil (.ret (fin_ret (vs:=[_]) () (rc hS T.t32 z rn z z) z (hS.to [] z)))
 refine .g (.q z (.q z (.q z (.nil ?_))))
 refine .cs z h ?_ ?_ <;> intro h
 ·refine .g (.q z ?_)
  have ⟨y14,hy14,h⟩:=bnd h
  refine .c (.call0 hS Tryz.func138 (f06 hy14) z z ?_ z z z z)
  intro W hS
  refine .q z (.q z ?_)
  have ⟨y15,hy15,h⟩:=bnd h
  refine .c (.call0 hS Tryz.func138 (f06 hy15) z z ?_ z z z z)
  intro W hS
  refine .q z (.q z (.q z ?_))
  have ⟨y16,hy16,h⟩:=bnd h
  refine .c (.call0 hS Tryz.func138 (f06 hy16) z z ?_ z z z z)
  intro W hS
  refine .q z (.q z (.q z ?_))
  have ⟨y17,hy17,h⟩:=bnd h
  refine .c (.call0 hS Tryz.func138 (f06 hy17) z z ?_ z z z z)
  intro W hS
  refine .q z (.q z (.qn z (.g (.q z (.q z (.q z ?_))))))
  have ⟨y18,hy18,h⟩:=bnd h
  refine .c (.call0 hS Tryz.func144 (f3e hy18) z z ?_ z z z z)
  intro W hS
  refine .s (bs T.s32 z z) z (.c (.st T.t32 hS z z z ?_ z z z z z))
  intro W hS
  cases h
  exact .nil (.ret (fin_ret (vs:=[_]) () (rc hS T.t32 z rn z z) z (hS.to [] z)))
 refine .skip (.g (.q z (.s (bs T.s32 z z) z (.c (.st T.t32 hS z z z ?_ z z z z z)))))
 intro W hS
 cases h
 exact .nil (.ret (fin_ret (vs:=[_]) () (rc hS T.t32 z rn z z) z (hS.to [] z)))
theorem f76 {a0 : Int} {w : World} {r : Instr × Bool} (h : f2g a0 = some r) : Calls Tryz.prog 96 #[.int .i64 a0] w (Ret No w (fun s : Unit=>.tuple #[.agg #[.int .i64 r.1.Op,.int .i64 r.1.Rd,.int .i64 r.1.Rs,.int .i64 r.1.Rt,.int .i64 r.1.Imm],.bool r.2]) (fun s=>[])):=by
 unfold f2g at h
 refine enter Tryz.func96 z z ?_
 have hS:=Sep.start w
 refine .g (.c (.alloc T.t32 hS ?_ z z z))
 intro g1 W hS
 refine .qn z (.seq (.g (.q z ?_)))
 have ⟨y1,hy1,h⟩:=bnd h
 refine .c (.call0 hS Tryz.func48 (f07 hy1) z z ?_ z z z z)
 intro W hS
 refine .q z (.q z ?_)
 have ⟨b1,hb1,h⟩:=bnd h
 refine .chunk 4 12 (b1) hS ?_ ?_
 ·refine .both (!y1) (fun hb=>?_) (fun hb=>?_)
  ·refine .xx hb z (.xx hb z (.xx hb z ?_))
   cases sel_t hb hb1
   exact .s (pkt hb z z z) z (.nil (ck 4 hS z z z z))
  have hg1:=hb
  have h:=sel_f hb hb1
  refine .g hg1 (.q z ?_) z
  have ⟨y2,hy2,h⟩:=bnd h
  refine .g hg1 (.c (.call0 hS Tryz.func112 (fbu hy2) z z ?_ z z z z)) z
  intro W hS
  refine .g hg1 (.q z (.s (pkf hg1 z z z) z ?_)) z
  cases h
  exact .nil (ck 4 hS z z z z)
 intro W hS
 refine .nil ?_
 refine .cs z h ?_ ?_ <;> intro h
 ·refine .g (.s (bs T.s32 z z) z (.c (.st T.t32 hS z z z ?_ z z z z z)))
  intro W hS
  cases h
  exact .qn z (.ret (fin_ret (vs:=[_,_]) () (rc hS T.t32 z (rt z rn) z z) z (hS.to [] z)))
 refine .skip (.g (.q z ?_))
 have ⟨y3,hy3,h⟩:=bnd h
 refine .c (.call0 hS Tryz.func112 (fbu hy3) z z ?_ z z z z)
 intro W hS
 refine .q z ?_
 have ⟨y4,hy4,h⟩:=bnd h
 refine .c (.call0 hS Tryz.func113 (fcq hy4) z z ?_ z z z z)
 intro W hS
 refine .c (.alloc T.t32 hS ?_ z z z)
 intro g2 W hS
 refine .c (.st T.t32 hS z z z ?_ z z z z z)
 intro W hS
 refine .nil (.seq (.g (.s (ld T.t32 hS z z z z z) z ?_)))
 have ⟨y5,hy5,h⟩:=bnd h
 refine .c (.call0 hS Tryz.func103 (fal hy5) z z ?_ z z z z)
 intro W hS
 refine .q z (.q z (.nil ?_))
 refine .cs z h ?_ ?_ <;> intro h
 ·refine .g (.s (bs T.s32 z z) z (.c (.st T.t32 hS.p1 z z z ?_ z z z z z)))
  intro W hS
  cases h
  exact .qn z (.ret (fin_ret (vs:=[_,_]) () (rc hS T.t32 z (rt z rn) z z) z (hS.to [] z)))
 refine .skip (.g (.s (ld T.t32 hS z z z z z) z (.c (.st T.t32 hS.p1 z z z ?_ z z z z z))))
 intro W hS
 cases h
 exact .qn z (.ret (fin_ret (vs:=[_,_]) () (rc hS T.t32 z (rt z rn) z z) z (hS.to [] z)))
theorem f36 {a0 : Machine} {a1 : Int} {a2 : Int} {v_0_Regs : Hd} {v_0_Mem : Hd} {g_0 : Nat} {S : Nat → Prop} {w : World} {r : (List Int)} (h : f2b a0 a1 a2 = some r) (q_0_Mem : RV w (Old S w) (sv v_0_Mem) 3 1 (D.int .i64) a0.Mem) (hO : Owns w [rowV (sv v_0_Regs) 3 1 (D.int .i64) a0.Regs,.box g_0 27 [(sv v_0_Regs),.int .i64 a0.Pc,(sv v_0_Mem)]] S) (hlt : ∀ b,S b → b < w.heap.size) : Calls Tryz.prog 116 #[.pointer (some ⟨g_0,0,none⟩),.int .i64 a1,.int .i64 a2] w (Ret S w (fun s : Hd=>.tuple #[]) (fun s=>[.box g_0 27 [(sv s),.int .i64 a0.Pc,(sv v_0_Mem)],rowV (sv s) 3 1 (D.int .i64) r])):=by
 unfold f2b at h
 refine enter Tryz.func116 z z ?_
 have hS:=Sep.startM hO hlt
 refine .g (.q z (.q z (.nil ?_)))
 refine .cs z h ?_ ?_ <;> intro h
 ·refine .region (.q z (.q z (.s (fa T.f27_0 z z z) z (.s (ld T.t25 hS.p1 z z z z z) z (.q z (.q z ?_))))))
  have ⟨x1,hx1,h⟩:=bnd h
  refine .s (ixv hS.lendv hx1 T.u25 T.t3 z z z) z ?_
  have ⟨r1,hr1,h⟩:=bnd h
  refine .c (.sev hr1 hx1 hS T.t3 z z z z z z ?_ z z z z z z)
  intro W hS
  obtain rfl:=Option.some.inj h
  exact .nil (fin_ret (vs:=[]) v_0_Regs (rn) z (hS.to [1,0] z))
 cases h
 exact .skip (fin_ret (vs:=[]) v_0_Regs (rn) z (hS.to [1,0] z))
theorem fdu {a0 : Machine} {a1 : Instr} {v_0_Regs : Hd} {v_0_Mem : Hd} {g_0 : Nat} {S : Nat → Prop} {w : World} {r : Bool × (List Int) × Int × (List Int)} (h : fav a0 a1 = some r) (hO : Owns w [rowV (sv v_0_Regs) 3 1 (D.int .i64) a0.Regs,rowV (sv v_0_Mem) 3 1 (D.int .i64) a0.Mem,.box g_0 27 [(sv v_0_Regs),.int .i64 a0.Pc,(sv v_0_Mem)]] S) (hlt : ∀ b,S b → b < w.heap.size) : Calls Tryz.prog 114 #[.pointer (some ⟨g_0,0,none⟩),.agg #[.int .i64 a1.Op,.int .i64 a1.Rd,.int .i64 a1.Rs,.int .i64 a1.Rt,.int .i64 a1.Imm]] w (Ret S w (fun s : Hd × Hd=>.bool r.1) (fun s=>[.box g_0 27 [(sv s.1),.int .i64 r.2.2.1,(sv s.2)],rowV (sv s.1) 3 1 (D.int .i64) r.2.1,rowV (sv s.2) 3 1 (D.int .i64) r.2.2.2])):=by
 unfold fav at h
 refine enter Tryz.func114 z z ?_
 have hS:=Sep.startM hO hlt
 refine .g (.c (.box hS z z ?_ z z))
 intro g1 W hS
 refine .qn z (.seq (.rk 13 hS [0,0,0,0] T.mix ?_))
 intro W hS
 have hT:=hS.to [0,0,0,0] z
 refine .tp 0 z z hT (by kernel_rfl) (.tp 1 z z hT (by kernel_rfl) (.ts 2 z (fun W hT=>fa T.f27_0 z z z) hT z (by kernel_rfl) (.ts 3 z (fun W hT=>ld T.t25 hT.p3 z z z z z) hT z (by kernel_rfl) (.ts 4 z (fun W hT=>fa T.f32_2 z z z) hT z (by kernel_rfl) (.ts 5 z (fun W hT=>ld T.t3 hT z z z z z) hT z (by kernel_rfl) ?_)))))
 have ⟨x1,hx1,h⟩:=bnd h
 refine .ts 6 z (fun W hT=>ixv hS.p1.lendv hx1 T.u25 T.t3 z z z) hT z (by kernel_rfl) (.ts 7 z (fun W hT=>lde (RV.flat hT.p1.lendv hx1 z) T.t3 z z z z z) hT z (by kernel_rfl) (.ts 8 z (fun W hT=>fa T.f32_4 z z z) hT z (by kernel_rfl) (.ts 9 z (fun W hT=>ld T.t3 hT z z z z z) hT z (by kernel_rfl) (.tp 10 z z hT (by kernel_rfl) ?_))))
 have ⟨y1,hy1,h⟩:=bnd h
 refine .by1 11 z (.call0 hS Tryz.func68 (f17 hy1) z z ?_ z z z z) (by kernel_rfl)
 intro W hS
 have hT:=hS.to [0,0,0,0] z
 refine ⟨fun _=>hT,.tp 12 z z hT (by kernel_rfl) (.done (.seq (.g (.q z (.q z (.s (fa T.f27_2 z z z) z (.s (ld T.t25 hS.p3 z z z z z) z (.q z ?_))))))) (by kernel_rfl))⟩
 have ⟨y2,hy2,h⟩:=bnd h
 refine .c (.call0 hS Tryz.func95 (fba hy2 hS.p2.lendv) z z ?_ z z z z)
 intro W hS
 refine .q z (.nil ?_)
 refine .cs z h ?_ ?_ <;> intro h
 ·cases h
  exact .g (.qn z (.ret (fin_ret (vs:=[_]) (v_0_Regs,v_0_Mem) (rt z rn) z (hS.to [3,1,1] z))))
 refine .skip ?_
 have ⟨y3,hy3,h⟩:=bnd h
 refine .seq (CW.via (R':=fun x E' W'=>x = .normal ∧ ∃ (v1 : Hd),SubL E' [(0,.pointer (some ⟨g_0,0,none⟩))] ∧ Sep S w W' [.box g1 32 [.int .i64 a1.Op,.int .i64 a1.Rd,.int .i64 a1.Rs,.int .i64 a1.Rt,.int .i64 a1.Imm],rowV (sv v_0_Mem) 3 1 (D.int .i64) y3.2,.box g_0 27 [(sv v1),.int .i64 a0.Pc,(sv v_0_Mem)],rowV (sv v1) 3 1 (D.int .i64) y3.1]) ?_ ?_)
 ·have h:=hy3
  refine .g (.s (fa T.f32_0 z z z) z (.s (ld T.t3 hS z z z z z) z (.qn z (.cond z (fun hb=>?_) (fun hb=>?_)))))
  ·have h:=sel_t hb h
   refine .rk 12 hS [0,1] T.mix ?_
   intro W hS
   have hT:=hS.to [0,1] z
   refine .tp 0 z z hT (by kernel_rfl) (.ts 1 z (fun W hT=>fa T.f32_1 z z z) hT z (by kernel_rfl) (.ts 2 z (fun W hT=>ld T.t3 hT z z z z z) hT z (by kernel_rfl) (.tp 3 z z hT (by kernel_rfl) (.tp 4 z z hT (by kernel_rfl) (.ts 5 z (fun W hT=>fa T.f27_2 z z z) hT z (by kernel_rfl) (.tp 7 z z hT (by kernel_rfl) (.tp 8 z z hT (by kernel_rfl) (.by1 6 z (.runs (ld T.t25 hS.p3 z z z z z) z z ?_) (by kernel_rfl)))))))))
   have hT:=hS.to [0,1] z
   refine ⟨fun _=>hT,?_⟩
   have ⟨x2,hx2,h⟩:=bnd h
   refine .ts 9 z (fun W hT=>ixv hS.p2.lendv hx2 T.u25 T.t3 z z z) hT z (by kernel_rfl) (.ts 10 z (fun W hT=>lde (RV.flat hT.p1.lendv hx2 z) T.t3 z z z z z) hT z (by kernel_rfl) ?_)
   have ⟨y4,hy4,h⟩:=bnd h
   have hS:=hS.p3
   have hS:=hS.p2
   refine .by1 11 z (.callS2 (L0:=[rowV (sv v_0_Regs) 3 1 (D.int .i64) a0.Regs,.box g_0 27 [(sv v_0_Regs),.int .i64 a0.Pc,(sv v_0_Mem)]]) hS Tryz.func116 (fun S h1 h2 h3=>(f36 hy4 (h3.rdv (k:=1) z) h2 (zz h1))) z z ?_ z z z z) (by kernel_rfl)
   rintro v2 W hS
   have hT:=hS.to [2,2] z
   refine ⟨fun _=>hT,.done ?_ (by kernel_rfl)⟩
   cases h
   exact ⟨z,v2,sb z,hS.to [2,2,0,0] z⟩
  have h:=sel_f hb h
  refine .rk 15 hS [0,0,0,0] T.mix ?_
  intro W hS
  have hT:=hS.to [0,0,0,0] z
  refine .tp 0 z z hT (by kernel_rfl) (.tp 1 z z hT (by kernel_rfl) (.ts 2 z (fun W hT=>fa T.f27_2 z z z) hT z (by kernel_rfl) (.ts 3 z (fun W hT=>ld T.t25 hT.p3 z z z z z) hT z (by kernel_rfl) (.tp 4 z z hT (by kernel_rfl) (.tp 5 z z hT (by kernel_rfl) (.tp 6 z z hT (by kernel_rfl) (.tp 7 z z hT (by kernel_rfl) (.ts 8 z (fun W hT=>fa T.f27_0 z z z) hT z (by kernel_rfl) (.ts 9 z (fun W hT=>ld T.t25 hT.p3 z z z z z) hT z (by kernel_rfl) (.ts 10 z (fun W hT=>fa T.f32_3 z z z) hT z (by kernel_rfl) (.ts 11 z (fun W hT=>ld T.t3 hT z z z z z) hT z (by kernel_rfl) ?_)))))))))))
  have ⟨x3,hx3,h⟩:=bnd h
  refine .ts 12 z (fun W hT=>ixv hS.p1.lendv hx3 T.u25 T.t3 z z z) hT z (by kernel_rfl) (.ts 13 z (fun W hT=>lde (RV.flat hT.p1.lendv hx3 z) T.t3 z z z z z) hT z (by kernel_rfl) ?_)
  have ⟨x4,hx4,h⟩:=bnd h
  refine .ts 14 z (fun W hT=>ixv hS.p2.lendv hx4 T.u25 T.t3 z z z) hT z (by kernel_rfl) ?_
  have ⟨r1,hr1,h⟩:=bnd h
  refine .by1 15 z (.sev hr1 hx4 hS.p2 T.t3 z z z z z z ?_ z z z z z z) (by kernel_rfl)
  intro W hS
  refine ⟨fun h=>absurd z h,?_⟩
  refine .done ?_ (by kernel_rfl)
  cases h
  exact ⟨z,v_0_Regs,sb z,hS.to [1,0,1,0] z⟩
 intro x E W hJ
 obtain ⟨rfl,v3,hE,hS⟩:=hJ
 refine ⟨_,hE.sub,?_⟩
 refine .g (.q z (.q z (.q z (.s (fa T.f27_1 z z z) z (.s (ld T.t3 hS.p2 z z z z z) z (.q z (.q z (.s (fa T.f27_1 z z z) z (.c (.st T.t3 hS.p2 z z z ?_ z z z z z))))))))))
 intro W hS
 cases h
 exact .nil (.g (.qn z (.ret (fin_ret (vs:=[_]) (v3,v_0_Mem) (rt z rn) z (hS.to [0,2,1] z)))))
theorem fe3 {a0 : Machine} {a1 : Instr} {v_0_Regs : Hd} {v_0_Mem : Hd} {g_0 : Nat} {S : Nat → Prop} {w : World} {r : (List Int) × Int} (h : far a0 a1 = some r) (q_0_Mem : RV w (Old S w) (sv v_0_Mem) 3 1 (D.int .i64) a0.Mem) (hO : Owns w [rowV (sv v_0_Regs) 3 1 (D.int .i64) a0.Regs,.box g_0 27 [(sv v_0_Regs),.int .i64 a0.Pc,(sv v_0_Mem)]] S) (hlt : ∀ b,S b → b < w.heap.size) : Calls Tryz.prog 115 #[.pointer (some ⟨g_0,0,none⟩),.agg #[.int .i64 a1.Op,.int .i64 a1.Rd,.int .i64 a1.Rs,.int .i64 a1.Rt,.int .i64 a1.Imm]] w (Ret S w (fun s : Hd=>.tuple #[]) (fun s=>[.box g_0 27 [(sv s),.int .i64 r.2,(sv v_0_Mem)],rowV (sv s) 3 1 (D.int .i64) r.1])):=by
 unfold far at h
 refine enter Tryz.func115 z z ?_
 have hS:=Sep.startM hO hlt
 refine .g (.c (.box hS z z ?_ z z))
 intro g1 W hS
 refine .nil (.g (.q z (.q z (.s (fa T.f27_1 z z z) z (.s (ld T.t3 hS.p2 z z z z z) z (.q z ?_))))))
 have ⟨y1,hy1,h⟩:=bnd h
 refine .c (.call0 hS Tryz.func68 (f17 hy1) z z ?_ z z z z)
 intro W hS
 refine .qn z (.seq (.rk 18 hS [0,0,0] T.mix ?_))
 intro W hS
 have hT:=hS.to [0,0,0] z
 refine .tp 0 z z hT (by kernel_rfl) (.tp 1 z z hT (by kernel_rfl) (.ts 2 z (fun W hT=>fa T.f27_0 z z z) hT z (by kernel_rfl) (.ts 3 z (fun W hT=>ld T.t25 hT.p2 z z z z z) hT z (by kernel_rfl) (.ts 4 z (fun W hT=>fa T.f32_2 z z z) hT z (by kernel_rfl) (.ts 5 z (fun W hT=>ld T.t3 hT z z z z z) hT z (by kernel_rfl) ?_)))))
 have ⟨x1,hx1,h⟩:=bnd h
 refine .ts 6 z (fun W hT=>ixv hS.p1.lendv hx1 T.u25 T.t3 z z z) hT z (by kernel_rfl) (.ts 7 z (fun W hT=>lde (RV.flat hT.p1.lendv hx1 z) T.t3 z z z z z) hT z (by kernel_rfl) (.tp 8 z z hT (by kernel_rfl) (.tp 9 z z hT (by kernel_rfl) (.ts 10 z (fun W hT=>fa T.f27_0 z z z) hT z (by kernel_rfl) (.ts 11 z (fun W hT=>ld T.t25 hT.p2 z z z z z) hT z (by kernel_rfl) (.ts 12 z (fun W hT=>fa T.f32_3 z z z) hT z (by kernel_rfl) (.ts 13 z (fun W hT=>ld T.t3 hT z z z z z) hT z (by kernel_rfl) ?_)))))))
 have ⟨x2,hx2,h⟩:=bnd h
 refine .ts 14 z (fun W hT=>ixv hS.p1.lendv hx2 T.u25 T.t3 z z z) hT z (by kernel_rfl) (.ts 15 z (fun W hT=>lde (RV.flat hT.p1.lendv hx2 z) T.t3 z z z z z) hT z (by kernel_rfl) (.tp 16 z z hT (by kernel_rfl) (.tp 17 z z hT (by kernel_rfl) (.done (.block (.g (.s (fa T.f32_0 z z z) z (.s (ld T.t3 hS z z z z z) z (.q z (.qn z (.cond z (fun hb=>?_) (fun hb=>?_)))))))) (by kernel_rfl)))))
 ·have h:=sel_t hb h
  refine .seq (.rk 13 hS [0,0,0] T.mix ?_)
  intro W hS
  have hT:=hS.to [0,0,0] z
  refine .tp 0 z z hT (by kernel_rfl) (.tp 1 z z hT (by kernel_rfl) (.ts 2 z (fun W hT=>fa T.f27_0 z z z) hT z (by kernel_rfl) (.ts 3 z (fun W hT=>ld T.t25 hT.p2 z z z z z) hT z (by kernel_rfl) (.ts 4 z (fun W hT=>fa T.f32_2 z z z) hT z (by kernel_rfl) (.ts 5 z (fun W hT=>ld T.t3 hT z z z z z) hT z (by kernel_rfl) ?_)))))
  have ⟨x3,hx3,h⟩:=bnd h
  refine .ts 6 z (fun W hT=>ixv hS.p1.lendv hx3 T.u25 T.t3 z z z) hT z (by kernel_rfl) (.ts 7 z (fun W hT=>lde (RV.flat hT.p1.lendv hx3 z) T.t3 z z z z z) hT z (by kernel_rfl) (.ts 8 z (fun W hT=>fa T.f32_4 z z z) hT z (by kernel_rfl) (.ts 9 z (fun W hT=>ld T.t3 hT z z z z z) hT z (by kernel_rfl) (.tp 10 z z hT (by kernel_rfl) ?_))))
  have ⟨y2,hy2,h⟩:=bnd h
  refine .by1 11 z (.call0 hS Tryz.func68 (f17 hy2) z z ?_ z z z z) (by kernel_rfl)
  intro W hS
  have hT:=hS.to [0,0,0] z
  refine ⟨fun _=>hT,.tp 12 z z hT (by kernel_rfl) (.done (.g (.q z (.s (fa T.f32_1 z z z) z (.s (ld T.t3 hS z z z z z) z (.q z ?_))))) (by kernel_rfl))⟩
  have ⟨y3,hy3,h⟩:=bnd h
  have hS:=hS.p2
  have hS:=hS.p2
  refine .c (.callS2 (L0:=[rowV (sv v_0_Regs) 3 1 (D.int .i64) a0.Regs,.box g_0 27 [(sv v_0_Regs),.int .i64 a0.Pc,(sv v_0_Mem)]]) hS Tryz.func116 (fun S h1 h2 h3=>(f36 hy3 (hS.keepS q_0_Mem h1) h2 (zz h1))) z z ?_ z z z z)
  rintro v1 W hS
  refine .nil (.region (.q z (.q z (.q z (.q z (.q z (.q z (.s (fa T.f27_1 z z z) z (.c (.st T.t3 hS z z z ?_ z z z z z))))))))))
  intro W hS
  cases h
  exact .nil (fin_ret (vs:=[]) v1 (rn) z (hS.to [0,0] z))
 have h:=sel_f hb h
 refine .g (.s (fa T.f32_0 z z z) z (.s (ld T.t3 hS z z z z z) z (.q z (.qn z (.cond z (fun hb=>?_) (fun hb=>?_))))))
 ·have h:=sel_t hb h
  refine .g (.q z (.s (fa T.f32_1 z z z) z (.s (ld T.t3 hS z z z z z) z (.q z ?_))))
  have ⟨y4,hy4,h⟩:=bnd h
  have hS:=hS.p2
  have hS:=hS.p2
  refine .c (.callS2 (L0:=[rowV (sv v_0_Regs) 3 1 (D.int .i64) a0.Regs,.box g_0 27 [(sv v_0_Regs),.int .i64 a0.Pc,(sv v_0_Mem)]]) hS Tryz.func116 (fun S h1 h2 h3=>(f36 hy4 (hS.keepS q_0_Mem h1) h2 (zz h1))) z z ?_ z z z z)
  rintro v2 W hS
  refine .nil (.rk 11 hS [0,0,0] T.mix ?_)
  intro W hS
  have hT:=hS.to [0,0,0] z
  refine .tp 0 z z hT (by kernel_rfl) (.tp 1 z z hT (by kernel_rfl) (.tp 2 z z hT (by kernel_rfl) (.ts 3 z (fun W hT=>fa T.f27_1 z z z) hT z (by kernel_rfl) (.ts 4 z (fun W hT=>ld T.t3 hT z z z z z) hT z (by kernel_rfl) (.ts 5 z (fun W hT=>fa T.f32_4 z z z) hT z (by kernel_rfl) (.ts 6 z (fun W hT=>ld T.t3 hT.p2 z z z z z) hT z (by kernel_rfl) (.tp 7 z z hT (by kernel_rfl) ?_)))))))
  have ⟨y5,hy5,h⟩:=bnd h
  refine .by1 8 z (.call0 hS Tryz.func68 (f17 hy5) z z ?_ z z z z) (by kernel_rfl)
  intro W hS
  have hT:=hS.to [0,0,0] z
  refine ⟨fun _=>hT,.by1 9 z (.runs (pr z) z z ?_) (by kernel_rfl)⟩
  have hT:=hS.to [0,0,0] z
  refine ⟨fun _=>hT,.ts 10 z (fun W hT=>fa T.f27_1 z z z) hT z (by kernel_rfl) (.by1 11 z (.st T.t3 hS z z z ?_ z z z z z) (by kernel_rfl))⟩
  intro W hS
  refine ⟨fun h=>absurd z h,?_⟩
  cases h
  exact .done (fin_ret (vs:=[]) v2 (rn) z (hS.to [0,0] z)) (by kernel_rfl)
 have h:=sel_f hb h
 refine .g (.q z (.s (fa T.f32_0 z z z) z (.s (ld T.t3 hS z z z z z) z (.q z (.s (eqb T.u4 z z z) z (.q z (.nil ?_)))))))
 refine .cs z h ?_ ?_ <;> intro h
 ·refine .rk 11 hS [0,0,0] T.mix ?_
  intro W hS
  have hT:=hS.to [0,0,0] z
  refine .tp 0 z z hT (by kernel_rfl) (.tp 1 z z hT (by kernel_rfl) (.tp 2 z z hT (by kernel_rfl) (.ts 3 z (fun W hT=>fa T.f27_1 z z z) hT z (by kernel_rfl) (.ts 4 z (fun W hT=>ld T.t3 hT.p2 z z z z z) hT z (by kernel_rfl) (.ts 5 z (fun W hT=>fa T.f32_4 z z z) hT z (by kernel_rfl) (.ts 6 z (fun W hT=>ld T.t3 hT z z z z z) hT z (by kernel_rfl) (.tp 7 z z hT (by kernel_rfl) ?_)))))))
  have ⟨y6,hy6,h⟩:=bnd h
  refine .by1 8 z (.call0 hS Tryz.func68 (f17 hy6) z z ?_ z z z z) (by kernel_rfl)
  intro W hS
  have hT:=hS.to [0,0,0] z
  refine ⟨fun _=>hT,.by1 9 z (.runs (pr z) z z ?_) (by kernel_rfl)⟩
  have hT:=hS.to [0,0,0] z
  refine ⟨fun _=>hT,.ts 10 z (fun W hT=>fa T.f27_1 z z z) hT z (by kernel_rfl) (.by1 11 z (.st T.t3 hS.p2 z z z ?_ z z z z z) (by kernel_rfl))⟩
  intro W hS
  refine ⟨fun h=>absurd z h,?_⟩
  cases h
  exact .done (fin_ret (vs:=[]) v_0_Regs (rn) z (hS.to [0,1] z)) (by kernel_rfl)
 refine .region (.q z (.q z (.q z (.s (fa T.f27_1 z z z) z (.c (.st T.t3 hS.p2 z z z ?_ z z z z z))))))
 intro W hS
 cases h
 exact .nil (fin_ret (vs:=[]) v_0_Regs (rn) z (hS.to [0,1] z))
theorem ff2 {a0 : Int} {a1 : Int} {a2 : Int} {w : World} {r : Int} (h : fad a0 a1 a2 = some r) : Calls Tryz.prog 118 #[.int .i64 a0,.int .i64 a1,.int .i64 a2] w (Ret No w (fun s : Unit=>.int .i64 r) (fun s=>[])):=by
 unfold fad at h
 refine enter Tryz.func118 z z ?_
 have hS:=Sep.start w
 refine .g (.qn z (.g (.c (.liv [8,9,10,11,12,3,1,2,6,7,5] (D.int .i64) T.u25 T.t3 hS z z z z ?_ z (fun _=>z) z z z z))))
 intro v1 W hS
 refine .qn z (.g (.q z (.q z (.q z ?_))))
 have ⟨x1,hx1,h⟩:=bnd h
 refine .s (ixv hS.lendv hx1 T.u25 T.t3 z z z) z (.s (lde (RV.flat hS.lendv hx1 z) T.t3 z z z z z) z (.q z (.q z ?_)))
 have ⟨y1,hy1,h⟩:=bnd h
 refine .c (.call0 hS Tryz.func145 (fbv hy1) z z ?_ z z z z)
 intro W hS
 cases h
 exact .q z (.q z (.q z (.q z (.qn z (.g (.q z (.qn z (.ret (fin_ret (vs:=[_]) () (rt z rn) z (hS.to [] z))))))))))
def ffd (w : World) (S : Nat → Prop) (v_0_Regs : Hd) (v_0_Mem : Hd) (g_0 : Nat) (a0 : Machine) (a1 : Instr) (r : Bool × (List Int) × Int × (List Int)) : Env → World → Prop:=Fin Tryz.prog Tryz.f98 S w (fun s : Hd × Hd=>.bool r.1) (fun s=>[.box g_0 27 [(sv s.1),.int .i64 r.2.2.1,(sv s.2)],rowV (sv s.1) 3 1 (D.int .i64) r.2.1,rowV (sv s.2) 3 1 (D.int .i64) r.2.2.2]) .ret
theorem ff7 {a0 : Machine} {a1 : Instr} {v_0_Regs : Hd} {v_0_Mem : Hd} {g_0 : Nat} {S : Nat → Prop} {w : World} {r : Bool × (List Int) × Int × (List Int)} (h : fao a0 a1 = some r) (hO : Owns w [rowV (sv v_0_Regs) 3 1 (D.int .i64) a0.Regs,rowV (sv v_0_Mem) 3 1 (D.int .i64) a0.Mem,.box g_0 27 [(sv v_0_Regs),.int .i64 a0.Pc,(sv v_0_Mem)]] S) (hlt : ∀ b,S b → b < w.heap.size) : Calls Tryz.prog 98 #[.pointer (some ⟨g_0,0,none⟩),.agg #[.int .i64 a1.Op,.int .i64 a1.Rd,.int .i64 a1.Rs,.int .i64 a1.Rt,.int .i64 a1.Imm]] w (Ret S w (fun s : Hd × Hd=>.bool r.1) (fun s=>[.box g_0 27 [(sv s.1),.int .i64 r.2.2.1,(sv s.2)],rowV (sv s.1) 3 1 (D.int .i64) r.2.1,rowV (sv s.2) 3 1 (D.int .i64) r.2.2.2])):=by
 unfold fao at h
 refine enter Tryz.func98 z z ?_
 have hS:=Sep.startM hO hlt
 refine .g (.c (.box hS z z ?_ z z))
 intro g1 W hS
 refine .qn z (.seq (.rk 9 hS [0,0,0,0] T.mix ?_))
 intro W hS
 have hT:=hS.to [0,0,0,0] z
 refine .tp 0 z z hT (by kernel_rfl) (.tp 1 z z hT (by kernel_rfl) (.ts 2 z (fun W hT=>fa T.f27_0 z z z) hT z (by kernel_rfl) (.ts 3 z (fun W hT=>ld T.t25 hT.p3 z z z z z) hT z (by kernel_rfl) (.ts 4 z (fun W hT=>fa T.f32_2 z z z) hT z (by kernel_rfl) (.ts 5 z (fun W hT=>ld T.t3 hT z z z z z) hT z (by kernel_rfl) ?_)))))
 have ⟨x1,hx1,h⟩:=bnd h
 refine .ts 6 z (fun W hT=>ixv hS.p1.lendv hx1 T.u25 T.t3 z z z) hT z (by kernel_rfl) (.ts 7 z (fun W hT=>lde (RV.flat hT.p1.lendv hx1 z) T.t3 z z z z z) hT z (by kernel_rfl) (.tp 8 z z hT (by kernel_rfl) (.done ?_ (by kernel_rfl))))
 have ⟨y1,hy1,h⟩:=bnd h
 refine .seq (CW.via (R':=fun x E' W'=>(match y1 with | .inl o1=>x = .normal ∧ ∃ (v1 : Hd),SubL E' [(0,.pointer (some ⟨g_0,0,none⟩))] ∧ Sep S w W' [.box g1 32 [.int .i64 a1.Op,.int .i64 a1.Rd,.int .i64 a1.Rs,.int .i64 a1.Rt,.int .i64 a1.Imm],rowV (sv v_0_Mem) 3 1 (D.int .i64) a0.Mem,.box g_0 27 [(sv v1),.int .i64 a0.Pc,(sv v_0_Mem)],rowV (sv v1) 3 1 (D.int .i64) o1] | .inr o2=>x = .ret ∧ ffd w S v_0_Regs v_0_Mem g_0 a0 a1 o2 E' W')) ?_ ?_)
 ·have h:=hy1
  refine .g (.s (fa T.f32_0 z z z) z (.s (ld T.t3 hS z z z z z) z (.nil (.block ?_))))
  have ⟨y2,hy2,h⟩:=bnd h
  refine .seq (CW.via (R':=fun x E' W'=>x = .normal ∧ SubL E' [(0,.pointer (some ⟨g_0,0,none⟩)),(3,.pointer (some ⟨g1,0,none⟩)),(5,.int .i64 x1),(15,.int .i64 a1.Op),(32,.bool y2)] ∧ Sep S w W' [.box g1 32 [.int .i64 a1.Op,.int .i64 a1.Rd,.int .i64 a1.Rs,.int .i64 a1.Rt,.int .i64 a1.Imm],rowV (sv v_0_Regs) 3 1 (D.int .i64) a0.Regs,rowV (sv v_0_Mem) 3 1 (D.int .i64) a0.Mem,.box g_0 27 [(sv v_0_Regs),.int .i64 a0.Pc,(sv v_0_Mem)]]) ?_ ?_)
  ·have h:=hy2
   refine .g (.q z (.q z (.nil ?_)))
   refine .cs z h ?_ ?_ <;> intro h
   ·refine .skip ?_
    cases h
    exact ⟨z,sb z,hS.to [0,0,0,0] z⟩
   refine .region (.q z (.q z (.nil ?_)))
   cases h
   exact ⟨z,sb z,hS.to [0,0,0,0] z⟩
  intro x E W hJ
  obtain ⟨rfl,hE,hS⟩:=hJ
  refine ⟨_,hE.sub,?_⟩
  refine .cond z (fun hb=>?_) (fun hb=>?_)
  ·have h:=sel_t hb h
   refine .g (.q z (.s (ld T.t32 hS z z z z z) z ?_))
   have ⟨y3,hy3,h⟩:=bnd h
   have hS:=hS.p3
   have hS:=hS.p3
   have hS:=hS.p3
   refine .c (.callS2 (L0:=[rowV (sv v_0_Regs) 3 1 (D.int .i64) a0.Regs,rowV (sv v_0_Mem) 3 1 (D.int .i64) a0.Mem,.box g_0 27 [(sv v_0_Regs),.int .i64 a0.Pc,(sv v_0_Mem)]]) hS Tryz.func114 (fun S h1 h2 h3=>(fdu hy3 h2 (zz h1))) z z ?_ z z z z)
   rintro ⟨v2,v3⟩ W hS
   refine .qn z (.ret ?_)
   cases h
   exact ⟨z,fin_ret (vs:=[_]) (v2,v3) (rt z rn) z (hS.to [0,0,0] z)⟩
  have h:=sel_f hb h
  have ⟨y4,hy4,h⟩:=bnd h
  refine .seq (CW.via (R':=fun x E' W'=>x = .normal ∧ SubL E' [(0,.pointer (some ⟨g_0,0,none⟩)),(3,.pointer (some ⟨g1,0,none⟩)),(5,.int .i64 x1),(15,.int .i64 a1.Op),(38,.bool y4)] ∧ Sep S w W' [.box g1 32 [.int .i64 a1.Op,.int .i64 a1.Rd,.int .i64 a1.Rs,.int .i64 a1.Rt,.int .i64 a1.Imm],rowV (sv v_0_Regs) 3 1 (D.int .i64) a0.Regs,rowV (sv v_0_Mem) 3 1 (D.int .i64) a0.Mem,.box g_0 27 [(sv v_0_Regs),.int .i64 a0.Pc,(sv v_0_Mem)]]) ?_ ?_)
  ·have h:=hy4
   refine .g (.q z (.q z (.nil ?_)))
   refine .cs z h ?_ ?_ <;> intro h
   ·refine .skip ?_
    cases h
    exact ⟨z,sb z,hS.to [0,0,0,0] z⟩
   refine .g (.q z (.q z (.nil ?_)))
   refine .cs z h ?_ ?_ <;> intro h
   ·refine .skip ?_
    cases h
    exact ⟨z,sb z,hS.to [0,0,0,0] z⟩
   refine .g (.q z (.q z (.nil ?_)))
   refine .cs z h ?_ ?_ <;> intro h
   ·refine .skip ?_
    cases h
    exact ⟨z,sb z,hS.to [0,0,0,0] z⟩
   refine .region (.q z (.q z (.nil ?_)))
   cases h
   exact ⟨z,sb z,hS.to [0,0,0,0] z⟩
  intro x E W hJ
  obtain ⟨rfl,hE,hS⟩:=hJ
  refine ⟨_,hE.sub,?_⟩
  refine .cond z (fun hb=>?_) (fun hb=>?_)
  ·have h:=sel_t hb h
   refine .g (.q z (.s (ld T.t32 hS z z z z z) z ?_))
   have ⟨y5,hy5,h⟩:=bnd h
   have hS:=hS.p3
   have hS:=hS.p2
   refine .c (.callS2 (L0:=[rowV (sv v_0_Regs) 3 1 (D.int .i64) a0.Regs,.box g_0 27 [(sv v_0_Regs),.int .i64 a0.Pc,(sv v_0_Mem)]]) hS Tryz.func115 (fun S h1 h2 h3=>(fe3 hy5 (h3.rdv (k:=1) z) h2 (zz h1))) z z ?_ z z z z)
   rintro v4 W hS
   refine .nil (.g (.qn z (.ret ?_)))
   cases h
   exact ⟨z,fin_ret (vs:=[_]) (v4,v_0_Mem) (rt z rn) z (hS.to [0,0,1] z)⟩
  have h:=sel_f hb h
  refine .g (.q z (.qn z (.cond z (fun hb=>?_) (fun hb=>?_))))
  ·have h:=sel_t hb h
   refine .rk 9 hS [0,1] T.mix ?_
   intro W hS
   have hT:=hS.to [0,1] z
   refine .tp 0 z z hT (by kernel_rfl) (.ts 1 z (fun W hT=>fa T.f32_1 z z z) hT z (by kernel_rfl) (.ts 2 z (fun W hT=>ld T.t3 hT z z z z z) hT z (by kernel_rfl) (.tp 3 z z hT (by kernel_rfl) (.ts 4 z (fun W hT=>fa T.f32_4 z z z) hT z (by kernel_rfl) (.ts 5 z (fun W hT=>ld T.t3 hT z z z z z) hT z (by kernel_rfl) (.tp 6 z z hT (by kernel_rfl) ?_))))))
   have ⟨y6,hy6,h⟩:=bnd h
   refine .by1 7 z (.call0 hS Tryz.func68 (f17 hy6) z z ?_ z z z z) (by kernel_rfl)
   intro W hS
   have hT:=hS.to [0,1] z
   refine ⟨fun _=>hT,?_⟩
   have ⟨y7,hy7,h⟩:=bnd h
   have hS:=hS.p3
   have hS:=hS.p2
   refine .by1 8 z (.callS2 (L0:=[rowV (sv v_0_Regs) 3 1 (D.int .i64) a0.Regs,.box g_0 27 [(sv v_0_Regs),.int .i64 a0.Pc,(sv v_0_Mem)]]) hS Tryz.func116 (fun S h1 h2 h3=>(f36 hy7 (h3.rdv (k:=1) z) h2 (zz h1))) z z ?_ z z z z) (by kernel_rfl)
   rintro v5 W hS
   have hT:=hS.to [2,2] z
   refine ⟨fun _=>hT,.done ?_ (by kernel_rfl)⟩
   cases h
   exact ⟨z,v5,sb z,hS.to [2,2,0,0] z⟩
  have h:=sel_f hb h
  refine .g (.q z (.qn z (.cond z (fun hb=>?_) (fun hb=>?_))))
  ·have h:=sel_t hb h
   refine .rk 11 hS [0,1] T.mix ?_
   intro W hS
   have hT:=hS.to [0,1] z
   refine .tp 0 z z hT (by kernel_rfl) (.ts 1 z (fun W hT=>fa T.f32_1 z z z) hT z (by kernel_rfl) (.ts 2 z (fun W hT=>ld T.t3 hT z z z z z) hT z (by kernel_rfl) (.tp 3 z z hT (by kernel_rfl) (.ts 5 z (fun W hT=>fa T.f32_4 z z z) hT z (by kernel_rfl) (.ts 6 z (fun W hT=>ld T.t3 hT z z z z z) hT z (by kernel_rfl) ?_)))))
   have ⟨y8,hy8,h⟩:=bnd h
   refine .by1 4 z (.call0 hS Tryz.func97 (f35 hy8) z z ?_ z z z z) (by kernel_rfl)
   intro W hS
   have hT:=hS.to [0,1] z
   refine ⟨fun _=>hT,?_⟩
   have ⟨y9,hy9,h⟩:=bnd h
   refine .by1 7 z (.call0 hS Tryz.func97 (f35 hy9) z z ?_ z z z z) (by kernel_rfl)
   intro W hS
   have hT:=hS.to [0,1] z
   refine ⟨fun _=>hT,.tp 8 z z hT (by kernel_rfl) ?_⟩
   have ⟨y10,hy10,h⟩:=bnd h
   refine .by1 9 z (.call0 hS Tryz.func117 (fa7 hy10) z z ?_ z z z z) (by kernel_rfl)
   intro W hS
   have hT:=hS.to [0,1] z
   refine ⟨fun _=>hT,?_⟩
   have ⟨y11,hy11,h⟩:=bnd h
   have hS:=hS.p3
   have hS:=hS.p2
   refine .by1 10 z (.callS2 (L0:=[rowV (sv v_0_Regs) 3 1 (D.int .i64) a0.Regs,.box g_0 27 [(sv v_0_Regs),.int .i64 a0.Pc,(sv v_0_Mem)]]) hS Tryz.func116 (fun S h1 h2 h3=>(f36 hy11 (h3.rdv (k:=1) z) h2 (zz h1))) z z ?_ z z z z) (by kernel_rfl)
   rintro v6 W hS
   have hT:=hS.to [2,2] z
   refine ⟨fun _=>hT,.done ?_ (by kernel_rfl)⟩
   cases h
   exact ⟨z,v6,sb z,hS.to [2,2,0,0] z⟩
  have h:=sel_f hb h
  refine .g (.q z (.qn z (.cond z (fun hb=>?_) (fun hb=>?_))))
  ·have h:=sel_t hb h
   refine .rk 8 hS [0,1] T.mix ?_
   intro W hS
   have hT:=hS.to [0,1] z
   refine .tp 0 z z hT (by kernel_rfl) (.ts 1 z (fun W hT=>fa T.f32_1 z z z) hT z (by kernel_rfl) (.ts 2 z (fun W hT=>ld T.t3 hT z z z z z) hT z (by kernel_rfl) (.ts 3 z (fun W hT=>fa T.f32_4 z z z) hT z (by kernel_rfl) (.ts 4 z (fun W hT=>ld T.t3 hT z z z z z) hT z (by kernel_rfl) (.tp 5 z z hT (by kernel_rfl) ?_)))))
   have ⟨y12,hy12,h⟩:=bnd h
   refine .by1 6 z (.call0 hS Tryz.func68 (f17 hy12) z z ?_ z z z z) (by kernel_rfl)
   intro W hS
   have hT:=hS.to [0,1] z
   refine ⟨fun _=>hT,?_⟩
   have ⟨y13,hy13,h⟩:=bnd h
   have hS:=hS.p3
   have hS:=hS.p2
   refine .by1 7 z (.callS2 (L0:=[rowV (sv v_0_Regs) 3 1 (D.int .i64) a0.Regs,.box g_0 27 [(sv v_0_Regs),.int .i64 a0.Pc,(sv v_0_Mem)]]) hS Tryz.func116 (fun S h1 h2 h3=>(f36 hy13 (h3.rdv (k:=1) z) h2 (zz h1))) z z ?_ z z z z) (by kernel_rfl)
   rintro v7 W hS
   have hT:=hS.to [2,2] z
   refine ⟨fun _=>hT,.done ?_ (by kernel_rfl)⟩
   cases h
   exact ⟨z,v7,sb z,hS.to [2,2,0,0] z⟩
  have h:=sel_f hb h
  refine .rk 16 hS [0,1] T.mix ?_
  intro W hS
  have hT:=hS.to [0,1] z
  refine .tp 0 z z hT (by kernel_rfl) (.ts 1 z (fun W hT=>fa T.f32_1 z z z) hT z (by kernel_rfl) (.ts 2 z (fun W hT=>ld T.t3 hT z z z z z) hT z (by kernel_rfl) (.ts 3 z (fun W hT=>fa T.f32_0 z z z) hT z (by kernel_rfl) (.ts 4 z (fun W hT=>ld T.t3 hT z z z z z) hT z (by kernel_rfl) (.tp 5 z z hT (by kernel_rfl) (.tp 6 z z hT (by kernel_rfl) (.tp 7 z z hT (by kernel_rfl) (.ts 8 z (fun W hT=>fa T.f27_0 z z z) hT z (by kernel_rfl) (.ts 10 z (fun W hT=>fa T.f32_3 z z z) hT z (by kernel_rfl) (.ts 11 z (fun W hT=>ld T.t3 hT z z z z z) hT z (by kernel_rfl) (.by1 9 z (.runs (ld T.t25 hS.p3 z z z z z) z z ?_) (by kernel_rfl))))))))))))
  have hT:=hS.to [0,1] z
  refine ⟨fun _=>hT,?_⟩
  have ⟨x2,hx2,h⟩:=bnd h
  refine .ts 12 z (fun W hT=>ixv hS.p1.lendv hx2 T.u25 T.t3 z z z) hT z (by kernel_rfl) (.by1 13 z (.runs (lde (RV.flat hS.p1.lendv hx2 z) T.t3 z z z z z) z z ?_) (by kernel_rfl))
  have hT:=hS.to [0,1] z
  refine ⟨fun _=>hT,?_⟩
  have ⟨y14,hy14,h⟩:=bnd h
  refine .by1 14 z (.call0 hS Tryz.func118 (ff2 hy14) z z ?_ z z z z) (by kernel_rfl)
  intro W hS
  have hT:=hS.to [0,1] z
  refine ⟨fun _=>hT,?_⟩
  have ⟨y15,hy15,h⟩:=bnd h
  have hS:=hS.p3
  have hS:=hS.p2
  refine .by1 15 z (.callS2 (L0:=[rowV (sv v_0_Regs) 3 1 (D.int .i64) a0.Regs,.box g_0 27 [(sv v_0_Regs),.int .i64 a0.Pc,(sv v_0_Mem)]]) hS Tryz.func116 (fun S h1 h2 h3=>(f36 hy15 (h3.rdv (k:=1) z) h2 (zz h1))) z z ?_ z z z z) (by kernel_rfl)
  rintro v8 W hS
  have hT:=hS.to [2,2] z
  refine ⟨fun _=>hT,.done ?_ (by kernel_rfl)⟩
  cases h
  exact ⟨z,v8,sb z,hS.to [2,2,0,0] z⟩
 intro x E W hJ
 rcases y1 with o3 | o4
 ·obtain ⟨rfl,v9,hE,hS⟩:=hJ
  refine ⟨_,hE.sub,?_⟩
  refine .g (.q z (.q z (.q z (.s (fa T.f27_1 z z z) z (.s (ld T.t3 hS.p2 z z z z z) z (.q z (.q z (.s (fa T.f27_1 z z z) z (.c (.st T.t3 hS.p2 z z z ?_ z z z z z))))))))))
  intro W hS
  cases h
  exact .nil (.g (.qn z (.ret (fin_ret (vs:=[_]) (v9,v_0_Mem) (rt z rn) z (hS.to [0,2,1] z)))))
 obtain ⟨rfl,hF⟩:=hJ
 refine ⟨_,fun _ _ h=>h,?_⟩
 cases h
 exact hF
theorem fed {a0 : Machine} {v_0_Regs : Hd} {v_0_Mem : Hd} {g_0 : Nat} {S : Nat → Prop} {w : World} {r : Int × (List Int) × Int × (List Int)} (h : f7u a0 = some r) (hO : Owns w [rowV (sv v_0_Regs) 3 1 (D.int .i64) a0.Regs,rowV (sv v_0_Mem) 3 1 (D.int .i64) a0.Mem,.box g_0 27 [(sv v_0_Regs),.int .i64 a0.Pc,(sv v_0_Mem)]] S) (hlt : ∀ b,S b → b < w.heap.size) : Calls Tryz.prog 64 #[.pointer (some ⟨g_0,0,none⟩)] w (Ret S w (fun s : Hd × Hd=>.int .i64 r.1) (fun s=>[.box g_0 27 [(sv s.1),.int .i64 r.2.2.1,(sv s.2)],rowV (sv s.1) 3 1 (D.int .i64) r.2.1,rowV (sv s.2) 3 1 (D.int .i64) r.2.2.2])):=by
 unfold f7u at h
 refine enter Tryz.func64 z z ?_
 have hS:=Sep.startM hO hlt
 refine .g (.qn z (.seq (.seq (.rk 10 hS [0,0,0] T.mix ?_))))
 intro W hS
 have hT:=hS.to [0,0,0] z
 refine .tp 0 z z hT (by kernel_rfl) (.tp 1 z z hT (by kernel_rfl) (.ts 2 z (fun W hT=>fa T.f27_2 z z z) hT z (by kernel_rfl) (.ts 3 z (fun W hT=>ld T.t25 hT.p2 z z z z z) hT z (by kernel_rfl) (.tp 4 z z hT (by kernel_rfl) (.tp 5 z z hT (by kernel_rfl) (.ts 6 z (fun W hT=>fa T.f27_1 z z z) hT z (by kernel_rfl) (.ts 7 z (fun W hT=>ld T.t3 hT.p2 z z z z z) hT z (by kernel_rfl) ?_)))))))
 have ⟨y1,hy1,h⟩:=bnd h
 refine .by1 8 z (.call0 hS Tryz.func95 (fba hy1 hS.p1.lendv) z z ?_ z z z z) (by kernel_rfl)
 intro W hS
 have hT:=hS.to [0,0,0] z
 refine ⟨fun _=>hT,.tp 9 z z hT (by kernel_rfl) (.done ?_ (by kernel_rfl))⟩
 refine .cs z h ?_ ?_ <;> intro h
 ·cases h
  exact .g (.qn z (.ret (fin_ret (vs:=[_]) (v_0_Regs,v_0_Mem) (rt z rn) z (hS.to [2,0,0] z))))
 refine .skip (.seq ?_)
 have ⟨x1,hx1,h⟩:=bnd h
 have ⟨y2,hy2,h⟩:=bnd h
 have ⟨y3,hy3,h⟩:=bnd h
 refine .via (R':=fun x E' W'=>x = .normal ∧ ∃ (g1 : Nat),SubL E' [(0,.pointer (some ⟨g_0,0,none⟩)),(3,.pointer (some ⟨g1,0,none⟩)),(4,.bool y3.2)] ∧ Sep S w W' [rowV (sv v_0_Regs) 3 1 (D.int .i64) a0.Regs,rowV (sv v_0_Mem) 3 1 (D.int .i64) a0.Mem,.box g_0 27 [(sv v_0_Regs),.int .i64 a0.Pc,(sv v_0_Mem)],.box g1 32 [.int .i64 y3.1.Op,.int .i64 y3.1.Rd,.int .i64 y3.1.Rs,.int .i64 y3.1.Rt,.int .i64 y3.1.Imm]]) ?_ ?_
 ·refine .rk 19 hS [0,0,0] T.mix ?_
  intro W hS
  have hT:=hS.to [0,0,0] z
  refine .tp 0 z z hT (by kernel_rfl) (.tp 1 z z hT (by kernel_rfl) (.ts 2 z (fun W hT=>fa T.f27_2 z z z) hT z (by kernel_rfl) (.ts 3 z (fun W hT=>ld T.t25 hT.p2 z z z z z) hT z (by kernel_rfl) (.tp 4 z z hT (by kernel_rfl) (.tp 5 z z hT (by kernel_rfl) (.ts 6 z (fun W hT=>fa T.f27_1 z z z) hT z (by kernel_rfl) (.ts 7 z (fun W hT=>ld T.t3 hT.p2 z z z z z) hT z (by kernel_rfl) (.tp 8 z z hT (by kernel_rfl) (.ts 9 z (fun W hT=>ixv hS.p1.lendv hx1 T.u25 T.t3 z z z) hT z (by kernel_rfl) (.ts 10 z (fun W hT=>lde (RV.flat hT.p1.lendv hx1 z) T.t3 z z z z z) hT z (by kernel_rfl) (.by [11,16] ⟨⟨_,z,?_⟩,⟨_,z,?_⟩,trivial⟩ (by kernel_rfl) z)))))))))))
  ·refine (.call0 hS Tryz.func97 (f35 hy2) z z ?_ z z z z)
   intro W hS
   have hT:=hS.to [0,0,0] z
   refine ⟨fun _=>hT,.by [12,16] ⟨⟨_,z,?_⟩,⟨_,z,?_⟩,trivial⟩ (by kernel_rfl) z⟩
   ·refine (.call0 hS Tryz.func96 (f76 hy3) z z ?_ z z z z)
    intro W hS
    have hT:=hS.to [0,0,0] z
    refine ⟨fun _=>hT,.tp 13 z z hT (by kernel_rfl) (.tp 14 z z hT (by kernel_rfl) (.tp 15 z z hT (by kernel_rfl) (.by1 16 z (.alloc T.t32 hS ?_ z z z) (by kernel_rfl))))⟩
    intro g2 W hS
    have hT:=hS.to [1,1,1] z
    refine ⟨fun _=>hT,.by1 17 z (.st T.t32 hS z z z ?_ z z z z z) (by kernel_rfl)⟩
    intro W hS
    have hT:=hS.to [1,1,1] z
    refine ⟨fun _=>hT,?_⟩
    exact .tp 18 z z hT (by kernel_rfl) (.done (⟨z,g2,sb z,hS.to [1,1,1,0] z⟩) (by kernel_rfl))
   refine (.alloc T.t32 hS ?_ z z z)
   intro g3 W hS
   have hT:=hS.to [1,1,1] z
   refine ⟨fun _=>hT,.by1 12 z (.call0 hS Tryz.func96 (f76 hy3) z z ?_ z z z z) (by kernel_rfl)⟩
   intro W hS
   have hT:=hS.to [1,1,1] z
   refine ⟨fun _=>hT,.tp 13 z z hT (by kernel_rfl) (.tp 14 z z hT (by kernel_rfl) (.tp 15 z z hT (by kernel_rfl) (.by1 17 z (.st T.t32 hS z z z ?_ z z z z z) (by kernel_rfl))))⟩
   intro W hS
   have hT:=hS.to [1,1,1] z
   refine ⟨fun _=>hT,?_⟩
   exact .tp 18 z z hT (by kernel_rfl) (.done (⟨z,g3,sb z,hS.to [1,1,1,0] z⟩) (by kernel_rfl))
  refine (.alloc T.t32 hS ?_ z z z)
  intro g4 W hS
  have hT:=hS.to [1,1,1] z
  refine ⟨fun _=>hT,.by1 11 z (.call0 hS Tryz.func97 (f35 hy2) z z ?_ z z z z) (by kernel_rfl)⟩
  intro W hS
  have hT:=hS.to [1,1,1] z
  refine ⟨fun _=>hT,.by1 12 z (.call0 hS Tryz.func96 (f76 hy3) z z ?_ z z z z) (by kernel_rfl)⟩
  intro W hS
  have hT:=hS.to [1,1,1] z
  refine ⟨fun _=>hT,.tp 13 z z hT (by kernel_rfl) (.tp 14 z z hT (by kernel_rfl) (.tp 15 z z hT (by kernel_rfl) (.by1 17 z (.st T.t32 hS z z z ?_ z z z z z) (by kernel_rfl))))⟩
  intro W hS
  have hT:=hS.to [1,1,1] z
  refine ⟨fun _=>hT,?_⟩
  exact .tp 18 z z hT (by kernel_rfl) (.done (⟨z,g4,sb z,hS.to [1,1,1,0] z⟩) (by kernel_rfl))
 intro x E W hJ
 obtain ⟨rfl,g5,hE,hS⟩:=hJ
 refine ⟨_,hE.sub,?_⟩
 refine .seq (.g (.q z (.q z (.nil ?_))))
 refine .cs z h ?_ ?_ <;> intro h
 ·cases h
  exact .g (.qn z (.ret (fin_ret (vs:=[_]) (v_0_Regs,v_0_Mem) (rt z rn) z (hS.to [2,0,0] z))))
 refine .skip (.seq (.g (.s (fa T.f32_0 z z z) z (.s (ld T.t3 hS.p3 z z z z z) z (.qn z (.cond z (fun hb=>?_) (fun hb=>?_)))))))
 ·have h:=sel_t hb h
  cases h
  exact .g (.qn z (.ret (fin_ret (vs:=[_]) (v_0_Regs,v_0_Mem) (rt z rn) z (hS.to [2,0,0] z))))
 have h:=sel_f hb h
 refine .skip (.seq (.g (.q z (.s (ld T.t32 hS.p3 z z z z z) z ?_))))
 have ⟨y4,hy4,h⟩:=bnd h
 have hS:=hS.p2
 have hS:=hS.p2
 have hS:=hS.p2
 refine .c (.callS2 (L0:=[rowV (sv v_0_Regs) 3 1 (D.int .i64) a0.Regs,rowV (sv v_0_Mem) 3 1 (D.int .i64) a0.Mem,.box g_0 27 [(sv v_0_Regs),.int .i64 a0.Pc,(sv v_0_Mem)]]) hS Tryz.func98 (fun S h1 h2 h3=>(ff7 hy4 h2 (zz h1))) z z ?_ z z z z)
 rintro ⟨v1,v2⟩ W hS
 refine .q z (.nil ?_)
 refine .cs z h ?_ ?_ <;> intro h
 ·cases h
  exact .g (.qn z (.ret (fin_ret (vs:=[_]) (v1,v2) (rt z rn) z (hS.to [0,0,0] z))))
 cases h
 exact .skip (.g (.qn z (.ret (fin_ret (vs:=[_]) (v1,v2) (rt z rn) z (hS.to [0,0,0] z)))))
def fbg (w : World) (r : Machine × (List Int) × Int) : Env → World → Prop:=Fin Tryz.prog Tryz.f32 No w (fun s : Hd × Hd × Hd=>.tuple #[.agg #[(sv s.1),.int .i64 r.1.Pc,(sv s.2.1)],(sv s.2.2),.int .i64 r.2.2]) (fun s=>[rowV (sv s.1) 3 1 (D.int .i64) r.1.Regs,rowV (sv s.2.1) 3 1 (D.int .i64) r.1.Mem,rowV (sv s.2.2) 3 1 (D.int .i64) r.2.1]) .ret
theorem f14 {a0 : Machine} {a1 : Int} {v_0_Regs : Hd} {v_0_Mem : Hd} {w : World} {r : Machine × (List Int) × Int} (h : f3s a0 a1 = some r) (q_0_Regs : RV w (Old No w) (sv v_0_Regs) 3 1 (D.int .i64) a0.Regs) (q_0_Mem : RV w (Old No w) (sv v_0_Mem) 3 1 (D.int .i64) a0.Mem) : Calls Tryz.prog 32 #[.agg #[(sv v_0_Regs),.int .i64 a0.Pc,(sv v_0_Mem)],.int .i64 a1] w (Ret No w (fun s : Hd × Hd × Hd=>.tuple #[.agg #[(sv s.1),.int .i64 r.1.Pc,(sv s.2.1)],(sv s.2.2),.int .i64 r.2.2]) (fun s=>[rowV (sv s.1) 3 1 (D.int .i64) r.1.Regs,rowV (sv s.2.1) 3 1 (D.int .i64) r.1.Mem,rowV (sv s.2.2) 3 1 (D.int .i64) r.2.1])):=by
 unfold f3s at h
 refine enter Tryz.func32 z z ?_
 have hS:=Sep.start w
 refine .g (.c (.box hS z z ?_ z z))
 intro g1 W hS
 refine .c (.alloc T.t27 hS ?_ z z z)
 intro g2 W hS
 refine .q z (.qn z (.g (.c (.liv [] (D.int .i64) T.u25 T.t3 hS z z z z ?_ z (fun _=>z) z z z z))))
 intro v1 W hS
 refine .qn z (.seq (.g (.s (ld T.t27 hS.p2 z z z z z) z ?_)))
 have ⟨y1,hy1,h⟩:=bnd h
 refine .c (.call0 hS Tryz.func62 (fbo hy1 (hS.keep q_0_Regs) (hS.keep q_0_Mem)) z z ?_ z z z z)
 intro W hS
 refine .q z (.q z ?_)
 have ⟨b1,hb1,h⟩:=bnd h
 refine .chunk 4 19 (b1) hS ?_ ?_
 ·refine .both (!y1) (fun hb=>?_) (fun hb=>?_)
  ·refine .xx hb z (.xx hb z (.xx hb z ?_))
   cases sel_t hb hb1
   exact .s (pkt hb z z z) z (.nil (ck 4 hS z z z z))
  have hg1:=hb
  have h:=sel_f hb hb1
  refine .g hg1 (.q z ?_) z
  have ⟨y2,hy2,h⟩:=bnd h
  refine .g hg1 (.c (.call0 hS Tryz.func48 (f07 hy2) z z ?_ z z z z)) z
  intro W hS
  refine .g hg1 (.q z (.s (pkf hg1 z z z) z ?_)) z
  cases h
  exact .nil (ck 4 hS z z z z)
 intro W hS
 refine .nil ?_
 refine .cs z h ?_ ?_ <;> intro h
 ·refine .g (.s (bs T.s27 z z) z (.q z (.c (.st T.t27 hS.p1 z z z ?_ z z z z z))))
  intro W hS
  refine .q z (.qn z (.ret ?_))
  have hS:=hS.nilv 3 1 (D.int .i64)
  have hS:=hS.nilv 3 1 (D.int .i64)
  cases h
  exact fin_ret (vs:=[_,_,_]) (nilH,nilH,v1) (rc hS.p2 T.t27 z (rt z (rt z rn)) z z) z (hS.to [1,0,1] z)
 refine .skip (.g (.s (ld T.t27 hS.p2 z z z z z) z ?_))
 have ⟨y3,hy3,h⟩:=bnd h
 refine .c (.call hS Tryz.func63 (fe8 hy3 (hS.keep q_0_Regs) (hS.keep q_0_Mem)) z z ?_ z z z z)
 rintro ⟨v2,v3⟩ W hS
 refine .c (.alloc T.t27 hS ?_ z z z)
 intro g3 W hS
 refine .c (.st T.t27 hS z z z ?_ z z z z z)
 intro W hS
 refine .nil (.seq (.g (.qn z (.block ?_))))
 have ⟨y4,hy4,h⟩:=bnd h
 refine .via (.iter (fun s1 E' W'=>∃ (v10 : Hd) (v11 : Hd) (v12 : Hd),SubL E' [(1,.int .i64 a1),(4,.pointer (some ⟨g2,0,none⟩)),(7,(sv v10)),(8,.pointer (some ⟨g3,0,none⟩)),(9,.int .i64 s1.2.1)] ∧ Sep No w W' [.box g3 27 [(sv v11),.int .i64 s1.2.2.2.1,(sv v12)],.box g2 27 [(sv nilH),.int .i64 0,(sv nilH)],.box g1 27 [(sv v_0_Regs),.int .i64 a0.Pc,(sv v_0_Mem)],rowV (sv v10) 3 1 (D.int .i64) s1.1,rowV (sv v11) 3 1 (D.int .i64) s1.2.2.1,rowV (sv v12) 3 1 (D.int .i64) s1.2.2.2.2]) (fun y5 x E' W'=>(match y5 with | .inl o1=>x = .ret ∧ fbg w o1 E' W' | .inr o2=>x = .exit 0 ∧ ∃ (v13 : Hd) (v14 : Hd) (v15 : Hd),SubL E' [(4,.pointer (some ⟨g2,0,none⟩)),(7,(sv v13)),(8,.pointer (some ⟨g3,0,none⟩))] ∧ Sep No w W' [.box g3 27 [(sv v14),.int .i64 o2.2.2.1,(sv v15)],.box g2 27 [(sv nilH),.int .i64 0,(sv nilH)],.box g1 27 [(sv v_0_Regs),.int .i64 a0.Pc,(sv v_0_Mem)],rowV (sv v13) 3 1 (D.int .i64) o2.1,rowV (sv v14) 3 1 (D.int .i64) o2.2.1,rowV (sv v15) 3 1 (D.int .i64) o2.2.2.2])) hy4 ⟨v1,v2,v3,sb rfl,hS.to [0,3,3,2,0,0] rfl⟩ ?_) ?_
 ·intro s1 y6 E W h hI
  obtain ⟨v7,v8,v9,hE,hS⟩:=hI
  refine CW.sub hE ?_
  unfold f4e at h
  refine .seq (.g (.q z (.q z (.qn z (.cond z (fun hb=>?_) (fun hb=>?_))))))
  ·have h:=sel_t hb h
   refine .skip ?_
   have ⟨y7,hy7,h⟩:=bnd h
   refine .seq (CW.via (R':=fun x E' W'=>(match y7 with | .inl o3=>x = .normal ∧ ∃ (v16 : Hd) (v17 : Hd) (v18 : Hd),SubL E' [(1,.int .i64 a1),(4,.pointer (some ⟨g2,0,none⟩)),(7,(sv v16)),(8,.pointer (some ⟨g3,0,none⟩)),(9,.int .i64 s1.2.1)] ∧ Sep No w W' [.box g3 27 [(sv v17),.int .i64 o3.2.2.1,(sv v18)],.box g2 27 [(sv nilH),.int .i64 0,(sv nilH)],.box g1 27 [(sv v_0_Regs),.int .i64 a0.Pc,(sv v_0_Mem)],rowV (sv v16) 3 1 (D.int .i64) o3.1,rowV (sv v17) 3 1 (D.int .i64) o3.2.1,rowV (sv v18) 3 1 (D.int .i64) o3.2.2.2] | .inr o4=>x = .ret ∧ fbg w o4 E' W')) ?_ ?_)
   ·have h:=hy7
    refine .block (.seq (.region ?_))
    have ⟨y8,hy8,h⟩:=bnd h
    have hS:=hS.p5
    have hS:=hS.p5
    refine .c (.callS2 (L0:=[rowV (sv v8) 3 1 (D.int .i64) s1.2.2.1,rowV (sv v9) 3 1 (D.int .i64) s1.2.2.2.2,.box g3 27 [(sv v8),.int .i64 s1.2.2.2.1,(sv v9)]]) hS Tryz.func64 (fun S h1 h2 h3=>(fed hy8 h2 (zz h1))) z z ?_ z z z z)
    rintro ⟨v19,v20⟩ W hS
    refine .qn z (.seq (.g (.q z (.q z (.nil ?_)))))
    refine .cs z h ?_ ?_ <;> intro h
    ·refine .exit ?_
     cases h
     exact ⟨z,v7,v19,v20,sb z,hS.to [0,2,2,2,0,0] z⟩
    refine .skip (.seq (.g (.q z (.q z (.q z ?_)))))
    have ⟨b2,hb2,h⟩:=bnd h
    refine .chunk 6 40 (b2) hS ?_ ?_
    ·refine .both (y8.1 != 2) (fun hb=>?_) (fun hb=>?_)
     ·refine .xx hb z (.xx hb z (.xx hb z (.xx hb z (.xx hb z ?_))))
      cases sel_t hb hb2
      exact .s (pkt hb z z z) z (.nil (ck 6 hS z z z z))
     have hg2:=hb
     have h:=sel_f hb hb2
     refine .g hg2 (.s (fa T.f27_0 z z z) z (.g hg2 (.s (ld T.t25 hS z z z z z) z ?_) z)) z
     have ⟨x1,hx1,h⟩:=bnd h
     refine .g hg2 (.s (ixv hS.p1.lendv hx1 T.u25 T.t3 z z z) z (.g hg2 (.s (lde (RV.flat hS.p1.lendv hx1 z) T.t3 z z z z z) z (.g hg2 (.q z (.s (pkf hg2 z z z) z ?_)) z)) z)) z
     cases h
     exact .nil (ck 6 hS z z z z)
    intro W hS
    refine .nil ?_
    refine .cs z h ?_ ?_ <;> intro h
    ·refine .g (.s (ld T.t27 hS z z z z z) z (.q z (.q z (.c (.st T.t27 hS.p3 z z z ?_ z z z z z)))))
     intro W hS
     refine .q z (.qn z (.ret ?_))
     cases h
     exact ⟨z,fin_ret (vs:=[_,_,_]) (v19,v20,v7) (rc hS T.t27 z (rt z (rt z rn)) z z) z (hS.to [2,2,3] z)⟩
    refine .skip (.g (.q z (.s (fa T.f27_0 z z z) z (.s (ld T.t25 hS z z z z z) z ?_))))
    have ⟨x2,hx2,h⟩:=bnd h
    refine .s (ixv hS.p1.lendv hx2 T.u25 T.t3 z z z) z (.s (lde (RV.flat hS.p1.lendv hx2 z) T.t3 z z z z z) z (.c (.liv [x2] (D.int .i64) T.u25 T.t3 hS z z z z ?_ z (fun _=>z) z z z z)))
    intro v21 W hS
    have ⟨r1,hr1,h⟩:=bnd h
    have hT0:=hS.p6
    refine .c (.apprv hr1 hT0 hT0.p1.lendv (fun _=>z) T.u25 T.t3 z z z ?_ z z z z z)
    intro v22 W hS
    refine .qn z (.region (.s (fa T.f27_1 z z z) z (.s (ld T.t3 hS.p2 z z z z z) z (.q z (.s (fa T.f27_1 z z z) z (.c (.st T.t3 hS.p2 z z z ?_ z z z z z)))))))
    intro W hS
    refine .nil ?_
    cases h
    exact ⟨z,v22,v19,v20,sb z,hS.to [0,4,4,0,1,1] z⟩
   intro x E W hJ
   rcases y7 with o5 | o6
   ·obtain ⟨rfl,v23,v24,v25,hE,hS⟩:=hJ
    refine ⟨_,hE.sub,?_⟩
    refine .region (.q z (.q z (.q z (.nil ?_))))
    cases h
    exact ⟨z,v23,v24,v25,sb z,hS.to [0,0,0,0,0,0] z⟩
   obtain ⟨rfl,hF⟩:=hJ
   refine ⟨_,fun _ _ h=>h,?_⟩
   cases h
   exact ⟨by simp,z,hF⟩
  have h:=sel_f hb h
  refine .exit ?_
  cases h
  exact ⟨by simp,z,v7,v8,v9,sb z,hS.to [0,0,0,0,0,0] z⟩
 intro x E W hJ
 rcases y4 with o7 | o8
 ·obtain ⟨rfl,hF⟩:=hJ
  refine ⟨_,fun _ _ h=>h,?_⟩
  cases h
  exact hF
 obtain ⟨rfl,v26,v27,v28,hE,hS⟩:=hJ
 refine ⟨_,hE.sub,?_⟩
 refine .g (.s (ld T.t27 hS z z z z z) z (.q z (.c (.st T.t27 hS.p1 z z z ?_ z z z z z))))
 intro W hS
 cases h
 exact .q z (.qn z (.ret (fin_ret (vs:=[_,_,_]) (v27,v28,v26) (rc hS T.t27 z (rt z (rt z rn)) z z) z (hS.to [4,4,3] z))))
end Go.Proofs.YtmpplggjpmmhlaaGreatDoor.N
namespace Go.Proofs.YtmpplggjpmmhlaaGreatDoor.N
open Go.Proofs.YtmpplggjpmmhlaaGreatDoor.X
theorem fdb {k : Nat} {a0 : L6Rd} {v_0_b : Hd} {g_0 : Nat} {S : Nat → Prop} {w : World} {r : Machine × Int × (List Int) × Int} (h : f6k k a0 = some r) (q_0_b : RV w (Old S w) (sv v_0_b) 5 1 (D.int .u8) a0.b) (hO : Owns w [.box g_0 100 [(sv v_0_b),.int .i64 a0.p]] S) (hlt : ∀ b,S b → b < w.heap.size) : Calls Tryz.prog 58 #[.pointer (some ⟨g_0,0,none⟩)] w (Ret S w (fun s : Hd × Hd × Hd=>.tuple #[.agg #[(sv s.1),.int .i64 r.1.Pc,(sv s.2.1)],.int .i64 r.2.1,(sv s.2.2)]) (fun s=>[.box g_0 100 [(sv v_0_b),.int .i64 r.2.2.2],rowV (sv s.1) 3 1 (D.int .i64) r.1.Regs,rowV (sv s.2.1) 3 1 (D.int .i64) r.1.Mem,rowV (sv s.2.2) 3 1 (D.int .i64) r.2.2.1])):=by
 unfold f6k at h
 refine enter Tryz.func58 z z ?_
 have hS:=Sep.startM hO hlt
 refine .g (.c (.alloc T.t27 hS ?_ z z z))
 intro g1 W hS
 refine .q z (.qn z (.g (.q z ?_)))
 have ⟨y1,hy1,h⟩:=bnd h
 have hS:=hS.p1
 refine .c (.callS2 (L0:=[.box g_0 100 [(sv v_0_b),.int .i64 a0.p]]) hS Tryz.func35 (fun S h1 h2 h3=>(fcx hy1 (hS.keepS q_0_b h1) h2 (zz h1))) z z ?_ z z z z)
 rintro v1 W hS
 refine .qn z (.g (.q z ?_))
 have ⟨y2,hy2,h⟩:=bnd h
 refine .c (.callS2 (L0:=[.box g_0 100 [(sv v_0_b),.int .i64 y1.2]]) hS Tryz.func36 (fun S h1 h2 h3=>(f00 hy2 (hS.keepS q_0_b h1) h2 (zz h1))) z z ?_ z z z z)
 rintro ⟨⟩ W hS
 refine .q z (.q z ?_)
 have ⟨y3,hy3,h⟩:=bnd h
 refine .c (.callS2 (L0:=[.box g_0 100 [(sv v_0_b),.int .i64 y2.2]]) hS Tryz.func36 (fun S h1 h2 h3=>(f00 hy3 (hS.keepS q_0_b h1) h2 (zz h1))) z z ?_ z z z z)
 rintro ⟨⟩ W hS
 refine .q z (.c (.liv [w64 (1 + y2.1),w64 (1 + y3.1)] (D.int .i64) T.u25 T.t3 hS z z z z ?_ z (fun _=>z) z z z z))
 intro v2 W hS
 refine .q z ?_
 have ⟨y4,hy4,h⟩:=bnd h
 refine .c (.call hS Tryz.func26 (fd5 hy4 hS.lendv hS.p2.lendv) z z ?_ z z z z)
 rintro ⟨v3,v4⟩ W hS
 refine .q z (.q z (.q z (.q z (.c (.alloc T.t27 hS ?_ z z z)))))
 intro g2 W hS
 refine .c (.st T.t27 hS z z z ?_ z z z z z)
 intro W hS
 refine .q z (.qn z (.g (.q z ?_)))
 have ⟨y5,hy5,h⟩:=bnd h
 have hS:=hS.p4
 refine .c (.callS2 (L0:=[.box g_0 100 [(sv v_0_b),.int .i64 y3.2]]) hS Tryz.func36 (fun S h1 h2 h3=>(f00 hy5 (hS.keepS q_0_b h1) h2 (zz h1))) z z ?_ z z z z)
 rintro ⟨⟩ W hS
 refine .qn z (.seq ?_)
 have ⟨y6,hy6,h⟩:=bnd h
 have ⟨x1,hx1,h⟩:=bnd h
 have ⟨y7,hy7,h⟩:=bnd h
 refine .via (R':=fun x E' W'=>x = .normal ∧ ∃ (g3 : Nat) (v5 : Hd) (v6 : Hd) (v7 : Hd),SubL E' [(2,.pointer (some ⟨g1,0,none⟩)),(7,.int .i64 y4.2.1),(10,.pointer (some ⟨g3,0,none⟩)),(11,(sv v7))] ∧ Sep S w W' [.box g_0 100 [(sv v_0_b),.int .i64 y6.2],.box g2 27 [(sv v3),.int .i64 y4.1.Pc,(sv v4)],rowV (sv v3) 3 1 (D.int .i64) y4.1.Regs,rowV (sv v4) 3 1 (D.int .i64) y4.1.Mem,rowV (sv v2) 3 1 (D.int .i64) [w64 (1 + y2.1),w64 (1 + y3.1)],rowV (sv v1) 23 1 (fun (l : List Instr)=>D.row 32 5 (l.map dInstr)) y1.1,.box g1 27 [(sv nilH),.int .i64 0,(sv nilH)],.box g3 27 [(sv v5),.int .i64 y7.1.Pc,(sv v6)],rowV (sv v5) 3 1 (D.int .i64) y7.1.Regs,rowV (sv v6) 3 1 (D.int .i64) y7.1.Mem,rowV (sv v7) 3 1 (D.int .i64) y7.2.1]) ?_ ?_
 ·refine .rk 17 hS [1,1,1,1,1,1] T.mix ?_
  intro W hS
  have hT:=hS.to [1,1,1,1,1,1] z
  refine .ts 0 z (fun W hT=>ld T.t27 hT z z z z z) hT z (by kernel_rfl) (.tp 1 z z hT (by kernel_rfl) (.tp 3 z z hT (by kernel_rfl) (.by [2,4,13] ⟨⟨_,z,?_⟩,⟨_,z,?_⟩,⟨_,z,?_⟩,trivial⟩ (by kernel_rfl) z)))
  ·refine (.liv [1,10] (D.int .i64) T.u25 T.t3 hS z z z z ?_ z (fun _=>z) z z z z)
   intro v8 W hS
   have hT:=hS.to [2,2,2,2,2,2] z
   refine ⟨fun _=>hT,.by [4,13] ⟨⟨_,z,?_⟩,⟨_,z,?_⟩,trivial⟩ (by kernel_rfl) z⟩
   ·have hS:=hS.p1
    refine (.callS2 (L0:=[.box g_0 100 [(sv v_0_b),.int .i64 y5.2]]) hS Tryz.func36 (fun S h1 h2 h3=>(f00 hy6 (hS.keepS q_0_b h1) h2 (zz h1))) z z ?_ z z z z)
    rintro ⟨⟩ W hS
    have hT:=hS.to [2,2,2,2,2,2] z
    refine ⟨fun _=>hT,.ts 5 z (fun W hT=>ixv hS.p1.lendv hx1 T.u25 T.t3 z z z) hT z (by kernel_rfl) (.by [6,13] ⟨⟨_,z,?_⟩,⟨_,z,?_⟩,trivial⟩ (by kernel_rfl) z)⟩
    ·refine (.runs (lde (RV.flat hS.p1.lendv hx1 z) T.t3 z z z z z) z z ?_)
     have hT:=hS.to [2,2,2,2,2,2] z
     refine ⟨fun _=>hT,.tp 7 z z hT (by kernel_rfl) (.by [8,13] ⟨⟨_,z,?_⟩,⟨_,z,?_⟩,trivial⟩ (by kernel_rfl) z)⟩
     ·refine (.call hS Tryz.func32 (f14 hy7 hS.p3.lendv hS.p4.lendv) z z ?_ z z z z)
      rintro ⟨v9,v10,v11⟩ W hS
      have hT:=hS.to [5,5,5,5,5,5] z
      refine ⟨fun _=>hT,.tp 9 z z hT (by kernel_rfl) (.tp 10 z z hT (by kernel_rfl) (.tp 11 z z hT (by kernel_rfl) (.tp 12 z z hT (by kernel_rfl) (.by1 13 z (.alloc T.t27 hS ?_ z z z) (by kernel_rfl)))))⟩
      intro g4 W hS
      have hT:=hS.to [6,6,6,6,6,6] z
      refine ⟨fun _=>hT,.by1 14 z (.st T.t27 hS z z z ?_ z z z z z) (by kernel_rfl)⟩
      intro W hS
      have hT:=hS.to [6,6,6,6,6,6] z
      refine ⟨fun _=>hT,?_⟩
      exact .tp 15 z z hT (by kernel_rfl) (.tp 16 z z hT (by kernel_rfl) (.done (⟨z,g4,v9,v10,v11,sb z,hS.to [4,5,5,5,5,5,5,0,0,0,0] z⟩) (by kernel_rfl)))
     refine (.alloc T.t27 hS ?_ z z z)
     intro g5 W hS
     have hT:=hS.to [3,3,3,3,3,3] z
     refine ⟨fun _=>hT,.by1 8 z (.call hS Tryz.func32 (f14 hy7 hS.p4.lendv hS.p5.lendv) z z ?_ z z z z) (by kernel_rfl)⟩
     rintro ⟨v12,v13,v14⟩ W hS
     have hT:=hS.to [6,6,6,6,6,6] z
     refine ⟨fun _=>hT,.tp 9 z z hT (by kernel_rfl) (.tp 10 z z hT (by kernel_rfl) (.tp 11 z z hT (by kernel_rfl) (.tp 12 z z hT (by kernel_rfl) (.by1 14 z (.st T.t27 hS.p3 z z z ?_ z z z z z) (by kernel_rfl)))))⟩
     intro W hS
     have hT:=hS.to [6,6,6,6,6,6] z
     refine ⟨fun _=>hT,?_⟩
     exact .tp 15 z z hT (by kernel_rfl) (.tp 16 z z hT (by kernel_rfl) (.done (⟨z,g5,v12,v13,v14,sb z,hS.to [4,5,5,5,5,5,5,0,0,0,0] z⟩) (by kernel_rfl)))
    refine (.alloc T.t27 hS ?_ z z z)
    intro g6 W hS
    have hT:=hS.to [3,3,3,3,3,3] z
    refine ⟨fun _=>hT,.by1 6 z (.runs (lde (RV.flat hS.p2.lendv hx1 z) T.t3 z z z z z) z z ?_) (by kernel_rfl)⟩
    have hT:=hS.to [3,3,3,3,3,3] z
    refine ⟨fun _=>hT,.tp 7 z z hT (by kernel_rfl) (.by1 8 z (.call hS Tryz.func32 (f14 hy7 hS.p4.lendv hS.p5.lendv) z z ?_ z z z z) (by kernel_rfl))⟩
    rintro ⟨v15,v16,v17⟩ W hS
    have hT:=hS.to [6,6,6,6,6,6] z
    refine ⟨fun _=>hT,.tp 9 z z hT (by kernel_rfl) (.tp 10 z z hT (by kernel_rfl) (.tp 11 z z hT (by kernel_rfl) (.tp 12 z z hT (by kernel_rfl) (.by1 14 z (.st T.t27 hS.p3 z z z ?_ z z z z z) (by kernel_rfl)))))⟩
    intro W hS
    have hT:=hS.to [6,6,6,6,6,6] z
    refine ⟨fun _=>hT,?_⟩
    exact .tp 15 z z hT (by kernel_rfl) (.tp 16 z z hT (by kernel_rfl) (.done (⟨z,g6,v15,v16,v17,sb z,hS.to [4,5,5,5,5,5,5,0,0,0,0] z⟩) (by kernel_rfl)))
   refine (.alloc T.t27 hS ?_ z z z)
   intro g7 W hS
   have hT:=hS.to [3,3,3,3,3,3] z
   refine ⟨fun _=>hT,?_⟩
   have hS:=hS.p2
   refine .by1 4 z (.callS2 (L0:=[.box g_0 100 [(sv v_0_b),.int .i64 y5.2]]) hS Tryz.func36 (fun S h1 h2 h3=>(f00 hy6 (hS.keepS q_0_b h1) h2 (zz h1))) z z ?_ z z z z) (by kernel_rfl)
   rintro ⟨⟩ W hS
   have hT:=hS.to [3,3,3,3,3,3] z
   refine ⟨fun _=>hT,.ts 5 z (fun W hT=>ixv hS.p2.lendv hx1 T.u25 T.t3 z z z) hT z (by kernel_rfl) (.by1 6 z (.runs (lde (RV.flat hS.p2.lendv hx1 z) T.t3 z z z z z) z z ?_) (by kernel_rfl))⟩
   have hT:=hS.to [3,3,3,3,3,3] z
   refine ⟨fun _=>hT,.tp 7 z z hT (by kernel_rfl) (.by1 8 z (.call hS Tryz.func32 (f14 hy7 hS.p4.lendv hS.p5.lendv) z z ?_ z z z z) (by kernel_rfl))⟩
   rintro ⟨v18,v19,v20⟩ W hS
   have hT:=hS.to [6,6,6,6,6,6] z
   refine ⟨fun _=>hT,.tp 9 z z hT (by kernel_rfl) (.tp 10 z z hT (by kernel_rfl) (.tp 11 z z hT (by kernel_rfl) (.tp 12 z z hT (by kernel_rfl) (.by1 14 z (.st T.t27 hS.p4 z z z ?_ z z z z z) (by kernel_rfl)))))⟩
   intro W hS
   have hT:=hS.to [6,6,6,6,6,6] z
   refine ⟨fun _=>hT,?_⟩
   exact .tp 15 z z hT (by kernel_rfl) (.tp 16 z z hT (by kernel_rfl) (.done (⟨z,g7,v18,v19,v20,sb z,hS.to [4,5,5,5,5,5,5,0,0,0,0] z⟩) (by kernel_rfl)))
  ·refine (.callS2 (L0:=[.box g_0 100 [(sv v_0_b),.int .i64 y5.2]]) hS Tryz.func36 (fun S h1 h2 h3=>(f00 hy6 (hS.keepS q_0_b h1) h2 (zz h1))) z z ?_ z z z z)
   rintro ⟨⟩ W hS
   have hT:=hS.to [1,1,1,1,1,1] z
   refine ⟨fun _=>hT,.by [2,13] ⟨⟨_,z,?_⟩,⟨_,z,?_⟩,trivial⟩ (by kernel_rfl) z⟩
   ·refine (.liv [1,10] (D.int .i64) T.u25 T.t3 hS z z z z ?_ z (fun _=>z) z z z z)
    intro v21 W hS
    have hT:=hS.to [2,2,2,2,2,2] z
    refine ⟨fun _=>hT,.ts 5 z (fun W hT=>ixv hS.lendv hx1 T.u25 T.t3 z z z) hT z (by kernel_rfl) (.by [6,13] ⟨⟨_,z,?_⟩,⟨_,z,?_⟩,trivial⟩ (by kernel_rfl) z)⟩
    ·refine (.runs (lde (RV.flat hS.lendv hx1 z) T.t3 z z z z z) z z ?_)
     have hT:=hS.to [2,2,2,2,2,2] z
     refine ⟨fun _=>hT,.tp 7 z z hT (by kernel_rfl) (.by [8,13] ⟨⟨_,z,?_⟩,⟨_,z,?_⟩,trivial⟩ (by kernel_rfl) z)⟩
     ·refine (.call hS Tryz.func32 (f14 hy7 hS.p3.lendv hS.p4.lendv) z z ?_ z z z z)
      rintro ⟨v22,v23,v24⟩ W hS
      have hT:=hS.to [5,5,5,5,5,5] z
      refine ⟨fun _=>hT,.tp 9 z z hT (by kernel_rfl) (.tp 10 z z hT (by kernel_rfl) (.tp 11 z z hT (by kernel_rfl) (.tp 12 z z hT (by kernel_rfl) (.by1 13 z (.alloc T.t27 hS ?_ z z z) (by kernel_rfl)))))⟩
      intro g8 W hS
      have hT:=hS.to [6,6,6,6,6,6] z
      refine ⟨fun _=>hT,.by1 14 z (.st T.t27 hS z z z ?_ z z z z z) (by kernel_rfl)⟩
      intro W hS
      have hT:=hS.to [6,6,6,6,6,6] z
      refine ⟨fun _=>hT,?_⟩
      exact .tp 15 z z hT (by kernel_rfl) (.tp 16 z z hT (by kernel_rfl) (.done (⟨z,g8,v22,v23,v24,sb z,hS.to [5,5,5,5,5,5,5,0,0,0,0] z⟩) (by kernel_rfl)))
     refine (.alloc T.t27 hS ?_ z z z)
     intro g9 W hS
     have hT:=hS.to [3,3,3,3,3,3] z
     refine ⟨fun _=>hT,.by1 8 z (.call hS Tryz.func32 (f14 hy7 hS.p4.lendv hS.p5.lendv) z z ?_ z z z z) (by kernel_rfl)⟩
     rintro ⟨v25,v26,v27⟩ W hS
     have hT:=hS.to [6,6,6,6,6,6] z
     refine ⟨fun _=>hT,.tp 9 z z hT (by kernel_rfl) (.tp 10 z z hT (by kernel_rfl) (.tp 11 z z hT (by kernel_rfl) (.tp 12 z z hT (by kernel_rfl) (.by1 14 z (.st T.t27 hS.p3 z z z ?_ z z z z z) (by kernel_rfl)))))⟩
     intro W hS
     have hT:=hS.to [6,6,6,6,6,6] z
     refine ⟨fun _=>hT,?_⟩
     exact .tp 15 z z hT (by kernel_rfl) (.tp 16 z z hT (by kernel_rfl) (.done (⟨z,g9,v25,v26,v27,sb z,hS.to [5,5,5,5,5,5,5,0,0,0,0] z⟩) (by kernel_rfl)))
    refine (.alloc T.t27 hS ?_ z z z)
    intro g10 W hS
    have hT:=hS.to [3,3,3,3,3,3] z
    refine ⟨fun _=>hT,.by1 6 z (.runs (lde (RV.flat hS.p1.lendv hx1 z) T.t3 z z z z z) z z ?_) (by kernel_rfl)⟩
    have hT:=hS.to [3,3,3,3,3,3] z
    refine ⟨fun _=>hT,.tp 7 z z hT (by kernel_rfl) (.by1 8 z (.call hS Tryz.func32 (f14 hy7 hS.p4.lendv hS.p5.lendv) z z ?_ z z z z) (by kernel_rfl))⟩
    rintro ⟨v28,v29,v30⟩ W hS
    have hT:=hS.to [6,6,6,6,6,6] z
    refine ⟨fun _=>hT,.tp 9 z z hT (by kernel_rfl) (.tp 10 z z hT (by kernel_rfl) (.tp 11 z z hT (by kernel_rfl) (.tp 12 z z hT (by kernel_rfl) (.by1 14 z (.st T.t27 hS.p3 z z z ?_ z z z z z) (by kernel_rfl)))))⟩
    intro W hS
    have hT:=hS.to [6,6,6,6,6,6] z
    refine ⟨fun _=>hT,?_⟩
    exact .tp 15 z z hT (by kernel_rfl) (.tp 16 z z hT (by kernel_rfl) (.done (⟨z,g10,v28,v29,v30,sb z,hS.to [5,5,5,5,5,5,5,0,0,0,0] z⟩) (by kernel_rfl)))
   refine (.alloc T.t27 hS ?_ z z z)
   intro g11 W hS
   have hT:=hS.to [2,2,2,2,2,2] z
   refine ⟨fun _=>hT,.by1 2 z (.liv [1,10] (D.int .i64) T.u25 T.t3 hS z z z z ?_ z (fun _=>z) z z z z) (by kernel_rfl)⟩
   intro v31 W hS
   have hT:=hS.to [3,3,3,3,3,3] z
   refine ⟨fun _=>hT,.ts 5 z (fun W hT=>ixv hS.lendv hx1 T.u25 T.t3 z z z) hT z (by kernel_rfl) (.by1 6 z (.runs (lde (RV.flat hS.lendv hx1 z) T.t3 z z z z z) z z ?_) (by kernel_rfl))⟩
   have hT:=hS.to [3,3,3,3,3,3] z
   refine ⟨fun _=>hT,.tp 7 z z hT (by kernel_rfl) (.by1 8 z (.call hS Tryz.func32 (f14 hy7 hS.p4.lendv hS.p5.lendv) z z ?_ z z z z) (by kernel_rfl))⟩
   rintro ⟨v32,v33,v34⟩ W hS
   have hT:=hS.to [6,6,6,6,6,6] z
   refine ⟨fun _=>hT,.tp 9 z z hT (by kernel_rfl) (.tp 10 z z hT (by kernel_rfl) (.tp 11 z z hT (by kernel_rfl) (.tp 12 z z hT (by kernel_rfl) (.by1 14 z (.st T.t27 hS.p4 z z z ?_ z z z z z) (by kernel_rfl)))))⟩
   intro W hS
   have hT:=hS.to [6,6,6,6,6,6] z
   refine ⟨fun _=>hT,?_⟩
   exact .tp 15 z z hT (by kernel_rfl) (.tp 16 z z hT (by kernel_rfl) (.done (⟨z,g11,v32,v33,v34,sb z,hS.to [5,5,5,5,5,5,5,0,0,0,0] z⟩) (by kernel_rfl)))
  refine (.alloc T.t27 hS ?_ z z z)
  intro g12 W hS
  have hT:=hS.to [2,2,2,2,2,2] z
  refine ⟨fun _=>hT,.by [2,4] ⟨⟨_,z,?_⟩,⟨_,z,?_⟩,trivial⟩ (by kernel_rfl) z⟩
  ·refine (.liv [1,10] (D.int .i64) T.u25 T.t3 hS z z z z ?_ z (fun _=>z) z z z z)
   intro v35 W hS
   have hT:=hS.to [3,3,3,3,3,3] z
   refine ⟨fun _=>hT,?_⟩
   have hS:=hS.p2
   refine .by1 4 z (.callS2 (L0:=[.box g_0 100 [(sv v_0_b),.int .i64 y5.2]]) hS Tryz.func36 (fun S h1 h2 h3=>(f00 hy6 (hS.keepS q_0_b h1) h2 (zz h1))) z z ?_ z z z z) (by kernel_rfl)
   rintro ⟨⟩ W hS
   have hT:=hS.to [3,3,3,3,3,3] z
   refine ⟨fun _=>hT,.ts 5 z (fun W hT=>ixv hS.p1.lendv hx1 T.u25 T.t3 z z z) hT z (by kernel_rfl) (.by1 6 z (.runs (lde (RV.flat hS.p1.lendv hx1 z) T.t3 z z z z z) z z ?_) (by kernel_rfl))⟩
   have hT:=hS.to [3,3,3,3,3,3] z
   refine ⟨fun _=>hT,.tp 7 z z hT (by kernel_rfl) (.by1 8 z (.call hS Tryz.func32 (f14 hy7 hS.p4.lendv hS.p5.lendv) z z ?_ z z z z) (by kernel_rfl))⟩
   rintro ⟨v36,v37,v38⟩ W hS
   have hT:=hS.to [6,6,6,6,6,6] z
   refine ⟨fun _=>hT,.tp 9 z z hT (by kernel_rfl) (.tp 10 z z hT (by kernel_rfl) (.tp 11 z z hT (by kernel_rfl) (.tp 12 z z hT (by kernel_rfl) (.by1 14 z (.st T.t27 hS.p5 z z z ?_ z z z z z) (by kernel_rfl)))))⟩
   intro W hS
   have hT:=hS.to [6,6,6,6,6,6] z
   refine ⟨fun _=>hT,?_⟩
   exact .tp 15 z z hT (by kernel_rfl) (.tp 16 z z hT (by kernel_rfl) (.done (⟨z,g12,v36,v37,v38,sb z,hS.to [4,5,5,5,5,5,5,0,0,0,0] z⟩) (by kernel_rfl)))
  have hS:=hS.p1
  refine (.callS2 (L0:=[.box g_0 100 [(sv v_0_b),.int .i64 y5.2]]) hS Tryz.func36 (fun S h1 h2 h3=>(f00 hy6 (hS.keepS q_0_b h1) h2 (zz h1))) z z ?_ z z z z)
  rintro ⟨⟩ W hS
  have hT:=hS.to [2,2,2,2,2,2] z
  refine ⟨fun _=>hT,.by1 2 z (.liv [1,10] (D.int .i64) T.u25 T.t3 hS z z z z ?_ z (fun _=>z) z z z z) (by kernel_rfl)⟩
  intro v39 W hS
  have hT:=hS.to [3,3,3,3,3,3] z
  refine ⟨fun _=>hT,.ts 5 z (fun W hT=>ixv hS.lendv hx1 T.u25 T.t3 z z z) hT z (by kernel_rfl) (.by1 6 z (.runs (lde (RV.flat hS.lendv hx1 z) T.t3 z z z z z) z z ?_) (by kernel_rfl))⟩
  have hT:=hS.to [3,3,3,3,3,3] z
  refine ⟨fun _=>hT,.tp 7 z z hT (by kernel_rfl) (.by1 8 z (.call hS Tryz.func32 (f14 hy7 hS.p4.lendv hS.p5.lendv) z z ?_ z z z z) (by kernel_rfl))⟩
  rintro ⟨v40,v41,v42⟩ W hS
  have hT:=hS.to [6,6,6,6,6,6] z
  refine ⟨fun _=>hT,.tp 9 z z hT (by kernel_rfl) (.tp 10 z z hT (by kernel_rfl) (.tp 11 z z hT (by kernel_rfl) (.tp 12 z z hT (by kernel_rfl) (.by1 14 z (.st T.t27 hS.p5 z z z ?_ z z z z z) (by kernel_rfl)))))⟩
  intro W hS
  have hT:=hS.to [6,6,6,6,6,6] z
  refine ⟨fun _=>hT,?_⟩
  exact .tp 15 z z hT (by kernel_rfl) (.tp 16 z z hT (by kernel_rfl) (.done (⟨z,g12,v40,v41,v42,sb z,hS.to [5,5,5,5,5,5,5,0,0,0,0] z⟩) (by kernel_rfl)))
 intro x E W hJ
 obtain ⟨rfl,g13,v43,v44,v45,hE,hS⟩:=hJ
 refine ⟨_,hE.sub,?_⟩
 refine .g (.s (ld T.t27 hS.p7 z z z z z) z (.q z (.q z (.c (.st T.t27 hS.p6 z z z ?_ z z z z z)))))
 intro W hS
 cases h
 exact .q z (.qn z (.ret (fin_ret (vs:=[_,_,_]) (v43,v44,v45) (rc hS T.t27 z (rt z (rt z rn)) z z) z (hS.to [1,7,7,7] z))))
def fc6 (w : World) (r : Machine × Int) : Env → World → Prop:=Fin Tryz.prog Tryz.f30 No w (fun s : Hd × Hd=>.tuple #[.agg #[(sv s.1),.int .i64 r.1.Pc,(sv s.2)],.int .i64 r.2]) (fun s=>[rowV (sv s.1) 3 1 (D.int .i64) r.1.Regs,rowV (sv s.2) 3 1 (D.int .i64) r.1.Mem]) .ret
theorem fbs {k : Nat} {a0 : List Int} {v_0 : Hd} {w : World} {r : Machine × Int} (h : f3v k a0 = some r) (q_0 : RV w (Old No w) (sv v_0) 5 1 (D.int .u8) a0) : Calls Tryz.prog 30 #[(sv v_0)] w (Ret No w (fun s : Hd × Hd=>.tuple #[.agg #[(sv s.1),.int .i64 r.1.Pc,(sv s.2)],.int .i64 r.2]) (fun s=>[rowV (sv s.1) 3 1 (D.int .i64) r.1.Regs,rowV (sv s.2) 3 1 (D.int .i64) r.1.Mem])):=by
 unfold f3v at h
 refine enter Tryz.func30 z z ?_
 have hS:=Sep.start w
 have Q_0:=q_0
 refine .g (.c (.alloc T.t27 hS ?_ z z z))
 intro g1 W hS
 refine .qn z (.g (.q z ?_))
 have ⟨y1,hy1,h⟩:=bnd h
 have hQ1:=hS
 refine .c (.call hS Tryz.func34 (fey hy1 (hS.keep q_0)) z z ?_ z z z z)
 rintro ⟨g2,⟨v1,q1⟩⟩ W hS
 refine .qn z (.g (.q z ?_))
 have ⟨y2,hy2,h⟩:=bnd h
 refine .c (.callS2 (L0:=[.box g2 100 [(sv v1),.int .i64 y1.p]]) hS Tryz.func58 (fun S h1 h2 h3=>(fdb hy2 (hS.keepS (hQ1.wasA (q1 _ (hQ1.keepA q_0 Q_0))) h1) h2 (zz h1))) z z ?_ z z z z)
 rintro ⟨v2,v3,v4⟩ W hS
 refine .q z (.q z (.q z (.q z (.c (.alloc T.t27 hS ?_ z z z)))))
 intro g3 W hS
 refine .c (.st T.t27 hS z z z ?_ z z z z z)
 intro W hS
 refine .q z (.q z (.nil ?_))
 have ⟨y3,hy3,h⟩:=bnd h
 refine .seq (CW.via (R':=fun x E' W'=>(match y3 with | .inl o1=>x = .normal ∧ SubL E' [(2,.pointer (some ⟨g1,0,none⟩)),(4,.pointer (some ⟨g2,0,none⟩)),(5,.pointer (some ⟨g3,0,none⟩))] ∧ Sep No w W' [.box g3 27 [(sv v2),.int .i64 o1.1,(sv v3)],.box g2 100 [(sv v1),.int .i64 o1.2.1],rowV (sv v2) 3 1 (D.int .i64) o1.2.2,rowV (sv v3) 3 1 (D.int .i64) y2.1.Mem,rowV (sv v4) 3 1 (D.int .i64) y2.2.2.1,.box g1 27 [(sv nilH),.int .i64 0,(sv nilH)]] | .inr o2=>x = .ret ∧ fc6 w o2 E' W')) ?_ ?_)
 ·have h:=hy3
  refine .g (.q z ?_)
  have ⟨y4,hy4,h⟩:=bnd h
  have hS:=hS.p1
  refine .c (.callS2 (L0:=[.box g2 100 [(sv v1),.int .i64 y2.2.2.2]]) hS Tryz.func36 (fun S h1 h2 h3=>(f00 hy4 (hS.keepS (hQ1.wasA (q1 _ (hQ1.keepA q_0 Q_0))) h1) h2 (zz h1))) z z ?_ z z z z)
  rintro ⟨⟩ W hS
  refine .nil (.block (.g (.q z (.q z (.nil ?_)))))
  refine .cs z h ?_ ?_ <;> intro h
  ·refine .g (.s (ld T.t27 hS.p1 z z z z z) z (.c (.st T.t27 hS.p5 z z z ?_ z z z z z)))
   intro W hS
   refine .qn z (.ret ?_)
   cases h
   exact ⟨z,fin_ret (vs:=[_,_]) (v2,v3) (rc hS T.t27 z (rt z rn) z z) z (hS.to [3,3] z)⟩
  refine .g (.q z (.q z (.nil ?_)))
  refine .cs z h ?_ ?_ <;> intro h
  ·refine .region (.s (fa T.f27_1 z z z) z (.c (.st T.t3 hS.p1 z z z ?_ z z z z z)))
   intro W hS
   refine .nil ?_
   cases h
   exact ⟨z,sb z,hS.to [0,0,0,0,0,0] z⟩
  refine .g (.q z (.q z (.nil ?_)))
  refine .cs z h ?_ ?_ <;> intro h
  ·refine .region (.s (fa T.f27_0 z z z) z (.s (ld T.t25 hS.p1 z z z z z) z ?_))
   have ⟨x1,hx1,h⟩:=bnd h
   refine .s (ixv hS.p2.lendv hx1 T.u25 T.t3 z z z) z ?_
   have ⟨r1,hr1,h⟩:=bnd h
   refine .c (.sev hr1 hx1 hS.p2 T.t3 z z z z z z ?_ z z z z z z)
   intro W hS
   refine .nil ?_
   cases h
   exact ⟨z,sb z,hS.to [2,1,0,0,0,0] z⟩
  refine .skip ?_
  cases h
  exact ⟨z,sb z,hS.to [1,0,0,0,0,0] z⟩
 intro x E W hJ
 rcases y3 with o3 | o4
 ·obtain ⟨rfl,hE,hS⟩:=hJ
  refine ⟨_,hE.sub,?_⟩
  refine .seq (.rk 5 hS [0,1,1,1] T.mix ?_)
  intro W hS
  have hT:=hS.to [0,1,1,1] z
  refine .ts 0 z (fun W hT=>ld T.t27 hT z z z z z) hT z (by kernel_rfl) (.tp 1 z z hT (by kernel_rfl) ?_)
  have ⟨y5,hy5,h⟩:=bnd h
  have hS:=hS.p1
  refine .by1 2 z (.callS2 (L0:=[.box g2 100 [(sv v1),.int .i64 o3.2.1]]) hS Tryz.func36 (fun S h1 h2 h3=>(f00 hy5 (hS.keepS (hQ1.wasA (q1 _ (hQ1.keepA q_0 Q_0))) h1) h2 (zz h1))) z z ?_ z z z z) (by kernel_rfl)
  rintro ⟨⟩ W hS
  have hT:=hS.to [1,1,1,1] z
  refine ⟨fun _=>hT,.by1 3 z (.st T.t27 hS.p5 z z z ?_ z z z z z) (by kernel_rfl)⟩
  intro W hS
  have hT:=hS.to [2,2,2,2] z
  refine ⟨fun _=>hT,?_⟩
  cases h
  exact .tp 4 z z hT (by kernel_rfl) (.done (.ret (fin_ret (vs:=[_,_]) (v2,v3) (rc hS T.t27 z (rt z rn) z z) z (hS.to [3,3] z))) (by kernel_rfl))
 obtain ⟨rfl,hF⟩:=hJ
 refine ⟨_,fun _ _ h=>h,?_⟩
 cases h
 exact hF
theorem fa4 {a0 : Machine} {v_0_Regs : Hd} {v_0_Mem : Hd} {w : World} {r : Machine} (h : f1e a0 = some r) (q_0_Regs : RV w (Old No w) (sv v_0_Regs) 3 1 (D.int .i64) a0.Regs) (q_0_Mem : RV w (Old No w) (sv v_0_Mem) 3 1 (D.int .i64) a0.Mem) : Calls Tryz.prog 59 #[.agg #[(sv v_0_Regs),.int .i64 a0.Pc,(sv v_0_Mem)]] w (Ret No w (fun s : Hd × Hd=>.agg #[(sv s.1),.int .i64 r.Pc,(sv s.2)]) (fun s=>[rowV (sv s.1) 3 1 (D.int .i64) r.Regs,rowV (sv s.2) 3 1 (D.int .i64) r.Mem])):=by
 unfold f1e at h
 refine enter Tryz.func59 z z ?_
 have hS:=Sep.start w
 refine .g (.c (.box hS z z ?_ z z))
 intro g1 W hS
 refine .c (.alloc T.t27 hS ?_ z z z)
 intro g2 W hS
 refine .nil (.seq (.rk 9 hS [0,0] T.mix ?_))
 intro W hS
 have hT:=hS.to [0,0] z
 refine .ts 0 z (fun W hT=>fa T.f27_0 z z z) hT z (by kernel_rfl) (.ts 1 z (fun W hT=>ld T.t25 hT.p1 z z z z z) hT z (by kernel_rfl) (.ts 3 z (fun W hT=>fa T.f27_1 z z z) hT z (by kernel_rfl) (.ts 4 z (fun W hT=>ld T.t3 hT.p1 z z z z z) hT z (by kernel_rfl) (.ts 5 z (fun W hT=>fa T.f27_2 z z z) hT z (by kernel_rfl) (.ts 6 z (fun W hT=>ld T.t25 hT.p1 z z z z z) hT z (by kernel_rfl) ?_)))))
 have ⟨y1,hy1,h⟩:=bnd h
 refine .by1 2 z (.call1v hS Tryz.func55 (f6s hy1 (hS.keep q_0_Regs)) z z ?_ z z z z) (by kernel_rfl)
 intro v1 W hS
 have hT:=hS.to [1,1] z
 refine ⟨fun _=>hT,?_⟩
 have ⟨y2,hy2,h⟩:=bnd h
 refine .by1 7 z (.call1v hS Tryz.func55 (f6s hy2 (hS.keep q_0_Mem)) z z ?_ z z z z) (by kernel_rfl)
 intro v2 W hS
 have hT:=hS.to [2,2] z
 refine ⟨fun _=>hT,.ts 8 z (fun W hT=>bs T.s27 z z) hT z (by kernel_rfl) (.by1 9 z (.st T.t27 hS.p2 z z z ?_ z z z z z) (by kernel_rfl))⟩
 intro W hS
 refine ⟨fun h=>absurd z h,?_⟩
 cases h
 exact .done (.ret (fin_ret (vs:=[_]) (v1,v2) (rc hS T.t27 z rn z z) z (hS.to [2,1] z))) (by kernel_rfl)
theorem f9y {a0 : Machine} {a1 : Int} {v_0_Regs : Hd} {v_0_Mem : Hd} {g_0 : Nat} {S : Nat → Prop} {w : World} {r : Int} (h : f1u a0 a1 = some r) (q_0_Regs : RV w (Old S w) (sv v_0_Regs) 3 1 (D.int .i64) a0.Regs) (q_0_Mem : RV w (Old S w) (sv v_0_Mem) 3 1 (D.int .i64) a0.Mem) (hO : Owns w [.box g_0 27 [(sv v_0_Regs),.int .i64 a0.Pc,(sv v_0_Mem)]] S) (hlt : ∀ b,S b → b < w.heap.size) : Calls Tryz.prog 89 #[.pointer (some ⟨g_0,0,none⟩),.int .i64 a1] w (Ret S w (fun s : Unit=>ptrV (sv v_0_Mem) 1 r) (fun s=>[.box g_0 27 [(sv v_0_Regs),.int .i64 a0.Pc,(sv v_0_Mem)]])):=by
 unfold f1u at h
 refine enter Tryz.func89 z z ?_
 have hS:=Sep.startM hO hlt
 refine .g (.qn z (.seq (.g (.q z (.q z (.q z (.chunk 4 11 ((decide (a1 < 0)) || ((Int.tmod a1 4) != 0)) hS ?_ ?_)))))))
 ·refine .both (decide (a1 < 0)) (fun hb=>?_) (fun hb=>?_)
  ·exact .xx hb z (.xx hb z (.xx hb z (.s (pkt hb z z z) z (.nil (ck 4 hS z (or_t hb) z z)))))
  have hg1:=hb
  exact .g hg1 (.q z (.g hg1 (.q z (.g hg1 (.q z (.s (pkf hg1 z z z) z (.nil (ck 4 hS z (or_f hg1) z z)))) z)) z)) z
 intro W hS
 refine .q z (.chunk 9 21 (((decide (a1 < 0)) || ((Int.tmod a1 4) != 0)) || (decide ((w64 (Int.tdiv a1 4)) ≥ (a0.Mem.length : Int)))) hS ?_ ?_)
 ·refine .both ((decide (a1 < 0)) || ((Int.tmod a1 4) != 0)) (fun hb=>?_) (fun hb=>?_)
  ·exact .xx hb z (.xx hb z (.xx hb z (.xx hb z (.xx hb z (.xx hb z (.xx hb z (.xx hb z (.s (pkt hb z z z) z (.nil (ck 9 hS z (or_t hb) z z))))))))))
  have hg2:=hb
  exact .g hg2 (.q z (.g hg2 (.q z (.g hg2 (.q z (.g hg2 (.q z (.g hg2 (.s (fa T.f27_2 z z z) z (.g hg2 (.s (ld T.t25 hS z z z z z) z (.g hg2 (.s (lenv (hS.keep q_0_Mem) T.u25 z z) z (.g hg2 (.q z (.s (pkf hg2 z z z) z (.nil (ck 9 hS z (or_f hg2) z z)))) z)) z)) z)) z)) z)) z)) z)) z
 intro W hS
 refine .nil ?_
 refine .cs z h ?_ ?_ <;> intro h
 ·cases h
  exact .g (.qn z (.ret (fin_ret (vs:=[_]) () (rt z rn) z (hS.to [0] z))))
 refine .skip (.g (.q z (.q z (.s (fa T.f27_2 z z z) z (.s (ld T.t25 hS z z z z z) z (.q z (.q z ?_)))))))
 have ⟨x1,hx1,h⟩:=bnd h
 cases h
 exact .s (ixv (hS.keep q_0_Mem) hx1 T.u25 T.t3 z z z) z (.qn z (.ret (fin_ret (vs:=[_]) () (rt z rn) (ptr_at hx1).symm (hS.to [0] z))))
theorem f1w {a0 : Machine} {a1 : Int} {a2 : Int} {v_0_Regs : Hd} {v_0_Mem : Hd} {g_0 : Nat} {S : Nat → Prop} {w : World} {r : (List Int)} (h : f0b a0 a1 a2 = some r) (q_0_Mem : RV w (Old S w) (sv v_0_Mem) 3 1 (D.int .i64) a0.Mem) (hO : Owns w [rowV (sv v_0_Regs) 3 1 (D.int .i64) a0.Regs,.box g_0 27 [(sv v_0_Regs),.int .i64 a0.Pc,(sv v_0_Mem)]] S) (hlt : ∀ b,S b → b < w.heap.size) : Calls Tryz.prog 90 #[.pointer (some ⟨g_0,0,none⟩),.int .i64 a1,.int .i64 a2] w (Ret S w (fun s : Hd=>.tuple #[]) (fun s=>[.box g_0 27 [(sv s),.int .i64 a0.Pc,(sv v_0_Mem)],rowV (sv s) 3 1 (D.int .i64) r])):=by
 unfold f0b at h
 refine enter Tryz.func90 z z ?_
 have hS:=Sep.startM hO hlt
 refine .g (.q z (.q z (.nil ?_)))
 refine .cs z h ?_ ?_ <;> intro h
 ·refine .region (.q z (.q z (.s (fa T.f27_0 z z z) z (.s (ld T.t25 hS.p1 z z z z z) z (.q z (.q z ?_))))))
  have ⟨x1,hx1,h⟩:=bnd h
  refine .s (ixv hS.lendv hx1 T.u25 T.t3 z z z) z ?_
  have ⟨r1,hr1,h⟩:=bnd h
  refine .c (.sev hr1 hx1 hS T.t3 z z z z z z ?_ z z z z z z)
  intro W hS
  obtain rfl:=Option.some.inj h
  exact .nil (fin_ret (vs:=[]) v_0_Regs (rn) z (hS.to [1,0] z))
 cases h
 exact .skip (fin_ret (vs:=[]) v_0_Regs (rn) z (hS.to [1,0] z))
theorem fah {a0 : Bool} {w : World} {r : Int} (h : f68 a0 = some r) : Calls Tryz.prog 91 #[.bool a0] w (Ret No w (fun s : Unit=>.int .i64 r) (fun s=>[])):=by
 unfold f68 at h
 refine enter Tryz.func91 z z ?_
 have hS:=Sep.start w
 refine .g (.qn z (.seq (.g (.q z (.nil ?_)))))
 refine .cs z h ?_ ?_ <;> intro h
 ·cases h
  exact .g (.qn z (.ret (fin_ret (vs:=[_]) () (rt z rn) z (hS.to [] z))))
 cases h
 exact .skip (.g (.qn z (.ret (fin_ret (vs:=[_]) () (rt z rn) z (hS.to [] z)))))
theorem ff8 {a0 : Int} {a1 : Int} {a2 : Int} {w : World} {r : Int} (h : f9w a0 a1 a2 = some r) : Calls Tryz.prog 92 #[.int .i64 a0,.int .i64 a1,.int .i64 a2] w (Ret No w (fun s : Unit=>.int .i64 r) (fun s=>[])):=by
 unfold f9w at h
 refine enter Tryz.func92 z z ?_
 have hS:=Sep.start w
 refine .g (.qn z (.seq (.g (.qn z (.block (.g (.q z (.q z (.nil ?_)))))))))
 refine .cs z h ?_ ?_ <;> intro h
 ·cases h
  exact .g (.q z (.q z (.q z (.qn z (.ret (fin_ret (vs:=[_]) () (rt z rn) z (hS.to [] z)))))))
 refine .g (.q z (.q z (.nil ?_)))
 refine .cs z h ?_ ?_ <;> intro h
 ·cases h
  exact .g (.q z (.q z (.q z (.qn z (.ret (fin_ret (vs:=[_]) () (rt z rn) z (hS.to [] z)))))))
 refine .g (.q z (.q z (.nil ?_)))
 refine .cs z h ?_ ?_ <;> intro h
 ·cases h
  exact .g (.q z (.q z (.q z (.qn z (.ret (fin_ret (vs:=[_]) () (rt z rn) z (hS.to [] z)))))))
 refine .g (.q z (.q z (.nil ?_)))
 refine .cs z h ?_ ?_ <;> intro h
 ·refine .g (.q z (.q z (.q z ?_)))
  have ⟨y1,hy1,h⟩:=bnd h
  refine .c (.call0 hS Tryz.func91 (fah hy1) z z ?_ z z z z)
  intro W hS
  obtain rfl:=Option.some.inj h
  exact .qn z (.ret (fin_ret (vs:=[_]) () (rt z rn) z (hS.to [] z)))
 refine .g (.q z (.q z (.nil ?_)))
 refine .cs z h ?_ ?_ <;> intro h
 ·refine .g (.q z (.q z (.q z ?_)))
  have ⟨y2,hy2,h⟩:=bnd h
  refine .c (.call0 hS Tryz.func91 (fah hy2) z z ?_ z z z z)
  intro W hS
  obtain rfl:=Option.some.inj h
  exact .qn z (.ret (fin_ret (vs:=[_]) () (rt z rn) z (hS.to [] z)))
 refine .g (.q z (.q z (.nil ?_)))
 refine .cs z h ?_ ?_ <;> intro h
 ·refine .g (.q z (.q z (.q z ?_)))
  have ⟨d1,hd1,h⟩:=bnd h
  refine .s (shr_run hd1 z z z) z ?_
  have ⟨y3,hy3,h⟩:=bnd h
  refine .c (.call0 hS Tryz.func61 (f1i hy3) z z ?_ z z z z)
  intro W hS
  obtain rfl:=Option.some.inj h
  exact .qn z (.ret (fin_ret (vs:=[_]) () (rt z rn) z (hS.to [] z)))
 refine .g (.q z (.q z (.nil ?_)))
 refine .cs z h ?_ ?_ <;> intro h
 ·refine .g (.q z (.q z (.q z ?_)))
  have ⟨d2,hd2,h⟩:=bnd h
  obtain rfl:=Option.some.inj h
  exact .s (shr_run hd2 z z z) z (.qn z (.ret (fin_ret (vs:=[_]) () (rt z rn) z (hS.to [] z))))
 refine .g (.q z (.q z (.nil ?_)))
 refine .cs z h ?_ ?_ <;> intro h
 ·refine .g (.q z (.q z (.q z ?_)))
  have ⟨y4,hy4,h⟩:=bnd h
  refine .c (.call0 hS Tryz.func61 (f1i hy4) z z ?_ z z z z)
  intro W hS
  obtain rfl:=Option.some.inj h
  exact .qn z (.ret (fin_ret (vs:=[_]) () (rt z rn) z (hS.to [] z)))
 refine .g (.q z (.q z (.nil ?_)))
 refine .cs z h ?_ ?_ <;> intro h
 ·refine .g (.q z (.q z (.q z ?_)))
  have ⟨y5,hy5,h⟩:=bnd h
  refine .c (.call0 hS Tryz.func61 (f1i hy5) z z ?_ z z z z)
  intro W hS
  obtain rfl:=Option.some.inj h
  exact .qn z (.ret (fin_ret (vs:=[_]) () (rt z rn) z (hS.to [] z)))
 refine .g (.q z (.q z (.nil ?_)))
 refine .cs z h ?_ ?_ <;> intro h
 ·refine .g (.q z (.q z (.q z ?_)))
  have ⟨y6,hy6,h⟩:=bnd h
  refine .c (.call0 hS Tryz.func61 (f1i hy6) z z ?_ z z z z)
  intro W hS
  obtain rfl:=Option.some.inj h
  exact .qn z (.ret (fin_ret (vs:=[_]) () (rt z rn) z (hS.to [] z)))
 refine .g (.q z (.q z (.nil ?_)))
 refine .cs z h ?_ ?_ <;> intro h
 ·refine .seq (.g (.q z (.q z (.nil ?_))))
  refine .cs z h ?_ ?_ <;> intro h
  ·cases h
   exact .g (.qn z (.ret (fin_ret (vs:=[_]) () (rt z rn) z (hS.to [] z))))
  refine .skip (.g (.q z (.q z ?_)))
  have ⟨d3,hd3,h⟩:=bnd h
  refine .s (dq hd3 z z z) z ?_
  have ⟨y7,hy7,h⟩:=bnd h
  refine .c (.call0 hS Tryz.func61 (f1i hy7) z z ?_ z z z z)
  intro W hS
  obtain rfl:=Option.some.inj h
  exact .qn z (.ret (fin_ret (vs:=[_]) () (rt z rn) z (hS.to [] z)))
 refine .skip (.seq (.g (.q z (.q z (.nil ?_)))))
 refine .cs z h ?_ ?_ <;> intro h
 ·obtain rfl:=Option.some.inj h
  exact .g (.q z (.qn z (.ret (fin_ret (vs:=[_]) () (rt z rn) z (hS.to [] z)))))
 refine .skip (.g (.q z (.q z ?_)))
 have ⟨d4,hd4,h⟩:=bnd h
 obtain rfl:=Option.some.inj h
 exact .s (dr hd4 z z z) z (.qn z (.ret (fin_ret (vs:=[_]) () (rt z rn) z (hS.to [] z))))
def fc9 (w : World) (S : Nat → Prop) (v_0_Regs : Hd) (v_0_Mem : Hd) (g_0 : Nat) (a0 : Machine) (r : Int × (List Int) × Int × (List Int)) : Env → World → Prop:=Fin Tryz.prog Tryz.f60 S w (fun s : Hd × Hd=>.int .i64 r.1) (fun s=>[.box g_0 27 [(sv s.1),.int .i64 r.2.2.1,(sv s.2)],rowV (sv s.1) 3 1 (D.int .i64) r.2.1,rowV (sv s.2) 3 1 (D.int .i64) r.2.2.2]) .ret
theorem f9t {a0 : Machine} {v_0_Regs : Hd} {v_0_Mem : Hd} {g_0 : Nat} {S : Nat → Prop} {w : World} {r : Int × (List Int) × Int × (List Int)} (h : f19 a0 = some r) (hO : Owns w [rowV (sv v_0_Regs) 3 1 (D.int .i64) a0.Regs,rowV (sv v_0_Mem) 3 1 (D.int .i64) a0.Mem,.box g_0 27 [(sv v_0_Regs),.int .i64 a0.Pc,(sv v_0_Mem)]] S) (hlt : ∀ b,S b → b < w.heap.size) (hG : Gl w) (hM : ∀ g,g < NGl → ¬ S g) : Calls Tryz.prog 60 #[.pointer (some ⟨g_0,0,none⟩)] w (Ret S w (fun s : Hd × Hd=>.int .i64 r.1) (fun s=>[.box g_0 27 [(sv s.1),.int .i64 r.2.2.1,(sv s.2)],rowV (sv s.1) 3 1 (D.int .i64) r.2.1,rowV (sv s.2) 3 1 (D.int .i64) r.2.2.2])):=by
 unfold f19 at h
 refine enter Tryz.func60 z z ?_
 have hS:=Sep.startM hO hlt
 refine .g (.qn z (.g (.q z (.q z (.q z (.s (fa T.f27_1 z z z) z (.s (ld T.t3 hS.p2 z z z z z) z ?_)))))))
 have ⟨y1,hy1,h⟩:=bnd h
 have hS:=hS.p2
 refine .c (.callS2 (L0:=[.box g_0 27 [(sv v_0_Regs),.int .i64 a0.Pc,(sv v_0_Mem)]]) hS Tryz.func89 (fun S h1 h2 h3=>(f9y hy1 (h3.rdv (k:=0) z) (h3.rdv (k:=1) z) h2 (zz h1))) z z ?_ z z z z)
 rintro ⟨⟩ W hS
 refine .qn z (.seq (.g (.q z (.s (nilp T.u116 z z) z (.nil ?_)))))
 refine .cs z h ?_ ?_ <;> intro h
 ·cases h
  exact .g (.qn z (.ret (fin_ret (vs:=[_]) (v_0_Regs,v_0_Mem) (rt z rn) z (hS.to [0,0,0] z))))
 refine .skip (.g (.q z ?_))
 have ⟨x1,hx1,h⟩:=bnd h
 refine .eqv 19 z (ptr_at hx1) (.s (pr z) z (.s (lde (RV.flat hS.p2.lendv hx1 z) T.t3 z z z z z) z ?_))
 have ⟨y2,hy2,h⟩:=bnd h
 refine .c (.call0 hS Tryz.func16 (f65 hy2) z z ?_ z z z z)
 intro W hS
 have ⟨y3,hy3,h⟩:=bnd h
 refine .c (.call0 hS Tryz.func15 (fcb hy3 (hG.at hS hM)) z z ?_ z z z z)
 intro W hS
 refine .q z (.q z (.q z (.c (.alloc T.t32 hS ?_ z z z))))
 intro g1 W hS
 refine .c (.st T.t32 hS z z z ?_ z z z z z)
 intro W hS
 refine .qn z (.seq (.g (.q z (.q z (.nil ?_)))))
 refine .cs z h ?_ ?_ <;> intro h
 ·cases h
  exact .g (.qn z (.ret (fin_ret (vs:=[_]) (v_0_Regs,v_0_Mem) (rt z rn) z (hS.to [1,1,1] z))))
 refine .skip (.seq (.rk 18 hS [0,0,0,0] T.mix ?_))
 intro W hS
 have hT:=hS.to [0,0,0,0] z
 refine .tp 0 z z hT (by kernel_rfl) (.tp 1 z z hT (by kernel_rfl) (.ts 2 z (fun W hT=>fa T.f27_0 z z z) hT z (by kernel_rfl) (.ts 3 z (fun W hT=>ld T.t25 hT.p1 z z z z z) hT z (by kernel_rfl) (.ts 4 z (fun W hT=>fa T.f32_2 z z z) hT z (by kernel_rfl) (.ts 5 z (fun W hT=>ld T.t3 hT z z z z z) hT z (by kernel_rfl) ?_)))))
 have ⟨x2,hx2,h⟩:=bnd h
 refine .ts 6 z (fun W hT=>ixv hS.p2.lendv hx2 T.u25 T.t3 z z z) hT z (by kernel_rfl) (.ts 7 z (fun W hT=>lde (RV.flat hT.p2.lendv hx2 z) T.t3 z z z z z) hT z (by kernel_rfl) (.tp 8 z z hT (by kernel_rfl) (.tp 9 z z hT (by kernel_rfl) (.ts 10 z (fun W hT=>fa T.f27_0 z z z) hT z (by kernel_rfl) (.ts 11 z (fun W hT=>ld T.t25 hT.p1 z z z z z) hT z (by kernel_rfl) (.ts 12 z (fun W hT=>fa T.f32_3 z z z) hT z (by kernel_rfl) (.ts 13 z (fun W hT=>ld T.t3 hT z z z z z) hT z (by kernel_rfl) ?_)))))))
 have ⟨x3,hx3,h⟩:=bnd h
 refine .ts 14 z (fun W hT=>ixv hS.p2.lendv hx3 T.u25 T.t3 z z z) hT z (by kernel_rfl) (.ts 15 z (fun W hT=>lde (RV.flat hT.p2.lendv hx3 z) T.t3 z z z z z) hT z (by kernel_rfl) (.tp 16 z z hT (by kernel_rfl) (.tp 17 z z hT (by kernel_rfl) (.done (.g (.q z (.q z (.s (fa T.f27_1 z z z) z (.s (ld T.t3 hS.p1 z z z z z) z (.q z ?_)))))) (by kernel_rfl)))))
 have ⟨y4,hy4,h⟩:=bnd h
 refine .c (.call0 hS Tryz.func61 (f1i hy4) z z ?_ z z z z)
 intro W hS
 refine .q z (.nil ?_)
 have ⟨y5,hy5,h⟩:=bnd h
 refine .seq (CW.via (R':=fun x E' W'=>(match y5 with | .inl o1=>x = .normal ∧ ∃ (v1 : Hd),SubL E' [(0,.pointer (some ⟨g_0,0,none⟩)),(8,.int .i64 o1.1)] ∧ Sep S w W' [.box g1 32 [.int .i64 y3.1.Op,.int .i64 y3.1.Rd,.int .i64 y3.1.Rs,.int .i64 y3.1.Rt,.int .i64 y3.1.Imm],.box g_0 27 [(sv v1),.int .i64 a0.Pc,(sv v_0_Mem)],rowV (sv v_0_Mem) 3 1 (D.int .i64) o1.2.2,rowV (sv v1) 3 1 (D.int .i64) o1.2.1] | .inr o2=>x = .ret ∧ fc9 w S v_0_Regs v_0_Mem g_0 a0 o2 E' W')) ?_ ?_)
 ·have h:=hy5
  refine .g (.s (fa T.f32_0 z z z) z (.s (ld T.t3 hS z z z z z) z (.nil (.block (.g (.q z (.q z (.nil ?_))))))))
  refine .cs z h ?_ ?_ <;> intro h
  ·refine .g (.qn z (.ret ?_))
   cases h
   exact ⟨z,fin_ret (vs:=[_]) (v_0_Regs,v_0_Mem) (rt z rn) z (hS.to [1,1,1] z)⟩
  refine .g (.q z (.qn z (.cond z (fun hb=>?_) (fun hb=>?_))))
  ·have h:=sel_t hb h
   refine .rk 9 hS [0,2] T.mix ?_
   intro W hS
   have hT:=hS.to [0,2] z
   refine .tp 0 z z hT (by kernel_rfl) (.ts 1 z (fun W hT=>fa T.f32_1 z z z) hT z (by kernel_rfl) (.ts 2 z (fun W hT=>ld T.t3 hT z z z z z) hT z (by kernel_rfl) (.tp 3 z z hT (by kernel_rfl) (.ts 4 z (fun W hT=>fa T.f32_4 z z z) hT z (by kernel_rfl) (.ts 5 z (fun W hT=>ld T.t3 hT z z z z z) hT z (by kernel_rfl) (.tp 6 z z hT (by kernel_rfl) ?_))))))
   have ⟨y6,hy6,h⟩:=bnd h
   refine .by1 7 z (.call0 hS Tryz.func61 (f1i hy6) z z ?_ z z z z) (by kernel_rfl)
   intro W hS
   have hT:=hS.to [0,2] z
   refine ⟨fun _=>hT,?_⟩
   have ⟨y7,hy7,h⟩:=bnd h
   have hS:=hS.p1
   have hS:=hS.p2
   refine .by1 8 z (.callS2 (L0:=[rowV (sv v_0_Regs) 3 1 (D.int .i64) a0.Regs,.box g_0 27 [(sv v_0_Regs),.int .i64 a0.Pc,(sv v_0_Mem)]]) hS Tryz.func90 (fun S h1 h2 h3=>(f1w hy7 (h3.rdv (k:=1) z) h2 (zz h1))) z z ?_ z z z z) (by kernel_rfl)
   rintro v2 W hS
   have hT:=hS.to [2,2] z
   refine ⟨fun _=>hT,.done ?_ (by kernel_rfl)⟩
   cases h
   exact ⟨z,v2,sb z,hS.to [2,0,1,0] z⟩
  have h:=sel_f hb h
  refine .g (.q z (.qn z (.cond z (fun hb=>?_) (fun hb=>?_))))
  ·have h:=sel_t hb h
   refine .rk 11 hS [0,2] T.mix ?_
   intro W hS
   have hT:=hS.to [0,2] z
   refine .tp 0 z z hT (by kernel_rfl) (.ts 1 z (fun W hT=>fa T.f32_1 z z z) hT z (by kernel_rfl) (.ts 2 z (fun W hT=>ld T.t3 hT z z z z z) hT z (by kernel_rfl) (.tp 3 z z hT (by kernel_rfl) (.ts 5 z (fun W hT=>fa T.f32_4 z z z) hT z (by kernel_rfl) (.ts 6 z (fun W hT=>ld T.t3 hT z z z z z) hT z (by kernel_rfl) ?_)))))
   have ⟨y8,hy8,h⟩:=bnd h
   refine .by1 4 z (.call0 hS Tryz.func16 (f65 hy8) z z ?_ z z z z) (by kernel_rfl)
   intro W hS
   have hT:=hS.to [0,2] z
   refine ⟨fun _=>hT,?_⟩
   have ⟨y9,hy9,h⟩:=bnd h
   refine .by1 7 z (.call0 hS Tryz.func16 (f65 hy9) z z ?_ z z z z) (by kernel_rfl)
   intro W hS
   have hT:=hS.to [0,2] z
   refine ⟨fun _=>hT,.tp 8 z z hT (by kernel_rfl) ?_⟩
   have ⟨y10,hy10,h⟩:=bnd h
   refine .by1 9 z (.call0 hS Tryz.func91 (fah hy10) z z ?_ z z z z) (by kernel_rfl)
   intro W hS
   have hT:=hS.to [0,2] z
   refine ⟨fun _=>hT,?_⟩
   have ⟨y11,hy11,h⟩:=bnd h
   have hS:=hS.p1
   have hS:=hS.p2
   refine .by1 10 z (.callS2 (L0:=[rowV (sv v_0_Regs) 3 1 (D.int .i64) a0.Regs,.box g_0 27 [(sv v_0_Regs),.int .i64 a0.Pc,(sv v_0_Mem)]]) hS Tryz.func90 (fun S h1 h2 h3=>(f1w hy11 (h3.rdv (k:=1) z) h2 (zz h1))) z z ?_ z z z z) (by kernel_rfl)
   rintro v3 W hS
   have hT:=hS.to [2,2] z
   refine ⟨fun _=>hT,.done ?_ (by kernel_rfl)⟩
   cases h
   exact ⟨z,v3,sb z,hS.to [2,0,1,0] z⟩
  have h:=sel_f hb h
  have ⟨y12,hy12,h⟩:=bnd h
  refine .seq (CW.via (R':=fun x E' W'=>x = .normal ∧ SubL E' [(0,.pointer (some ⟨g_0,0,none⟩)),(4,.pointer (some ⟨g1,0,none⟩)),(6,.int .i64 x2),(7,.int .i64 x3),(8,.int .i64 y4),(51,.int .i64 y3.1.Op),(90,.bool y12)] ∧ Sep S w W' [.box g1 32 [.int .i64 y3.1.Op,.int .i64 y3.1.Rd,.int .i64 y3.1.Rs,.int .i64 y3.1.Rt,.int .i64 y3.1.Imm],.box g_0 27 [(sv v_0_Regs),.int .i64 a0.Pc,(sv v_0_Mem)],rowV (sv v_0_Regs) 3 1 (D.int .i64) a0.Regs,rowV (sv v_0_Mem) 3 1 (D.int .i64) a0.Mem]) ?_ ?_)
  ·have h:=hy12
   refine .g (.q z (.q z (.nil ?_)))
   refine .cs z h ?_ ?_ <;> intro h
   ·refine .skip ?_
    cases h
    exact ⟨z,sb z,hS.to [0,0,0,0] z⟩
   refine .region (.q z (.q z (.nil ?_)))
   cases h
   exact ⟨z,sb z,hS.to [0,0,0,0] z⟩
  intro x E W hJ
  obtain ⟨rfl,hE,hS⟩:=hJ
  refine ⟨_,hE.sub,?_⟩
  refine .cond z (fun hb=>?_) (fun hb=>?_)
  ·have h:=sel_t hb h
   refine .g (.q z (.q z (.s (fa T.f32_4 z z z) z (.s (ld T.t3 hS z z z z z) z (.q z ?_)))))
   have ⟨y13,hy13,h⟩:=bnd h
   refine .c (.call0 hS Tryz.func61 (f1i hy13) z z ?_ z z z z)
   intro W hS
   have ⟨y14,hy14,h⟩:=bnd h
   have hS:=hS.p1
   refine .c (.callS2 (L0:=[.box g_0 27 [(sv v_0_Regs),.int .i64 a0.Pc,(sv v_0_Mem)]]) hS Tryz.func89 (fun S h1 h2 h3=>(f9y hy14 (h3.rdv (k:=1) z) (h3.rdv (k:=2) z) h2 (zz h1))) z z ?_ z z z z)
   rintro ⟨⟩ W hS
   refine .qn z (.seq (.g (.q z (.s (nilp T.u116 z z) z (.nil ?_)))))
   refine .cs z h ?_ ?_ <;> intro h
   ·refine .g (.qn z (.ret ?_))
    cases h
    exact ⟨z,fin_ret (vs:=[_]) (v_0_Regs,v_0_Mem) (rt z rn) z (hS.to [0,1,1] z)⟩
   refine .skip (.g (.s (fa T.f32_0 z z z) z (.s (ld T.t3 hS.p1 z z z z z) z (.qn z (.cond z (fun hb=>?_) (fun hb=>?_))))))
   ·have h:=sel_t hb h
    refine .region (.q z (.q z ?_))
    have ⟨x4,hx4,h⟩:=bnd h
    refine .eqv 105 z (ptr_at hx4) (.s (pr z) z ?_)
    have ⟨r1,hr1,h⟩:=bnd h
    refine .c (.sev hr1 hx4 hS.p3 T.t3 z z z z z z ?_ z z z z z z)
    intro W hS
    refine .nil ?_
    cases h
    exact ⟨z,v_0_Regs,sb z,hS.to [2,1,0,0] z⟩
   have h:=sel_f hb h
   have ⟨x5,hx5,h⟩:=bnd h
   refine .eqv 9 z (ptr_at hx5) (.rk 7 hS [1,2] T.mix ?_)
   intro W hS
   have hT:=hS.to [1,2] z
   refine .tp 0 z z hT (by kernel_rfl) (.ts 1 z (fun W hT=>fa T.f32_1 z z z) hT z (by kernel_rfl) (.ts 2 z (fun W hT=>ld T.t3 hT z z z z z) hT z (by kernel_rfl) (.tp 3 z z hT (by kernel_rfl) (.tp 4 z z hT (by kernel_rfl) (.ts 5 z (fun W hT=>lde (RV.flat hT.p1.lendv hx5 z) T.t3 z z z z z) hT z (by kernel_rfl) ?_)))))
   have ⟨y15,hy15,h⟩:=bnd h
   have hS:=hS.p2
   refine .by1 6 z (.callS2 (L0:=[rowV (sv v_0_Regs) 3 1 (D.int .i64) a0.Regs,.box g_0 27 [(sv v_0_Regs),.int .i64 a0.Pc,(sv v_0_Mem)]]) hS Tryz.func90 (fun S h1 h2 h3=>(f1w hy15 (h3.rdv (k:=1) z) h2 (zz h1))) z z ?_ z z z z) (by kernel_rfl)
   rintro v4 W hS
   have hT:=hS.to [2,2] z
   refine ⟨fun _=>hT,.done ?_ (by kernel_rfl)⟩
   cases h
   exact ⟨z,v4,sb z,hS.to [2,0,1,0] z⟩
  have h:=sel_f hb h
  refine .g (.q z (.qn z (.cond z (fun hb=>?_) (fun hb=>?_))))
  ·have h:=sel_t hb h
   refine .g (.q z (.s (fa T.f32_1 z z z) z (.s (ld T.t3 hS z z z z z) z (.q z ?_))))
   have ⟨y16,hy16,h⟩:=bnd h
   have hS:=hS.p1
   have hS:=hS.p2
   refine .c (.callS2 (L0:=[rowV (sv v_0_Regs) 3 1 (D.int .i64) a0.Regs,.box g_0 27 [(sv v_0_Regs),.int .i64 a0.Pc,(sv v_0_Mem)]]) hS Tryz.func90 (fun S h1 h2 h3=>(f1w hy16 (h3.rdv (k:=1) z) h2 (zz h1))) z z ?_ z z z z)
   rintro v5 W hS
   refine .nil (.region (.q z (.s (fa T.f32_4 z z z) z (.s (ld T.t3 hS.p2 z z z z z) z (.q z ?_)))))
   have ⟨y17,hy17,h⟩:=bnd h
   refine .c (.call0 hS Tryz.func61 (f1i hy17) z z ?_ z z z z)
   intro W hS
   refine .q z (.q z (.nil ?_))
   cases h
   exact ⟨z,v5,sb z,hS.to [2,0,1,0] z⟩
  have h:=sel_f hb h
  have ⟨y18,hy18,h⟩:=bnd h
  refine .seq (CW.via (R':=fun x E' W'=>x = .normal ∧ SubL E' [(0,.pointer (some ⟨g_0,0,none⟩)),(4,.pointer (some ⟨g1,0,none⟩)),(6,.int .i64 x2),(7,.int .i64 x3),(8,.int .i64 y4),(51,.int .i64 y3.1.Op),(128,.bool y18)] ∧ Sep S w W' [.box g1 32 [.int .i64 y3.1.Op,.int .i64 y3.1.Rd,.int .i64 y3.1.Rs,.int .i64 y3.1.Rt,.int .i64 y3.1.Imm],.box g_0 27 [(sv v_0_Regs),.int .i64 a0.Pc,(sv v_0_Mem)],rowV (sv v_0_Regs) 3 1 (D.int .i64) a0.Regs,rowV (sv v_0_Mem) 3 1 (D.int .i64) a0.Mem]) ?_ ?_)
  ·have h:=hy18
   refine .g (.q z (.q z (.nil ?_)))
   refine .cs z h ?_ ?_ <;> intro h
   ·refine .skip ?_
    cases h
    exact ⟨z,sb z,hS.to [0,0,0,0] z⟩
   refine .region (.q z (.q z (.nil ?_)))
   cases h
   exact ⟨z,sb z,hS.to [0,0,0,0] z⟩
  intro x E W hJ
  obtain ⟨rfl,hE,hS⟩:=hJ
  refine ⟨_,hE.sub,?_⟩
  refine .cs z h ?_ ?_ <;> intro h
  ·refine .g (.q z (.q z (.q z (.s (fa T.f32_0 z z z) z (.s (ld T.t3 hS z z z z z) z (.q z (.s (eqb T.u4 z z z) z (.nil ?_))))))))
   refine .cs z h ?_ ?_ <;> intro h
   ·refine .rk 9 hS [0,0,0,0] T.mix ?_
    intro W hS
    have hT:=hS.to [0,0,0,0] z
    refine .tp 0 z z hT (by kernel_rfl) (.tp 1 z z hT (by kernel_rfl) (.ts 2 z (fun W hT=>fa T.f27_1 z z z) hT z (by kernel_rfl) (.ts 3 z (fun W hT=>ld T.t3 hT.p1 z z z z z) hT z (by kernel_rfl) (.ts 4 z (fun W hT=>fa T.f32_4 z z z) hT z (by kernel_rfl) (.ts 5 z (fun W hT=>ld T.t3 hT z z z z z) hT z (by kernel_rfl) (.tp 6 z z hT (by kernel_rfl) ?_))))))
    have ⟨y19,hy19,h⟩:=bnd h
    refine .by1 7 z (.call0 hS Tryz.func61 (f1i hy19) z z ?_ z z z z) (by kernel_rfl)
    intro W hS
    have hT:=hS.to [0,0,0,0] z
    refine ⟨fun _=>hT,.tp 8 z z hT (by kernel_rfl) (.done ?_ (by kernel_rfl))⟩
    cases h
    exact ⟨z,v_0_Regs,sb z,hS.to [0,0,1,0] z⟩
   refine .skip ?_
   cases h
   exact ⟨z,v_0_Regs,sb z,hS.to [0,0,1,0] z⟩
  refine .g (.q z (.qn z (.cond z (fun hb=>?_) (fun hb=>?_))))
  ·have h:=sel_t hb h
   refine .rk 8 hS [0,2] T.mix ?_
   intro W hS
   have hT:=hS.to [0,2] z
   refine .tp 0 z z hT (by kernel_rfl) (.ts 1 z (fun W hT=>fa T.f32_1 z z z) hT z (by kernel_rfl) (.ts 2 z (fun W hT=>ld T.t3 hT z z z z z) hT z (by kernel_rfl) (.ts 3 z (fun W hT=>fa T.f32_4 z z z) hT z (by kernel_rfl) (.ts 4 z (fun W hT=>ld T.t3 hT z z z z z) hT z (by kernel_rfl) (.tp 5 z z hT (by kernel_rfl) ?_)))))
   have ⟨y20,hy20,h⟩:=bnd h
   refine .by1 6 z (.call0 hS Tryz.func61 (f1i hy20) z z ?_ z z z z) (by kernel_rfl)
   intro W hS
   have hT:=hS.to [0,2] z
   refine ⟨fun _=>hT,?_⟩
   have ⟨y21,hy21,h⟩:=bnd h
   have hS:=hS.p1
   have hS:=hS.p2
   refine .by1 7 z (.callS2 (L0:=[rowV (sv v_0_Regs) 3 1 (D.int .i64) a0.Regs,.box g_0 27 [(sv v_0_Regs),.int .i64 a0.Pc,(sv v_0_Mem)]]) hS Tryz.func90 (fun S h1 h2 h3=>(f1w hy21 (h3.rdv (k:=1) z) h2 (zz h1))) z z ?_ z z z z) (by kernel_rfl)
   rintro v6 W hS
   have hT:=hS.to [2,2] z
   refine ⟨fun _=>hT,.done ?_ (by kernel_rfl)⟩
   cases h
   exact ⟨z,v6,sb z,hS.to [2,0,1,0] z⟩
  have h:=sel_f hb h
  refine .g (.q z (.qn z (.cond z (fun hb=>?_) (fun hb=>?_))))
  ·have h:=sel_t hb h
   refine .g (.q z (.s (fa T.f32_1 z z z) z (.s (ld T.t3 hS z z z z z) z (.q z ?_))))
   have ⟨y22,hy22,h⟩:=bnd h
   have hS:=hS.p1
   have hS:=hS.p2
   refine .c (.callS2 (L0:=[rowV (sv v_0_Regs) 3 1 (D.int .i64) a0.Regs,.box g_0 27 [(sv v_0_Regs),.int .i64 a0.Pc,(sv v_0_Mem)]]) hS Tryz.func90 (fun S h1 h2 h3=>(f1w hy22 (h3.rdv (k:=1) z) h2 (zz h1))) z z ?_ z z z z)
   rintro v7 W hS
   refine .nil (.rk 9 hS [0,0,0,0] T.mix ?_)
   intro W hS
   have hT:=hS.to [0,0,0,0] z
   refine .tp 0 z z hT (by kernel_rfl) (.tp 1 z z hT (by kernel_rfl) (.ts 2 z (fun W hT=>fa T.f27_1 z z z) hT z (by kernel_rfl) (.ts 3 z (fun W hT=>ld T.t3 hT z z z z z) hT z (by kernel_rfl) (.ts 4 z (fun W hT=>fa T.f32_4 z z z) hT z (by kernel_rfl) (.ts 5 z (fun W hT=>ld T.t3 hT.p2 z z z z z) hT z (by kernel_rfl) (.tp 6 z z hT (by kernel_rfl) ?_))))))
   have ⟨y23,hy23,h⟩:=bnd h
   refine .by1 7 z (.call0 hS Tryz.func61 (f1i hy23) z z ?_ z z z z) (by kernel_rfl)
   intro W hS
   have hT:=hS.to [0,0,0,0] z
   refine ⟨fun _=>hT,.tp 8 z z hT (by kernel_rfl) (.done ?_ (by kernel_rfl))⟩
   cases h
   exact ⟨z,v7,sb z,hS.to [2,0,1,0] z⟩
  have h:=sel_f hb h
  refine .rk 12 hS [0,2] T.mix ?_
  intro W hS
  have hT:=hS.to [0,2] z
  refine .tp 0 z z hT (by kernel_rfl) (.ts 1 z (fun W hT=>fa T.f32_1 z z z) hT z (by kernel_rfl) (.ts 2 z (fun W hT=>ld T.t3 hT z z z z z) hT z (by kernel_rfl) (.ts 3 z (fun W hT=>fa T.f32_0 z z z) hT z (by kernel_rfl) (.ts 4 z (fun W hT=>ld T.t3 hT z z z z z) hT z (by kernel_rfl) (.tp 5 z z hT (by kernel_rfl) ?_)))))
  have ⟨x6,hx6,h⟩:=bnd h
  refine .ts 6 z (fun W hT=>ixt hx6 z T.u120 T.t3 z z z) hT z (by kernel_rfl) (.ts 7 z (fun W hT=>ldt (hG.at hT hM).2.2 hx6 T.t3 z z z z z) hT z (by kernel_rfl) (.tp 8 z z hT (by kernel_rfl) (.tp 9 z z hT (by kernel_rfl) ?_)))
  have ⟨y24,hy24,h⟩:=bnd h
  refine .by1 10 z (.call0 hS Tryz.func92 (ff8 hy24) z z ?_ z z z z) (by kernel_rfl)
  intro W hS
  have hT:=hS.to [0,2] z
  refine ⟨fun _=>hT,?_⟩
  have ⟨y25,hy25,h⟩:=bnd h
  have hS:=hS.p1
  have hS:=hS.p2
  refine .by1 11 z (.callS2 (L0:=[rowV (sv v_0_Regs) 3 1 (D.int .i64) a0.Regs,.box g_0 27 [(sv v_0_Regs),.int .i64 a0.Pc,(sv v_0_Mem)]]) hS Tryz.func90 (fun S h1 h2 h3=>(f1w hy25 (h3.rdv (k:=1) z) h2 (zz h1))) z z ?_ z z z z) (by kernel_rfl)
  rintro v8 W hS
  have hT:=hS.to [2,2] z
  refine ⟨fun _=>hT,.done ?_ (by kernel_rfl)⟩
  cases h
  exact ⟨z,v8,sb z,hS.to [2,0,1,0] z⟩
 intro x E W hJ
 rcases y5 with o3 | o4
 ·obtain ⟨rfl,v9,hE,hS⟩:=hJ
  refine ⟨_,hE.sub,?_⟩
  refine .g (.q z (.q z (.q z (.s (fa T.f27_1 z z z) z (.c (.st T.t3 hS.p1 z z z ?_ z z z z z))))))
  intro W hS
  cases h
  exact .nil (.g (.qn z (.ret (fin_ret (vs:=[_]) (v9,v_0_Mem) (rt z rn) z (hS.to [0,2,1] z)))))
 obtain ⟨rfl,hF⟩:=hJ
 refine ⟨_,fun _ _ h=>h,?_⟩
 cases h
 exact hF
def fec (w : World) (r : Machine × (List Int) × Int) : Env → World → Prop:=Fin Tryz.prog Tryz.f31 No w (fun s : Hd × Hd × Hd=>.tuple #[.agg #[(sv s.1),.int .i64 r.1.Pc,(sv s.2.1)],(sv s.2.2),.int .i64 r.2.2]) (fun s=>[rowV (sv s.1) 3 1 (D.int .i64) r.1.Regs,rowV (sv s.2.1) 3 1 (D.int .i64) r.1.Mem,rowV (sv s.2.2) 3 1 (D.int .i64) r.2.1]) .ret
theorem faq {a0 : Machine} {a1 : Int} {v_0_Regs : Hd} {v_0_Mem : Hd} {w : World} {r : Machine × (List Int) × Int} (h : f22 a0 a1 = some r) (q_0_Regs : RV w (Old No w) (sv v_0_Regs) 3 1 (D.int .i64) a0.Regs) (q_0_Mem : RV w (Old No w) (sv v_0_Mem) 3 1 (D.int .i64) a0.Mem) (hG : Gl w) : Calls Tryz.prog 31 #[.agg #[(sv v_0_Regs),.int .i64 a0.Pc,(sv v_0_Mem)],.int .i64 a1] w (Ret No w (fun s : Hd × Hd × Hd=>.tuple #[.agg #[(sv s.1),.int .i64 r.1.Pc,(sv s.2.1)],(sv s.2.2),.int .i64 r.2.2]) (fun s=>[rowV (sv s.1) 3 1 (D.int .i64) r.1.Regs,rowV (sv s.2.1) 3 1 (D.int .i64) r.1.Mem,rowV (sv s.2.2) 3 1 (D.int .i64) r.2.1])):=by
 unfold f22 at h
 refine enter Tryz.func31 z z ?_
 have hS:=Sep.start w
 refine .g (.c (.box hS z z ?_ z z))
 intro g1 W hS
 refine .c (.alloc T.t27 hS ?_ z z z)
 intro g2 W hS
 refine .q z (.qn z (.seq (.g (.s (ld T.t27 hS.p1 z z z z z) z ?_))))
 have ⟨y1,hy1,h⟩:=bnd h
 refine .c (.call0 hS Tryz.func17 (f9v hy1 (hS.keep q_0_Regs) (hS.keep q_0_Mem)) z z ?_ z z z z)
 intro W hS
 refine .q z (.q z (.chunk 3 16 ((!y1) || (decide (a1 < 0))) hS ?_ ?_))
 ·refine .both (!y1) (fun hb=>?_) (fun hb=>?_)
  ·exact .xx hb z (.xx hb z (.s (pkt hb z z z) z (.nil (ck 3 hS z (or_t hb) z z))))
  have hg1:=hb
  exact .g hg1 (.q z (.g hg1 (.q z (.s (pkf hg1 z z z) z (.nil (ck 3 hS z (or_f hg1) z z)))) z)) z
 intro W hS
 refine .q z (.chunk 3 20 (((!y1) || (decide (a1 < 0))) || (decide (a1 > 1000000))) hS ?_ ?_)
 ·refine .both ((!y1) || (decide (a1 < 0))) (fun hb=>?_) (fun hb=>?_)
  ·exact .xx hb z (.xx hb z (.s (pkt hb z z z) z (.nil (ck 3 hS z (or_t hb) z z))))
  have hg2:=hb
  exact .g hg2 (.q z (.g hg2 (.q z (.s (pkf hg2 z z z) z (.nil (ck 3 hS z (or_f hg2) z z)))) z)) z
 intro W hS
 refine .nil ?_
 refine .cs z h ?_ ?_ <;> intro h
 ·refine .g (.s (bs T.s27 z z) z (.c (.st T.t27 hS z z z ?_ z z z z z)))
  intro W hS
  refine .q z (.qn z (.ret ?_))
  have hS:=hS.nilv 3 1 (D.int .i64)
  have hS:=hS.nilv 3 1 (D.int .i64)
  have hS:=hS.nilv 3 1 (D.int .i64)
  cases h
  exact fin_ret (vs:=[_,_,_]) (nilH,nilH,nilH) (rc hS.p3 T.t27 z (rt z (rt z rn)) z z) z (hS.to [2,1,0] z)
 refine .skip (.g (.s (ld T.t27 hS.p1 z z z z z) z ?_))
 have ⟨y2,hy2,h⟩:=bnd h
 refine .c (.call hS Tryz.func59 (fa4 hy2 (hS.keep q_0_Regs) (hS.keep q_0_Mem)) z z ?_ z z z z)
 rintro ⟨v1,v2⟩ W hS
 refine .c (.alloc T.t27 hS ?_ z z z)
 intro g3 W hS
 refine .c (.st T.t27 hS z z z ?_ z z z z z)
 intro W hS
 refine .nil (.g (.qn z (.seq (.g (.q z (.qn z (.block ?_)))))))
 have hS:=hS.nilv 3 1 (D.int .i64)
 have ⟨y3,hy3,h⟩:=bnd h
 refine .via (.iter (fun s1 E' W'=>∃ (v9 : Hd) (v10 : Hd) (v11 : Hd),SubL E' [(4,.pointer (some ⟨g2,0,none⟩)),(7,.pointer (some ⟨g3,0,none⟩)),(8,(sv v9)),(24,.int .i64 a1),(25,.int .i64 s1.2.1)] ∧ Sep No w W' [.box g3 27 [(sv v10),.int .i64 s1.2.2.2.1,(sv v11)],.box g2 27 [(sv nilH),.int .i64 0,(sv nilH)],.box g1 27 [(sv v_0_Regs),.int .i64 a0.Pc,(sv v_0_Mem)],rowV (sv v9) 3 1 (D.int .i64) s1.1,rowV (sv v10) 3 1 (D.int .i64) s1.2.2.1,rowV (sv v11) 3 1 (D.int .i64) s1.2.2.2.2]) (fun y4 x E' W'=>(match y4 with | .inl o1=>x = .ret ∧ fec w o1 E' W' | .inr o2=>x = .exit 0 ∧ ∃ (v12 : Hd) (v13 : Hd) (v14 : Hd),SubL E' [(4,.pointer (some ⟨g2,0,none⟩)),(7,.pointer (some ⟨g3,0,none⟩)),(8,(sv v12))] ∧ Sep No w W' [.box g3 27 [(sv v13),.int .i64 o2.2.2.1,(sv v14)],.box g2 27 [(sv nilH),.int .i64 0,(sv nilH)],.box g1 27 [(sv v_0_Regs),.int .i64 a0.Pc,(sv v_0_Mem)],rowV (sv v12) 3 1 (D.int .i64) o2.1,rowV (sv v13) 3 1 (D.int .i64) o2.2.1,rowV (sv v14) 3 1 (D.int .i64) o2.2.2.2])) hy3 ⟨nilH,v1,v2,sb rfl,hS.to [1,3,3,0,0,0] rfl⟩ ?_) ?_
 ·intro s1 y5 E W h hI
  obtain ⟨v6,v7,v8,hE,hS⟩:=hI
  refine CW.sub hE ?_
  unfold f1m at h
  refine .g (.qn z (.seq (.cond z (fun hb=>?_) (fun hb=>?_))))
  ·have h:=sel_t hb h
   refine .skip (.seq (.block (.seq (.region ?_))))
   have ⟨y6,hy6,h⟩:=bnd h
   have hS:=hS.p5
   have hS:=hS.p5
   refine .c (.callS2 (L0:=[rowV (sv v7) 3 1 (D.int .i64) s1.2.2.1,rowV (sv v8) 3 1 (D.int .i64) s1.2.2.2.2,.box g3 27 [(sv v7),.int .i64 s1.2.2.2.1,(sv v8)]]) hS Tryz.func60 (fun S h1 h2 h3=>(f9t hy6 h2 (zz h1) (hG.at hS (fun _ _ h=>h)) (hG.noS (fun _ _ h=>h) h1))) z z ?_ z z z z)
   rintro ⟨v15,v16⟩ W hS
   refine .q z (.nil ?_)
   have ⟨y7,hy7,h⟩:=bnd h
   refine .seq (CW.via (R':=fun x E' W'=>x = .normal ∧ ∃ (v17 : Hd),SubL E' [(4,.pointer (some ⟨g2,0,none⟩)),(7,.pointer (some ⟨g3,0,none⟩)),(8,(sv v17)),(9,.int .i64 y7.2.1),(24,.int .i64 a1),(25,.int .i64 s1.2.1)] ∧ Sep No w W' [.box g3 27 [(sv v15),.int .i64 y7.2.2,(sv v16)],rowV (sv v15) 3 1 (D.int .i64) y6.2.1,rowV (sv v16) 3 1 (D.int .i64) y6.2.2.2,.box g2 27 [(sv nilH),.int .i64 0,(sv nilH)],.box g1 27 [(sv v_0_Regs),.int .i64 a0.Pc,(sv v_0_Mem)],rowV (sv v17) 3 1 (D.int .i64) y7.1]) ?_ ?_)
   ·have h:=hy7
    refine .g (.q z (.q z (.q z ?_)))
    have ⟨b1,hb1,h⟩:=bnd h
    refine .chunk 6 36 (b1) hS ?_ ?_
    ·refine .both (y6.1 == 2) (fun hb=>?_) (fun hb=>?_)
     ·have hg3:=hb
      have h:=sel_t hb hb1
      refine .g hg3 (.s (fa T.f27_0 z z z) z (.g hg3 (.s (ld T.t25 hS z z z z z) z ?_) z)) z
      have ⟨x1,hx1,h⟩:=bnd h
      refine .g hg3 (.s (ixv hS.p1.lendv hx1 T.u25 T.t3 z z z) z (.g hg3 (.s (lde (RV.flat hS.p1.lendv hx1 z) T.t3 z z z z z) z (.g hg3 (.q z (.s (pkt hg3 z z z) z ?_)) z)) z)) z
      cases h
      exact .nil (ck 6 hS z z z z)
     refine .xx hb z (.xx hb z (.xx hb z (.xx hb z (.xx hb z ?_))))
     cases sel_f hb hb1
     exact .s (pkf hb z z z) z (.nil (ck 6 hS z z z z))
    intro W hS
    refine .nil ?_
    refine .cs z h ?_ ?_ <;> intro h
    ·refine .g (.q z (.s (fa T.f27_0 z z z) z (.s (ld T.t25 hS z z z z z) z ?_)))
     have ⟨x2,hx2,h⟩:=bnd h
     refine .s (ixv hS.p1.lendv hx2 T.u25 T.t3 z z z) z (.s (lde (RV.flat hS.p1.lendv hx2 z) T.t3 z z z z z) z (.c (.liv [x2] (D.int .i64) T.u25 T.t3 hS z z z z ?_ z (fun _=>z) z z z z)))
     intro v18 W hS
     have ⟨r1,hr1,h⟩:=bnd h
     have hT0:=hS.p6
     refine .c (.apprv hr1 hT0 hT0.p1.lendv (fun _=>z) T.u25 T.t3 z z z ?_ z z z z z)
     intro v19 W hS
     refine .qn z (.g (.s (fa T.f27_1 z z z) z (.s (ld T.t3 hS.p2 z z z z z) z (.q z ?_))))
     have ⟨y8,hy8,h⟩:=bnd h
     refine .c (.call0 hS Tryz.func61 (f1i hy8) z z ?_ z z z z)
     intro W hS
     refine .s (fa T.f27_1 z z z) z (.c (.st T.t3 hS.p2 z z z ?_ z z z z z))
     intro W hS
     refine .nil (.region (.q z (.nil ?_)))
     cases h
     exact ⟨z,v19,sb z,hS.to [0,2,2,2,2,0] z⟩
    refine .skip ?_
    cases h
    exact ⟨z,v6,sb z,hS.to [0,0,0,0,0,0] z⟩
   intro x E W hJ
   obtain ⟨rfl,v20,hE,hS⟩:=hJ
   refine ⟨_,hE.sub,?_⟩
   refine .g (.q z (.q z (.nil ?_)))
   refine .cs z h ?_ ?_ <;> intro h
   ·refine .g (.s (ld T.t27 hS z z z z z) z (.q z (.q z (.c (.st T.t27 hS.p3 z z z ?_ z z z z z)))))
    intro W hS
    refine .q z (.qn z (.ret ?_))
    cases h
    exact ⟨by simp,z,fin_ret (vs:=[_,_,_]) (v15,v16,v20) (rc hS T.t27 z (rt z (rt z rn)) z z) z (hS.to [2,2,3] z)⟩
   refine .skip (.region (.q z (.q z (.nil ?_))))
   cases h
   exact ⟨z,v20,v15,v16,sb z,hS.to [0,2,2,2,0,0] z⟩
  have h:=sel_f hb h
  refine .exit ?_
  cases h
  exact ⟨by simp,z,v6,v7,v8,sb z,hS.to [0,0,0,0,0,0] z⟩
 intro x E W hJ
 rcases y3 with o3 | o4
 ·obtain ⟨rfl,hF⟩:=hJ
  refine ⟨_,fun _ _ h=>h,?_⟩
  cases h
  exact hF
 obtain ⟨rfl,v21,v22,v23,hE,hS⟩:=hJ
 refine ⟨_,hE.sub,?_⟩
 refine .g (.s (ld T.t27 hS z z z z z) z (.q z (.c (.st T.t27 hS.p1 z z z ?_ z z z z z))))
 intro W hS
 cases h
 exact .q z (.qn z (.ret (fin_ret (vs:=[_,_,_]) (v22,v23,v21) (rc hS T.t27 z (rt z (rt z rn)) z z) z (hS.to [4,4,3] z))))
theorem fc5 {a0 : Machine} {v_0_Regs : Hd} {v_0_Mem : Hd} {w : World} {r : Machine × Int} (h : f4j a0 = some r) (q_0_Regs : RV w (Old No w) (sv v_0_Regs) 3 1 (D.int .i64) a0.Regs) (q_0_Mem : RV w (Old No w) (sv v_0_Mem) 3 1 (D.int .i64) a0.Mem) (hG : Gl w) : Calls Tryz.prog 33 #[.agg #[(sv v_0_Regs),.int .i64 a0.Pc,(sv v_0_Mem)]] w (Ret No w (fun s : Hd × Hd=>.tuple #[.agg #[(sv s.1),.int .i64 r.1.Pc,(sv s.2)],.int .i64 r.2]) (fun s=>[rowV (sv s.1) 3 1 (D.int .i64) r.1.Regs,rowV (sv s.2) 3 1 (D.int .i64) r.1.Mem])):=by
 unfold f4j at h
 refine enter Tryz.func33 z z ?_
 have hS:=Sep.start w
 refine .g (.c (.box hS z z ?_ z z))
 intro g1 W hS
 refine .c (.alloc T.t27 hS ?_ z z z)
 intro g2 W hS
 refine .qn z (.seq (.g (.s (ld T.t27 hS.p1 z z z z z) z ?_)))
 have ⟨y1,hy1,h⟩:=bnd h
 refine .c (.call0 hS Tryz.func17 (f9v hy1 (hS.keep q_0_Regs) (hS.keep q_0_Mem)) z z ?_ z z z z)
 intro W hS
 refine .qn z (.cond z (fun hb=>?_) (fun hb=>?_))
 ·have h:=sel_t hb h
  refine .g (.s (bs T.s27 z z) z (.c (.st T.t27 hS z z z ?_ z z z z z)))
  intro W hS
  refine .qn z (.ret ?_)
  have hS:=hS.nilv 3 1 (D.int .i64)
  have hS:=hS.nilv 3 1 (D.int .i64)
  cases h
  exact fin_ret (vs:=[_,_]) (nilH,nilH) (rc hS.p2 T.t27 z (rt z rn) z z) z (hS.to [1,0] z)
 have h:=sel_f hb h
 refine .skip (.g (.s (ld T.t27 hS.p1 z z z z z) z ?_))
 have ⟨y2,hy2,h⟩:=bnd h
 refine .c (.call hS Tryz.func59 (fa4 hy2 (hS.keep q_0_Regs) (hS.keep q_0_Mem)) z z ?_ z z z z)
 rintro ⟨v1,v2⟩ W hS
 refine .c (.alloc T.t27 hS ?_ z z z)
 intro g3 W hS
 refine .c (.st T.t27 hS z z z ?_ z z z z z)
 intro W hS
 refine .nil (.seq (.region ?_))
 have ⟨y3,hy3,h⟩:=bnd h
 have hS:=hS.p2
 have hS:=hS.p2
 refine .c (.callS2 (L0:=[rowV (sv v1) 3 1 (D.int .i64) y2.Regs,rowV (sv v2) 3 1 (D.int .i64) y2.Mem,.box g3 27 [(sv v1),.int .i64 y2.Pc,(sv v2)]]) hS Tryz.func60 (fun S h1 h2 h3=>(f9t hy3 h2 (zz h1) (hG.at hS (fun _ _ h=>h)) (hG.noS (fun _ _ h=>h) h1))) z z ?_ z z z z)
 rintro ⟨v3,v4⟩ W hS
 refine .qn z (.g (.s (ld T.t27 hS z z z z z) z (.q z (.c (.st T.t27 hS.p3 z z z ?_ z z z z z)))))
 intro W hS
 cases h
 exact .qn z (.ret (fin_ret (vs:=[_,_]) (v3,v4) (rc hS T.t27 z (rt z rn) z z) z (hS.to [2,2] z)))
end Go.Proofs.YtmpplggjpmmhlaaGreatDoor.N
namespace Go.Proofs.YtmpplggjpmmhlaaGreatDoor.N
open Go.Proofs.YtmpplggjpmmhlaaGreatDoor.X
theorem fc4 {k : Nat} {a0 : List Int} {v_0 : Hd} {w : World} {r : Bool} (h : f6c k a0 = some r) (q_0 : RV w (Old No w) (sv v_0) 5 1 (D.int .u8) a0) (hG : Gl w) : Calls Tryz.prog 10 #[(sv v_0)] w (Ret No w (fun s : Unit=>.bool r) (fun s=>[])):=by
 unfold f6c at h
 refine enter Tryz.func10 z z ?_
 have hS:=Sep.start w
 refine .g (.qn z (.seq (.g (.q z (.s (lenv (hS.keep q_0) T.u22 z z) z (.q z (.nil ?_)))))))
 refine .cs z h ?_ ?_ <;> intro h
 ·obtain rfl:=Option.some.inj h
  exact .g (.qn z (.ret (fin_ret (vs:=[_]) () (rt z rn) z (hS.to [] z))))
 refine .skip (.g (.q z ?_))
 have ⟨y1,hy1,h⟩:=bnd h
 refine .c (.call hS Tryz.func30 (fbs hy1 (hS.keep q_0)) z z ?_ z z z z)
 rintro ⟨v1,v2⟩ W hS
 refine .q z (.q z (.q z (.c (.alloc T.t27 hS ?_ z z z))))
 intro g1 W hS
 refine .c (.st T.t27 hS z z z ?_ z z z z z)
 intro W hS
 refine .qn z (.g (.s (ld T.t27 hS z z z z z) z (.q z ?_)))
 have ⟨y2,hy2,h⟩:=bnd h
 refine .c (.call hS Tryz.func31 (faq hy2 hS.p1.lendv hS.p2.lendv (hG.at hS (fun _ _ h=>h))) z z ?_ z z z z)
 rintro ⟨v3,v4,v5⟩ W hS
 refine .q z (.q z (.q z (.q z (.c (.alloc T.t27 hS ?_ z z z)))))
 intro g2 W hS
 refine .c (.st T.t27 hS z z z ?_ z z z z z)
 intro W hS
 refine .q z (.qn z (.g (.s (ld T.t27 hS.p4 z z z z z) z (.q z ?_))))
 have ⟨y3,hy3,h⟩:=bnd h
 refine .c (.call hS Tryz.func32 (f14 hy3 hS.p5.lendv hS.p6.lendv) z z ?_ z z z z)
 rintro ⟨v6,v7,v8⟩ W hS
 refine .q z (.q z (.q z (.q z (.c (.alloc T.t27 hS ?_ z z z)))))
 intro g3 W hS
 refine .c (.st T.t27 hS z z z ?_ z z z z z)
 intro W hS
 refine .q z (.qn z (.seq (.g (.q z (.q z (.q z (.q z ?_)))))))
 have ⟨b1,hb1,h⟩:=bnd h
 refine .chunk 5 46 (b1) hS ?_ ?_
 ·refine .both (y2.2.2 != y3.2.2) (fun hb=>?_) (fun hb=>?_)
  ·refine .xx hb z (.xx hb z (.xx hb z (.xx hb z ?_)))
   cases sel_t hb hb1
   exact .s (pkt hb z z z) z (.nil (ck 5 hS z z z z))
  have hg1:=hb
  have h:=sel_f hb hb1
  refine .g hg1 (.q z (.g hg1 (.q z ?_) z)) z
  have ⟨y4,hy4,h⟩:=bnd h
  refine .g hg1 (.c (.call0 hS Tryz.func18 (f5z hy4 hS.p7.lendv hS.p3.lendv) z z ?_ z z z z)) z
  intro W hS
  refine .g hg1 (.q z (.s (pkf hg1 z z z) z ?_)) z
  cases h
  exact .nil (ck 5 hS z z z z)
 intro W hS
 refine .q z ?_
 have ⟨b2,hb2,h⟩:=bnd h
 refine .chunk 5 52 (b2) hS ?_ ?_
 ·refine .both (b1) (fun hb=>?_) (fun hb=>?_)
  ·refine .xx hb z (.xx hb z (.xx hb z (.xx hb z ?_)))
   cases sel_t hb hb2
   exact .s (pkt hb z z z) z (.nil (ck 5 hS z z z z))
  have hg2:=hb
  have h:=sel_f hb hb2
  refine .g hg2 (.s (ld T.t27 hS.p4 z z z z z) z (.g hg2 (.s (ld T.t27 hS z z z z z) z ?_) z)) z
  have ⟨y5,hy5,h⟩:=bnd h
  refine .g hg2 (.c (.call0 hS Tryz.func14 (f4m hy5 hS.p5.lendv hS.p6.lendv hS.p1.lendv hS.p2.lendv) z z ?_ z z z z)) z
  intro W hS
  refine .g hg2 (.q z (.s (pkf hg2 z z z) z ?_)) z
  cases h
  exact .nil (ck 5 hS z z z z)
 intro W hS
 refine .nil ?_
 refine .cs z h ?_ ?_ <;> intro h
 ·obtain rfl:=Option.some.inj h
  exact .g (.qn z (.ret (fin_ret (vs:=[_]) () (rt z rn) z (hS.to [] z))))
 refine .skip (.seq (.g (.q z (.q z (.nil ?_)))))
 refine .cs z h ?_ ?_ <;> intro h
 ·obtain rfl:=Option.some.inj h
  exact .g (.qn z (.ret (fin_ret (vs:=[_]) () (rt z rn) z (hS.to [] z))))
 refine .skip (.g (.s (ld T.t27 hS.p8 z z z z z) z ?_))
 have ⟨y6,hy6,h⟩:=bnd h
 refine .c (.call hS Tryz.func31 (faq hy6 hS.p9.lendv hS.p10.lendv (hG.at hS (fun _ _ h=>h))) z z ?_ z z z z)
 rintro ⟨v9,v10,v11⟩ W hS
 refine .q z (.q z (.q z (.q z (.c (.alloc T.t27 hS ?_ z z z)))))
 intro g4 W hS
 refine .c (.st T.t27 hS z z z ?_ z z z z z)
 intro W hS
 refine .q z (.qn z (.g (.s (ld T.t27 (hS.pull (i:=12) z) z z z z z) z ?_)))
 have ⟨y7,hy7,h⟩:=bnd h
 refine .c (.call hS Tryz.func33 (fc5 hy7 (hS.pull (i:=13) z).lendv (hS.pull (i:=14) z).lendv (hG.at hS (fun _ _ h=>h))) z z ?_ z z z z)
 rintro ⟨v12,v13⟩ W hS
 refine .q z (.q z (.q z (.c (.alloc T.t27 hS ?_ z z z))))
 intro g5 W hS
 refine .c (.st T.t27 hS z z z ?_ z z z z z)
 intro W hS
 refine .qn z (.seq (.g (.q z (.q z (.nil ?_)))))
 refine .cs z h ?_ ?_ <;> intro h
 ·refine .g (.q z (.q z (.q z (.q z (.chunk 3 74 ((y6.2.2 == y7.2) && (y7.2 != 1)) hS ?_ ?_)))))
  ·refine .both (y6.2.2 == y7.2) (fun hb=>?_) (fun hb=>?_)
   ·have hg3:=hb
    exact .g hg3 (.q z (.g hg3 (.q z (.s (pkt hg3 z z z) z (.nil (ck 3 hS z (and_t hg3) z z)))) z)) z
   exact .xx hb z (.xx hb z (.s (pkf hb z z z) z (.nil (ck 3 hS z (and_f hb) z z))))
  intro W hS
  refine .q z ?_
  have ⟨b3,hb3,h⟩:=bnd h
  refine .chunk 4 79 (b3) hS ?_ ?_
  ·refine .both ((y6.2.2 == y7.2) && (y7.2 != 1)) (fun hb=>?_) (fun hb=>?_)
   ·have hg4:=hb
    have h:=sel_t hb hb3
    refine .g hg4 (.s (ld T.t27 hS.p3 z z z z z) z (.g hg4 (.s (ld T.t27 (hS.pull (i:=15) z) z z z z z) z ?_) z)) z
    have ⟨y8,hy8,h⟩:=bnd h
    refine .g hg4 (.c (.call0 hS Tryz.func14 (f4m hy8 hS.p4.lendv hS.p5.lendv (hS.pull (i:=16) z).lendv (hS.pull (i:=17) z).lendv) z z ?_ z z z z)) z
    intro W hS
    refine .s (pkt hg4 z z z) z ?_
    cases h
    exact .nil (ck 4 hS z z z z)
   refine .xx hb z (.xx hb z (.xx hb z ?_))
   cases sel_f hb hb3
   exact .s (pkf hb z z z) z (.nil (ck 4 hS z z z z))
  intro W hS
  refine .q z (.chunk 4 84 (b3 && ((y6.2.1.length : Int) == 0)) hS ?_ ?_)
  ·refine .both (b3) (fun hb=>?_) (fun hb=>?_)
   ·have hg5:=hb
    exact .g hg5 (.q z (.g hg5 (.s (lenv hS.p6.lendv T.u25 z z) z (.g hg5 (.q z (.s (pkt hg5 z z z) z (.nil (ck 4 hS z (and_t hg5) z z)))) z)) z)) z
   exact .xx hb z (.xx hb z (.xx hb z (.s (pkf hb z z z) z (.nil (ck 4 hS z (and_f hb) z z)))))
  intro W hS
  cases h
  exact .qn z (.ret (fin_ret (vs:=[_]) () (rt z rn) z (hS.to [] z)))
 refine .skip (.seq (.g (.q z (.q z (.nil ?_)))))
 refine .cs z h ?_ ?_ <;> intro h
 ·refine .g (.s (ld T.t27 hS.p3 z z z z z) z (.s (ld T.t27 hS z z z z z) z ?_))
  have ⟨y9,hy9,h⟩:=bnd h
  refine .c (.call0 hS Tryz.func14 (f4m hy9 hS.p4.lendv hS.p5.lendv hS.p1.lendv hS.p2.lendv) z z ?_ z z z z)
  intro W hS
  refine .q z (.chunk 4 94 (y9 && ((y6.2.1.length : Int) == 0)) hS ?_ ?_)
  ·refine .both (y9) (fun hb=>?_) (fun hb=>?_)
   ·have hg6:=hb
    exact .g hg6 (.q z (.g hg6 (.s (lenv hS.p6.lendv T.u25 z z) z (.g hg6 (.q z (.s (pkt hg6 z z z) z (.nil (ck 4 hS z (and_t hg6) z z)))) z)) z)) z
   exact .xx hb z (.xx hb z (.xx hb z (.s (pkf hb z z z) z (.nil (ck 4 hS z (and_f hb) z z)))))
  intro W hS
  cases h
  exact .qn z (.ret (fin_ret (vs:=[_]) () (rt z rn) z (hS.to [] z)))
 refine .skip (.g (.s (fa T.f27_1 z z z) z (.s (ld T.t3 hS z z z z z) z (.q z (.s (fa T.f27_1 z z z) z (.c (.st T.t3 hS z z z ?_ z z z z z)))))))
 intro W hS
 refine .nil (.g (.q z (.q z (.q z ?_))))
 have ⟨b4,hb4,h⟩:=bnd h
 refine .chunk 6 107 (b4) hS ?_ ?_
 ·refine .both (y7.2 == 2) (fun hb=>?_) (fun hb=>?_)
  ·have hg7:=hb
   have h:=sel_t hb hb4
   refine .g hg7 (.s (fa T.f27_0 z z z) z (.g hg7 (.s (ld T.t25 (hS.pull (i:=15) z) z z z z z) z ?_) z)) z
   have ⟨x1,hx1,h⟩:=bnd h
   refine .g hg7 (.s (ixv (hS.pull (i:=16) z).lendv hx1 T.u25 T.t3 z z z) z (.g hg7 (.s (lde (RV.flat (hS.pull (i:=16) z).lendv hx1 z) T.t3 z z z z z) z (.g hg7 (.q z (.s (pkt hg7 z z z) z ?_)) z)) z)) z
   cases h
   exact .nil (ck 6 hS z z z z)
  refine .xx hb z (.xx hb z (.xx hb z (.xx hb z (.xx hb z ?_))))
  cases sel_f hb hb4
  exact .s (pkf hb z z z) z (.nil (ck 6 hS z z z z))
 intro W hS
 refine .q z ?_
 have ⟨b5,hb5,h⟩:=bnd h
 refine .chunk 8 116 (b5) hS ?_ ?_
 ·refine .both (b4) (fun hb=>?_) (fun hb=>?_)
  ·have hg8:=hb
   have h:=sel_t hb hb5
   refine .g hg8 (.q z (.g hg8 (.s (fa T.f27_0 z z z) z (.g hg8 (.s (ld T.t25 (hS.pull (i:=15) z) z z z z z) z ?_) z)) z)) z
   have ⟨x2,hx2,h⟩:=bnd h
   refine .g hg8 (.s (ixv (hS.pull (i:=16) z).lendv hx2 T.u25 T.t3 z z z) z (.g hg8 (.s (lde (RV.flat (hS.pull (i:=16) z).lendv hx2 z) T.t3 z z z z z) z (.g hg8 (.c (.liv [x2] (D.int .i64) T.u25 T.t3 hS z z z z ?_ z (fun _=>z) z z z z)) z)) z)) z
   intro v14 W hS
   have ⟨y10,hy10,h⟩:=bnd h
   refine .g hg8 (.c (.call0 hS Tryz.func18 (f5z hy10 hS.p7.lendv hS.lendv) z z ?_ z z z z)) z
   intro W hS
   refine .s (pkt hg8 z z z) z ?_
   cases h
   exact .nil (ck 8 (hS.to [1,1,1,1,1,1,1,1,1,1,1,1,1,1,1,1,1,1] z) z z z z)
  refine .xx hb z (.xx hb z (.xx hb z (.xx hb z (.xx hb z (.xx hb z (.xx hb z ?_))))))
  cases sel_f hb hb5
  exact .s (pkf hb z z z) z (.nil (ck 8 hS z z z z))
 intro W hS
 refine .q z ?_
 have ⟨b6,hb6,h⟩:=bnd h
 refine .chunk 4 121 (b6) hS ?_ ?_
 ·refine .both (b5) (fun hb=>?_) (fun hb=>?_)
  ·have hg9:=hb
   have h:=sel_t hb hb6
   refine .g hg9 (.s (ld T.t27 hS.p3 z z z z z) z (.g hg9 (.s (ld T.t27 hS z z z z z) z ?_) z)) z
   have ⟨y11,hy11,h⟩:=bnd h
   refine .g hg9 (.c (.call0 hS Tryz.func14 (f4m hy11 hS.p4.lendv hS.p5.lendv hS.p1.lendv hS.p2.lendv) z z ?_ z z z z)) z
   intro W hS
   refine .s (pkt hg9 z z z) z ?_
   cases h
   exact .nil (ck 4 hS z z z z)
  refine .xx hb z (.xx hb z (.xx hb z ?_))
  cases sel_f hb hb6
  exact .s (pkf hb z z z) z (.nil (ck 4 hS z z z z))
 intro W hS
 obtain rfl:=Option.some.inj h
 exact .qn z (.ret (fin_ret (vs:=[_]) () (rt z rn) z (hS.to [] z)))
end Go.Proofs.YtmpplggjpmmhlaaGreatDoor.N
namespace Go.Proofs.YtmpplggjpmmhlaaGreatDoor.X
variable {P : Program} {w : World} {T : Nat → Prop} {t e : TypeId} {size : Nat} {k : IntKind} {α : Type} {enc : α → D} {H : Type} {en : TypeId × Value → H} {base : Nat} {spare : Nat → Bool} {held : Bool}
def styp (P : Program) (t : TypeId) : Option (List TypeId):=match P.underlying t with
 | some (.struct fs)=>some (fs.toList.map (·.type))
 | _=>none
mutual
def Typ (P : Program) : D → TypeId → Prop
 | .int k n,t=>P.underlying t = some (.int k) ∧ (Lit.int k n).wf = true
 | .bool _,t=>P.underlying t = some .bool
 | .str s,t=>P.underlying t = some .string ∧ s.size ≤ maxLen
 | .row e size xs,t=>P.underlying t = some (.slice e) ∧ size = P.cellsOf e ∧ Typs P xs e
 | .agg xs,t=>∃ ts,styp P t = some ts ∧ TypF P xs ts
def Typs (P : Program) : List D → TypeId → Prop
 | [],_=>True
 | x :: xs,e=>Typ P x e ∧ Typs P xs e
def TypF (P : Program) : List D → List TypeId → Prop
 | [],[]=>True
 | x :: xs,t :: ts=>Typ P x t ∧ TypF P xs ts
 | _,_=>False
end
def contig (P : Program) : List Field → Nat → Option Nat
 | [],k=>some k
 | f :: r,k=>match Nat.beq f.offset k with
  | true=>contig P r (k + P.cellsOf f.type)
  | false=>none
def okT (P : Program) (ts : List TypeId) (t : TypeId) : Bool:=match P.underlying t with
 | some (.int _) | some .bool | some .string=>Nat.beq (P.cellsOf t) 1
 | some (.slice e)=>Nat.beq (P.cellsOf t) 1 && ts.contains e && !(Nat.beq (P.cellsOf e) 0)
 | some (.struct fs)=>(match contig P fs.toList 0 with
  | some n=>Nat.beq n (P.cellsOf t)
  | none=>false) && fs.toList.all (fun f=>ts.contains f.type)
 | _=>false
theorem D.rd_length : ∀ {d : D} {cs : List Value},D.rd w d T cs → cs.length = d.sz
 | .int _ _,_,h=>by simp only [D.rd] at h; subst h; rfl
 | .bool _,_,h=>by simp only [D.rd] at h; subst h; rfl
 | .str _,_,h=>by simp only [D.rd] at h; subst h; rfl
 | .row _ _ _,_,⟨A,cap,c,h1,_⟩=>by subst h1; rfl
 | .agg xs,_,h=>by simp only [D.sz]; exact rds_length (xs:=xs) h
theorem Typs.append : ∀ {xs ys : List D},Typs P xs e → Typs P ys e → Typs P (xs ++ ys) e
 | [],_,_,h=>h
 | x :: xs,_,⟨h1,h2⟩,h=>⟨h1,Typs.append h2 h⟩
theorem old_of_cell {a : Addr} {v : Value} (h : w.cell? a = some v) : Old No w a.block:=⟨World.block_lt_of_cell? w a h,id⟩
theorem trod_typ {ts : List TypeId} (hts : ts.all (okT P ts) = true) : ∀ {fuel : Nat} {t : TypeId} {cs : List Value} {x : DataW H × List MemPlace},t ∈ ts → DataW.trod en P w base spare held fuel t cs = some x → ∃ d,Typ P d t ∧ D.rd w d (Old No w) cs ∧ d.sz = P.cellsOf t:=by
 intro fuel
 induction fuel with
 | zero=>intro t cs x _ h; simp [DataW.trod] at h
 | succ fuel ih =>
  intro t cs x ht h
  have hok:=List.all_eq_true.1 hts t ht
  unfold okT at hok
  split at hok
  ·rename_i k hu
   obtain ⟨n,rfl,_,hw⟩:=DataW.trod_int hu h
   exact ⟨.int k n,⟨hu,hw⟩,rfl,(Nat.eq_of_beq_eq_true hok).symm⟩
  ·rename_i hu
   obtain ⟨b,rfl,_⟩:=DataW.trod_bool hu h
   exact ⟨.bool b,hu,rfl,(Nat.eq_of_beq_eq_true hok).symm⟩
  ·rename_i hu
   obtain ⟨s,rfl,_,hs⟩:=DataW.trod_string hu h
   exact ⟨.str s,⟨hu,hs⟩,rfl,(Nat.eq_of_beq_eq_true hok).symm⟩
  ·rename_i e hu
   simp only [Bool.and_eq_true,Bool.not_eq_true'] at hok
   obtain ⟨⟨h1,h2⟩,h3⟩:=hok
   have he : e ∈ ts:=by simpa using h2
   have h0 : P.cellsOf e ≠ 0:=by intro h0; rw [h0] at h3; cases h3
   have hc1:=(Nat.eq_of_beq_eq_true h1).symm
   rcases DataW.trod_slice hu h with ⟨rfl,_⟩ | ⟨a,len,cap,elems,rest,n,hn,rfl,_,hb,hl,hm,hlen,hel,_,_⟩
   ·exact ⟨.row e (P.cellsOf e) [],⟨hu,rfl,trivial⟩,⟨none,0,[],rfl,Nat.le_refl _,Nat.zero_le _,by simp,fun h=>absurd rfl h,rfl⟩,hc1⟩
   ·obtain rfl : fuel = n:=by omega
    have key : ∀ m,m ≤ len → ∃ ds c,ds.length = m ∧ Typs P ds e ∧ (∀ x ∈ ds,x.sz = P.cellsOf e) ∧ D.rds w ds (Old No w) c ∧ c.length = m * P.cellsOf e ∧ ∀ j u,c[j]? = some u → w.cell? (a.add j) = some u:=by
     intro m
     induction m with
     | zero=>intro _; exact ⟨[],[],rfl,trivial,by simp,rfl,by simp,by simp⟩
     | succ m ihm =>
      intro hle
      obtain ⟨ds,c,k1,k2,k3,k4,k5,k6⟩:=ihm (by omega)
      have hi:=hel m (by omega)
      have hs : ∃ y,elems[m]? = some y:=⟨_,List.getElem?_eq_getElem (by omega)⟩
      obtain ⟨y,hy⟩:=hs
      rw [hy,Option.bind_eq_some_iff] at hi
      obtain ⟨ci,hci,hyi⟩:=hi
      obtain ⟨d,g1,g2,g3⟩:=ih he hyi
      obtain ⟨_,q2,q3⟩:=World.cells?_some hci
      refine ⟨ds ++ [d],c ++ ci,by simp [k1],k2.append ⟨g1,trivial⟩,fun x hx=>?_,rds_app k4 ⟨ci,[],by simp,D.rd_length g2,g2,rfl⟩,by rw [List.length_append,k5,q2,Nat.add_mul]; omega,fun j u hj=>?_⟩
      ·rcases List.mem_append.1 hx with hx | hx
       ·exact k3 x hx
       ·rw [List.mem_singleton.1 hx]; exact g3
      ·rcases Nat.lt_or_ge j c.length with hj' | hj'
       ·rw [List.getElem?_append_left hj'] at hj; exact k6 j u hj
       ·rw [List.getElem?_append_right hj'] at hj
        have hlt : j - c.length < P.cellsOf e:=by
         rcases Nat.lt_or_ge (j - c.length) ci.length with h | h
         ·omega
         ·rw [List.getElem?_eq_none h] at hj; cases hj
        have:=q3 _ hlt
        rw [hj,Addr.add_add,← k5] at this
        rw [show c.length + (j - c.length) = j by omega] at this
        exact this
    obtain ⟨ds,c,k1,k2,k3,k4,k5,k6⟩:=key len (Nat.le_refl _)
    refine ⟨.row e (P.cellsOf e) ds,⟨hu,rfl,k2⟩,⟨some a,cap,c,by rw [k1],by omega,by omega,k3,fun hne=>⟨a,rfl,?_,k6⟩,k4⟩,hc1⟩
    have hpos : 0 < c.length:=by
     rw [k5,← k1]
     exact Nat.mul_pos (List.length_pos_iff.2 hne) (by omega)
    have h6:=k6 0 _ (List.getElem?_eq_getElem hpos)
    simp only [Addr.add,if_true] at h6
    exact old_of_cell h6
  ·rename_i fs hu
   simp only [Bool.and_eq_true] at hok
   obtain ⟨h1,h2⟩:=hok
   split at h1
   ·rename_i tot hcg
    obtain rfl:=Nat.eq_of_beq_eq_true h1
    obtain ⟨xs,n,hn,_,hlen,hxl,hf⟩:=DataW.trod_struct hu h
    obtain rfl : fuel = n:=by omega
    have key : ∀ (gs : List Field) (o : Nat),(∀ f ∈ gs,f.type ∈ ts ∧ ∃ y,DataW.trod en P w base spare held fuel f.type ((cs.drop f.offset).take (P.cellsOf f.type)) = some y) → contig P gs o = some (P.cellsOf t) →
      ∃ ds,TypF P ds (gs.map (·.type)) ∧ D.rds w ds (Old No w) (cs.drop o) ∧ o + D.szs ds = P.cellsOf t:=by
     intro gs
     induction gs with
     | nil =>
      intro o _ hc
      simp only [contig,Option.some.injEq] at hc
      subst hc
      exact ⟨[],trivial,by rw [← hlen,List.drop_length]; rfl,rfl⟩
     | cons f gs ihg =>
      intro o hall hc
      simp only [contig] at hc
      split at hc
      ·rename_i ho
       have ho':=Nat.eq_of_beq_eq_true ho
       obtain ⟨hft,y,hy⟩:=hall f (by simp)
       obtain ⟨d,g1,g2,g3⟩:=ih hft hy
       obtain ⟨ds,q1,q2,q3⟩:=ihg _ (fun g hg=>hall g (by simp [hg])) hc
       rw [ho'] at g2
       refine ⟨d :: ds,⟨g1,q1⟩,⟨_,_,?_,D.rd_length g2,g2,q2⟩,?_⟩
       ·rw [← List.drop_drop,List.take_append_drop]
       ·simp only [D.szs,g3]; omega
      ·cases hc
    obtain ⟨ds,q1,q2,q3⟩:=key fs.toList 0 (fun f hf'=>⟨by have:=List.all_eq_true.1 h2 f hf'; simpa using this,by
      obtain ⟨i,hi⟩:=List.getElem?_of_mem hf'
      have hi' : fs[i]? = some f:=by simpa using hi
      have hlt : i < xs.length:=by
       have:=(List.getElem?_eq_some_iff.1 hi).1
       rw [hxl]
       simpa using this
      exact ⟨_,(hf i f hi').trans (List.getElem?_eq_getElem hlt)⟩⟩) hcg
    exact ⟨.agg ds,⟨_,by simp only [styp,hu],q1⟩,q2,by simp only [D.sz]; omega⟩
   ·cases h1
  ·cases hok
def Dec (P : Program) (t : TypeId) (enc : α → D) (Wf : α → Prop) : Prop:=∀ d,Typ P d t → ∃ x,d = enc x ∧ Wf x
theorem Dec.int (hu : P.underlying t = some (.int k)) : Dec P t (D.int k) (fun n=>(Lit.int k n).wf = true):=by
 intro d h
 cases d with
 | int k' n =>
  obtain ⟨h1,h2⟩:=h
  rw [hu] at h1
  injection h1 with h1
  injection h1 with h1
  subst h1
  exact ⟨n,rfl,h2⟩
 | bool b=>rw [show P.underlying t = some .bool from h] at hu; cases hu
 | str s=>rw [show P.underlying t = some .string from h.1] at hu; cases hu
 | row e s xs=>rw [h.1] at hu; cases hu
 | agg xs=>obtain ⟨ts,h1,_⟩:=h; simp [styp,hu] at h1
theorem Dec.bool (hu : P.underlying t = some .bool) : Dec P t D.bool (fun _=>True):=by
 intro d h
 cases d with
 | bool b=>exact ⟨b,rfl,trivial⟩
 | int k' n=>rw [h.1] at hu; cases hu
 | str s=>rw [show P.underlying t = some .string from h.1] at hu; cases hu
 | row e s xs=>rw [h.1] at hu; cases hu
 | agg xs=>obtain ⟨ts,h1,_⟩:=h; simp [styp,hu] at h1
theorem Dec.str (hu : P.underlying t = some .string) : Dec P t D.str (fun s=>s.size ≤ maxLen):=by
 intro d h
 cases d with
 | str s=>exact ⟨s,rfl,h.2⟩
 | bool b=>rw [show P.underlying t = some .bool from h] at hu; cases hu
 | int k' n=>rw [h.1] at hu; cases hu
 | row e s xs=>rw [h.1] at hu; cases hu
 | agg xs=>obtain ⟨ts,h1,_⟩:=h; simp [styp,hu] at h1
theorem Dec.list {Wf : α → Prop} (h : Dec P e enc Wf) : ∀ {xs : List D},Typs P xs e → ∃ l : List α,xs = l.map enc ∧ ∀ x ∈ l,Wf x
 | [],_=>⟨[],rfl,by simp⟩
 | d :: xs,⟨h1,h2⟩=>by
  obtain ⟨x,rfl,hx⟩:=h d h1
  obtain ⟨l,rfl,hl⟩:=Dec.list h h2
  exact ⟨x :: l,rfl,fun y hy=>(List.mem_cons.1 hy).elim (fun e=>e ▸ hx) (hl y)⟩
theorem Dec.slice {Wf : α → Prop} (hu : P.underlying t = some (.slice e)) (hc : P.cellsOf e = size) (h : Dec P e enc Wf) : Dec P t (fun (l : List α)=>D.row e size (l.map enc)) (fun l=>∀ x ∈ l,Wf x):=by
 intro d hd
 cases d with
 | row e' s xs =>
  obtain ⟨h1,h2,h3⟩:=hd
  rw [hu] at h1
  injection h1 with h1
  injection h1 with h1
  subst h1
  obtain ⟨l,rfl,hl⟩:=h.list h3
  exact ⟨l,by rw [h2,hc],hl⟩
 | bool b=>rw [show P.underlying t = some .bool from hd] at hu; cases hu
 | int k' n=>rw [hd.1] at hu; cases hu
 | str s=>rw [show P.underlying t = some .string from hd.1] at hu; cases hu
 | agg xs=>obtain ⟨ts,h1,_⟩:=hd; simp [styp,hu] at h1
end Go.Proofs.YtmpplggjpmmhlaaGreatDoor.X
namespace Go.Proofs.YtmpplggjpmmhlaaGreatDoor.X
variable {P : Program} {w : World} {T : Nat → Prop} {t e : TypeId} {size : Nat} {k : IntKind} {α : Type} {H : Type} {en : TypeId × Value → H} {base : Nat} {spare : Nat → Bool} {held : Bool}
def dcells : DataW H → List Value
 | .lit (.int k n)=>[.int k n]
 | .lit (.bool b)=>[.bool b]
 | .lit (.string s)=>[.string ⟨s.toArray⟩]
 | .agg ds=>dcellsL ds
 | _=>[]
where dcellsL : List (DataW H) → List Value
 | []=>[]
 | d :: r=>dcells d ++ dcellsL r
theorem dcellsL_map {γ : Type} (f : γ → DataW H) : ∀ {xs : List γ},dcells.dcellsL (xs.map f) = (xs.map fun x=>dcells (f x)).flatten
 | []=>rfl
 | x :: xs=>by simp only [List.map_cons,dcells.dcellsL,List.flatten_cons,dcellsL_map f]
def okF (P : Program) (ts : List TypeId) (t : TypeId) : Bool:=match P.underlying t with
 | some (.int _) | some .bool | some .string=>Nat.beq (P.cellsOf t) 1
 | some (.array n e)=>Nat.beq (P.cellsOf t) (n * P.cellsOf e) && ts.contains e
 | some (.struct fs)=>(match contig P fs.toList 0 with
  | some n=>Nat.beq n (P.cellsOf t)
  | none=>false) && fs.toList.all (fun f=>ts.contains f.type)
 | _=>false
theorem trod_cells {ts : List TypeId} (hts : ts.all (okF P ts) = true) : ∀ {fuel : Nat} {t : TypeId} {cs : List Value} {x : DataW H × List MemPlace},t ∈ ts → DataW.trod en P w base spare held fuel t cs = some x → cs = dcells x.1 ∧ cs.length = P.cellsOf t:=by
 intro fuel
 induction fuel with
 | zero=>intro t cs x _ h; simp [DataW.trod] at h
 | succ fuel ih =>
  intro t cs x ht h
  have hok:=List.all_eq_true.1 hts t ht
  unfold okF at hok
  split at hok
  ·rename_i k hu
   obtain ⟨n,rfl,rfl,hw⟩:=DataW.trod_int hu h
   exact ⟨rfl,(Nat.eq_of_beq_eq_true hok).symm⟩
  ·rename_i hu
   obtain ⟨b,rfl,rfl⟩:=DataW.trod_bool hu h
   exact ⟨rfl,(Nat.eq_of_beq_eq_true hok).symm⟩
  ·rename_i hu
   obtain ⟨s,rfl,rfl,hs⟩:=DataW.trod_string hu h
   exact ⟨by simp [dcells],(Nat.eq_of_beq_eq_true hok).symm⟩
  ·rename_i n e hu
   simp only [Bool.and_eq_true] at hok
   obtain ⟨h1,h2⟩:=hok
   have he : e ∈ ts:=by simpa using h2
   have h1':=Nat.eq_of_beq_eq_true h1
   obtain ⟨xs,m,hn,rfl,hlen,hxl,hel⟩:=DataW.trod_array hu h
   obtain rfl : fuel = m:=by omega
   refine ⟨?_,hlen⟩
   have key : ∀ j,j ≤ n → cs.take (j * P.cellsOf e) = ((xs.take j).map fun y=>dcells y.1).flatten:=by
    intro j
    induction j with
    | zero=>intro _; simp
    | succ j ihj =>
     intro hj
     have hi:=hel j (by omega)
     have hlt : j < xs.length:=by omega
     rw [List.getElem?_eq_getElem hlt] at hi
     obtain ⟨g1,g2⟩:=ih he hi
     rw [← List.take_append_getElem hlt,List.map_append,List.flatten_append,← ihj (by omega)]
     simp only [List.map_cons,List.map_nil,List.flatten_cons,List.flatten_nil,List.append_nil]
     rw [← g1,Nat.add_mul,Nat.one_mul,List.take_add]
   have:=key n (Nat.le_refl _)
   rw [List.take_of_length_le (by omega),List.take_of_length_le (by omega)] at this
   rw [this]
   show _ = dcells.dcellsL (xs.map (·.1))
   rw [dcellsL_map]
  ·rename_i fs hu
   simp only [Bool.and_eq_true] at hok
   obtain ⟨h1,h2⟩:=hok
   split at h1
   ·rename_i tot hcg
    obtain rfl:=Nat.eq_of_beq_eq_true h1
    obtain ⟨xs,n,hn,rfl,hlen,hxl,hf⟩:=DataW.trod_struct hu h
    obtain rfl : fuel = n:=by omega
    refine ⟨?_,hlen⟩
    have key : ∀ (gs : List Field) (o i : Nat),(∀ j f,gs[j]? = some f → fs[i + j]? = some f ∧ f.type ∈ ts) → i + gs.length = xs.length → contig P gs o = some (P.cellsOf t) → cs.drop o = ((xs.drop i).map fun y=>dcells y.1).flatten:=by
     intro gs
     induction gs with
     | nil =>
      intro o i _ hlen2 hc
      simp only [contig,Option.some.injEq] at hc
      simp only [List.length_nil,Nat.add_zero] at hlen2
      rw [hc,← hlen,List.drop_length,hlen2,List.drop_length]
      rfl
     | cons f gs ihg =>
      intro o i hall hlen2 hc
      simp only [contig] at hc
      split at hc
      ·rename_i ho
       have ho':=Nat.eq_of_beq_eq_true ho
       obtain ⟨hf0,hft⟩:=hall 0 f rfl
       have hi:=hf i f (by simpa using hf0)
       have hlt : i < xs.length:=by simp only [List.length_cons] at hlen2; omega
       rw [List.getElem?_eq_getElem hlt,ho'] at hi
       obtain ⟨g1,g2⟩:=ih hft hi
       have hr:=ihg (o + P.cellsOf f.type) (i + 1) (fun j f' hj=>by
        have:=hall (j + 1) f' (by simpa using hj)
        rwa [show i + (j + 1) = i + 1 + j by omega] at this) (by simp only [List.length_cons] at hlen2; omega) hc
       rw [List.drop_eq_getElem_cons hlt,List.map_cons,List.flatten_cons,← g1,← hr,← List.drop_drop,List.take_append_drop]
      ·cases hc
    have:=key fs.toList 0 0 (fun j f hj=>⟨by simpa using hj,by
     have:=List.all_eq_true.1 h2 f (List.mem_of_getElem? hj)
     simpa using this⟩) (by simp [hxl]) hcg
    simp only [List.drop_zero] at this
    rw [this]
    show _ = dcells.dcellsL (xs.map (·.1))
    rw [dcellsL_map]
   ·cases h1
  ·cases hok
theorem flat_get {f : α → List Value} (hs : ∀ x,(f x).length = size) : ∀ {l : List α} {i j : Nat} {x : α} {u : Value},l[i]? = some x → (f x)[j]? = some u → ((l.map f).flatten)[i * size + j]? = some u
 | [],i,j,x,u,h,_=>by simp at h
 | y :: ys,0,j,x,u,h,hu=>by
  have : y = x:=by simpa using h
  subst this
  have hlt : j < (f y).length:=by
   rcases Nat.lt_or_ge j (f y).length with h | h
   ·exact h
   ·rw [List.getElem?_eq_none h] at hu; cases hu
  simp only [List.map_cons,List.flatten_cons,Nat.zero_mul,Nat.zero_add]
  rw [List.getElem?_append_left hlt]
  exact hu
 | y :: ys,i + 1,j,x,u,h,hu=>by
  have ih:=flat_get hs (l:=ys) (i:=i) (j:=j) (by simpa using h) hu
  simp only [List.map_cons,List.flatten_cons]
  rw [List.getElem?_append_right (by rw [hs,Nat.add_mul]; omega),hs]
  rw [show (i + 1) * size + j - size = i * size + j by rw [Nat.add_mul]; omega]
  exact ih
theorem tab_of {g : Nat} {f : α → List Value} {l : List α} {cs : Array Value} (hs : ∀ x,(f x).length = size) (hc : cs.toList = (l.map f).flatten) (hv : ∀ j,w.cell? ⟨g,j,none⟩ = cs[j]?) (h0 : Nat.ble 1 ((l.map f).flatten).length = true) : Tab g size f l w:=
 have h1 : 0 < cs.size:=by
  have h1:=Nat.le_of_ble_eq_true h0
  rw [← hc,Array.length_toList] at h1
  omega
 ⟨World.block_lt_of_cell? w ⟨g,0,none⟩ ((hv 0).trans (Array.getElem?_eq_getElem h1)),fun i x hx j v hj=>by
  rw [hv]
  have:=flat_get hs hx hj
  rw [← hc] at this
  simpa using this⟩
theorem vars_two {sp : Nat → Bool} {n1 n2 : String} {gs : List (DataW H)} {ps : List MemPlace} (h : DataW.TrodVars en P w sp [n1,n2] gs ps) : ∃ g1 g2,gs = [g1,g2]:=by
 match gs,h with
 | [],h=>exact h.elim
 | [g1],h=>obtain ⟨_,_,_,_,_,_,_,_,_,_,h,_⟩:=h; exact h.elim
 | [g1,g2],_=>exact ⟨g1,g2,rfl⟩
 | g1 :: g2 :: g3 :: r,h=>obtain ⟨_,_,_,_,_,_,_,_,_,_,⟨_,_,_,_,_,_,_,_,_,_,h,_⟩,_⟩:=h; exact h.elim
theorem laid_cells {ts : List TypeId} (hts : ts.all (okF P ts) = true) {n : String} {d : DataW Unit} {r : List (String × DataW Unit)} {ps : List MemPlace} {g t : Nat} (hg : P.globalNamed n = some g) (ht : (P.globals[g]?).map (·.type) = some t) (hm : t ∈ ts)
  (h : DataW.LaidVars P w ((n,d) :: r) ps) : ∃ cs : Array Value,cs.toList = dcells d ∧ (∀ j,w.cell? ⟨g,j,none⟩ = cs[j]?) ∧ ∃ qs,DataW.LaidVars P w r qs:=by
 obtain ⟨g',t',cs,fuel,p,q,h1,h2,h3,h4,h5,_⟩:=h
 obtain rfl:=Option.some.inj (hg.symm.trans h1)
 obtain rfl:=Option.some.inj (ht.symm.trans h2)
 exact ⟨cs,(trod_cells hts hm h4).1,fun j=>World.var?_cell hg h3 j,q,h5⟩
end Go.Proofs.YtmpplggjpmmhlaaGreatDoor.X
