/- Printed by a program of mine: that the program's functions compute it. What a row says of its arguments, in the program logic's words: data types in general. What a package-level variable's laid datum says of its cells. -/
import Derived.Test.YtmpplggjpmmhlaaGreatDoorK6
import Derived.RowKit
import Derived.ChangeSlices
import Derived.ChangeArms
import Derived.WideShapes
import Derived.OpenShut
import Derived.LaidMore
import Derived.LaidLaws
import GoSem.ClaimJoined
set_option linter.unusedVariables false
set_option linter.unusedSimpArgs false
set_option maxRecDepth 100000
set_option maxHeartbeats 4000000
namespace Go.Proofs.YtmpplggjpmmhlaaGreatDoor.N
open Go.Proofs.YtmpplggjpmmhlaaGreatDoor.X
theorem f0u {a0 : Int} {a1 : Int} {a2 : Int} {w : World} {r : Instr} (h : f13 a0 a1 a2 = some r) : Calls Tryz.prog 74 #[.int .i64 a0,.int .i64 a1,.int .i64 a2] w (Ret No w (fun s : Unit=>.agg #[.int .i64 r.Op,.int .i64 r.Rd,.int .i64 r.Rs,.int .i64 r.Rt,.int .i64 r.Imm]) (fun s=>[])):=by
 unfold f13 at h
 refine enter Tryz.func74 z z ?_
 have hS:=Sep.start w
 refine .g (.c (.alloc T.t32 hS ?_ z z z))
 intro g1 W hS
 refine .nil (.g (.q z (.q z (.q z (.s (bs T.s32 z z) z (.c (.st T.t32 hS z z z ?_ z z z z z)))))))
 intro W hS
 cases h
 exact .nil (.ret (fin_ret (vs:=[_]) () (rc hS T.t32 z rn z z) z (hS.to [] z)))
theorem f2a {a0 : Int} {a1 : Int} {a2 : Int} {a3 : Int} {a4 : Int} {w : World} {r : Instr} (h : f2b a0 a1 a2 a3 a4 = some r) : Calls Tryz.prog 75 #[.int .i64 a0,.int .i64 a1,.int .i64 a2,.int .i64 a3,.int .i64 a4] w (Ret No w (fun s : Unit=>.agg #[.int .i64 r.Op,.int .i64 r.Rd,.int .i64 r.Rs,.int .i64 r.Rt,.int .i64 r.Imm]) (fun s=>[])):=by
 unfold f2b at h
 refine enter Tryz.func75 z z ?_
 have hS:=Sep.start w
 refine .g (.c (.alloc T.t32 hS ?_ z z z))
 intro g1 W hS
 refine .nil (.g (.q z (.q z (.q z (.q z (.q z (.q z (.q z (.s (bs T.s32 z z) z (.c (.st T.t32 hS z z z ?_ z z z z z)))))))))))
 intro W hS
 cases h
 exact .nil (.ret (fin_ret (vs:=[_]) () (rc hS T.t32 z rn z z) z (hS.to [] z)))
theorem faz {a0 : Int} {a1 : Int} {w : World} {r : Instr} (h : f9u a0 a1 = some r) : Calls Tryz.prog 76 #[.int .i64 a0,.int .i64 a1] w (Ret No w (fun s : Unit=>.agg #[.int .i64 r.Op,.int .i64 r.Rd,.int .i64 r.Rs,.int .i64 r.Rt,.int .i64 r.Imm]) (fun s=>[])):=by
 unfold f9u at h
 refine enter Tryz.func76 z z ?_
 have hS:=Sep.start w
 refine .g (.c (.alloc T.t32 hS ?_ z z z))
 intro g1 W hS
 refine .nil (.g (.q z (.q z (.q z (.q z (.s (bs T.s32 z z) z (.c (.st T.t32 hS z z z ?_ z z z z z))))))))
 intro W hS
 cases h
 exact .nil (.ret (fin_ret (vs:=[_]) () (rc hS T.t32 z rn z z) z (hS.to [] z)))
theorem f1f {a0 : Int} {a1 : Int} {a2 : Int} {a3 : Int} {w : World} {r : Instr} (h : f1r a0 a1 a2 a3 = some r) : Calls Tryz.prog 77 #[.int .i64 a0,.int .i64 a1,.int .i64 a2,.int .i64 a3] w (Ret No w (fun s : Unit=>.agg #[.int .i64 r.Op,.int .i64 r.Rd,.int .i64 r.Rs,.int .i64 r.Rt,.int .i64 r.Imm]) (fun s=>[])):=by
 unfold f1r at h
 refine enter Tryz.func77 z z ?_
 have hS:=Sep.start w
 refine .g (.c (.alloc T.t32 hS ?_ z z z))
 intro g1 W hS
 refine .nil (.g (.q z (.q z (.q z (.q z (.s (bs T.s32 z z) z (.c (.st T.t32 hS z z z ?_ z z z z z))))))))
 intro W hS
 cases h
 exact .nil (.ret (fin_ret (vs:=[_]) () (rc hS T.t32 z rn z z) z (hS.to [] z)))
theorem f1m {a0 : Int} {a1 : Int} {a2 : Int} {w : World} {r : Instr} (h : f2m a0 a1 a2 = some r) : Calls Tryz.prog 78 #[.int .i64 a0,.int .i64 a1,.int .i64 a2] w (Ret No w (fun s : Unit=>.agg #[.int .i64 r.Op,.int .i64 r.Rd,.int .i64 r.Rs,.int .i64 r.Rt,.int .i64 r.Imm]) (fun s=>[])):=by
 unfold f2m at h
 refine enter Tryz.func78 z z ?_
 have hS:=Sep.start w
 refine .g (.c (.alloc T.t32 hS ?_ z z z))
 intro g1 W hS
 refine .nil (.g (.q z (.q z (.q z (.s (bs T.s32 z z) z (.c (.st T.t32 hS z z z ?_ z z z z z)))))))
 intro W hS
 cases h
 exact .nil (.ret (fin_ret (vs:=[_]) () (rc hS T.t32 z rn z z) z (hS.to [] z)))
theorem f2d {a0 : Int} {a1 : Int} {a2 : Int} {w : World} {r : Instr} (h : f3t a0 a1 a2 = some r) : Calls Tryz.prog 79 #[.int .i64 a0,.int .i64 a1,.int .i64 a2] w (Ret No w (fun s : Unit=>.agg #[.int .i64 r.Op,.int .i64 r.Rd,.int .i64 r.Rs,.int .i64 r.Rt,.int .i64 r.Imm]) (fun s=>[])):=by
 unfold f3t at h
 refine enter Tryz.func79 z z ?_
 have hS:=Sep.start w
 refine .g (.c (.alloc T.t32 hS ?_ z z z))
 intro g1 W hS
 refine .nil (.g (.q z (.q z (.q z (.s (bs T.s32 z z) z (.c (.st T.t32 hS z z z ?_ z z z z z)))))))
 intro W hS
 cases h
 exact .nil (.ret (fin_ret (vs:=[_]) () (rc hS T.t32 z rn z z) z (hS.to [] z)))
theorem f9c {a0 : Int} {w : World} {r : Instr} (h : f8z a0 = some r) : Calls Tryz.prog 80 #[.int .i64 a0] w (Ret No w (fun s : Unit=>.agg #[.int .i64 r.Op,.int .i64 r.Rd,.int .i64 r.Rs,.int .i64 r.Rt,.int .i64 r.Imm]) (fun s=>[])):=by
 unfold f8z at h
 refine enter Tryz.func80 z z ?_
 have hS:=Sep.start w
 refine .g (.c (.alloc T.t32 hS ?_ z z z))
 intro g1 W hS
 refine .nil (.g (.q z (.s (bs T.s32 z z) z (.c (.st T.t32 hS z z z ?_ z z z z z)))))
 intro W hS
 cases h
 exact .nil (.ret (fin_ret (vs:=[_]) () (rc hS T.t32 z rn z z) z (hS.to [] z)))
theorem f9l {w : World} {r : (List Instr)} (h : f2y = some r) (hG : Gl w) : Calls Tryz.prog 51 #[] w (Ret No w (fun s : Hd=>(sv s)) (fun s=>[rowV (sv s) 32 5 dInstr r])):=by
 unfold f2y at h
 refine enter Tryz.func51 z z ?_
 have hS:=Sep.start w
 refine .g (.qn z (.g (.s (bs T.s32 z z) z (.c (.alloc T.t32 hS ?_ z z z)))))
 intro g1 W hS
 refine .c (.st T.t32 hS z z z ?_ z z z z z)
 intro W hS
 refine .nil (.seq (.rk 57 hS [0] T.mix ?_))
 intro W hS
 have hT:=hS.to [0] z
 refine .ts 44 z (fun W hT=>ld T.t32 hT z z z z z) hT z (by kernel_rfl) ?_
 have ⟨y1,hy1,h⟩:=bnd h
 refine .by1 0 z (.call0 hS Tryz.func74 (f0u hy1) z z ?_ z z z z) (by kernel_rfl)
 intro W hS
 have hT:=hS.to [0] z
 refine ⟨fun _=>hT,?_⟩
 have ⟨y2,hy2,h⟩:=bnd h
 refine .by1 1 z (.call0 hS Tryz.func75 (f2a hy2) z z ?_ z z z z) (by kernel_rfl)
 intro W hS
 have hT:=hS.to [0] z
 refine ⟨fun _=>hT,?_⟩
 have ⟨y3,hy3,h⟩:=bnd h
 refine .by1 2 z (.call0 hS Tryz.func74 (f0u hy3) z z ?_ z z z z) (by kernel_rfl)
 intro W hS
 have hT:=hS.to [0] z
 refine ⟨fun _=>hT,?_⟩
 have ⟨y4,hy4,h⟩:=bnd h
 refine .by1 3 z (.call0 hS Tryz.func75 (f2a hy4) z z ?_ z z z z) (by kernel_rfl)
 intro W hS
 have hT:=hS.to [0] z
 refine ⟨fun _=>hT,?_⟩
 have ⟨y5,hy5,h⟩:=bnd h
 refine .by1 4 z (.call0 hS Tryz.func74 (f0u hy5) z z ?_ z z z z) (by kernel_rfl)
 intro W hS
 have hT:=hS.to [0] z
 refine ⟨fun _=>hT,?_⟩
 have ⟨y6,hy6,h⟩:=bnd h
 refine .by1 5 z (.call0 hS Tryz.func75 (f2a hy6) z z ?_ z z z z) (by kernel_rfl)
 intro W hS
 have hT:=hS.to [0] z
 refine ⟨fun _=>hT,?_⟩
 have ⟨y7,hy7,h⟩:=bnd h
 refine .by1 6 z (.call0 hS Tryz.func74 (f0u hy7) z z ?_ z z z z) (by kernel_rfl)
 intro W hS
 have hT:=hS.to [0] z
 refine ⟨fun _=>hT,?_⟩
 have ⟨y8,hy8,h⟩:=bnd h
 refine .by1 7 z (.call0 hS Tryz.func75 (f2a hy8) z z ?_ z z z z) (by kernel_rfl)
 intro W hS
 have hT:=hS.to [0] z
 refine ⟨fun _=>hT,?_⟩
 have ⟨y9,hy9,h⟩:=bnd h
 refine .by1 8 z (.call0 hS Tryz.func76 (faz hy9) z z ?_ z z z z) (by kernel_rfl)
 intro W hS
 have hT:=hS.to [0] z
 refine ⟨fun _=>hT,?_⟩
 have ⟨y10,hy10,h⟩:=bnd h
 refine .by1 9 z (.call0 hS Tryz.func74 (f0u hy10) z z ?_ z z z z) (by kernel_rfl)
 intro W hS
 have hT:=hS.to [0] z
 refine ⟨fun _=>hT,?_⟩
 have ⟨y11,hy11,h⟩:=bnd h
 refine .by1 10 z (.call0 hS Tryz.func77 (f1f hy11) z z ?_ z z z z) (by kernel_rfl)
 intro W hS
 have hT:=hS.to [0] z
 refine ⟨fun _=>hT,?_⟩
 have ⟨y12,hy12,h⟩:=bnd h
 refine .by1 11 z (.call0 hS Tryz.func77 (f1f hy12) z z ?_ z z z z) (by kernel_rfl)
 intro W hS
 have hT:=hS.to [0] z
 refine ⟨fun _=>hT,?_⟩
 have ⟨y13,hy13,h⟩:=bnd h
 refine .by1 12 z (.call0 hS Tryz.func78 (f1m hy13) z z ?_ z z z z) (by kernel_rfl)
 intro W hS
 have hT:=hS.to [0] z
 refine ⟨fun _=>hT,?_⟩
 have ⟨y14,hy14,h⟩:=bnd h
 refine .by1 13 z (.call0 hS Tryz.func78 (f1m hy14) z z ?_ z z z z) (by kernel_rfl)
 intro W hS
 have hT:=hS.to [0] z
 refine ⟨fun _=>hT,?_⟩
 have ⟨y15,hy15,h⟩:=bnd h
 refine .by1 14 z (.call0 hS Tryz.func75 (f2a hy15) z z ?_ z z z z) (by kernel_rfl)
 intro W hS
 have hT:=hS.to [0] z
 refine ⟨fun _=>hT,?_⟩
 have ⟨y16,hy16,h⟩:=bnd h
 refine .by1 15 z (.call0 hS Tryz.func78 (f1m hy16) z z ?_ z z z z) (by kernel_rfl)
 intro W hS
 have hT:=hS.to [0] z
 refine ⟨fun _=>hT,?_⟩
 have ⟨y17,hy17,h⟩:=bnd h
 refine .by1 16 z (.call0 hS Tryz.func77 (f1f hy17) z z ?_ z z z z) (by kernel_rfl)
 intro W hS
 have hT:=hS.to [0] z
 refine ⟨fun _=>hT,?_⟩
 have ⟨y18,hy18,h⟩:=bnd h
 refine .by1 17 z (.call0 hS Tryz.func77 (f1f hy18) z z ?_ z z z z) (by kernel_rfl)
 intro W hS
 have hT:=hS.to [0] z
 refine ⟨fun _=>hT,?_⟩
 have ⟨y19,hy19,h⟩:=bnd h
 refine .by1 18 z (.call0 hS Tryz.func74 (f0u hy19) z z ?_ z z z z) (by kernel_rfl)
 intro W hS
 have hT:=hS.to [0] z
 refine ⟨fun _=>hT,?_⟩
 have ⟨y20,hy20,h⟩:=bnd h
 refine .by1 19 z (.call0 hS Tryz.func77 (f1f hy20) z z ?_ z z z z) (by kernel_rfl)
 intro W hS
 have hT:=hS.to [0] z
 refine ⟨fun _=>hT,?_⟩
 have ⟨y21,hy21,h⟩:=bnd h
 refine .by1 20 z (.call0 hS Tryz.func77 (f1f hy21) z z ?_ z z z z) (by kernel_rfl)
 intro W hS
 have hT:=hS.to [0] z
 refine ⟨fun _=>hT,?_⟩
 have ⟨y22,hy22,h⟩:=bnd h
 refine .by1 21 z (.call0 hS Tryz.func79 (f2d hy22) z z ?_ z z z z) (by kernel_rfl)
 intro W hS
 have hT:=hS.to [0] z
 refine ⟨fun _=>hT,?_⟩
 have ⟨y23,hy23,h⟩:=bnd h
 refine .by1 22 z (.call0 hS Tryz.func74 (f0u hy23) z z ?_ z z z z) (by kernel_rfl)
 intro W hS
 have hT:=hS.to [0] z
 refine ⟨fun _=>hT,?_⟩
 have ⟨y24,hy24,h⟩:=bnd h
 refine .by1 23 z (.call0 hS Tryz.func79 (f2d hy24) z z ?_ z z z z) (by kernel_rfl)
 intro W hS
 have hT:=hS.to [0] z
 refine ⟨fun _=>hT,?_⟩
 have ⟨y25,hy25,h⟩:=bnd h
 refine .by1 24 z (.call0 hS Tryz.func79 (f2d hy25) z z ?_ z z z z) (by kernel_rfl)
 intro W hS
 have hT:=hS.to [0] z
 refine ⟨fun _=>hT,?_⟩
 have ⟨y26,hy26,h⟩:=bnd h
 refine .by1 25 z (.call0 hS Tryz.func80 (f9c hy26) z z ?_ z z z z) (by kernel_rfl)
 intro W hS
 have hT:=hS.to [0] z
 refine ⟨fun _=>hT,?_⟩
 have ⟨y27,hy27,h⟩:=bnd h
 refine .by1 26 z (.call0 hS Tryz.func74 (f0u hy27) z z ?_ z z z z) (by kernel_rfl)
 intro W hS
 have hT:=hS.to [0] z
 refine ⟨fun _=>hT,?_⟩
 have ⟨y28,hy28,h⟩:=bnd h
 refine .by1 27 z (.call0 hS Tryz.func77 (f1f hy28) z z ?_ z z z z) (by kernel_rfl)
 intro W hS
 have hT:=hS.to [0] z
 refine ⟨fun _=>hT,?_⟩
 have ⟨y29,hy29,h⟩:=bnd h
 refine .by1 28 z (.call0 hS Tryz.func77 (f1f hy29) z z ?_ z z z z) (by kernel_rfl)
 intro W hS
 have hT:=hS.to [0] z
 refine ⟨fun _=>hT,?_⟩
 have ⟨y30,hy30,h⟩:=bnd h
 refine .by1 29 z (.call0 hS Tryz.func78 (f1m hy30) z z ?_ z z z z) (by kernel_rfl)
 intro W hS
 have hT:=hS.to [0] z
 refine ⟨fun _=>hT,?_⟩
 have ⟨y31,hy31,h⟩:=bnd h
 refine .by1 30 z (.call0 hS Tryz.func75 (f2a hy31) z z ?_ z z z z) (by kernel_rfl)
 intro W hS
 have hT:=hS.to [0] z
 refine ⟨fun _=>hT,?_⟩
 have ⟨y32,hy32,h⟩:=bnd h
 refine .by1 31 z (.call0 hS Tryz.func78 (f1m hy32) z z ?_ z z z z) (by kernel_rfl)
 intro W hS
 have hT:=hS.to [0] z
 refine ⟨fun _=>hT,?_⟩
 have ⟨y33,hy33,h⟩:=bnd h
 refine .by1 32 z (.call0 hS Tryz.func78 (f1m hy33) z z ?_ z z z z) (by kernel_rfl)
 intro W hS
 have hT:=hS.to [0] z
 refine ⟨fun _=>hT,?_⟩
 have ⟨y34,hy34,h⟩:=bnd h
 refine .by1 33 z (.call0 hS Tryz.func74 (f0u hy34) z z ?_ z z z z) (by kernel_rfl)
 intro W hS
 have hT:=hS.to [0] z
 refine ⟨fun _=>hT,?_⟩
 have ⟨y35,hy35,h⟩:=bnd h
 refine .by1 34 z (.call0 hS Tryz.func77 (f1f hy35) z z ?_ z z z z) (by kernel_rfl)
 intro W hS
 have hT:=hS.to [0] z
 refine ⟨fun _=>hT,?_⟩
 have ⟨y36,hy36,h⟩:=bnd h
 refine .by1 35 z (.call0 hS Tryz.func77 (f1f hy36) z z ?_ z z z z) (by kernel_rfl)
 intro W hS
 have hT:=hS.to [0] z
 refine ⟨fun _=>hT,?_⟩
 have ⟨y37,hy37,h⟩:=bnd h
 refine .by1 36 z (.call0 hS Tryz.func78 (f1m hy37) z z ?_ z z z z) (by kernel_rfl)
 intro W hS
 have hT:=hS.to [0] z
 refine ⟨fun _=>hT,?_⟩
 have ⟨y38,hy38,h⟩:=bnd h
 refine .by1 37 z (.call0 hS Tryz.func74 (f0u hy38) z z ?_ z z z z) (by kernel_rfl)
 intro W hS
 have hT:=hS.to [0] z
 refine ⟨fun _=>hT,?_⟩
 have ⟨y39,hy39,h⟩:=bnd h
 refine .by1 38 z (.call0 hS Tryz.func77 (f1f hy39) z z ?_ z z z z) (by kernel_rfl)
 intro W hS
 have hT:=hS.to [0] z
 refine ⟨fun _=>hT,?_⟩
 have ⟨y40,hy40,h⟩:=bnd h
 refine .by1 39 z (.call0 hS Tryz.func79 (f2d hy40) z z ?_ z z z z) (by kernel_rfl)
 intro W hS
 have hT:=hS.to [0] z
 refine ⟨fun _=>hT,?_⟩
 have ⟨y41,hy41,h⟩:=bnd h
 refine .by1 40 z (.call0 hS Tryz.func74 (f0u hy41) z z ?_ z z z z) (by kernel_rfl)
 intro W hS
 have hT:=hS.to [0] z
 refine ⟨fun _=>hT,?_⟩
 have ⟨y42,hy42,h⟩:=bnd h
 refine .by1 41 z (.call0 hS Tryz.func79 (f2d hy42) z z ?_ z z z z) (by kernel_rfl)
 intro W hS
 have hT:=hS.to [0] z
 refine ⟨fun _=>hT,?_⟩
 have ⟨y43,hy43,h⟩:=bnd h
 refine .by1 42 z (.call0 hS Tryz.func79 (f2d hy43) z z ?_ z z z z) (by kernel_rfl)
 intro W hS
 have hT:=hS.to [0] z
 refine ⟨fun _=>hT,?_⟩
 have ⟨y44,hy44,h⟩:=bnd h
 refine .by1 43 z (.call0 hS Tryz.func80 (f9c hy44) z z ?_ z z z z) (by kernel_rfl)
 intro W hS
 have hT:=hS.to [0] z
 refine ⟨fun _=>hT,?_⟩
 have ⟨y45,hy45,h⟩:=bnd h
 refine .by1 45 z (.call0 hS Tryz.func79 (f2d hy45) z z ?_ z z z z) (by kernel_rfl)
 intro W hS
 have hT:=hS.to [0] z
 refine ⟨fun _=>hT,?_⟩
 have ⟨y46,hy46,h⟩:=bnd h
 refine .by1 46 z (.call0 hS Tryz.func80 (f9c hy46) z z ?_ z z z z) (by kernel_rfl)
 intro W hS
 have hT:=hS.to [0] z
 refine ⟨fun _=>hT,?_⟩
 have ⟨y47,hy47,h⟩:=bnd h
 refine .by1 47 z (.call0 hS Tryz.func74 (f0u hy47) z z ?_ z z z z) (by kernel_rfl)
 intro W hS
 have hT:=hS.to [0] z
 refine ⟨fun _=>hT,?_⟩
 have ⟨y48,hy48,h⟩:=bnd h
 refine .by1 48 z (.call0 hS Tryz.func79 (f2d hy48) z z ?_ z z z z) (by kernel_rfl)
 intro W hS
 have hT:=hS.to [0] z
 refine ⟨fun _=>hT,?_⟩
 have ⟨y49,hy49,h⟩:=bnd h
 refine .by1 49 z (.call0 hS Tryz.func76 (faz hy49) z z ?_ z z z z) (by kernel_rfl)
 intro W hS
 have hT:=hS.to [0] z
 refine ⟨fun _=>hT,?_⟩
 have ⟨y50,hy50,h⟩:=bnd h
 refine .by1 50 z (.call0 hS Tryz.func74 (f0u hy50) z z ?_ z z z z) (by kernel_rfl)
 intro W hS
 have hT:=hS.to [0] z
 refine ⟨fun _=>hT,?_⟩
 have ⟨y51,hy51,h⟩:=bnd h
 refine .by1 51 z (.call0 hS Tryz.func78 (f1m hy51) z z ?_ z z z z) (by kernel_rfl)
 intro W hS
 have hT:=hS.to [0] z
 refine ⟨fun _=>hT,?_⟩
 have ⟨y52,hy52,h⟩:=bnd h
 refine .by1 52 z (.call0 hS Tryz.func74 (f0u hy52) z z ?_ z z z z) (by kernel_rfl)
 intro W hS
 have hT:=hS.to [0] z
 refine ⟨fun _=>hT,?_⟩
 have ⟨y53,hy53,h⟩:=bnd h
 refine .by1 53 z (.call0 hS Tryz.func79 (f2d hy53) z z ?_ z z z z) (by kernel_rfl)
 intro W hS
 have hT:=hS.to [0] z
 refine ⟨fun _=>hT,?_⟩
 have ⟨y54,hy54,h⟩:=bnd h
 refine .by1 54 z (.call0 hS Tryz.func79 (f2d hy54) z z ?_ z z z z) (by kernel_rfl)
 intro W hS
 have hT:=hS.to [0] z
 refine ⟨fun _=>hT,.by1 55 z (.liv [y1,y2,y3,y4,y5,y6,y7,y8,y9,y10,y11,y12,y13,y14,y15,y16,y17,y18,y19,y20,y21,y22,y23,y24,y25,y26,y27,y28,y29,y30,y31,y32,y33,y34,y35,y36,y37,y38,y39,y40,y41,y42,y43,y44,(Instr.mk 21 0 0 0 0),y45,y46,y47,y48,y49,y50,y51,y52,y53,y54] dInstr T.u23 T.t32 hS z z z z ?_ z (fun _=>z) z z z z) (by kernel_rfl)⟩
 intro v1 W hS
 have hT:=hS.to [1] z
 refine ⟨fun _=>hT,.tp 56 z z hT (by kernel_rfl) (.done (.seq (.g (.s (lg T.t114 (hG.at hS (fun _ _ h=>h)).2.1 z z z z z) z (.qn z (.block ?_))))) (by kernel_rfl))⟩
 have ⟨y55,hy55,h⟩:=bnd h
 refine .via (.iter (fun s1 E' W'=>∃ (v4 : Hd),SubL E' [(1,.pointer (some ⟨g1,0,none⟩)),(2,(sv v4)),(64,.agg (savedRegs.map (Value.int .i64)).toArray),(65,.int .i64 s1.2)] ∧ Sep No w W' [.box g1 32 [.int .i64 21,.int .i64 0,.int .i64 0,.int .i64 0,.int .i64 0],rowV (sv v4) 32 5 dInstr s1.1]) (fun y56 x E' W'=>x = .exit 0 ∧ ∃ (v5 : Hd),SubL E' [(1,.pointer (some ⟨g1,0,none⟩)),(2,(sv v5))] ∧ Sep No w W' [.box g1 32 [.int .i64 21,.int .i64 0,.int .i64 0,.int .i64 0,.int .i64 0],rowV (sv v5) 32 5 dInstr y56]) hy55 ⟨v1,sb z,hS.to [1,0] z⟩ ?_) ?_
 ·intro s1 y57 E W h hI
  obtain ⟨v3,hE,hS⟩:=hI
  refine CW.sub hE ?_
  unfold f9i at h
  refine .g (.qn z (.seq ?_))
  refine .cs z h ?_ ?_ <;> intro h
  ·refine .skip (.seq (.block (.g (.q z ?_))))
   have ⟨x1,hx1,h⟩:=bnd h
   refine .s (iv (f:=Value.int .i64) hx1 T.u114 T.t3 z z z z) z (.q z (.qn z (.region (.q z (.q z (.q z (.q z (.q z ?_))))))))
   have ⟨y58,hy58,h⟩:=bnd h
   refine .c (.call0 hS Tryz.func79 (f2d hy58) z z ?_ z z z z)
   intro W hS
   refine .c (.liv [y58] dInstr T.u23 T.t32 hS z z z z ?_ z (fun _=>z) z z z z)
   intro v6 W hS
   have ⟨r1,hr1,h⟩:=bnd h
   have hT0:=hS.p2
   refine .c (.apprv hr1 hT0 hT0.p1.lendv (fun _=>z) T.u23 T.t32 z z z ?_ z z z z z)
   intro v7 W hS
   refine .qn z (.region (.q z (.q z (.nil ?_))))
   cases h
   exact ⟨z,v7,sb z,hS.to [2,0] z⟩
  refine .exit ?_
  cases h
  exact ⟨by simp,z,v3,sb z,hS.to [0,0] z⟩
 intro x E W hJ
 obtain ⟨rfl,v8,hE,hS⟩:=hJ
 refine ⟨_,hE.sub,?_⟩
 refine .g (.q z ?_)
 have ⟨y59,hy59,h⟩:=bnd h
 refine .c (.call0 hS Tryz.func78 (f1m hy59) z z ?_ z z z z)
 intro W hS
 have ⟨y60,hy60,h⟩:=bnd h
 refine .c (.call0 hS Tryz.func78 (f1m hy60) z z ?_ z z z z)
 intro W hS
 have ⟨y61,hy61,h⟩:=bnd h
 refine .c (.call0 hS Tryz.func75 (f2a hy61) z z ?_ z z z z)
 intro W hS
 have ⟨y62,hy62,h⟩:=bnd h
 refine .c (.call0 hS Tryz.func74 (f0u hy62) z z ?_ z z z z)
 intro W hS
 have ⟨y63,hy63,h⟩:=bnd h
 refine .c (.call0 hS Tryz.func78 (f1m hy63) z z ?_ z z z z)
 intro W hS
 have ⟨y64,hy64,h⟩:=bnd h
 refine .c (.call0 hS Tryz.func75 (f2a hy64) z z ?_ z z z z)
 intro W hS
 have ⟨y65,hy65,h⟩:=bnd h
 refine .c (.call0 hS Tryz.func78 (f1m hy65) z z ?_ z z z z)
 intro W hS
 refine .c (.liv [y59,y60,y61,y62,y63,y64,y65] dInstr T.u23 T.t32 hS z z z z ?_ z (fun _=>z) z z z z)
 intro v9 W hS
 have ⟨r2,hr2,h⟩:=bnd h
 have hT0:=hS.p2
 refine .c (.apprv hr2 hT0 hT0.p1.lendv (fun _=>z) T.u23 T.t32 z z z ?_ z z z z z)
 intro v10 W hS
 refine .qn z (.seq (.g (.s (lg T.t114 (hG.at hS (fun _ _ h=>h)).2.1 z z z z z) z (.qn z (.block ?_)))))
 have ⟨y66,hy66,h⟩:=bnd h
 refine .via (.iter (fun s2 E' W'=>∃ (v13 : Hd),SubL E' [(1,.pointer (some ⟨g1,0,none⟩)),(2,(sv v13)),(88,.agg (savedRegs.map (Value.int .i64)).toArray),(89,.int .i64 s2.2)] ∧ Sep No w W' [rowV (sv v9) 32 5 dInstr [y59,y60,y61,y62,y63,y64,y65],.box g1 32 [.int .i64 21,.int .i64 0,.int .i64 0,.int .i64 0,.int .i64 0],rowV (sv v13) 32 5 dInstr s2.1]) (fun y67 x E' W'=>x = .exit 2 ∧ ∃ (v14 : Hd),SubL E' [(1,.pointer (some ⟨g1,0,none⟩)),(2,(sv v14))] ∧ Sep No w W' [rowV (sv v9) 32 5 dInstr [y59,y60,y61,y62,y63,y64,y65],.box g1 32 [.int .i64 21,.int .i64 0,.int .i64 0,.int .i64 0,.int .i64 0],rowV (sv v14) 32 5 dInstr y67]) hy66 ⟨v10,sb z,hS.to [1,1,0] z⟩ ?_) ?_
 ·intro s2 y68 E W h hI
  obtain ⟨v12,hE,hS⟩:=hI
  refine CW.sub hE ?_
  unfold f9k at h
  refine .g (.qn z (.seq ?_))
  refine .cs z h ?_ ?_ <;> intro h
  ·refine .skip (.seq (.block (.g (.q z ?_))))
   have ⟨x2,hx2,h⟩:=bnd h
   refine .s (iv (f:=Value.int .i64) hx2 T.u114 T.t3 z z z z) z (.q z (.qn z (.region (.q z (.q z (.q z (.q z (.q z ?_))))))))
   have ⟨y69,hy69,h⟩:=bnd h
   refine .c (.call0 hS Tryz.func78 (f1m hy69) z z ?_ z z z z)
   intro W hS
   refine .c (.liv [y69] dInstr T.u23 T.t32 hS z z z z ?_ z (fun _=>z) z z z z)
   intro v15 W hS
   have ⟨r3,hr3,h⟩:=bnd h
   have hT0:=hS.p3
   refine .c (.apprv hr3 hT0 hT0.p1.lendv (fun _=>z) T.u23 T.t32 z z z ?_ z z z z z)
   intro v16 W hS
   refine .qn z (.region (.q z (.q z (.nil ?_))))
   cases h
   exact ⟨z,v16,sb z,hS.to [2,2,0] z⟩
  refine .exit ?_
  cases h
  exact ⟨by simp,z,v12,sb z,hS.to [0,0,0] z⟩
 intro x E W hJ
 obtain ⟨rfl,v17,hE,hS⟩:=hJ
 refine ⟨_,hE.sub,?_⟩
 refine .seq (.rk 8 hS [0,0] T.mix ?_)
 intro W hS
 have hT:=hS.to [0,0] z
 refine .tp 0 z z hT (by kernel_rfl) (.ts 4 z (fun W hT=>ld T.t32 hT.p1 z z z z z) hT z (by kernel_rfl) ?_)
 have ⟨y70,hy70,h⟩:=bnd h
 refine .by1 1 z (.call0 hS Tryz.func78 (f1m hy70) z z ?_ z z z z) (by kernel_rfl)
 intro W hS
 have hT:=hS.to [0,0] z
 refine ⟨fun _=>hT,?_⟩
 have ⟨y71,hy71,h⟩:=bnd h
 refine .by1 2 z (.call0 hS Tryz.func80 (f9c hy71) z z ?_ z z z z) (by kernel_rfl)
 intro W hS
 have hT:=hS.to [0,0] z
 refine ⟨fun _=>hT,?_⟩
 have ⟨y72,hy72,h⟩:=bnd h
 refine .by1 3 z (.call0 hS Tryz.func74 (f0u hy72) z z ?_ z z z z) (by kernel_rfl)
 intro W hS
 have hT:=hS.to [0,0] z
 refine ⟨fun _=>hT,.by1 5 z (.liv [y70,y71,y72,(Instr.mk 21 0 0 0 0)] dInstr T.u23 T.t32 hS z z z z ?_ z (fun _=>z) z z z z) (by kernel_rfl)⟩
 intro v18 W hS
 have hT:=hS.to [1,1] z
 refine ⟨fun _=>hT,?_⟩
 have ⟨r4,hr4,h⟩:=bnd h
 have hT0:=hS.p3
 refine .by1 6 z (.apprv hr4 hT0 hT0.p1.lendv (fun _=>z) T.u23 T.t32 z z z ?_ z z z z z) (by kernel_rfl)
 intro v19 W hS
 have hT:=hS.to [2,2] z
 refine ⟨fun _=>hT,?_⟩
 obtain rfl:=Option.some.inj h
 exact .tp 7 z z hT (by kernel_rfl) (.done (.ret (fin_ret (vs:=[_]) v19 (rt z rn) z (hS.to [0] z))) (by kernel_rfl))
def fdb (w : World) (r : Machine × Int × Bool) : Env → World → Prop:=Fin Tryz.prog Tryz.f25 No w (fun s : Hd × Hd=>.tuple #[.agg #[(sv s.1),.int .i64 r.1.Pc,(sv s.2)],.int .i64 r.2.1,.bool r.2.2]) (fun s=>[rowV (sv s.1) 3 1 (D.int .i64) r.1.Regs,rowV (sv s.2) 3 1 (D.int .i64) r.1.Mem]) .ret
theorem fc7 {a0 : List Int} {a1 : List (List Instr)} {v_0 : Hd} {v_1 : Hd} {w : World} {r : Machine × Int × Bool} (h : f3h a0 a1 = some r) (q_0 : RV w (Old No w) (sv v_0) 3 1 (D.int .i64) a0) (q_1 : RV w (Old No w) (sv v_1) 23 1 (fun (l : List Instr)=>D.row 32 5 (l.map dInstr)) a1) (hG : Gl w) : Calls Tryz.prog 25 #[(sv v_0),(sv v_1)] w (Ret No w (fun s : Hd × Hd=>.tuple #[.agg #[(sv s.1),.int .i64 r.1.Pc,(sv s.2)],.int .i64 r.2.1,.bool r.2.2]) (fun s=>[rowV (sv s.1) 3 1 (D.int .i64) r.1.Regs,rowV (sv s.2) 3 1 (D.int .i64) r.1.Mem])):=by
 unfold f3h at h
 refine enter Tryz.func25 z z ?_
 have hS:=Sep.start w
 refine .g (.c (.alloc T.t27 hS ?_ z z z))
 intro g1 W hS
 refine .q z (.qn z (.seq (.g (.q z ?_))))
 have ⟨y1,hy1,h⟩:=bnd h
 refine .c (.call0 hS Tryz.func45 (fbq hy1 (hS.keep q_0)) z z ?_ z z z z)
 intro W hS
 refine .q z (.q z (.chunk 4 30 ((!y1) || (decide ((a1.length : Int) < 1))) hS ?_ ?_))
 ·refine .both (!y1) (fun hb=>?_) (fun hb=>?_)
  ·exact .xx hb z (.xx hb z (.xx hb z (.s (pkt hb z z z) z (.nil (ck 4 hS z (or_t hb) z z)))))
  have hg1:=hb
  exact .g hg1 (.q z (.g hg1 (.s (lenv (hS.keep q_1) T.u39 z z) z (.g hg1 (.q z (.s (pkf hg1 z z z) z (.nil (ck 4 hS z (or_f hg1) z z)))) z)) z)) z
 intro W hS
 refine .q z (.chunk 4 35 (((!y1) || (decide ((a1.length : Int) < 1))) || (decide ((a1.length : Int) > 3))) hS ?_ ?_)
 ·refine .both ((!y1) || (decide ((a1.length : Int) < 1))) (fun hb=>?_) (fun hb=>?_)
  ·exact .xx hb z (.xx hb z (.xx hb z (.s (pkt hb z z z) z (.nil (ck 4 hS z (or_t hb) z z)))))
  have hg2:=hb
  exact .g hg2 (.q z (.g hg2 (.s (lenv (hS.keep q_1) T.u39 z z) z (.g hg2 (.q z (.s (pkf hg2 z z z) z (.nil (ck 4 hS z (or_f hg2) z z)))) z)) z)) z
 intro W hS
 refine .nil ?_
 refine .cs z h ?_ ?_ <;> intro h
 ·refine .g (.s (bs T.s27 z z) z (.c (.st T.t27 hS z z z ?_ z z z z z)))
  intro W hS
  refine .q z (.qn z (.ret ?_))
  have hS:=hS.nilv 3 1 (D.int .i64)
  have hS:=hS.nilv 3 1 (D.int .i64)
  cases h
  exact fin_ret (vs:=[_,_,_]) (nilH,nilH) (rc hS.p2 T.t27 z (rt z (rt z rn)) z z) z (hS.to [1,0] z)
 refine .skip (.seq (.region ?_))
 have ⟨y2,hy2,h⟩:=bnd h
 refine .c (.call1v hS Tryz.func51 (f9l hy2 (hG.at hS (fun _ _ h=>h))) z z ?_ z z z z)
 intro v1 W hS
 have ⟨y3,hy3,h⟩:=bnd h
 refine .c (.call1v hS Tryz.func37 (faw hy3 hS.lendv (hG.at hS (fun _ _ h=>h))) z z ?_ z z z z)
 intro v2 W hS
 refine .q z (.q z (.q z (.q z (.qn z (.g (.qn z (.seq (.g (.q z (.s (lenv (hS.keep q_1) T.u39 z z) z (.qn z (.block ?_))))))))))))
 have hS:=hS.nilv 3 1 (D.int .i64)
 have ⟨y4,hy4,h⟩:=bnd h
 refine .via (.iter (fun s1 E' W'=>∃ (v7 : Hd) (v8 : Hd),SubL E' [(0,(sv v_0)),(1,(sv v_1)),(4,.pointer (some ⟨g1,0,none⟩)),(7,(sv v7)),(9,(sv v8)),(42,(sv v_1)),(43,.int .i64 (a1.length : Int)),(44,.int .i64 s1.2.2)] ∧ Sep No w W' [rowV (sv v1) 32 5 dInstr y2,.box g1 27 [(sv nilH),.int .i64 0,(sv nilH)],rowV (sv v7) 3 1 (D.int .i64) s1.1,rowV (sv v8) 3 1 (D.int .i64) s1.2.1]) (fun y5 x E' W'=>(match y5 with | .inl o1=>x = .ret ∧ fdb w o1 E' W' | .inr o2=>x = .exit 0 ∧ ∃ (v9 : Hd) (v10 : Hd),SubL E' [(0,(sv v_0)),(1,(sv v_1)),(4,.pointer (some ⟨g1,0,none⟩)),(7,(sv v9)),(9,(sv v10))] ∧ Sep No w W' [rowV (sv v1) 32 5 dInstr y2,.box g1 27 [(sv nilH),.int .i64 0,(sv nilH)],rowV (sv v9) 3 1 (D.int .i64) o2.1,rowV (sv v10) 3 1 (D.int .i64) o2.2])) hy4 ⟨v2,nilH,sb rfl,hS.to [2,2,1,0] rfl⟩ ?_) ?_
 ·intro s1 y6 E W h hI
  obtain ⟨v5,v6,hE,hS⟩:=hI
  refine CW.sub hE ?_
  unfold f2r at h
  refine .g (.qn z (.seq ?_))
  refine .cs z h ?_ ?_ <;> intro h
  ·refine .skip (.seq (.block (.seq (.region ?_))))
   have ⟨x1,hx1,h⟩:=bnd h
   obtain ⟨k1,hd,hck1⟩:=RV.el2 q_1 hx1
   obtain ⟨v11,k1,rfl,q9,hd1⟩:=rrowv q_1 hd
   obtain rfl:=rnil q_1 hd1
   refine .s (ixv (hS.keep q_1) hx1 T.u39 T.t23 z z z) z (.s (lde (hck1 _ hS.agree) T.t23 z z z z z) z (.qn z (.g (.q z ?_))))
   have ⟨y7,hy7,h⟩:=bnd h
   refine .c (.call1v hS Tryz.func37 (faw hy7 (hS.keep (q9 _ q_1)) (hG.at hS (fun _ _ h=>h))) z z ?_ z z z z)
   intro v12 W hS
   refine .q z (.q z (.q z (.q z (.qn z (.seq (.g (.q z (.q z (.nil ?_)))))))))
   refine .cs z h ?_ ?_ <;> intro h
   ·refine .g (.s (bs T.s27 z z) z (.c (.st T.t27 hS.p2 z z z ?_ z z z z z)))
    intro W hS
    refine .q z (.qn z (.ret ?_))
    have hS:=hS.nilv 3 1 (D.int .i64)
    have hS:=hS.nilv 3 1 (D.int .i64)
    cases h
    exact ⟨by simp,z,fin_ret (vs:=[_,_,_]) (nilH,nilH) (rc hS.p2 T.t27 z (rt z (rt z rn)) z z) z (hS.to [1,0] z)⟩
   refine .skip (.g (.q z (.q z (.s (lenv hS.p3.lendv T.u25 z z) z (.q z (.c (.liv [w64 (4 * (s1.1.length : Int))] (D.int .i64) T.u25 T.t3 hS z z z z ?_ z (fun _=>z) z z z z)))))))
   intro v13 W hS
   have ⟨r1,hr1,h⟩:=bnd h
   have hT0:=hS.p5
   refine .c (.apprv hr1 hT0 hT0.p1.lendv (fun _=>z) T.u25 T.t3 z z z ?_ z z z z z)
   intro v14 W hS
   refine .qn z (.region (.q z (.q z ?_)))
   have ⟨r2,hr2,h⟩:=bnd h
   have hT0:=hS.p5
   refine .c (.apprv hr2 hT0 hT0.p3.lendv (fun _=>z) T.u25 T.t3 z z z ?_ z z z z z)
   intro v15 W hS
   refine .qn z (.region (.q z (.q z (.nil ?_))))
   cases h
   exact ⟨z,v15,v14,sb z,hS.to [4,4,0,0] z⟩
  refine .exit ?_
  cases h
  exact ⟨by simp,z,v5,v6,sb z,hS.to [0,0,0,0] z⟩
 intro x E W hJ
 rcases y4 with o3 | o4
 ·obtain ⟨rfl,hF⟩:=hJ
  refine ⟨_,fun _ _ h=>h,?_⟩
  cases h
  exact hF
 obtain ⟨rfl,v16,v17,hE,hS⟩:=hJ
 refine ⟨_,hE.sub,?_⟩
 refine .g (.q z (.s (lenv hS.p2.lendv T.u25 z z) z (.q z (.qn z (.g (.q z (.q z (.qn z (.g (.q z (.q z (.s (lenv (hS.keep q_1) T.u39 z z) z (.q z (.q z (.qn z (.g (.q z (.q z (.s (lenv (hS.keep q_1) T.u39 z z) z (.q z (.q z (.c (.liv [0,(a1.length : Int),w64 ((w64 (4 * (o4.1.length : Int))) + 112),w64 ((w64 ((w64 (4 * (o4.1.length : Int))) + 112)) + (w64 (64 * (a1.length : Int))))] (D.int .i64) T.u25 T.t3 hS z z z z ?_ z (fun _=>z) z z z z)))))))))))))))))))))))
 intro v18 W hS
 have ⟨r3,hr3,h⟩:=bnd h
 have hT0:=hS.p3
 refine .c (.apprv hr3 hT0 hT0.p1.lendv (fun _=>z) T.u25 T.t3 z z z ?_ z z z z z)
 intro v19 W hS
 refine .qn z (.seq (.g (.qn z (.block ?_))))
 have ⟨y8,hy8,h⟩:=bnd h
 refine .via (.iter (fun s2 E' W'=>∃ (v22 : Hd),SubL E' [(0,(sv v_0)),(1,(sv v_1)),(4,.pointer (some ⟨g1,0,none⟩)),(7,(sv v22)),(9,(sv v17)),(14,.int .i64 (w64 (4 * (o4.1.length : Int)))),(15,.int .i64 (w64 ((w64 (4 * (o4.1.length : Int))) + 112))),(16,.int .i64 (w64 ((w64 ((w64 (4 * (o4.1.length : Int))) + 112)) + (w64 (64 * (a1.length : Int)))))),(83,.int .i64 s2.2)] ∧ Sep No w W' [rowV (sv v18) 3 1 (D.int .i64) [0,(a1.length : Int),w64 ((w64 (4 * (o4.1.length : Int))) + 112),w64 ((w64 ((w64 (4 * (o4.1.length : Int))) + 112)) + (w64 (64 * (a1.length : Int))))],rowV (sv v1) 32 5 dInstr y2,.box g1 27 [(sv nilH),.int .i64 0,(sv nilH)],rowV (sv v17) 3 1 (D.int .i64) o4.2,rowV (sv v22) 3 1 (D.int .i64) s2.1]) (fun y9 x E' W'=>x = .exit 2 ∧ ∃ (v23 : Hd),SubL E' [(1,(sv v_1)),(4,.pointer (some ⟨g1,0,none⟩)),(7,(sv v23)),(9,(sv v17)),(14,.int .i64 (w64 (4 * (o4.1.length : Int)))),(15,.int .i64 (w64 ((w64 (4 * (o4.1.length : Int))) + 112))),(16,.int .i64 (w64 ((w64 ((w64 (4 * (o4.1.length : Int))) + 112)) + (w64 (64 * (a1.length : Int))))))] ∧ Sep No w W' [rowV (sv v18) 3 1 (D.int .i64) [0,(a1.length : Int),w64 ((w64 (4 * (o4.1.length : Int))) + 112),w64 ((w64 ((w64 (4 * (o4.1.length : Int))) + 112)) + (w64 (64 * (a1.length : Int))))],rowV (sv v1) 32 5 dInstr y2,.box g1 27 [(sv nilH),.int .i64 0,(sv nilH)],rowV (sv v17) 3 1 (D.int .i64) o4.2,rowV (sv v23) 3 1 (D.int .i64) y9]) hy8 ⟨v19,sb z,hS.to [1,1,1,1,0] z⟩ ?_) ?_
 ·intro s2 y10 E W h hI
  obtain ⟨v21,hE,hS⟩:=hI
  refine CW.sub hE ?_
  unfold f41 at h
  refine .g (.qn z (.seq ?_))
  refine .cs z h ?_ ?_ <;> intro h
  ·refine .skip (.seq (.block (.g (.q z (.qn z (.seq (.region ?_)))))))
   have ⟨r4,hr4,h⟩:=bnd h
   refine .c (.mkv 0 (D.int .i64) hr4 T.u25 T.t3 hS z z z z z (fun _=>z) ?_ z z z)
   intro v24 W hS
   refine .q z (.nil ?_)
   have ⟨y11,hy11,h⟩:=bnd h
   refine .seq (CW.via (R':=fun x E' W'=>x = .normal ∧ SubL E' [(0,(sv v_0)),(1,(sv v_1)),(4,.pointer (some ⟨g1,0,none⟩)),(7,(sv v21)),(9,(sv v17)),(14,.int .i64 (w64 (4 * (o4.1.length : Int)))),(15,.int .i64 (w64 ((w64 (4 * (o4.1.length : Int))) + 112))),(16,.int .i64 (w64 ((w64 ((w64 (4 * (o4.1.length : Int))) + 112)) + (w64 (64 * (a1.length : Int)))))),(18,(sv v24)),(83,.int .i64 s2.2)] ∧ Sep No w W' [rowV (sv v24) 3 1 (D.int .i64) y11,rowV (sv v18) 3 1 (D.int .i64) [0,(a1.length : Int),w64 ((w64 (4 * (o4.1.length : Int))) + 112),w64 ((w64 ((w64 (4 * (o4.1.length : Int))) + 112)) + (w64 (64 * (a1.length : Int))))],rowV (sv v1) 32 5 dInstr y2,.box g1 27 [(sv nilH),.int .i64 0,(sv nilH)],rowV (sv v17) 3 1 (D.int .i64) o4.2,rowV (sv v21) 3 1 (D.int .i64) s2.1]) ?_ ?_)
   ·have h:=hy11
    refine .g (.q z (.q z (.s (lenv (hS.keep q_0) T.u25 z z) z (.q z (.nil ?_)))))
    refine .cs z h ?_ ?_ <;> intro h
    ·refine .region (.q z (.q z (.q z ?_)))
     have ⟨x2,hx2,h⟩:=bnd h
     refine .s (ixv (hS.keep q_0) hx2 T.u25 T.t3 z z z) z (.s (lde (RV.flat (hS.keep q_0) hx2 z) T.t3 z z z z z) z ?_)
     have ⟨x3,hx3,h⟩:=bnd h
     refine .s (ixv hS.lendv hx3 T.u25 T.t3 z z z) z ?_
     have ⟨r5,hr5,h⟩:=bnd h
     refine .c (.sev hr5 hx3 hS T.t3 z z z z z z ?_ z z z z z z)
     intro W hS
     refine .nil ?_
     obtain rfl:=Option.some.inj h
     exact ⟨z,sb z,hS.to [0,0,0,0,0,0] z⟩
    refine .skip ?_
    obtain rfl:=Option.some.inj h
    exact ⟨z,sb z,hS.to [0,0,0,0,0,0] z⟩
   intro x E W hJ
   obtain ⟨rfl,hE,hS⟩:=hJ
   refine ⟨_,hE.sub,?_⟩
   refine .region (.q z (.q z ?_))
   have ⟨r6,hr6,h⟩:=bnd h
   have hT0:=hS.p5
   refine .c (.apprv hr6 hT0 hT0.p1.lendv (fun _=>z) T.u25 T.t3 z z z ?_ z z z z z)
   intro v25 W hS
   refine .qn z (.region (.q z (.q z (.nil ?_))))
   cases h
   exact ⟨z,v25,sb z,hS.to [2,2,2,2,0] z⟩
  refine .exit ?_
  cases h
  exact ⟨by simp,z,v21,sb z,hS.to [0,0,0,0,0] z⟩
 intro x E W hJ
 obtain ⟨rfl,v26,hE,hS⟩:=hJ
 refine ⟨_,hE.sub,?_⟩
 refine .seq (.g (.q z (.s (lenv hS.p3.lendv T.u25 z z) z (.qn z (.block ?_)))))
 have ⟨y12,hy12,h⟩:=bnd h
 refine .via (.iter (fun s3 E' W'=>∃ (v29 : Hd),SubL E' [(1,(sv v_1)),(4,.pointer (some ⟨g1,0,none⟩)),(7,(sv v29)),(9,(sv v17)),(14,.int .i64 (w64 (4 * (o4.1.length : Int)))),(15,.int .i64 (w64 ((w64 (4 * (o4.1.length : Int))) + 112))),(16,.int .i64 (w64 ((w64 ((w64 (4 * (o4.1.length : Int))) + 112)) + (w64 (64 * (a1.length : Int)))))),(101,(sv v17)),(102,.int .i64 (o4.2.length : Int)),(103,.int .i64 s3.2)] ∧ Sep No w W' [rowV (sv v18) 3 1 (D.int .i64) [0,(a1.length : Int),w64 ((w64 (4 * (o4.1.length : Int))) + 112),w64 ((w64 ((w64 (4 * (o4.1.length : Int))) + 112)) + (w64 (64 * (a1.length : Int))))],rowV (sv v1) 32 5 dInstr y2,.box g1 27 [(sv nilH),.int .i64 0,(sv nilH)],rowV (sv v17) 3 1 (D.int .i64) o4.2,rowV (sv v29) 3 1 (D.int .i64) s3.1]) (fun y13 x E' W'=>x = .exit 4 ∧ ∃ (v30 : Hd),SubL E' [(1,(sv v_1)),(4,.pointer (some ⟨g1,0,none⟩)),(7,(sv v30)),(9,(sv v17)),(14,.int .i64 (w64 (4 * (o4.1.length : Int)))),(15,.int .i64 (w64 ((w64 (4 * (o4.1.length : Int))) + 112))),(16,.int .i64 (w64 ((w64 ((w64 (4 * (o4.1.length : Int))) + 112)) + (w64 (64 * (a1.length : Int))))))] ∧ Sep No w W' [rowV (sv v18) 3 1 (D.int .i64) [0,(a1.length : Int),w64 ((w64 (4 * (o4.1.length : Int))) + 112),w64 ((w64 ((w64 (4 * (o4.1.length : Int))) + 112)) + (w64 (64 * (a1.length : Int))))],rowV (sv v1) 32 5 dInstr y2,.box g1 27 [(sv nilH),.int .i64 0,(sv nilH)],rowV (sv v17) 3 1 (D.int .i64) o4.2,rowV (sv v30) 3 1 (D.int .i64) y13]) hy12 ⟨v26,sb z,hS.to [0,0,0,0,0] z⟩ ?_) ?_
 ·intro s3 y14 E W h hI
  obtain ⟨v28,hE,hS⟩:=hI
  refine CW.sub hE ?_
  unfold f43 at h
  refine .g (.qn z (.seq ?_))
  refine .cs z h ?_ ?_ <;> intro h
  ·refine .skip (.seq (.block (.g (.q z ?_))))
   have ⟨x4,hx4,h⟩:=bnd h
   refine .s (ixv hS.p3.lendv hx4 T.u25 T.t3 z z z) z (.s (lde (RV.flat hS.p3.lendv hx4 z) T.t3 z z z z z) z (.q z (.qn z (.seq (.region ?_)))))
   have ⟨r7,hr7,h⟩:=bnd h
   refine .c (.mkv 0 (D.int .i64) hr7 T.u25 T.t3 hS z z z z z (fun _=>z) ?_ z z z)
   intro v31 W hS
   refine .qn z (.g (.q z (.q z (.q z (.q z (.q z (.q z (.q z ?_))))))))
   have ⟨x5,hx5,h⟩:=bnd h
   refine .s (ixv hS.lendv hx5 T.u25 T.t3 z z z) z ?_
   have ⟨r8,hr8,h⟩:=bnd h
   refine .c (.sev hr8 hx5 hS T.t3 z z z z z z ?_ z z z z z z)
   intro W hS
   have ⟨x6,hx6,h⟩:=bnd h
   refine .s (ixv hS.lendv hx6 T.u25 T.t3 z z z) z ?_
   have ⟨r9,hr9,h⟩:=bnd h
   refine .c (.sev hr9 hx6 hS T.t3 z z z z z z ?_ z z z z z z)
   intro W hS
   refine .nil (.region (.q z (.q z ?_)))
   have ⟨r10,hr10,h⟩:=bnd h
   have hT0:=hS.p5
   refine .c (.apprv hr10 hT0 hT0.p1.lendv (fun _=>z) T.u25 T.t3 z z z ?_ z z z z z)
   intro v32 W hS
   refine .qn z (.region (.q z (.q z (.nil ?_))))
   cases h
   exact ⟨z,v32,sb z,hS.to [2,2,2,2,0] z⟩
  refine .exit ?_
  cases h
  exact ⟨by simp,z,v28,sb z,hS.to [0,0,0,0,0] z⟩
 intro x E W hJ
 obtain ⟨rfl,v33,hE,hS⟩:=hJ
 refine ⟨_,hE.sub,?_⟩
 refine .g (.q z (.q z (.s (lenv (hS.keep q_1) T.u39 z z) z (.q z ?_))))
 have ⟨r11,hr11,h⟩:=bnd h
 refine .c (.appz 0 hr11 hS.p4 T.u25 T.u3 T.t3 z z z z ?_ (fun _=>z) z z z z z z)
 intro v34 W hS
 refine .qn z (.seq (.g (.q z (.s (lenv hS.lendv T.u25 z z) z (.q z (.nil ?_))))))
 refine .cs z h ?_ ?_ <;> intro h
 ·refine .g (.s (bs T.s27 z z) z (.c (.st T.t27 hS.p3 z z z ?_ z z z z z)))
  intro W hS
  refine .q z (.qn z (.ret ?_))
  have hS:=hS.nilv 3 1 (D.int .i64)
  have hS:=hS.nilv 3 1 (D.int .i64)
  cases h
  exact fin_ret (vs:=[_,_,_]) (nilH,nilH) (rc hS.p2 T.t27 z (rt z (rt z rn)) z z) z (hS.to [1,0] z)
 refine .skip (.seq ?_)
 have ⟨x7,hx7,h⟩:=bnd h
 have ⟨r12,hr12,h⟩:=bnd h
 refine .via (R':=fun x E' W'=>x = .normal ∧ ∃ (g2 : Nat) (v35 : Hd),SubL E' [(4,.pointer (some ⟨g1,0,none⟩)),(14,.int .i64 (w64 (4 * (o4.1.length : Int)))),(15,.int .i64 (w64 ((w64 (4 * (o4.1.length : Int))) + 112))),(16,.int .i64 (w64 ((w64 ((w64 (4 * (o4.1.length : Int))) + 112)) + (w64 (64 * (a1.length : Int)))))),(22,.pointer (some ⟨g2,0,none⟩))] ∧ Sep No w W' [rowV (sv v34) 3 1 (D.int .i64) r11,rowV (sv v18) 3 1 (D.int .i64) [0,(a1.length : Int),w64 ((w64 (4 * (o4.1.length : Int))) + 112),w64 ((w64 ((w64 (4 * (o4.1.length : Int))) + 112)) + (w64 (64 * (a1.length : Int))))],rowV (sv v1) 32 5 dInstr y2,.box g1 27 [(sv nilH),.int .i64 0,(sv nilH)],rowV (sv v17) 3 1 (D.int .i64) o4.2,.box g2 27 [(sv v35),.int .i64 x7,(sv v34)],rowV (sv v35) 3 1 (D.int .i64) r12]) ?_ ?_
 ·refine .rk 7 hS [0,0,0,0,0] T.mix ?_
  intro W hS
  have hT:=hS.to [0,0,0,0,0] z
  refine .tp 1 z z hT (by kernel_rfl) (.ts 2 z (fun W hT=>ixv hS.p4.lendv hx7 T.u25 T.t3 z z z) hT z (by kernel_rfl) (.ts 3 z (fun W hT=>lde (RV.flat hT.p4.lendv hx7 z) T.t3 z z z z z) hT z (by kernel_rfl) (.tp 4 z z hT (by kernel_rfl) (.by [0,6] ⟨⟨_,z,?_⟩,⟨_,z,?_⟩,trivial⟩ (by kernel_rfl) z))))
  ·refine (.mkv 0 (D.int .i64) hr12 T.u25 T.t3 hS z z z z z (fun _=>z) ?_ z z z)
   intro v36 W hS
   have hT:=hS.to [1,1,1,1,1] z
   refine ⟨fun _=>hT,.ts 5 z (fun W hT=>bs T.s27 z z) hT z (by kernel_rfl) (.by1 6 z (.alloc T.t27 hS ?_ z z z) (by kernel_rfl))⟩
   intro g3 W hS
   have hT:=hS.to [2,2,2,2,2] z
   refine ⟨fun _=>hT,.by1 7 z (.st T.t27 hS z z z ?_ z z z z z) (by kernel_rfl)⟩
   intro W hS
   refine ⟨fun h=>absurd z h,?_⟩
   exact .done (⟨z,g3,v36,sb z,hS.to [2,2,2,2,2,0,0] z⟩) (by kernel_rfl)
  refine (.alloc T.t27 hS ?_ z z z)
  intro g4 W hS
  have hT:=hS.to [1,1,1,1,1] z
  refine ⟨fun _=>hT,.by1 0 z (.mkv 0 (D.int .i64) hr12 T.u25 T.t3 hS z z z z z (fun _=>z) ?_ z z z) (by kernel_rfl)⟩
  intro v37 W hS
  have hT:=hS.to [2,2,2,2,2] z
  refine ⟨fun _=>hT,.ts 5 z (fun W hT=>bs T.s27 z z) hT z (by kernel_rfl) (.by1 7 z (.st T.t27 hS.p1 z z z ?_ z z z z z) (by kernel_rfl))⟩
  intro W hS
  refine ⟨fun h=>absurd z h,?_⟩
  exact .done (⟨z,g4,v37,sb z,hS.to [2,2,2,2,2,0,0] z⟩) (by kernel_rfl)
 intro x E W hJ
 obtain ⟨rfl,g5,v38,hE,hS⟩:=hJ
 refine ⟨_,hE.sub,?_⟩
 refine .seq (.rk 14 hS [0,0,0,0,0,0] T.mix ?_)
 intro W hS
 have hT:=hS.to [0,0,0,0,0,0] z
 refine .ts 0 z (fun W hT=>fa T.f27_0 z z z) hT z (by kernel_rfl) (.ts 1 z (fun W hT=>ld T.t25 hT.p5 z z z z z) hT z (by kernel_rfl) (.ts 2 z (fun W hT=>fa T.f27_0 z z z) hT z (by kernel_rfl) (.ts 3 z (fun W hT=>ld T.t25 hT.p5 z z z z z) hT z (by kernel_rfl) (.ts 4 z (fun W hT=>fa T.f27_0 z z z) hT z (by kernel_rfl) (.ts 5 z (fun W hT=>ld T.t25 hT.p5 z z z z z) hT z (by kernel_rfl) (.tp 6 z z hT (by kernel_rfl) (.tp 7 z z hT (by kernel_rfl) (.tp 8 z z hT (by kernel_rfl) ?_))))))))
 have ⟨x8,hx8,h⟩:=bnd h
 refine .ts 9 z (fun W hT=>ixv hS.p6.lendv hx8 T.u25 T.t3 z z z) hT z (by kernel_rfl) ?_
 have ⟨r13,hr13,h⟩:=bnd h
 refine .by1 10 z (.sev hr13 hx8 hS.p6 T.t3 z z z z z z ?_ z z z z z z) (by kernel_rfl)
 intro W hS
 have hT:=hS.to [1,1,1,1,1,1] z
 refine ⟨fun _=>hT,?_⟩
 have ⟨x9,hx9,h⟩:=bnd h
 refine .ts 11 z (fun W hT=>ixv hS.lendv hx9 T.u25 T.t3 z z z) hT z (by kernel_rfl) ?_
 have ⟨r14,hr14,h⟩:=bnd h
 refine .by1 12 z (.sev hr14 hx9 hS T.t3 z z z z z z ?_ z z z z z z) (by kernel_rfl)
 intro W hS
 have hT:=hS.to [1,1,1,1,1,1] z
 refine ⟨fun _=>hT,?_⟩
 have ⟨x10,hx10,h⟩:=bnd h
 refine .ts 13 z (fun W hT=>ixv hS.lendv hx10 T.u25 T.t3 z z z) hT z (by kernel_rfl) ?_
 have ⟨r15,hr15,h⟩:=bnd h
 refine .by1 14 z (.sev hr15 hx10 hS T.t3 z z z z z z ?_ z z z z z z) (by kernel_rfl)
 intro W hS
 refine ⟨fun h=>absurd z h,?_⟩
 refine .done (.g (.s (ld T.t27 hS.p6 z z z z z) z (.q z (.c (.st T.t27 hS.p4 z z z ?_ z z z z z))))) (by kernel_rfl)
 intro W hS
 cases h
 exact .q z (.qn z (.ret (fin_ret (vs:=[_,_,_]) (v38,v34) (rc hS T.t27 z (rt z (rt z rn)) z z) z (hS.to [1,1] z))))
theorem f0k {a0 : Int} {a1 : Int} {a2 : Int} {w : World} {r : Instr} (h : f0q a0 a1 a2 = some r) : Calls Tryz.prog 87 #[.int .i64 a0,.int .i64 a1,.int .i64 a2] w (Ret No w (fun s : Unit=>.agg #[.int .i64 r.Op,.int .i64 r.Rd,.int .i64 r.Rs,.int .i64 r.Rt,.int .i64 r.Imm]) (fun s=>[])):=by
 unfold f0q at h
 refine enter Tryz.func87 z z ?_
 have hS:=Sep.start w
 refine .g (.c (.alloc T.t32 hS ?_ z z z))
 intro g1 W hS
 refine .nil (.g (.q z (.q z (.q z (.s (bs T.s32 z z) z (.c (.st T.t32 hS z z z ?_ z z z z z)))))))
 intro W hS
 cases h
 exact .nil (.ret (fin_ret (vs:=[_]) () (rc hS T.t32 z rn z z) z (hS.to [] z)))
theorem f2n {a0 : Int} {a1 : Int} {a2 : Int} {a3 : Int} {a4 : Int} {w : World} {r : Instr} (h : f34 a0 a1 a2 a3 a4 = some r) : Calls Tryz.prog 105 #[.int .i64 a0,.int .i64 a1,.int .i64 a2,.int .i64 a3,.int .i64 a4] w (Ret No w (fun s : Unit=>.agg #[.int .i64 r.Op,.int .i64 r.Rd,.int .i64 r.Rs,.int .i64 r.Rt,.int .i64 r.Imm]) (fun s=>[])):=by
 unfold f34 at h
 refine enter Tryz.func105 z z ?_
 have hS:=Sep.start w
 refine .g (.c (.alloc T.t32 hS ?_ z z z))
 intro g1 W hS
 refine .nil (.g (.q z (.q z (.q z (.q z (.q z (.q z (.q z (.s (bs T.s32 z z) z (.c (.st T.t32 hS z z z ?_ z z z z z)))))))))))
 intro W hS
 cases h
 exact .nil (.ret (fin_ret (vs:=[_]) () (rc hS T.t32 z rn z z) z (hS.to [] z)))
theorem fbc {a0 : Int} {a1 : Int} {w : World} {r : Instr} (h : fa6 a0 a1 = some r) : Calls Tryz.prog 106 #[.int .i64 a0,.int .i64 a1] w (Ret No w (fun s : Unit=>.agg #[.int .i64 r.Op,.int .i64 r.Rd,.int .i64 r.Rs,.int .i64 r.Rt,.int .i64 r.Imm]) (fun s=>[])):=by
 unfold fa6 at h
 refine enter Tryz.func106 z z ?_
 have hS:=Sep.start w
 refine .g (.c (.alloc T.t32 hS ?_ z z z))
 intro g1 W hS
 refine .nil (.g (.q z (.q z (.q z (.q z (.s (bs T.s32 z z) z (.c (.st T.t32 hS z z z ?_ z z z z z))))))))
 intro W hS
 cases h
 exact .nil (.ret (fin_ret (vs:=[_]) () (rc hS T.t32 z rn z z) z (hS.to [] z)))
theorem fca {w : World} {r : (List Instr)} (h : fa0 = some r) : Calls Tryz.prog 81 #[] w (Ret No w (fun s : Hd=>(sv s)) (fun s=>[rowV (sv s) 32 5 dInstr r])):=by
 unfold fa0 at h
 refine enter Tryz.func81 z z ?_
 have hS:=Sep.start w
 refine .g (.qn z (.seq (.region ?_)))
 have ⟨y1,hy1,h⟩:=bnd h
 refine .c (.call0 hS Tryz.func87 (f0k hy1) z z ?_ z z z z)
 intro W hS
 have ⟨y2,hy2,h⟩:=bnd h
 refine .c (.call0 hS Tryz.func105 (f2n hy2) z z ?_ z z z z)
 intro W hS
 have ⟨y3,hy3,h⟩:=bnd h
 refine .c (.call0 hS Tryz.func87 (f0k hy3) z z ?_ z z z z)
 intro W hS
 have ⟨y4,hy4,h⟩:=bnd h
 refine .c (.call0 hS Tryz.func105 (f2n hy4) z z ?_ z z z z)
 intro W hS
 have ⟨y5,hy5,h⟩:=bnd h
 refine .c (.call0 hS Tryz.func87 (f0k hy5) z z ?_ z z z z)
 intro W hS
 have ⟨y6,hy6,h⟩:=bnd h
 refine .c (.call0 hS Tryz.func105 (f2n hy6) z z ?_ z z z z)
 intro W hS
 have ⟨y7,hy7,h⟩:=bnd h
 refine .c (.call0 hS Tryz.func87 (f0k hy7) z z ?_ z z z z)
 intro W hS
 have ⟨y8,hy8,h⟩:=bnd h
 refine .c (.call0 hS Tryz.func105 (f2n hy8) z z ?_ z z z z)
 intro W hS
 have ⟨y9,hy9,h⟩:=bnd h
 refine .c (.call0 hS Tryz.func106 (fbc hy9) z z ?_ z z z z)
 intro W hS
 refine .c (.liv [y1,y2,y3,y4,y5,y6,y7,y8,y9] dInstr T.u23 T.t32 hS z z z z ?_ z (fun _=>z) z z z z)
 intro v1 W hS
 cases h
 exact .qn z (.ret (fin_ret (vs:=[_]) v1 (rt z rn) z (hS.to [0] z)))
theorem f1q {a0 : Int} {a1 : Int} {a2 : Int} {a3 : Int} {w : World} {r : Instr} (h : f29 a0 a1 a2 a3 = some r) : Calls Tryz.prog 107 #[.int .i64 a0,.int .i64 a1,.int .i64 a2,.int .i64 a3] w (Ret No w (fun s : Unit=>.agg #[.int .i64 r.Op,.int .i64 r.Rd,.int .i64 r.Rs,.int .i64 r.Rt,.int .i64 r.Imm]) (fun s=>[])):=by
 unfold f29 at h
 refine enter Tryz.func107 z z ?_
 have hS:=Sep.start w
 refine .g (.c (.alloc T.t32 hS ?_ z z z))
 intro g1 W hS
 refine .nil (.g (.q z (.q z (.q z (.q z (.s (bs T.s32 z z) z (.c (.st T.t32 hS z z z ?_ z z z z z))))))))
 intro W hS
 cases h
 exact .nil (.ret (fin_ret (vs:=[_]) () (rc hS T.t32 z rn z z) z (hS.to [] z)))
theorem f0x {a0 : Int} {a1 : Int} {a2 : Int} {w : World} {r : Instr} (h : f14 a0 a1 a2 = some r) : Calls Tryz.prog 108 #[.int .i64 a0,.int .i64 a1,.int .i64 a2] w (Ret No w (fun s : Unit=>.agg #[.int .i64 r.Op,.int .i64 r.Rd,.int .i64 r.Rs,.int .i64 r.Rt,.int .i64 r.Imm]) (fun s=>[])):=by
 unfold f14 at h
 refine enter Tryz.func108 z z ?_
 have hS:=Sep.start w
 refine .g (.c (.alloc T.t32 hS ?_ z z z))
 intro g1 W hS
 refine .nil (.g (.q z (.q z (.q z (.s (bs T.s32 z z) z (.c (.st T.t32 hS z z z ?_ z z z z z)))))))
 intro W hS
 cases h
 exact .nil (.ret (fin_ret (vs:=[_]) () (rc hS T.t32 z rn z z) z (hS.to [] z)))
theorem f1g {a0 : Int} {a1 : Int} {a2 : Int} {w : World} {r : Instr} (h : f1s a0 a1 a2 = some r) : Calls Tryz.prog 109 #[.int .i64 a0,.int .i64 a1,.int .i64 a2] w (Ret No w (fun s : Unit=>.agg #[.int .i64 r.Op,.int .i64 r.Rd,.int .i64 r.Rs,.int .i64 r.Rt,.int .i64 r.Imm]) (fun s=>[])):=by
 unfold f1s at h
 refine enter Tryz.func109 z z ?_
 have hS:=Sep.start w
 refine .g (.c (.alloc T.t32 hS ?_ z z z))
 intro g1 W hS
 refine .nil (.g (.q z (.q z (.q z (.s (bs T.s32 z z) z (.c (.st T.t32 hS z z z ?_ z z z z z)))))))
 intro W hS
 cases h
 exact .nil (.ret (fin_ret (vs:=[_]) () (rc hS T.t32 z rn z z) z (hS.to [] z)))
theorem f6r {a0 : Int} {w : World} {r : Instr} (h : f5k a0 = some r) : Calls Tryz.prog 110 #[.int .i64 a0] w (Ret No w (fun s : Unit=>.agg #[.int .i64 r.Op,.int .i64 r.Rd,.int .i64 r.Rs,.int .i64 r.Rt,.int .i64 r.Imm]) (fun s=>[])):=by
 unfold f5k at h
 refine enter Tryz.func110 z z ?_
 have hS:=Sep.start w
 refine .g (.c (.alloc T.t32 hS ?_ z z z))
 intro g1 W hS
 refine .nil (.g (.q z (.s (bs T.s32 z z) z (.c (.st T.t32 hS z z z ?_ z z z z z)))))
 intro W hS
 cases h
 exact .nil (.ret (fin_ret (vs:=[_]) () (rc hS T.t32 z rn z z) z (hS.to [] z)))
theorem fdc {w : World} {r : (List Instr)} (h : fa9 = some r) : Calls Tryz.prog 82 #[] w (Ret No w (fun s : Hd=>(sv s)) (fun s=>[rowV (sv s) 32 5 dInstr r])):=by
 unfold fa9 at h
 refine enter Tryz.func82 z z ?_
 have hS:=Sep.start w
 refine .g (.qn z (.seq (.region ?_)))
 have ⟨y1,hy1,h⟩:=bnd h
 refine .c (.call0 hS Tryz.func87 (f0k hy1) z z ?_ z z z z)
 intro W hS
 have ⟨y2,hy2,h⟩:=bnd h
 refine .c (.call0 hS Tryz.func107 (f1q hy2) z z ?_ z z z z)
 intro W hS
 have ⟨y3,hy3,h⟩:=bnd h
 refine .c (.call0 hS Tryz.func107 (f1q hy3) z z ?_ z z z z)
 intro W hS
 have ⟨y4,hy4,h⟩:=bnd h
 refine .c (.call0 hS Tryz.func108 (f0x hy4) z z ?_ z z z z)
 intro W hS
 have ⟨y5,hy5,h⟩:=bnd h
 refine .c (.call0 hS Tryz.func108 (f0x hy5) z z ?_ z z z z)
 intro W hS
 have ⟨y6,hy6,h⟩:=bnd h
 refine .c (.call0 hS Tryz.func105 (f2n hy6) z z ?_ z z z z)
 intro W hS
 have ⟨y7,hy7,h⟩:=bnd h
 refine .c (.call0 hS Tryz.func108 (f0x hy7) z z ?_ z z z z)
 intro W hS
 have ⟨y8,hy8,h⟩:=bnd h
 refine .c (.call0 hS Tryz.func107 (f1q hy8) z z ?_ z z z z)
 intro W hS
 have ⟨y9,hy9,h⟩:=bnd h
 refine .c (.call0 hS Tryz.func107 (f1q hy9) z z ?_ z z z z)
 intro W hS
 have ⟨y10,hy10,h⟩:=bnd h
 refine .c (.call0 hS Tryz.func87 (f0k hy10) z z ?_ z z z z)
 intro W hS
 have ⟨y11,hy11,h⟩:=bnd h
 refine .c (.call0 hS Tryz.func107 (f1q hy11) z z ?_ z z z z)
 intro W hS
 have ⟨y12,hy12,h⟩:=bnd h
 refine .c (.call0 hS Tryz.func107 (f1q hy12) z z ?_ z z z z)
 intro W hS
 have ⟨y13,hy13,h⟩:=bnd h
 refine .c (.call0 hS Tryz.func109 (f1g hy13) z z ?_ z z z z)
 intro W hS
 have ⟨y14,hy14,h⟩:=bnd h
 refine .c (.call0 hS Tryz.func87 (f0k hy14) z z ?_ z z z z)
 intro W hS
 have ⟨y15,hy15,h⟩:=bnd h
 refine .c (.call0 hS Tryz.func109 (f1g hy15) z z ?_ z z z z)
 intro W hS
 have ⟨y16,hy16,h⟩:=bnd h
 refine .c (.call0 hS Tryz.func109 (f1g hy16) z z ?_ z z z z)
 intro W hS
 have ⟨y17,hy17,h⟩:=bnd h
 refine .c (.call0 hS Tryz.func110 (f6r hy17) z z ?_ z z z z)
 intro W hS
 refine .c (.liv [y1,y2,y3,y4,y5,y6,y7,y8,y9,y10,y11,y12,y13,y14,y15,y16,y17] dInstr T.u23 T.t32 hS z z z z ?_ z (fun _=>z) z z z z)
 intro v1 W hS
 cases h
 exact .qn z (.ret (fin_ret (vs:=[_]) v1 (rt z rn) z (hS.to [0] z)))
theorem fdl {w : World} {r : (List Instr)} (h : fa8 = some r) : Calls Tryz.prog 83 #[] w (Ret No w (fun s : Hd=>(sv s)) (fun s=>[rowV (sv s) 32 5 dInstr r])):=by
 unfold fa8 at h
 refine enter Tryz.func83 z z ?_
 have hS:=Sep.start w
 refine .g (.qn z (.seq (.region ?_)))
 have ⟨y1,hy1,h⟩:=bnd h
 refine .c (.call0 hS Tryz.func87 (f0k hy1) z z ?_ z z z z)
 intro W hS
 have ⟨y2,hy2,h⟩:=bnd h
 refine .c (.call0 hS Tryz.func107 (f1q hy2) z z ?_ z z z z)
 intro W hS
 have ⟨y3,hy3,h⟩:=bnd h
 refine .c (.call0 hS Tryz.func107 (f1q hy3) z z ?_ z z z z)
 intro W hS
 have ⟨y4,hy4,h⟩:=bnd h
 refine .c (.call0 hS Tryz.func108 (f0x hy4) z z ?_ z z z z)
 intro W hS
 have ⟨y5,hy5,h⟩:=bnd h
 refine .c (.call0 hS Tryz.func105 (f2n hy5) z z ?_ z z z z)
 intro W hS
 have ⟨y6,hy6,h⟩:=bnd h
 refine .c (.call0 hS Tryz.func108 (f0x hy6) z z ?_ z z z z)
 intro W hS
 have ⟨y7,hy7,h⟩:=bnd h
 refine .c (.call0 hS Tryz.func108 (f0x hy7) z z ?_ z z z z)
 intro W hS
 have ⟨y8,hy8,h⟩:=bnd h
 refine .c (.call0 hS Tryz.func87 (f0k hy8) z z ?_ z z z z)
 intro W hS
 have ⟨y9,hy9,h⟩:=bnd h
 refine .c (.call0 hS Tryz.func107 (f1q hy9) z z ?_ z z z z)
 intro W hS
 have ⟨y10,hy10,h⟩:=bnd h
 refine .c (.call0 hS Tryz.func107 (f1q hy10) z z ?_ z z z z)
 intro W hS
 have ⟨y11,hy11,h⟩:=bnd h
 refine .c (.call0 hS Tryz.func108 (f0x hy11) z z ?_ z z z z)
 intro W hS
 have ⟨y12,hy12,h⟩:=bnd h
 refine .c (.call0 hS Tryz.func87 (f0k hy12) z z ?_ z z z z)
 intro W hS
 have ⟨y13,hy13,h⟩:=bnd h
 refine .c (.call0 hS Tryz.func107 (f1q hy13) z z ?_ z z z z)
 intro W hS
 have ⟨y14,hy14,h⟩:=bnd h
 refine .c (.call0 hS Tryz.func109 (f1g hy14) z z ?_ z z z z)
 intro W hS
 have ⟨y15,hy15,h⟩:=bnd h
 refine .c (.call0 hS Tryz.func87 (f0k hy15) z z ?_ z z z z)
 intro W hS
 have ⟨y16,hy16,h⟩:=bnd h
 refine .c (.call0 hS Tryz.func109 (f1g hy16) z z ?_ z z z z)
 intro W hS
 have ⟨y17,hy17,h⟩:=bnd h
 refine .c (.call0 hS Tryz.func109 (f1g hy17) z z ?_ z z z z)
 intro W hS
 have ⟨y18,hy18,h⟩:=bnd h
 refine .c (.call0 hS Tryz.func110 (f6r hy18) z z ?_ z z z z)
 intro W hS
 refine .c (.liv [y1,y2,y3,y4,y5,y6,y7,y8,y9,y10,y11,y12,y13,y14,y15,y16,y17,y18] dInstr T.u23 T.t32 hS z z z z ?_ z (fun _=>z) z z z z)
 intro v1 W hS
 cases h
 exact .qn z (.ret (fin_ret (vs:=[_]) v1 (rt z rn) z (hS.to [0] z)))
theorem fcf {w : World} {r : (List Instr)} (h : f9z = some r) : Calls Tryz.prog 84 #[] w (Ret No w (fun s : Hd=>(sv s)) (fun s=>[rowV (sv s) 32 5 dInstr r])):=by
 unfold f9z at h
 refine enter Tryz.func84 z z ?_
 have hS:=Sep.start w
 refine .g (.qn z (.g (.s (bs T.s32 z z) z ?_)))
 have ⟨y1,hy1,h⟩:=bnd h
 refine .c (.call0 hS Tryz.func109 (f1g hy1) z z ?_ z z z z)
 intro W hS
 have ⟨y2,hy2,h⟩:=bnd h
 refine .c (.call0 hS Tryz.func110 (f6r hy2) z z ?_ z z z z)
 intro W hS
 have ⟨y3,hy3,h⟩:=bnd h
 refine .c (.call0 hS Tryz.func87 (f0k hy3) z z ?_ z z z z)
 intro W hS
 have ⟨y4,hy4,h⟩:=bnd h
 refine .c (.call0 hS Tryz.func109 (f1g hy4) z z ?_ z z z z)
 intro W hS
 have ⟨y5,hy5,h⟩:=bnd h
 refine .c (.call0 hS Tryz.func106 (fbc hy5) z z ?_ z z z z)
 intro W hS
 have ⟨y6,hy6,h⟩:=bnd h
 refine .c (.call0 hS Tryz.func87 (f0k hy6) z z ?_ z z z z)
 intro W hS
 have ⟨y7,hy7,h⟩:=bnd h
 refine .c (.call0 hS Tryz.func108 (f0x hy7) z z ?_ z z z z)
 intro W hS
 have ⟨y8,hy8,h⟩:=bnd h
 refine .c (.call0 hS Tryz.func87 (f0k hy8) z z ?_ z z z z)
 intro W hS
 have ⟨y9,hy9,h⟩:=bnd h
 refine .c (.call0 hS Tryz.func109 (f1g hy9) z z ?_ z z z z)
 intro W hS
 refine .c (.liv [(Instr.mk 21 0 0 0 0),y1,y2,y3,y4,y5,y6,y7,y8,y9] dInstr T.u23 T.t32 hS z z z z ?_ z (fun _=>z) z z z z)
 intro v1 W hS
 cases h
 exact .qn z (.ret (fin_ret (vs:=[_]) v1 (rt z rn) z (hS.to [0] z)))
theorem fa7 {w : World} {r : (List Int)} (h : f8e = some r) : Calls Tryz.prog 111 #[] w (Ret No w (fun s : Hd=>(sv s)) (fun s=>[rowV (sv s) 3 1 (D.int .i64) r])):=by
 unfold f8e at h
 refine enter Tryz.func111 z z ?_
 have hS:=Sep.start w
 refine .g (.qn z (.g (.c (.liv [1,2,8,9,18,19,20,21,22,23,10,11,17] (D.int .i64) T.u25 T.t3 hS z z z z ?_ z (fun _=>z) z z z z))))
 intro v1 W hS
 cases h
 exact .qn z (.ret (fin_ret (vs:=[_]) v1 (rt z rn) z (hS.to [0] z)))
theorem fdd {w : World} {r : (List Instr)} (h : f77 = some r) : Calls Tryz.prog 85 #[] w (Ret No w (fun s : Hd=>(sv s)) (fun s=>[rowV (sv s) 32 5 dInstr r])):=by
 unfold f77 at h
 refine enter Tryz.func85 z z ?_
 have hS:=Sep.start w
 refine .g (.qn z (.seq (.region ?_)))
 have ⟨y1,hy1,h⟩:=bnd h
 refine .c (.call0 hS Tryz.func109 (f1g hy1) z z ?_ z z z z)
 intro W hS
 refine .c (.liv [y1] dInstr T.u23 T.t32 hS z z z z ?_ z (fun _=>z) z z z z)
 intro v1 W hS
 refine .qn z (.seq (.region ?_))
 have ⟨y2,hy2,h⟩:=bnd h
 refine .c (.call1v hS Tryz.func111 (fa7 hy2) z z ?_ z z z z)
 intro v2 W hS
 refine .qn z (.seq (.g (.qn z (.block ?_))))
 have ⟨y3,hy3,h⟩:=bnd h
 refine .via (.iter (fun s1 E' W'=>∃ (v5 : Hd),SubL E' [(1,(sv v5)),(2,(sv v2)),(3,.int .i64 s1.2)] ∧ Sep No w W' [rowV (sv v2) 3 1 (D.int .i64) y2,rowV (sv v5) 32 5 dInstr s1.1]) (fun y4 x E' W'=>x = .exit 0 ∧ ∃ (v6 : Hd),SubL E' [(1,(sv v6))] ∧ Sep No w W' [rowV (sv v2) 3 1 (D.int .i64) y2,rowV (sv v6) 32 5 dInstr y4]) hy3 ⟨v1,sb z,hS.to [0,0] z⟩ ?_) ?_
 ·intro s1 y5 E W h hI
  obtain ⟨v4,hE,hS⟩:=hI
  refine CW.sub hE ?_
  unfold fau at h
  refine .seq (.g (.q z (.q z (.s (lenv hS.lendv T.u25 z z) z (.q z (.nil ?_))))))
  refine .cs z h ?_ ?_ <;> intro h
  ·refine .skip (.seq (.block (.region (.q z (.q z (.q z ?_))))))
   have ⟨x1,hx1,h⟩:=bnd h
   refine .s (ixv hS.lendv hx1 T.u25 T.t3 z z z) z (.s (lde (RV.flat hS.lendv hx1 z) T.t3 z z z z z) z (.q z (.q z (.q z ?_))))
   have ⟨y6,hy6,h⟩:=bnd h
   refine .c (.call0 hS Tryz.func109 (f1g hy6) z z ?_ z z z z)
   intro W hS
   refine .c (.liv [y6] dInstr T.u23 T.t32 hS z z z z ?_ z (fun _=>z) z z z z)
   intro v7 W hS
   have ⟨r1,hr1,h⟩:=bnd h
   have hT0:=hS.p2
   refine .c (.apprv hr1 hT0 hT0.p1.lendv (fun _=>z) T.u23 T.t32 z z z ?_ z z z z z)
   intro v8 W hS
   refine .qn z (.region (.q z (.q z (.q z (.nil ?_)))))
   cases h
   exact ⟨z,v8,sb z,hS.to [2,0] z⟩
  refine .exit ?_
  cases h
  exact ⟨by simp,z,v4,sb z,hS.to [0,0] z⟩
 intro x E W hJ
 obtain ⟨rfl,v9,hE,hS⟩:=hJ
 refine ⟨_,hE.sub,?_⟩
 obtain rfl:=Option.some.inj h
 exact .g (.q z (.qn z (.ret (fin_ret (vs:=[_]) v9 (rt z rn) z (hS.to [1] z)))))
theorem fdm {w : World} {r : (List Instr)} (h : f7i = some r) : Calls Tryz.prog 86 #[] w (Ret No w (fun s : Hd=>(sv s)) (fun s=>[rowV (sv s) 32 5 dInstr r])):=by
 unfold f7i at h
 refine enter Tryz.func86 z z ?_
 have hS:=Sep.start w
 refine .g (.qn z (.seq (.region ?_)))
 have ⟨y1,hy1,h⟩:=bnd h
 refine .c (.call0 hS Tryz.func108 (f0x hy1) z z ?_ z z z z)
 intro W hS
 have ⟨y2,hy2,h⟩:=bnd h
 refine .c (.call0 hS Tryz.func108 (f0x hy2) z z ?_ z z z z)
 intro W hS
 have ⟨y3,hy3,h⟩:=bnd h
 refine .c (.call0 hS Tryz.func105 (f2n hy3) z z ?_ z z z z)
 intro W hS
 have ⟨y4,hy4,h⟩:=bnd h
 refine .c (.call0 hS Tryz.func87 (f0k hy4) z z ?_ z z z z)
 intro W hS
 have ⟨y5,hy5,h⟩:=bnd h
 refine .c (.call0 hS Tryz.func108 (f0x hy5) z z ?_ z z z z)
 intro W hS
 have ⟨y6,hy6,h⟩:=bnd h
 refine .c (.call0 hS Tryz.func105 (f2n hy6) z z ?_ z z z z)
 intro W hS
 have ⟨y7,hy7,h⟩:=bnd h
 refine .c (.call0 hS Tryz.func108 (f0x hy7) z z ?_ z z z z)
 intro W hS
 refine .c (.liv [y1,y2,y3,y4,y5,y6,y7] dInstr T.u23 T.t32 hS z z z z ?_ z (fun _=>z) z z z z)
 intro v1 W hS
 refine .qn z (.seq (.region ?_))
 have ⟨y8,hy8,h⟩:=bnd h
 refine .c (.call1v hS Tryz.func111 (fa7 hy8) z z ?_ z z z z)
 intro v2 W hS
 refine .qn z (.seq (.g (.qn z (.block ?_))))
 have ⟨y9,hy9,h⟩:=bnd h
 refine .via (.iter (fun s1 E' W'=>∃ (v5 : Hd),SubL E' [(1,(sv v5)),(2,(sv v2)),(3,.int .i64 s1.2)] ∧ Sep No w W' [rowV (sv v2) 3 1 (D.int .i64) y8,rowV (sv v5) 32 5 dInstr s1.1]) (fun y10 x E' W'=>x = .exit 0 ∧ ∃ (v6 : Hd),SubL E' [(1,(sv v6))] ∧ Sep No w W' [rowV (sv v2) 3 1 (D.int .i64) y8,rowV (sv v6) 32 5 dInstr y10]) hy9 ⟨v1,sb z,hS.to [0,0] z⟩ ?_) ?_
 ·intro s1 y11 E W h hI
  obtain ⟨v4,hE,hS⟩:=hI
  refine CW.sub hE ?_
  unfold fan at h
  refine .seq (.g (.q z (.q z (.s (lenv hS.lendv T.u25 z z) z (.q z (.nil ?_))))))
  refine .cs z h ?_ ?_ <;> intro h
  ·refine .skip (.seq (.block (.region (.q z (.q z (.q z ?_))))))
   have ⟨x1,hx1,h⟩:=bnd h
   refine .s (ixv hS.lendv hx1 T.u25 T.t3 z z z) z (.s (lde (RV.flat hS.lendv hx1 z) T.t3 z z z z z) z (.q z (.q z (.q z ?_))))
   have ⟨y12,hy12,h⟩:=bnd h
   refine .c (.call0 hS Tryz.func108 (f0x hy12) z z ?_ z z z z)
   intro W hS
   refine .c (.liv [y12] dInstr T.u23 T.t32 hS z z z z ?_ z (fun _=>z) z z z z)
   intro v7 W hS
   have ⟨r1,hr1,h⟩:=bnd h
   have hT0:=hS.p2
   refine .c (.apprv hr1 hT0 hT0.p1.lendv (fun _=>z) T.u23 T.t32 z z z ?_ z z z z z)
   intro v8 W hS
   refine .qn z (.region (.q z (.q z (.q z (.nil ?_)))))
   cases h
   exact ⟨z,v8,sb z,hS.to [2,0] z⟩
  refine .exit ?_
  cases h
  exact ⟨by simp,z,v4,sb z,hS.to [0,0] z⟩
 intro x E W hJ
 obtain ⟨rfl,v9,hE,hS⟩:=hJ
 refine ⟨_,hE.sub,?_⟩
 refine .g (.q z ?_)
 have ⟨y13,hy13,h⟩:=bnd h
 refine .c (.call0 hS Tryz.func108 (f0x hy13) z z ?_ z z z z)
 intro W hS
 have ⟨y14,hy14,h⟩:=bnd h
 refine .c (.call0 hS Tryz.func110 (f6r hy14) z z ?_ z z z z)
 intro W hS
 refine .c (.liv [y13,y14] dInstr T.u23 T.t32 hS z z z z ?_ z (fun _=>z) z z z z)
 intro v10 W hS
 have ⟨r2,hr2,h⟩:=bnd h
 have hT0:=hS.p2
 refine .c (.apprv hr2 hT0 hT0.p1.lendv (fun _=>z) T.u23 T.t32 z z z ?_ z z z z z)
 intro v11 W hS
 obtain rfl:=Option.some.inj h
 exact .qn z (.ret (fin_ret (vs:=[_]) v11 (rt z rn) z (hS.to [0] z)))
theorem fdv {w : World} {r : (List Instr)} (h : f7e = some r) : Calls Tryz.prog 52 #[] w (Ret No w (fun s : Hd=>(sv s)) (fun s=>[rowV (sv s) 32 5 dInstr r])):=by
 unfold f7e at h
 refine enter Tryz.func52 z z ?_
 have hS:=Sep.start w
 refine .g (.qn z (.seq (.region ?_)))
 have ⟨y1,hy1,h⟩:=bnd h
 refine .c (.call1v hS Tryz.func81 (fca hy1) z z ?_ z z z z)
 intro v1 W hS
 have ⟨y2,hy2,h⟩:=bnd h
 refine .c (.call1v hS Tryz.func82 (fdc hy2) z z ?_ z z z z)
 intro v2 W hS
 have ⟨r1,hr1,h⟩:=bnd h
 have hT0:=hS.p1
 refine .c (.apprv hr1 hT0 hT0.p1.lendv (fun _=>z) T.u23 T.t32 z z z ?_ z z z z z)
 intro v3 W hS
 refine .qn z (.g (.q z ?_))
 have ⟨y3,hy3,h⟩:=bnd h
 refine .c (.call1v hS Tryz.func83 (fdl hy3) z z ?_ z z z z)
 intro v4 W hS
 have ⟨r2,hr2,h⟩:=bnd h
 have hT0:=hS.p1
 refine .c (.apprv hr2 hT0 hT0.p1.lendv (fun _=>z) T.u23 T.t32 z z z ?_ z z z z z)
 intro v5 W hS
 refine .qn z (.g (.q z ?_))
 have ⟨y4,hy4,h⟩:=bnd h
 refine .c (.call1v hS Tryz.func84 (fcf hy4) z z ?_ z z z z)
 intro v6 W hS
 have ⟨r3,hr3,h⟩:=bnd h
 have hT0:=hS.p1
 refine .c (.apprv hr3 hT0 hT0.p1.lendv (fun _=>z) T.u23 T.t32 z z z ?_ z z z z z)
 intro v7 W hS
 refine .qn z (.g (.q z ?_))
 have ⟨y5,hy5,h⟩:=bnd h
 refine .c (.call1v hS Tryz.func85 (fdd hy5) z z ?_ z z z z)
 intro v8 W hS
 have ⟨r4,hr4,h⟩:=bnd h
 have hT0:=hS.p1
 refine .c (.apprv hr4 hT0 hT0.p1.lendv (fun _=>z) T.u23 T.t32 z z z ?_ z z z z z)
 intro v9 W hS
 refine .qn z (.g (.q z ?_))
 have ⟨y6,hy6,h⟩:=bnd h
 refine .c (.call1v hS Tryz.func86 (fdm hy6) z z ?_ z z z z)
 intro v10 W hS
 have ⟨r5,hr5,h⟩:=bnd h
 have hT0:=hS.p1
 refine .c (.apprv hr5 hT0 hT0.p1.lendv (fun _=>z) T.u23 T.t32 z z z ?_ z z z z z)
 intro v11 W hS
 refine .qn z (.g (.q z ?_))
 have ⟨y7,hy7,h⟩:=bnd h
 refine .c (.call0 hS Tryz.func87 (f0k hy7) z z ?_ z z z z)
 intro W hS
 refine .s (bs T.s32 z z) z (.c (.liv [y7,(Instr.mk 21 0 0 0 0)] dInstr T.u23 T.t32 hS z z z z ?_ z (fun _=>z) z z z z))
 intro v12 W hS
 have ⟨r6,hr6,h⟩:=bnd h
 have hT0:=hS.p1
 refine .c (.apprv hr6 hT0 hT0.p1.lendv (fun _=>z) T.u23 T.t32 z z z ?_ z z z z z)
 intro v13 W hS
 obtain rfl:=Option.some.inj h
 exact .qn z (.ret (fin_ret (vs:=[_]) v13 (rt z rn) z (hS.to [0] z)))
theorem fds {a0 : Int} {a1 : List Int} {a2 : List Int} {v_1 : Hd} {v_2 : Hd} {w : World} {r : (List Int)} (h : f73 a0 a1 a2 = some r) (q_1 : RV w (Old No w) (sv v_1) 3 1 (D.int .i64) a1) (q_2 : RV w (Old No w) (sv v_2) 3 1 (D.int .i64) a2) : Calls Tryz.prog 53 #[.int .i64 a0,(sv v_1),(sv v_2)] w (Ret No w (fun s : Hd=>(sv s)) (fun s=>[rowV (sv s) 3 1 (D.int .i64) r])):=by
 unfold f73 at h
 refine enter Tryz.func53 z z ?_
 have hS:=Sep.start w
 refine .g (.qn z (.g (.q z (.s (lenv (hS.keep q_2) T.u25 z z) z (.qn z (.g (.q z (.q z (.q z (.qn z (.g (.q z (.q z (.q z (.q z (.q z (.q z (.q z (.q z (.c (.liv [0,(a2.length : Int),w64 (4 * (w64 ((w64 (a0 + 4)) + 24))),w64 (4 * (w64 ((w64 ((w64 (a0 + 4)) + 24)) + (w64 (16 * (a2.length : Int))))))] (D.int .i64) T.u25 T.t3 hS z z z z ?_ z (fun _=>z) z z z z)))))))))))))))))))))
 intro v1 W hS
 refine .qn z (.seq (.g (.qn z (.block ?_))))
 have ⟨y1,hy1,h⟩:=bnd h
 refine .via (.iter (fun s1 E' W'=>∃ (v4 : Hd),SubL E' [(1,(sv v_1)),(2,(sv v_2)),(7,.int .i64 (a2.length : Int)),(8,.int .i64 (w64 ((w64 (a0 + 4)) + 24))),(9,(sv v4)),(10,.int .i64 s1.2)] ∧ Sep No w W' [rowV (sv v4) 3 1 (D.int .i64) s1.1]) (fun y2 x E' W'=>x = .exit 0 ∧ ∃ (v5 : Hd),SubL E' [(2,(sv v_2)),(7,.int .i64 (a2.length : Int)),(8,.int .i64 (w64 ((w64 (a0 + 4)) + 24))),(9,(sv v5))] ∧ Sep No w W' [rowV (sv v5) 3 1 (D.int .i64) y2]) hy1 ⟨v1,sb z,hS.to [0] z⟩ ?_) ?_
 ·intro s1 y3 E W h hI
  obtain ⟨v3,hE,hS⟩:=hI
  refine CW.sub hE ?_
  unfold f4l at h
  refine .seq (.g (.q z (.q z (.nil ?_))))
  refine .cs z h ?_ ?_ <;> intro h
  ·refine .skip (.seq (.block (.g (.q z (.nil ?_)))))
   have ⟨y4,hy4,h⟩:=bnd h
   refine .seq (CW.via (R':=fun x E' W'=>x = .normal ∧ SubL E' [(1,(sv v_1)),(2,(sv v_2)),(7,.int .i64 (a2.length : Int)),(8,.int .i64 (w64 ((w64 (a0 + 4)) + 24))),(9,(sv v3)),(10,.int .i64 s1.2),(11,.int .i64 y4)] ∧ Sep No w W' [rowV (sv v3) 3 1 (D.int .i64) s1.1]) ?_ ?_)
   ·have h:=hy4
    refine .g (.q z (.q z (.s (lenv (hS.keep q_1) T.u25 z z) z (.q z (.nil ?_)))))
    refine .cs z h ?_ ?_ <;> intro h
    ·refine .region (.q z (.q z ?_))
     have ⟨x1,hx1,h⟩:=bnd h
     refine .s (ixv (hS.keep q_1) hx1 T.u25 T.t3 z z z) z (.s (lde (RV.flat (hS.keep q_1) hx1 z) T.t3 z z z z z) z (.q z (.nil ?_)))
     obtain rfl:=Option.some.inj h
     exact ⟨z,sb z,hS.to [0] z⟩
    refine .skip ?_
    cases h
    exact ⟨z,sb z,hS.to [0] z⟩
   intro x E W hJ
   obtain ⟨rfl,hE,hS⟩:=hJ
   refine ⟨_,hE.sub,?_⟩
   refine .region (.q z (.q z (.c (.liv [y4,0,0,0,0,0,0,0] (D.int .i64) T.u25 T.t3 hS z z z z ?_ z (fun _=>z) z z z z))))
   intro v6 W hS
   have ⟨r1,hr1,h⟩:=bnd h
   have hT0:=hS.p1
   refine .c (.apprv hr1 hT0 hT0.p1.lendv (fun _=>z) T.u25 T.t3 z z z ?_ z z z z z)
   intro v7 W hS
   refine .qn z (.region (.q z (.q z (.q z (.nil ?_)))))
   cases h
   exact ⟨z,v7,sb z,hS.to [0] z⟩
  refine .exit ?_
  cases h
  exact ⟨by simp,z,v3,sb z,hS.to [0] z⟩
 intro x E W hJ
 obtain ⟨rfl,v8,hE,hS⟩:=hJ
 refine ⟨_,hE.sub,?_⟩
 refine .seq (.g (.qn z (.block ?_)))
 have ⟨y5,hy5,h⟩:=bnd h
 refine .via (.iter (fun s2 E' W'=>∃ (v11 : Hd),SubL E' [(2,(sv v_2)),(7,.int .i64 (a2.length : Int)),(8,.int .i64 (w64 ((w64 (a0 + 4)) + 24))),(9,(sv v11)),(12,.int .i64 s2.2)] ∧ Sep No w W' [rowV (sv v11) 3 1 (D.int .i64) s2.1]) (fun y6 x E' W'=>x = .exit 2 ∧ ∃ (v12 : Hd),SubL E' [(7,.int .i64 (a2.length : Int)),(9,(sv v12))] ∧ Sep No w W' [rowV (sv v12) 3 1 (D.int .i64) y6]) hy5 ⟨v8,sb z,hS.to [0] z⟩ ?_) ?_
 ·intro s2 y7 E W h hI
  obtain ⟨v10,hE,hS⟩:=hI
  refine CW.sub hE ?_
  unfold f4s at h
  refine .seq (.g (.q z (.q z (.q z (.nil ?_)))))
  refine .cs z h ?_ ?_ <;> intro h
  ·refine .skip (.seq (.block (.seq (.region ?_))))
   have ⟨r2,hr2,h⟩:=bnd h
   refine .c (.mkv 0 (D.int .i64) hr2 T.u25 T.t3 hS z z z z z (fun _=>z) ?_ z z z)
   intro v13 W hS
   refine .qn z (.g (.q z (.q z (.q z ?_))))
   have ⟨x2,hx2,h⟩:=bnd h
   refine .s (ixv (hS.keep q_2) hx2 T.u25 T.t3 z z z) z (.s (lde (RV.flat (hS.keep q_2) hx2 z) T.t3 z z z z z) z (.q z ?_))
   have ⟨x3,hx3,h⟩:=bnd h
   refine .s (ixv hS.lendv hx3 T.u25 T.t3 z z z) z ?_
   have ⟨r3,hr3,h⟩:=bnd h
   refine .c (.sev hr3 hx3 hS T.t3 z z z z z z ?_ z z z z z z)
   intro W hS
   refine .nil (.g (.q z (.q z (.q z (.q z (.q z (.q z (.q z (.q z (.q z ?_))))))))))
   have ⟨x4,hx4,h⟩:=bnd h
   refine .s (ixv hS.lendv hx4 T.u25 T.t3 z z z) z ?_
   have ⟨r4,hr4,h⟩:=bnd h
   refine .c (.sev hr4 hx4 hS T.t3 z z z z z z ?_ z z z z z z)
   intro W hS
   refine .nil (.region (.q z (.q z ?_)))
   have ⟨r5,hr5,h⟩:=bnd h
   have hT0:=hS.p1
   refine .c (.apprv hr5 hT0 hT0.p1.lendv (fun _=>z) T.u25 T.t3 z z z ?_ z z z z z)
   intro v14 W hS
   refine .qn z (.region (.q z (.q z (.q z (.nil ?_)))))
   cases h
   exact ⟨z,v14,sb z,hS.to [0] z⟩
  refine .exit ?_
  cases h
  exact ⟨by simp,z,v10,sb z,hS.to [0] z⟩
 intro x E W hJ
 obtain ⟨rfl,v15,hE,hS⟩:=hJ
 refine ⟨_,hE.sub,?_⟩
 refine .g (.q z (.q z (.q z ?_)))
 have ⟨r6,hr6,h⟩:=bnd h
 refine .c (.appz 0 hr6 hS T.u25 T.u3 T.t3 z z z z ?_ (fun _=>z) z z z z z z)
 intro v16 W hS
 obtain rfl:=Option.some.inj h
 exact .qn z (.ret (fin_ret (vs:=[_]) v16 (rt z rn) z (hS.to [0] z)))
theorem fd8 {a0 : List Int} {a1 : Int} {a2 : Int} {v_0 : Hd} {S : Nat → Prop} {w : World} {r : Machine} (h : f7c a0 a1 a2 = some r) (hO : Owns w [rowV (sv v_0) 3 1 (D.int .i64) a0] S) (hlt : ∀ b,S b → b < w.heap.size) : Calls Tryz.prog 54 #[(sv v_0),.int .i64 a1,.int .i64 a2] w (Ret S w (fun s : Hd × Hd=>.agg #[(sv s.1),.int .i64 r.Pc,(sv s.2)]) (fun s=>[rowV (sv s.1) 3 1 (D.int .i64) r.Regs,rowV (sv s.2) 3 1 (D.int .i64) r.Mem])):=by
 unfold f7c at h
 refine enter Tryz.func54 z z ?_
 have hS:=Sep.startM hO hlt
 refine .g (.c (.alloc T.t27 hS ?_ z z z))
 intro g1 W hS
 refine .nil (.seq (.region ?_))
 have ⟨r1,hr1,h⟩:=bnd h
 refine .c (.mkv 0 (D.int .i64) hr1 T.u25 T.t3 hS z z z z z (fun _=>z) ?_ z z z)
 intro v1 W hS
 refine .q z (.q z (.q z (.s (bs T.s27 z z) z (.c (.alloc T.t27 hS ?_ z z z)))))
 intro g2 W hS
 refine .c (.st T.t27 hS z z z ?_ z z z z z)
 intro W hS
 refine .nil (.g (.q z (.q z (.q z (.qn z (.seq (.rk 8 hS [0,0,0,0] T.mix ?_)))))))
 intro W hS
 have hT:=hS.to [0,0,0,0] z
 refine .ts 0 z (fun W hT=>fa T.f27_0 z z z) hT z (by kernel_rfl) (.ts 1 z (fun W hT=>ld T.t25 hT z z z z z) hT z (by kernel_rfl) (.tp 2 z z hT (by kernel_rfl) (.tp 3 z z hT (by kernel_rfl) (.tp 4 z z hT (by kernel_rfl) ?_))))
 have ⟨x1,hx1,h⟩:=bnd h
 refine .ts 5 z (fun W hT=>ixv hS.p3.lendv hx1 T.u25 T.t3 z z z) hT z (by kernel_rfl) (.ts 6 z (fun W hT=>lde (RV.flat hT.p3.lendv hx1 z) T.t3 z z z z z) hT z (by kernel_rfl) ?_)
 have ⟨x2,hx2,h⟩:=bnd h
 refine .ts 7 z (fun W hT=>ixv hS.p1.lendv hx2 T.u25 T.t3 z z z) hT z (by kernel_rfl) ?_
 have ⟨r2,hr2,h⟩:=bnd h
 refine .by1 8 z (.sev hr2 hx2 hS.p1 T.t3 z z z z z z ?_ z z z z z z) (by kernel_rfl)
 intro W hS
 refine ⟨fun h=>absurd z h,?_⟩
 refine .done (.g (.s (fa T.f27_0 z z z) z (.s (ld T.t25 hS.p1 z z z z z) z (.q z (.q z ?_))))) (by kernel_rfl)
 have ⟨x3,hx3,h⟩:=bnd h
 refine .s (ixv hS.lendv hx3 T.u25 T.t3 z z z) z ?_
 have ⟨r3,hr3,h⟩:=bnd h
 refine .c (.sev hr3 hx3 hS T.t3 z z z z z z ?_ z z z z z z)
 intro W hS
 refine .nil (.g (.s (fa T.f27_0 z z z) z (.s (ld T.t25 hS.p1 z z z z z) z (.q z (.q z ?_)))))
 have ⟨x4,hx4,h⟩:=bnd h
 refine .s (ixv hS.lendv hx4 T.u25 T.t3 z z z) z ?_
 have ⟨r4,hr4,h⟩:=bnd h
 refine .c (.sev hr4 hx4 hS T.t3 z z z z z z ?_ z z z z z z)
 intro W hS
 refine .nil (.g (.s (ld T.t27 hS.p1 z z z z z) z (.c (.st T.t27 hS.p2 z z z ?_ z z z z z))))
 intro W hS
 cases h
 exact .nil (.ret (fin_ret (vs:=[_]) (v1,v_0) (rc hS T.t27 z rn z z) z (hS.to [1,2] z)))
def fdy (w : World) (r : Machine × Int × Bool) : Env → World → Prop:=Fin Tryz.prog Tryz.f26 No w (fun s : Hd × Hd=>.tuple #[.agg #[(sv s.1),.int .i64 r.1.Pc,(sv s.2)],.int .i64 r.2.1,.bool r.2.2]) (fun s=>[rowV (sv s.1) 3 1 (D.int .i64) r.1.Regs,rowV (sv s.2) 3 1 (D.int .i64) r.1.Mem]) .ret
theorem fck {a0 : List Int} {a1 : List (List Instr)} {v_0 : Hd} {v_1 : Hd} {w : World} {r : Machine × Int × Bool} (h : f3j a0 a1 = some r) (q_0 : RV w (Old No w) (sv v_0) 3 1 (D.int .i64) a0) (q_1 : RV w (Old No w) (sv v_1) 23 1 (fun (l : List Instr)=>D.row 32 5 (l.map dInstr)) a1) : Calls Tryz.prog 26 #[(sv v_0),(sv v_1)] w (Ret No w (fun s : Hd × Hd=>.tuple #[.agg #[(sv s.1),.int .i64 r.1.Pc,(sv s.2)],.int .i64 r.2.1,.bool r.2.2]) (fun s=>[rowV (sv s.1) 3 1 (D.int .i64) r.1.Regs,rowV (sv s.2) 3 1 (D.int .i64) r.1.Mem])):=by
 unfold f3j at h
 refine enter Tryz.func26 z z ?_
 have hS:=Sep.start w
 refine .g (.c (.alloc T.t27 hS ?_ z z z))
 intro g1 W hS
 refine .q z (.qn z (.g (.s (bs T.s27 z z) z (.c (.alloc T.t27 hS ?_ z z z)))))
 intro g2 W hS
 refine .c (.st T.t27 hS z z z ?_ z z z z z)
 intro W hS
 refine .nil (.seq (.g (.q z ?_)))
 have ⟨y1,hy1,h⟩:=bnd h
 refine .c (.call0 hS Tryz.func47 (fcb hy1 (hS.keep q_0)) z z ?_ z z z z)
 intro W hS
 refine .q z (.q z ?_)
 have ⟨b1,hb1,h⟩:=bnd h
 refine .chunk 5 24 (b1) hS ?_ ?_
 ·refine .both (!y1) (fun hb=>?_) (fun hb=>?_)
  ·refine .xx hb z (.xx hb z (.xx hb z (.xx hb z ?_)))
   cases sel_t hb hb1
   exact .s (pkt hb z z z) z (.nil (ck 5 hS z z z z))
  have hg1:=hb
  have h:=sel_f hb hb1
  refine .g hg1 (.q z (.g hg1 (.s (lenv (hS.keep q_1) T.u39 z z) z ?_) z)) z
  have ⟨y2,hy2,h⟩:=bnd h
  refine .g hg1 (.c (.call0 hS Tryz.func48 (f08 hy2) z z ?_ z z z z)) z
  intro W hS
  refine .g hg1 (.q z (.s (pkf hg1 z z z) z ?_)) z
  cases h
  exact .nil (ck 5 hS z z z z)
 intro W hS
 refine .nil (.cond z (fun hb=>?_) (fun hb=>?_))
 ·have h:=sel_t hb h
  refine .g (.s (ld T.t27 hS z z z z z) z (.c (.st T.t27 hS.p1 z z z ?_ z z z z z)))
  intro W hS
  refine .q z (.qn z (.ret ?_))
  have hS:=hS.nilv 3 1 (D.int .i64)
  have hS:=hS.nilv 3 1 (D.int .i64)
  cases h
  exact fin_ret (vs:=[_,_,_]) (nilH,nilH) (rc hS.p2 T.t27 z (rt z (rt z rn)) z z) z (hS.to [1,0] z)
 have h:=sel_f hb h
 refine .skip (.g (.c (.liv [] (D.int .i64) T.u25 T.t3 hS z z z z ?_ z (fun _=>z) z z z z)))
 intro v1 W hS
 have ⟨y3,hy3,h⟩:=bnd h
 refine .c (.call1v hS Tryz.func52 (fdv hy3) z z ?_ z z z z)
 intro v2 W hS
 have ⟨y4,hy4,h⟩:=bnd h
 have hS:=hS.p1
 refine .c (.callS2 (L0:=[rowV (sv v1) 3 1 (D.int .i64) []]) hS Tryz.func38 (fun S h1 h2 h3=>(fav hy4 (h3.rdv (k:=0) z) h2 (zz h1))) z z ?_ z z z z)
 rintro v3 W hS
 refine .q z (.q z (.q z (.q z (.qn z (.g (.c (.liv [] (D.int .i64) T.u25 T.t3 hS z z z z ?_ z (fun _=>z) z z z z)))))))
 intro v4 W hS
 refine .qn z (.seq (.g (.qn z (.block ?_))))
 have ⟨y5,hy5,h⟩:=bnd h
 refine .via (.iter (fun s1 E' W'=>∃ (v9 : Hd) (v10 : Hd),SubL E' [(0,(sv v_0)),(1,(sv v_1)),(4,.pointer (some ⟨g1,0,none⟩)),(7,.pointer (some ⟨g2,0,none⟩)),(8,(sv v9)),(10,(sv v10)),(11,.int .i64 s1.2.2)] ∧ Sep No w W' [rowV (sv v2) 32 5 dInstr y3,.box g2 27 [(sv nilH),.int .i64 0,(sv nilH)],.box g1 27 [(sv nilH),.int .i64 0,(sv nilH)],rowV (sv v9) 3 1 (D.int .i64) s1.1,rowV (sv v10) 3 1 (D.int .i64) s1.2.1]) (fun y6 x E' W'=>(match y6 with | .inl o1=>x = .ret ∧ fdy w o1 E' W' | .inr o2=>x = .exit 0 ∧ ∃ (v11 : Hd) (v12 : Hd),SubL E' [(0,(sv v_0)),(4,.pointer (some ⟨g1,0,none⟩)),(7,.pointer (some ⟨g2,0,none⟩)),(8,(sv v11)),(10,(sv v12))] ∧ Sep No w W' [rowV (sv v2) 32 5 dInstr y3,.box g2 27 [(sv nilH),.int .i64 0,(sv nilH)],.box g1 27 [(sv nilH),.int .i64 0,(sv nilH)],rowV (sv v11) 3 1 (D.int .i64) o2.1,rowV (sv v12) 3 1 (D.int .i64) o2.2])) hy5 ⟨v3,v4,sb rfl,hS.to [2,2,2,1,0] rfl⟩ ?_) ?_
 ·intro s1 y7 E W h hI
  obtain ⟨v7,v8,hE,hS⟩:=hI
  refine CW.sub hE ?_
  unfold f2x at h
  refine .seq (.g (.q z (.q z (.s (lenv (hS.keep q_1) T.u39 z z) z (.q z (.nil ?_))))))
  refine .cs z h ?_ ?_ <;> intro h
  ·refine .skip (.seq (.block (.g (.q z (.q z (.s (lenv hS.p3.lendv T.u25 z z) z (.c (.liv [(s1.1.length : Int)] (D.int .i64) T.u25 T.t3 hS z z z z ?_ z (fun _=>z) z z z z))))))))
   intro v13 W hS
   have ⟨r1,hr1,h⟩:=bnd h
   have hT0:=hS.p5
   refine .c (.apprv hr1 hT0 hT0.p1.lendv (fun _=>z) T.u25 T.t3 z z z ?_ z z z z z)
   intro v14 W hS
   refine .qn z (.seq (.g (.q z (.q z ?_))))
   have ⟨x1,hx1,h⟩:=bnd h
   obtain ⟨k1,hd,hck1⟩:=RV.el2 q_1 hx1
   obtain ⟨v15,k1,rfl,q9,hd1⟩:=rrowv q_1 hd
   obtain rfl:=rnil q_1 hd1
   refine .s (ixv (hS.keep q_1) hx1 T.u39 T.t23 z z z) z (.s (lde (hck1 _ hS.agree) T.t23 z z z z z) z (.s (lenv (hS.keep (q9 _ q_1)) T.u23 z z) z (.qn z (.cond z (fun hb=>?_) (fun hb=>?_)))))
   ·have h:=sel_t hb h
    refine .g (.s (ld T.t27 hS.p3 z z z z z) z (.c (.st T.t27 hS.p4 z z z ?_ z z z z z)))
    intro W hS
    refine .q z (.qn z (.ret ?_))
    have hS:=hS.nilv 3 1 (D.int .i64)
    have hS:=hS.nilv 3 1 (D.int .i64)
    cases h
    exact ⟨by simp,z,fin_ret (vs:=[_,_,_]) (nilH,nilH) (rc hS.p2 T.t27 z (rt z (rt z rn)) z z) z (hS.to [1,0] z)⟩
   have h:=sel_f hb h
   refine .skip (.g (.q z (.q z (.q z ?_))))
   have ⟨x2,hx2,h⟩:=bnd h
   obtain ⟨k2,hd,hck2⟩:=RV.el2 q_1 hx2
   obtain ⟨v16,k2,rfl,q10,hd1⟩:=rrowv q_1 hd
   obtain rfl:=rnil q_1 hd1
   refine .s (ixv (hS.keep q_1) hx2 T.u39 T.t23 z z z) z (.s (lde (hck2 _ hS.agree) T.t23 z z z z z) z ?_)
   have ⟨y8,hy8,h⟩:=bnd h
   have hS:=hS.p5
   refine .c (.callS2 (L0:=[rowV (sv v7) 3 1 (D.int .i64) s1.1]) hS Tryz.func38 (fun S h1 h2 h3=>(fav hy8 (hS.keepS (q10 _ q_1) h1) h2 (zz h1))) z z ?_ z z z z)
   rintro v17 W hS
   refine .q z (.q z (.q z (.q z (.qn z (.seq (.g (.q z (.q z (.nil ?_)))))))))
   refine .cs z h ?_ ?_ <;> intro h
   ·refine .g (.s (ld T.t27 hS.p4 z z z z z) z (.c (.st T.t27 hS.p5 z z z ?_ z z z z z)))
    intro W hS
    refine .q z (.qn z (.ret ?_))
    have hS:=hS.nilv 3 1 (D.int .i64)
    have hS:=hS.nilv 3 1 (D.int .i64)
    cases h
    exact ⟨by simp,z,fin_ret (vs:=[_,_,_]) (nilH,nilH) (rc hS.p2 T.t27 z (rt z (rt z rn)) z z) z (hS.to [1,0] z)⟩
   refine .skip (.region (.q z (.qn z (.region (.q z (.q z (.q z (.nil ?_))))))))
   cases h
   exact ⟨z,v17,v14,sb z,hS.to [3,3,3,0,0] z⟩
  refine .exit ?_
  cases h
  exact ⟨by simp,z,v7,v8,sb z,hS.to [0,0,0,0,0] z⟩
 intro x E W hJ
 rcases y5 with o3 | o4
 ·obtain ⟨rfl,hF⟩:=hJ
  refine ⟨_,fun _ _ h=>h,?_⟩
  cases h
  exact hF
 obtain ⟨rfl,v18,v19,hE,hS⟩:=hJ
 refine ⟨_,hE.sub,?_⟩
 refine .g (.q z (.s (lenv hS.p3.lendv T.u25 z z) z (.qn z (.g (.q z (.q z (.q z (.q z ?_))))))))
 have ⟨y9,hy9,h⟩:=bnd h
 refine .c (.call1v hS Tryz.func53 (fds hy9 (hS.keep q_0) hS.p4.lendv) z z ?_ z z z z)
 intro v20 W hS
 have ⟨r2,hr2,h⟩:=bnd h
 have hT0:=hS.p4
 refine .c (.apprv hr2 hT0 hT0.p1.lendv (fun _=>z) T.u25 T.t3 z z z ?_ z z z z z)
 intro v21 W hS
 refine .qn z (.seq (.g (.q z (.s (lenv hS.lendv T.u25 z z) z (.qn z (.cond z (fun hb=>?_) (fun hb=>?_)))))))
 ·have h:=sel_t hb h
  refine .g (.s (ld T.t27 hS.p3 z z z z z) z (.c (.st T.t27 hS.p4 z z z ?_ z z z z z)))
  intro W hS
  refine .q z (.qn z (.ret ?_))
  have hS:=hS.nilv 3 1 (D.int .i64)
  have hS:=hS.nilv 3 1 (D.int .i64)
  cases h
  exact fin_ret (vs:=[_,_,_]) (nilH,nilH) (rc hS.p2 T.t27 z (rt z (rt z rn)) z z) z (hS.to [1,0] z)
 have h:=sel_f hb h
 refine .skip (.g (.q z (.q z (.q z ?_))))
 have ⟨x3,hx3,h⟩:=bnd h
 refine .s (ixv hS.p5.lendv hx3 T.u25 T.t3 z z z) z (.s (lde (RV.flat hS.p5.lendv hx3 z) T.t3 z z z z z) z ?_)
 have ⟨y10,hy10,h⟩:=bnd h
 refine .c (.callS2 (L0:=[rowV (sv v21) 3 1 (D.int .i64) r2]) hS Tryz.func54 (fun S h1 h2 h3=>(fd8 hy10 h2 (zz h1))) z z ?_ z z z z)
 rintro ⟨v22,v23⟩ W hS
 refine .q z (.q z (.c (.st T.t27 hS.p5 z z z ?_ z z z z z)))
 intro W hS
 cases h
 exact .q z (.qn z (.ret (fin_ret (vs:=[_,_,_]) (v22,v23) (rc hS T.t27 z (rt z (rt z rn)) z z) z (hS.to [1,1] z))))
end Go.Proofs.YtmpplggjpmmhlaaGreatDoor.N
namespace Go.Proofs.YtmpplggjpmmhlaaGreatDoor.N
open Go.Proofs.YtmpplggjpmmhlaaGreatDoor.X
theorem fb7 {a0 : Int} {w : World} {r : Instr × Bool} (h : f3k a0 = some r) (hG : Gl w) : Calls Tryz.prog 57 #[.int .i64 a0] w (Ret No w (fun s : Unit=>.tuple #[.agg #[.int .i64 r.1.Op,.int .i64 r.1.Rd,.int .i64 r.1.Rs,.int .i64 r.1.Rt,.int .i64 r.1.Imm],.bool r.2]) (fun s=>[])):=by
 unfold f3k at h
 refine enter Tryz.func57 z z ?_
 have hS:=Sep.start w
 refine .g (.c (.alloc T.t32 hS ?_ z z z))
 intro g1 W hS
 refine .qn z (.seq (.region ?_))
 have ⟨y1,hy1,h⟩:=bnd h
 refine .c (.call1v hS Tryz.func51 (f9l hy1 (hG.at hS (fun _ _ h=>h))) z z ?_ z z z z)
 intro v1 W hS
 refine .qn z (.seq (.g (.q z (.q z (.q z (.chunk 5 13 ((decide (a0 < 0)) || (decide (a0 ≥ (y1.length : Int)))) hS ?_ ?_))))))
 ·refine .both (decide (a0 < 0)) (fun hb=>?_) (fun hb=>?_)
  ·exact .xx hb z (.xx hb z (.xx hb z (.xx hb z (.s (pkt hb z z z) z (.nil (ck 5 hS z (or_t hb) z z))))))
  have hg1:=hb
  exact .g hg1 (.q z (.g hg1 (.q z (.g hg1 (.s (lenv hS.lendv T.u23 z z) z (.g hg1 (.q z (.s (pkf hg1 z z z) z (.nil (ck 5 hS z (or_f hg1) z z)))) z)) z)) z)) z
 intro W hS
 refine .nil ?_
 refine .cs z h ?_ ?_ <;> intro h
 ·refine .g (.s (bs T.s32 z z) z (.c (.st T.t32 hS.p1 z z z ?_ z z z z z)))
  intro W hS
  cases h
  exact .qn z (.ret (fin_ret (vs:=[_,_]) () (rc hS T.t32 z (rt z rn) z z) z (hS.to [] z)))
 refine .skip (.g (.q z (.q z ?_)))
 have ⟨x1,hx1,h⟩:=bnd h
 refine .s (ixv hS.lendv hx1 T.u23 T.t32 z z z) z (.s (lde (RV.flat hS.lendv hx1 z) T.t32 z z z z z) z (.c (.st T.t32 hS.p1 z z z ?_ z z z z z)))
 intro W hS
 cases h
 exact .qn z (.ret (fin_ret (vs:=[_,_]) () (rc hS T.t32 z (rt z rn) z z) z (hS.to [] z)))
theorem fbt {w : World} {r : (List Instr)} (h : f56 = some r) (hG : Gl w) : Calls Tryz.prog 29 #[] w (Ret No w (fun s : Hd=>(sv s)) (fun s=>[rowV (sv s) 32 5 dInstr r])):=by
 unfold f56 at h
 refine enter Tryz.func29 z z ?_
 have hS:=Sep.start w
 refine .g (.qn z (.g (.c (.liv [] dInstr T.u23 T.t32 hS z z z z ?_ z (fun _=>z) z z z z))))
 intro v1 W hS
 refine .qn z (.seq (.g (.qn z (.block ?_))))
 have ⟨y1,hy1,h⟩:=bnd h
 refine .via (.iter (fun s1 E' W'=>∃ (v4 : Hd),SubL E' [(1,(sv v4)),(2,.int .i64 s1.2)] ∧ Sep No w W' [rowV (sv v4) 32 5 dInstr s1.1]) (fun y2 x E' W'=>x = .exit 0 ∧ ∃ (v5 : Hd),SubL E' [(1,(sv v5))] ∧ Sep No w W' [rowV (sv v5) 32 5 dInstr y2]) hy1 ⟨v1,sb z,hS.to [0] z⟩ ?_) ?_
 ·intro s1 y3 E W h hI
  obtain ⟨v3,hE,hS⟩:=hI
  refine CW.sub hE ?_
  unfold f3l at h
  refine .seq (.g (.q z (.q z (.nil ?_))))
  refine .cs z h ?_ ?_ <;> intro h
  ·refine .skip (.seq (.block (.g (.q z ?_))))
   have ⟨y4,hy4,h⟩:=bnd h
   refine .c (.call0 hS Tryz.func57 (fb7 hy4 (hG.at hS (fun _ _ h=>h))) z z ?_ z z z z)
   intro W hS
   refine .q z (.q z (.q z (.c (.alloc T.t32 hS ?_ z z z))))
   intro g1 W hS
   refine .c (.st T.t32 hS z z z ?_ z z z z z)
   intro W hS
   refine .qn z (.region (.q z (.s (ld T.t32 hS z z z z z) z (.c (.liv [y4.1] dInstr T.u23 T.t32 hS z z z z ?_ z (fun _=>z) z z z z)))))
   intro v6 W hS
   have ⟨r1,hr1,h⟩:=bnd h
   have hT0:=hS.p2
   refine .c (.apprv hr1 hT0 hT0.p1.lendv (fun _=>z) T.u23 T.t32 z z z ?_ z z z z z)
   intro v7 W hS
   refine .qn z (.region (.q z (.q z (.q z (.nil ?_)))))
   cases h
   exact ⟨z,v7,sb z,hS.to [0] z⟩
  refine .exit ?_
  cases h
  exact ⟨by simp,z,v3,sb z,hS.to [0] z⟩
 intro x E W hJ
 obtain ⟨rfl,v8,hE,hS⟩:=hJ
 refine ⟨_,hE.sub,?_⟩
 obtain rfl:=Option.some.inj h
 exact .g (.q z (.qn z (.ret (fin_ret (vs:=[_]) v8 (rt z rn) z (hS.to [0] z)))))
def fe5 (w : World) (r : Bool) : Env → World → Prop:=Fin Tryz.prog Tryz.f8 No w (fun s : Unit=>.bool r) (fun s=>[]) .ret
theorem fd4 {k : Nat} {a0 : List Int} {v_0 : Hd} {w : World} {r : Bool} (h : f99 k a0 = some r) (q_0 : RV w (Old No w) (sv v_0) 5 1 (D.int .u8) a0) (hG : Gl w) : Calls Tryz.prog 8 #[(sv v_0)] w (Ret No w (fun s : Unit=>.bool r) (fun s=>[])):=by
 unfold f99 at h
 refine enter Tryz.func8 z z ?_
 have hS:=Sep.start w
 refine .g (.qn z (.seq (.g (.q z (.s (lenv (hS.keep q_0) T.u22 z z) z (.q z (.nil ?_)))))))
 refine .cs z h ?_ ?_ <;> intro h
 ·obtain rfl:=Option.some.inj h
  exact .g (.qn z (.ret (fin_ret (vs:=[_]) () (rt z rn) z (hS.to [] z))))
 refine .skip (.g (.q z ?_))
 have ⟨y1,hy1,h⟩:=bnd h
 refine .c (.call hS Tryz.func24 (fb6 hy1 (hS.keep q_0)) z z ?_ z z z z)
 rintro ⟨v1,v2⟩ W hS
 refine .q z (.q z (.q z (.q z (.qn z (.g (.q z (.q z ?_)))))))
 have ⟨y2,hy2,h⟩:=bnd h
 refine .c (.call hS Tryz.func25 (fc7 hy2 hS.lendv (hS.p1.lendz 0 z) (hG.at hS (fun _ _ h=>h))) z z ?_ z z z z)
 rintro ⟨v3,v4⟩ W hS
 refine .q z (.q z (.q z (.q z (.c (.alloc T.t27 hS ?_ z z z)))))
 intro g1 W hS
 refine .c (.st T.t27 hS z z z ?_ z z z z z)
 intro W hS
 refine .q z (.qn z (.g (.q z (.q z ?_))))
 have ⟨y3,hy3,h⟩:=bnd h
 refine .c (.call hS Tryz.func26 (fck hy3 hS.p3.lendv (hS.p4.lendz 0 z)) z z ?_ z z z z)
 rintro ⟨v5,v6⟩ W hS
 refine .q z (.q z (.q z (.q z (.c (.alloc T.t27 hS ?_ z z z)))))
 intro g2 W hS
 refine .c (.st T.t27 hS z z z ?_ z z z z z)
 intro W hS
 refine .q z (.qn z (.seq (.g (.q z (.q z (.s (neb T.u4 z z z) z (.q z (.chunk 4 45 ((y2.2.2 != y3.2.2) || (y2.2.1 != y3.2.1)) hS ?_ ?_))))))))
 ·refine .both (y2.2.2 != y3.2.2) (fun hb=>?_) (fun hb=>?_)
  ·exact .xx hb z (.xx hb z (.xx hb z (.s (pkt hb z z z) z (.nil (ck 4 hS z (or_t hb) z z)))))
  have hg1:=hb
  exact .g hg1 (.q z (.g hg1 (.q z (.g hg1 (.q z (.s (pkf hg1 z z z) z (.nil (ck 4 hS z (or_f hg1) z z)))) z)) z)) z
 intro W hS
 refine .q z ?_
 have ⟨b1,hb1,h⟩:=bnd h
 refine .chunk 5 51 (b1) hS ?_ ?_
 ·refine .both ((y2.2.2 != y3.2.2) || (y2.2.1 != y3.2.1)) (fun hb=>?_) (fun hb=>?_)
  ·refine .xx hb z (.xx hb z (.xx hb z (.xx hb z ?_)))
   cases sel_t hb hb1
   exact .s (pkt hb z z z) z (.nil (ck 5 hS z z z z))
  have hg2:=hb
  have h:=sel_f hb hb1
  refine .g hg2 (.s (ld T.t27 hS.p3 z z z z z) z (.g hg2 (.s (ld T.t27 hS z z z z z) z ?_) z)) z
  have ⟨y4,hy4,h⟩:=bnd h
  refine .g hg2 (.c (.call0 hS Tryz.func14 (f9m hy4 hS.p4.lendv hS.p5.lendv hS.p1.lendv hS.p2.lendv) z z ?_ z z z z)) z
  intro W hS
  refine .g hg2 (.q z (.s (pkf hg2 z z z) z ?_)) z
  cases h
  exact .nil (ck 5 hS z z z z)
 intro W hS
 refine .q z (.chunk 3 55 (b1 || (!y2.2.2)) hS ?_ ?_)
 ·refine .both (b1) (fun hb=>?_) (fun hb=>?_)
  ·exact .xx hb z (.xx hb z (.s (pkt hb z z z) z (.nil (ck 3 hS z (or_t hb) z z))))
  have hg3:=hb
  exact .g hg3 (.q z (.g hg3 (.q z (.s (pkf hg3 z z z) z (.nil (ck 3 hS z (or_f hg3) z z)))) z)) z
 intro W hS
 refine .nil ?_
 refine .cs z h ?_ ?_ <;> intro h
 ·refine .g (.q z (.q z (.s (eqb T.u4 z z z) z (.q z (.chunk 4 63 ((y2.2.2 == y3.2.2) && (y2.2.1 == y3.2.1)) hS ?_ ?_)))))
  ·refine .both (y2.2.2 == y3.2.2) (fun hb=>?_) (fun hb=>?_)
   ·have hg4:=hb
    exact .g hg4 (.q z (.g hg4 (.q z (.g hg4 (.q z (.s (pkt hg4 z z z) z (.nil (ck 4 hS z (and_t hg4) z z)))) z)) z)) z
   exact .xx hb z (.xx hb z (.xx hb z (.s (pkf hb z z z) z (.nil (ck 4 hS z (and_f hb) z z)))))
  intro W hS
  refine .q z ?_
  have ⟨b2,hb2,h⟩:=bnd h
  refine .chunk 4 68 (b2) hS ?_ ?_
  ·refine .both ((y2.2.2 == y3.2.2) && (y2.2.1 == y3.2.1)) (fun hb=>?_) (fun hb=>?_)
   ·have hg5:=hb
    have h:=sel_t hb hb2
    refine .g hg5 (.s (ld T.t27 hS.p3 z z z z z) z (.g hg5 (.s (ld T.t27 hS z z z z z) z ?_) z)) z
    have ⟨y5,hy5,h⟩:=bnd h
    refine .g hg5 (.c (.call0 hS Tryz.func14 (f9m hy5 hS.p4.lendv hS.p5.lendv hS.p1.lendv hS.p2.lendv) z z ?_ z z z z)) z
    intro W hS
    refine .s (pkt hg5 z z z) z ?_
    cases h
    exact .nil (ck 4 hS z z z z)
   refine .xx hb z (.xx hb z (.xx hb z ?_))
   cases sel_f hb hb2
   exact .s (pkf hb z z z) z (.nil (ck 4 hS z z z z))
  intro W hS
  obtain rfl:=Option.some.inj h
  exact .qn z (.ret (fin_ret (vs:=[_]) () (rt z rn) z (hS.to [] z)))
 refine .skip (.seq (.region ?_))
 have ⟨y6,hy6,h⟩:=bnd h
 refine .c (.call1v hS Tryz.func29 (fbt hy6 (hG.at hS (fun _ _ h=>h))) z z ?_ z z z z)
 intro v7 W hS
 refine .qn z (.seq (.g (.qn z (.block ?_))))
 have ⟨y7,hy7,h⟩:=bnd h
 refine .via (.iter (fun s1 E' W'=>∃ (v10 : Hd),SubL E' [(4,(sv v2)),(5,.pointer (some ⟨g1,0,none⟩)),(6,.int .i64 y2.2.1),(11,(sv v10)),(12,.int .i64 s1.2)] ∧ Sep No w W' [.box g2 27 [(sv v5),.int .i64 y3.1.Pc,(sv v6)],rowV (sv v5) 3 1 (D.int .i64) y3.1.Regs,rowV (sv v6) 3 1 (D.int .i64) y3.1.Mem,.box g1 27 [(sv v3),.int .i64 y2.1.Pc,(sv v4)],rowV (sv v3) 3 1 (D.int .i64) y2.1.Regs,rowV (sv v4) 3 1 (D.int .i64) y2.1.Mem,rowV (sv v1) 3 1 (D.int .i64) y1.1,frzE [((sv v2),23,1,List.map (fun (l : List Instr)=>D.row 32 5 (l.map dInstr)) y1.2)] [],rowV (sv v10) 32 5 dInstr s1.1]) (fun y8 x E' W'=>x = .exit 0 ∧ ∃ (v11 : Hd),SubL E' [(5,.pointer (some ⟨g1,0,none⟩)),(6,.int .i64 y2.2.1),(11,(sv v11))] ∧ Sep No w W' [.box g2 27 [(sv v5),.int .i64 y3.1.Pc,(sv v6)],rowV (sv v5) 3 1 (D.int .i64) y3.1.Regs,rowV (sv v6) 3 1 (D.int .i64) y3.1.Mem,.box g1 27 [(sv v3),.int .i64 y2.1.Pc,(sv v4)],rowV (sv v3) 3 1 (D.int .i64) y2.1.Regs,rowV (sv v4) 3 1 (D.int .i64) y2.1.Mem,rowV (sv v1) 3 1 (D.int .i64) y1.1,frzE [((sv v2),23,1,List.map (fun (l : List Instr)=>D.row 32 5 (l.map dInstr)) y1.2)] [],rowV (sv v11) 32 5 dInstr y8]) hy7 ⟨v7,sb z,hS.to [1,1,1,1,1,1,1,1,0] z⟩ ?_) ?_
 ·intro s1 y9 E W h hI
  obtain ⟨v9,hE,hS⟩:=hI
  refine CW.sub hE ?_
  unfold f4k at h
  refine .seq (.g (.q z (.q z (.s (lenv (hS.p7.lendz 0 z) T.u39 z z) z (.q z (.nil ?_))))))
  refine .cs z h ?_ ?_ <;> intro h
  ·refine .skip (.seq (.block (.region (.q z (.q z (.q z ?_))))))
   have ⟨x1,hx1,h⟩:=bnd h
   refine .s (ixv (hS.p7.lendz 0 z) hx1 T.u39 T.t23 z z z) z ?_
   obtain ⟨v12,hS⟩:=Sep.opz hS.p7 hx1 z
   refine .s (lde (hS.cellz 0 z) T.t23 z z z z z) z ?_
   have ⟨r1,hr1,h⟩:=bnd h
   have hT0:=hS.p8
   refine .c (.apprv hr1 hT0 (hT0.p1.lendz 1 z) (fun _=>z) T.u23 T.t32 z z z ?_ z z z z z)
   intro v13 W hS
   refine .qn z (.region (.q z (.q z (.q z (.nil ?_)))))
   have hS : Sep _ _ _ [frzE [((sv v2),23,1,List.map (fun (l : List Instr)=>D.row 32 5 (l.map dInstr)) y1.2)] [],rowV (sv v13) 32 5 dInstr r1,.box g2 27 [(sv v5),.int .i64 y3.1.Pc,(sv v6)],rowV (sv v5) 3 1 (D.int .i64) y3.1.Regs,rowV (sv v6) 3 1 (D.int .i64) y3.1.Mem,.box g1 27 [(sv v3),.int .i64 y2.1.Pc,(sv v4)],rowV (sv v3) 3 1 (D.int .i64) y2.1.Regs,rowV (sv v4) 3 1 (D.int .i64) y2.1.Mem,rowV (sv v1) 3 1 (D.int .i64) y1.1]:=Sep.wkz hS.p1
   cases h
   exact ⟨z,v13,sb z,hS.to [2,2,2,2,2,2,2,0,0] z⟩
  refine .exit ?_
  cases h
  exact ⟨by simp,z,v9,sb z,hS.to [0,0,0,0,0,0,0,0,0] z⟩
 intro x E W hJ
 obtain ⟨rfl,v14,hE,hS⟩:=hJ
 refine ⟨_,hE.sub,?_⟩
 refine .seq (.g (.qn z (.block ?_)))
 have ⟨y10,hy10,h⟩:=bnd h
 refine .via (.iter (fun s2 E' W'=>SubL E' [(5,.pointer (some ⟨g1,0,none⟩)),(6,.int .i64 y2.2.1),(11,(sv v14)),(13,.int .i64 s2)] ∧ Sep No w W' [.box g2 27 [(sv v5),.int .i64 y3.1.Pc,(sv v6)],rowV (sv v5) 3 1 (D.int .i64) y3.1.Regs,rowV (sv v6) 3 1 (D.int .i64) y3.1.Mem,.box g1 27 [(sv v3),.int .i64 y2.1.Pc,(sv v4)],rowV (sv v3) 3 1 (D.int .i64) y2.1.Regs,rowV (sv v4) 3 1 (D.int .i64) y2.1.Mem,rowV (sv v1) 3 1 (D.int .i64) y1.1,frzE [((sv v2),23,1,List.map (fun (l : List Instr)=>D.row 32 5 (l.map dInstr)) y1.2)] [],rowV (sv v14) 32 5 dInstr y7]) (fun y11 x E' W'=>(match y11 with | .inl o1=>x = .ret ∧ fe5 w o1 E' W' | .inr o2=>x = .exit 2 ∧ SubL E' [(5,.pointer (some ⟨g1,0,none⟩)),(6,.int .i64 y2.2.1),(11,(sv v14))] ∧ Sep No w W' [.box g2 27 [(sv v5),.int .i64 y3.1.Pc,(sv v6)],rowV (sv v5) 3 1 (D.int .i64) y3.1.Regs,rowV (sv v6) 3 1 (D.int .i64) y3.1.Mem,.box g1 27 [(sv v3),.int .i64 y2.1.Pc,(sv v4)],rowV (sv v3) 3 1 (D.int .i64) y2.1.Regs,rowV (sv v4) 3 1 (D.int .i64) y2.1.Mem,rowV (sv v1) 3 1 (D.int .i64) y1.1,frzE [((sv v2),23,1,List.map (fun (l : List Instr)=>D.row 32 5 (l.map dInstr)) y1.2)] [],rowV (sv v14) 32 5 dInstr y7])) hy10 ⟨sb rfl,hS.to [0,0,0,0,0,0,0,0,0] rfl⟩ ?_) ?_
 ·intro s2 y12 E W h hI
  obtain ⟨hE,hS⟩:=hI
  refine CW.sub hE ?_
  unfold f4n at h
  refine .seq (.g (.q z (.q z (.s (lenv hS.p8.lendv T.u23 z z) z (.q z (.nil ?_))))))
  refine .cs z h ?_ ?_ <;> intro h
  ·refine .skip (.seq (.block (.g (.s (fa T.f27_2 z z z) z (.s (ld T.t25 hS.p3 z z z z z) z (.q z ?_))))))
   have ⟨x2,hx2,h⟩:=bnd h
   refine .s (ixv hS.p5.lendv hx2 T.u25 T.t3 z z z) z (.s (lde (RV.flat hS.p5.lendv hx2 z) T.t3 z z z z z) z ?_)
   have ⟨y13,hy13,h⟩:=bnd h
   refine .c (.call0 hS Tryz.func16 (fad hy13) z z ?_ z z z z)
   intro W hS
   have ⟨y14,hy14,h⟩:=bnd h
   refine .c (.call0 hS Tryz.func15 (fbi hy14 (hG.at hS (fun _ _ h=>h))) z z ?_ z z z z)
   intro W hS
   refine .q z (.q z (.q z (.c (.alloc T.t32 hS ?_ z z z))))
   intro g3 W hS
   refine .c (.st T.t32 hS z z z ?_ z z z z z)
   intro W hS
   refine .qn z (.seq ?_)
   have ⟨b3,hb3,h⟩:=bnd h
   refine .via (R':=fun x E' W'=>x = .normal ∧ SubL E' [(5,.pointer (some ⟨g1,0,none⟩)),(6,.int .i64 y2.2.1),(11,(sv v14)),(13,.int .i64 s2),(107,.bool b3)] ∧ Sep No w W' [.box g3 32 [.int .i64 y14.1.Op,.int .i64 y14.1.Rd,.int .i64 y14.1.Rs,.int .i64 y14.1.Rt,.int .i64 y14.1.Imm],.box g2 27 [(sv v5),.int .i64 y3.1.Pc,(sv v6)],rowV (sv v5) 3 1 (D.int .i64) y3.1.Regs,rowV (sv v6) 3 1 (D.int .i64) y3.1.Mem,.box g1 27 [(sv v3),.int .i64 y2.1.Pc,(sv v4)],rowV (sv v3) 3 1 (D.int .i64) y2.1.Regs,rowV (sv v4) 3 1 (D.int .i64) y2.1.Mem,rowV (sv v1) 3 1 (D.int .i64) y1.1,frzE [((sv v2),23,1,List.map (fun (l : List Instr)=>D.row 32 5 (l.map dInstr)) y1.2)] [],rowV (sv v14) 32 5 dInstr y7]) ?_ ?_
   ·refine .rk 10 hS [0,0,0,0,0,0,0,0,0,0] T.mix ?_
    intro W hS
    have hT:=hS.to [0,0,0,0,0,0,0,0,0,0] z
    refine .tp 0 z z hT (by kernel_rfl) (.tp 1 z z hT (by kernel_rfl) (.tp 2 z z hT (by kernel_rfl) (.both (!y14.2) (fun hb=>?_) (fun hb=>?_))))
    ·exact .off 3 z hb hT (.off 4 z hb hT (.off 5 z hb hT (.off 6 z hb hT (.off 7 z hb hT (.off 8 z hb hT (.ts 9 z (fun W hT=>pkt hb z z z) hT z (by kernel_rfl) (.eqv 107 z (bool_eq (sel_t hb hb3)) (.done (⟨z,sb z,hS.to [0,0,0,0,0,0,0,0,0,0] z⟩) (by kernel_rfl)))) (by kernel_rfl) z z) (by kernel_rfl) z z) (by kernel_rfl) z z) (by kernel_rfl) z z) (by kernel_rfl) z z) (by kernel_rfl) z z
    have hg6:=hb
    have h_b3:=sel_f hb hb3
    refine .t1g 3 z hg6 (fun W hT=>ld T.t32 hT z z z z z) hT (.t1g 4 z hg6 (fun W hT=>pr z) hT (.t1g 5 z hg6 (fun W hT=>pr z) hT ?_ (by kernel_rfl) z z) (by kernel_rfl) z z) (by kernel_rfl) z z
    have ⟨x3,hx3,h_b3⟩:=bnd h_b3
    exact .t1g 6 z hg6 (fun W hT=>ixv hS.p9.lendv hx3 T.u23 T.t32 z z z) hT (.t1g 7 z hg6 (fun W hT=>lde (RV.flat hT.p9.lendv hx3 z) T.t32 z z z z z) hT (.t1g 8 z hg6 (fun W hT=>nes T.e32 z z z z) hT (.ts 9 z (fun W hT=>pkf hg6 z z z) hT z (by kernel_rfl) (.eqv 107 z (bool_eq h_b3) (.done (⟨z,sb z,hS.to [0,0,0,0,0,0,0,0,0,0] z⟩) (by kernel_rfl)))) (by kernel_rfl) z z) (by kernel_rfl) z z) (by kernel_rfl) z z
   intro x E W hJ
   obtain ⟨rfl,hE,hS⟩:=hJ
   refine ⟨_,hE.sub,?_⟩
   refine .cs z h ?_ ?_ <;> intro h
   ·refine .g (.qn z (.ret ?_))
    cases h
    exact ⟨by simp,z,fin_ret (vs:=[_]) () (rt z rn) z (hS.to [] z)⟩
   refine .skip (.region (.q z (.q z (.q z (.nil ?_)))))
   cases h
   exact ⟨z,sb z,hS.to [1,1,1,1,1,1,1,1,1] z⟩
  refine .exit ?_
  cases h
  exact ⟨by simp,z,sb z,hS.to [0,0,0,0,0,0,0,0,0] z⟩
 intro x E W hJ
 rcases y10 with o3 | o4
 ·obtain ⟨rfl,hF⟩:=hJ
  refine ⟨_,fun _ _ h=>h,?_⟩
  cases h
  exact hF
 obtain ⟨rfl,hE,hS⟩:=hJ
 refine ⟨_,hE.sub,?_⟩
 refine .g (.s (ld T.t27 hS.p3 z z z z z) z ?_)
 have ⟨y15,hy15,h⟩:=bnd h
 refine .c (.call0 hS Tryz.func17 (fb5 hy15 hS.p4.lendv hS.p5.lendv) z z ?_ z z z z)
 intro W hS
 refine .q z (.chunk 6 116 (y15 && (y2.2.1 == (w64 (4 * (y7.length : Int))))) hS ?_ ?_)
 ·refine .both (y15) (fun hb=>?_) (fun hb=>?_)
  ·have hg7:=hb
   exact .g hg7 (.q z (.g hg7 (.q z (.g hg7 (.s (lenv hS.p8.lendv T.u23 z z) z (.g hg7 (.q z (.g hg7 (.q z (.s (pkt hg7 z z z) z (.nil (ck 6 hS z (and_t hg7) z z)))) z)) z)) z)) z)) z
  exact .xx hb z (.xx hb z (.xx hb z (.xx hb z (.xx hb z (.s (pkf hb z z z) z (.nil (ck 6 hS z (and_f hb) z z)))))))
 intro W hS
 cases h
 exact .qn z (.ret (fin_ret (vs:=[_]) () (rt z rn) z (hS.to [] z)))
end Go.Proofs.YtmpplggjpmmhlaaGreatDoor.N
namespace Go.Proofs.YtmpplggjpmmhlaaGreatDoor.X
variable {P : Program} {w : World} {T : Nat → Prop} {t e : TypeId} {size : Nat} {k : IntKind} {α : Type} {enc : α → D} {H : Type} {en : TypeId × Value → H} {base : Nat} {spare : Nat → Bool} {held : Bool}
def styp (P : Program) (t : TypeId) : Option (List TypeId):=match P.underlying t with
 | some (.struct fs)=>some (fs.toList.map (·.type))
 | _=>none
mutual
def Typ (P : Program) : D → TypeId → Prop
 | .int k n,t=>P.underlying t = some (.int k) ∧ (Lit.int k n).wf = true
 | .bool _,t=>P.underlying t = some .bool
 | .str s,t=>P.underlying t = some .string ∧ s.size ≤ maxLen
 | .row e size xs,t=>P.underlying t = some (.slice e) ∧ size = P.cellsOf e ∧ Typs P xs e
 | .agg xs,t=>∃ ts,styp P t = some ts ∧ TypF P xs ts
def Typs (P : Program) : List D → TypeId → Prop
 | [],_=>True
 | x :: xs,e=>Typ P x e ∧ Typs P xs e
def TypF (P : Program) : List D → List TypeId → Prop
 | [],[]=>True
 | x :: xs,t :: ts=>Typ P x t ∧ TypF P xs ts
 | _,_=>False
end
def contig (P : Program) : List Field → Nat → Option Nat
 | [],k=>some k
 | f :: r,k=>match Nat.beq f.offset k with
  | true=>contig P r (k + P.cellsOf f.type)
  | false=>none
def okT (P : Program) (ts : List TypeId) (t : TypeId) : Bool:=match P.underlying t with
 | some (.int _) | some .bool | some .string=>Nat.beq (P.cellsOf t) 1
 | some (.slice e)=>Nat.beq (P.cellsOf t) 1 && ts.contains e && !(Nat.beq (P.cellsOf e) 0)
 | some (.struct fs)=>(match contig P fs.toList 0 with
  | some n=>Nat.beq n (P.cellsOf t)
  | none=>false) && fs.toList.all (fun f=>ts.contains f.type)
 | _=>false
theorem D.rd_length : ∀ {d : D} {cs : List Value},D.rd w d T cs → cs.length = d.sz
 | .int _ _,_,h=>by simp only [D.rd] at h; subst h; rfl
 | .bool _,_,h=>by simp only [D.rd] at h; subst h; rfl
 | .str _,_,h=>by simp only [D.rd] at h; subst h; rfl
 | .row _ _ _,_,⟨A,cap,c,h1,_⟩=>by subst h1; rfl
 | .agg xs,_,h=>by simp only [D.sz]; exact rds_length (xs:=xs) h
theorem Typs.append : ∀ {xs ys : List D},Typs P xs e → Typs P ys e → Typs P (xs ++ ys) e
 | [],_,_,h=>h
 | x :: xs,_,⟨h1,h2⟩,h=>⟨h1,Typs.append h2 h⟩
theorem old_of_cell {a : Addr} {v : Value} (h : w.cell? a = some v) : Old No w a.block:=⟨World.block_lt_of_cell? w a h,id⟩
theorem trod_typ {ts : List TypeId} (hts : ts.all (okT P ts) = true) : ∀ {fuel : Nat} {t : TypeId} {cs : List Value} {x : DataW H × List MemPlace},t ∈ ts → DataW.trod en P w base spare held fuel t cs = some x → ∃ d,Typ P d t ∧ D.rd w d (Old No w) cs ∧ d.sz = P.cellsOf t:=by
 intro fuel
 induction fuel with
 | zero=>intro t cs x _ h; simp [DataW.trod] at h
 | succ fuel ih =>
  intro t cs x ht h
  have hok:=List.all_eq_true.1 hts t ht
  unfold okT at hok
  split at hok
  ·rename_i k hu
   obtain ⟨n,rfl,_,hw⟩:=DataW.trod_int hu h
   exact ⟨.int k n,⟨hu,hw⟩,rfl,(Nat.eq_of_beq_eq_true hok).symm⟩
  ·rename_i hu
   obtain ⟨b,rfl,_⟩:=DataW.trod_bool hu h
   exact ⟨.bool b,hu,rfl,(Nat.eq_of_beq_eq_true hok).symm⟩
  ·rename_i hu
   obtain ⟨s,rfl,_,hs⟩:=DataW.trod_string hu h
   exact ⟨.str s,⟨hu,hs⟩,rfl,(Nat.eq_of_beq_eq_true hok).symm⟩
  ·rename_i e hu
   simp only [Bool.and_eq_true,Bool.not_eq_true'] at hok
   obtain ⟨⟨h1,h2⟩,h3⟩:=hok
   have he : e ∈ ts:=by simpa using h2
   have h0 : P.cellsOf e ≠ 0:=by intro h0; rw [h0] at h3; cases h3
   have hc1:=(Nat.eq_of_beq_eq_true h1).symm
   rcases DataW.trod_slice hu h with ⟨rfl,_⟩ | ⟨a,len,cap,elems,rest,n,hn,rfl,_,hb,hl,hm,hlen,hel,_,_⟩
   ·exact ⟨.row e (P.cellsOf e) [],⟨hu,rfl,trivial⟩,⟨none,0,[],rfl,Nat.le_refl _,Nat.zero_le _,by simp,fun h=>absurd rfl h,rfl⟩,hc1⟩
   ·obtain rfl : fuel = n:=by omega
    have key : ∀ m,m ≤ len → ∃ ds c,ds.length = m ∧ Typs P ds e ∧ (∀ x ∈ ds,x.sz = P.cellsOf e) ∧ D.rds w ds (Old No w) c ∧ c.length = m * P.cellsOf e ∧ ∀ j u,c[j]? = some u → w.cell? (a.add j) = some u:=by
     intro m
     induction m with
     | zero=>intro _; exact ⟨[],[],rfl,trivial,by simp,rfl,by simp,by simp⟩
     | succ m ihm =>
      intro hle
      obtain ⟨ds,c,k1,k2,k3,k4,k5,k6⟩:=ihm (by omega)
      have hi:=hel m (by omega)
      have hs : ∃ y,elems[m]? = some y:=⟨_,List.getElem?_eq_getElem (by omega)⟩
      obtain ⟨y,hy⟩:=hs
      rw [hy,Option.bind_eq_some_iff] at hi
      obtain ⟨ci,hci,hyi⟩:=hi
      obtain ⟨d,g1,g2,g3⟩:=ih he hyi
      obtain ⟨_,q2,q3⟩:=World.cells?_some hci
      refine ⟨ds ++ [d],c ++ ci,by simp [k1],k2.append ⟨g1,trivial⟩,fun x hx=>?_,rds_app k4 ⟨ci,[],by simp,D.rd_length g2,g2,rfl⟩,by rw [List.length_append,k5,q2,Nat.add_mul]; omega,fun j u hj=>?_⟩
      ·rcases List.mem_append.1 hx with hx | hx
       ·exact k3 x hx
       ·rw [List.mem_singleton.1 hx]; exact g3
      ·rcases Nat.lt_or_ge j c.length with hj' | hj'
       ·rw [List.getElem?_append_left hj'] at hj; exact k6 j u hj
       ·rw [List.getElem?_append_right hj'] at hj
        have hlt : j - c.length < P.cellsOf e:=by
         rcases Nat.lt_or_ge (j - c.length) ci.length with h | h
         ·omega
         ·rw [List.getElem?_eq_none h] at hj; cases hj
        have:=q3 _ hlt
        rw [hj,Addr.add_add,← k5] at this
        rw [show c.length + (j - c.length) = j by omega] at this
        exact this
    obtain ⟨ds,c,k1,k2,k3,k4,k5,k6⟩:=key len (Nat.le_refl _)
    refine ⟨.row e (P.cellsOf e) ds,⟨hu,rfl,k2⟩,⟨some a,cap,c,by rw [k1],by omega,by omega,k3,fun hne=>⟨a,rfl,?_,k6⟩,k4⟩,hc1⟩
    have hpos : 0 < c.length:=by
     rw [k5,← k1]
     exact Nat.mul_pos (List.length_pos_iff.2 hne) (by omega)
    have h6:=k6 0 _ (List.getElem?_eq_getElem hpos)
    simp only [Addr.add,if_true] at h6
    exact old_of_cell h6
  ·rename_i fs hu
   simp only [Bool.and_eq_true] at hok
   obtain ⟨h1,h2⟩:=hok
   split at h1
   ·rename_i tot hcg
    obtain rfl:=Nat.eq_of_beq_eq_true h1
    obtain ⟨xs,n,hn,_,hlen,hxl,hf⟩:=DataW.trod_struct hu h
    obtain rfl : fuel = n:=by omega
    have key : ∀ (gs : List Field) (o : Nat),(∀ f ∈ gs,f.type ∈ ts ∧ ∃ y,DataW.trod en P w base spare held fuel f.type ((cs.drop f.offset).take (P.cellsOf f.type)) = some y) → contig P gs o = some (P.cellsOf t) →
      ∃ ds,TypF P ds (gs.map (·.type)) ∧ D.rds w ds (Old No w) (cs.drop o) ∧ o + D.szs ds = P.cellsOf t:=by
     intro gs
     induction gs with
     | nil =>
      intro o _ hc
      simp only [contig,Option.some.injEq] at hc
      subst hc
      exact ⟨[],trivial,by rw [← hlen,List.drop_length]; rfl,rfl⟩
     | cons f gs ihg =>
      intro o hall hc
      simp only [contig] at hc
      split at hc
      ·rename_i ho
       have ho':=Nat.eq_of_beq_eq_true ho
       obtain ⟨hft,y,hy⟩:=hall f (by simp)
       obtain ⟨d,g1,g2,g3⟩:=ih hft hy
       obtain ⟨ds,q1,q2,q3⟩:=ihg _ (fun g hg=>hall g (by simp [hg])) hc
       rw [ho'] at g2
       refine ⟨d :: ds,⟨g1,q1⟩,⟨_,_,?_,D.rd_length g2,g2,q2⟩,?_⟩
       ·rw [← List.drop_drop,List.take_append_drop]
       ·simp only [D.szs,g3]; omega
      ·cases hc
    obtain ⟨ds,q1,q2,q3⟩:=key fs.toList 0 (fun f hf'=>⟨by have:=List.all_eq_true.1 h2 f hf'; simpa using this,by
      obtain ⟨i,hi⟩:=List.getElem?_of_mem hf'
      have hi' : fs[i]? = some f:=by simpa using hi
      have hlt : i < xs.length:=by
       have:=(List.getElem?_eq_some_iff.1 hi).1
       rw [hxl]
       simpa using this
      exact ⟨_,(hf i f hi').trans (List.getElem?_eq_getElem hlt)⟩⟩) hcg
    exact ⟨.agg ds,⟨_,by simp only [styp,hu],q1⟩,q2,by simp only [D.sz]; omega⟩
   ·cases h1
  ·cases hok
def Dec (P : Program) (t : TypeId) (enc : α → D) (Wf : α → Prop) : Prop:=∀ d,Typ P d t → ∃ x,d = enc x ∧ Wf x
theorem Dec.int (hu : P.underlying t = some (.int k)) : Dec P t (D.int k) (fun n=>(Lit.int k n).wf = true):=by
 intro d h
 cases d with
 | int k' n =>
  obtain ⟨h1,h2⟩:=h
  rw [hu] at h1
  injection h1 with h1
  injection h1 with h1
  subst h1
  exact ⟨n,rfl,h2⟩
 | bool b=>rw [show P.underlying t = some .bool from h] at hu; cases hu
 | str s=>rw [show P.underlying t = some .string from h.1] at hu; cases hu
 | row e s xs=>rw [h.1] at hu; cases hu
 | agg xs=>obtain ⟨ts,h1,_⟩:=h; simp [styp,hu] at h1
theorem Dec.bool (hu : P.underlying t = some .bool) : Dec P t D.bool (fun _=>True):=by
 intro d h
 cases d with
 | bool b=>exact ⟨b,rfl,trivial⟩
 | int k' n=>rw [h.1] at hu; cases hu
 | str s=>rw [show P.underlying t = some .string from h.1] at hu; cases hu
 | row e s xs=>rw [h.1] at hu; cases hu
 | agg xs=>obtain ⟨ts,h1,_⟩:=h; simp [styp,hu] at h1
theorem Dec.str (hu : P.underlying t = some .string) : Dec P t D.str (fun s=>s.size ≤ maxLen):=by
 intro d h
 cases d with
 | str s=>exact ⟨s,rfl,h.2⟩
 | bool b=>rw [show P.underlying t = some .bool from h] at hu; cases hu
 | int k' n=>rw [h.1] at hu; cases hu
 | row e s xs=>rw [h.1] at hu; cases hu
 | agg xs=>obtain ⟨ts,h1,_⟩:=h; simp [styp,hu] at h1
theorem Dec.list {Wf : α → Prop} (h : Dec P e enc Wf) : ∀ {xs : List D},Typs P xs e → ∃ l : List α,xs = l.map enc ∧ ∀ x ∈ l,Wf x
 | [],_=>⟨[],rfl,by simp⟩
 | d :: xs,⟨h1,h2⟩=>by
  obtain ⟨x,rfl,hx⟩:=h d h1
  obtain ⟨l,rfl,hl⟩:=Dec.list h h2
  exact ⟨x :: l,rfl,fun y hy=>(List.mem_cons.1 hy).elim (fun e=>e ▸ hx) (hl y)⟩
theorem Dec.slice {Wf : α → Prop} (hu : P.underlying t = some (.slice e)) (hc : P.cellsOf e = size) (h : Dec P e enc Wf) : Dec P t (fun (l : List α)=>D.row e size (l.map enc)) (fun l=>∀ x ∈ l,Wf x):=by
 intro d hd
 cases d with
 | row e' s xs =>
  obtain ⟨h1,h2,h3⟩:=hd
  rw [hu] at h1
  injection h1 with h1
  injection h1 with h1
  subst h1
  obtain ⟨l,rfl,hl⟩:=h.list h3
  exact ⟨l,by rw [h2,hc],hl⟩
 | bool b=>rw [show P.underlying t = some .bool from hd] at hu; cases hu
 | int k' n=>rw [hd.1] at hu; cases hu
 | str s=>rw [show P.underlying t = some .string from hd.1] at hu; cases hu
 | agg xs=>obtain ⟨ts,h1,_⟩:=hd; simp [styp,hu] at h1
end Go.Proofs.YtmpplggjpmmhlaaGreatDoor.X
namespace Go.Proofs.YtmpplggjpmmhlaaGreatDoor.X
variable {P : Program} {w : World} {T : Nat → Prop} {t e : TypeId} {size : Nat} {k : IntKind} {α : Type} {H : Type} {en : TypeId × Value → H} {base : Nat} {spare : Nat → Bool} {held : Bool}
def dcells : DataW H → List Value
 | .lit (.int k n)=>[.int k n]
 | .lit (.bool b)=>[.bool b]
 | .lit (.string s)=>[.string ⟨s.toArray⟩]
 | .agg ds=>dcellsL ds
 | _=>[]
where dcellsL : List (DataW H) → List Value
 | []=>[]
 | d :: r=>dcells d ++ dcellsL r
theorem dcellsL_map {γ : Type} (f : γ → DataW H) : ∀ {xs : List γ},dcells.dcellsL (xs.map f) = (xs.map fun x=>dcells (f x)).flatten
 | []=>rfl
 | x :: xs=>by simp only [List.map_cons,dcells.dcellsL,List.flatten_cons,dcellsL_map f]
def okF (P : Program) (ts : List TypeId) (t : TypeId) : Bool:=match P.underlying t with
 | some (.int _) | some .bool | some .string=>Nat.beq (P.cellsOf t) 1
 | some (.array n e)=>Nat.beq (P.cellsOf t) (n * P.cellsOf e) && ts.contains e
 | some (.struct fs)=>(match contig P fs.toList 0 with
  | some n=>Nat.beq n (P.cellsOf t)
  | none=>false) && fs.toList.all (fun f=>ts.contains f.type)
 | _=>false
theorem trod_cells {ts : List TypeId} (hts : ts.all (okF P ts) = true) : ∀ {fuel : Nat} {t : TypeId} {cs : List Value} {x : DataW H × List MemPlace},t ∈ ts → DataW.trod en P w base spare held fuel t cs = some x → cs = dcells x.1 ∧ cs.length = P.cellsOf t:=by
 intro fuel
 induction fuel with
 | zero=>intro t cs x _ h; simp [DataW.trod] at h
 | succ fuel ih =>
  intro t cs x ht h
  have hok:=List.all_eq_true.1 hts t ht
  unfold okF at hok
  split at hok
  ·rename_i k hu
   obtain ⟨n,rfl,rfl,hw⟩:=DataW.trod_int hu h
   exact ⟨rfl,(Nat.eq_of_beq_eq_true hok).symm⟩
  ·rename_i hu
   obtain ⟨b,rfl,rfl⟩:=DataW.trod_bool hu h
   exact ⟨rfl,(Nat.eq_of_beq_eq_true hok).symm⟩
  ·rename_i hu
   obtain ⟨s,rfl,rfl,hs⟩:=DataW.trod_string hu h
   exact ⟨by simp [dcells],(Nat.eq_of_beq_eq_true hok).symm⟩
  ·rename_i n e hu
   simp only [Bool.and_eq_true] at hok
   obtain ⟨h1,h2⟩:=hok
   have he : e ∈ ts:=by simpa using h2
   have h1':=Nat.eq_of_beq_eq_true h1
   obtain ⟨xs,m,hn,rfl,hlen,hxl,hel⟩:=DataW.trod_array hu h
   obtain rfl : fuel = m:=by omega
   refine ⟨?_,hlen⟩
   have key : ∀ j,j ≤ n → cs.take (j * P.cellsOf e) = ((xs.take j).map fun y=>dcells y.1).flatten:=by
    intro j
    induction j with
    | zero=>intro _; simp
    | succ j ihj =>
     intro hj
     have hi:=hel j (by omega)
     have hlt : j < xs.length:=by omega
     rw [List.getElem?_eq_getElem hlt] at hi
     obtain ⟨g1,g2⟩:=ih he hi
     rw [← List.take_append_getElem hlt,List.map_append,List.flatten_append,← ihj (by omega)]
     simp only [List.map_cons,List.map_nil,List.flatten_cons,List.flatten_nil,List.append_nil]
     rw [← g1,Nat.add_mul,Nat.one_mul,List.take_add]
   have:=key n (Nat.le_refl _)
   rw [List.take_of_length_le (by omega),List.take_of_length_le (by omega)] at this
   rw [this]
   show _ = dcells.dcellsL (xs.map (·.1))
   rw [dcellsL_map]
  ·rename_i fs hu
   simp only [Bool.and_eq_true] at hok
   obtain ⟨h1,h2⟩:=hok
   split at h1
   ·rename_i tot hcg
    obtain rfl:=Nat.eq_of_beq_eq_true h1
    obtain ⟨xs,n,hn,rfl,hlen,hxl,hf⟩:=DataW.trod_struct hu h
    obtain rfl : fuel = n:=by omega
    refine ⟨?_,hlen⟩
    have key : ∀ (gs : List Field) (o i : Nat),(∀ j f,gs[j]? = some f → fs[i + j]? = some f ∧ f.type ∈ ts) → i + gs.length = xs.length → contig P gs o = some (P.cellsOf t) → cs.drop o = ((xs.drop i).map fun y=>dcells y.1).flatten:=by
     intro gs
     induction gs with
     | nil =>
      intro o i _ hlen2 hc
      simp only [contig,Option.some.injEq] at hc
      simp only [List.length_nil,Nat.add_zero] at hlen2
      rw [hc,← hlen,List.drop_length,hlen2,List.drop_length]
      rfl
     | cons f gs ihg =>
      intro o i hall hlen2 hc
      simp only [contig] at hc
      split at hc
      ·rename_i ho
       have ho':=Nat.eq_of_beq_eq_true ho
       obtain ⟨hf0,hft⟩:=hall 0 f rfl
       have hi:=hf i f (by simpa using hf0)
       have hlt : i < xs.length:=by simp only [List.length_cons] at hlen2; omega
       rw [List.getElem?_eq_getElem hlt,ho'] at hi
       obtain ⟨g1,g2⟩:=ih hft hi
       have hr:=ihg (o + P.cellsOf f.type) (i + 1) (fun j f' hj=>by
        have:=hall (j + 1) f' (by simpa using hj)
        rwa [show i + (j + 1) = i + 1 + j by omega] at this) (by simp only [List.length_cons] at hlen2; omega) hc
       rw [List.drop_eq_getElem_cons hlt,List.map_cons,List.flatten_cons,← g1,← hr,← List.drop_drop,List.take_append_drop]
      ·cases hc
    have:=key fs.toList 0 0 (fun j f hj=>⟨by simpa using hj,by
     have:=List.all_eq_true.1 h2 f (List.mem_of_getElem? hj)
     simpa using this⟩) (by simp [hxl]) hcg
    simp only [List.drop_zero] at this
    rw [this]
    show _ = dcells.dcellsL (xs.map (·.1))
    rw [dcellsL_map]
   ·cases h1
  ·cases hok
theorem flat_get {f : α → List Value} (hs : ∀ x,(f x).length = size) : ∀ {l : List α} {i j : Nat} {x : α} {u : Value},l[i]? = some x → (f x)[j]? = some u → ((l.map f).flatten)[i * size + j]? = some u
 | [],i,j,x,u,h,_=>by simp at h
 | y :: ys,0,j,x,u,h,hu=>by
  have : y = x:=by simpa using h
  subst this
  have hlt : j < (f y).length:=by
   rcases Nat.lt_or_ge j (f y).length with h | h
   ·exact h
   ·rw [List.getElem?_eq_none h] at hu; cases hu
  simp only [List.map_cons,List.flatten_cons,Nat.zero_mul,Nat.zero_add]
  rw [List.getElem?_append_left hlt]
  exact hu
 | y :: ys,i + 1,j,x,u,h,hu=>by
  have ih:=flat_get hs (l:=ys) (i:=i) (j:=j) (by simpa using h) hu
  simp only [List.map_cons,List.flatten_cons]
  rw [List.getElem?_append_right (by rw [hs,Nat.add_mul]; omega),hs]
  rw [show (i + 1) * size + j - size = i * size + j by rw [Nat.add_mul]; omega]
  exact ih
theorem tab_of {g : Nat} {f : α → List Value} {l : List α} {cs : Array Value} (hs : ∀ x,(f x).length = size) (hc : cs.toList = (l.map f).flatten) (hv : ∀ j,w.cell? ⟨g,j,none⟩ = cs[j]?) (h0 : Nat.ble 1 ((l.map f).flatten).length = true) : Tab g size f l w:=
 have h1 : 0 < cs.size:=by
  have h1:=Nat.le_of_ble_eq_true h0
  rw [← hc,Array.length_toList] at h1
  omega
 ⟨World.block_lt_of_cell? w ⟨g,0,none⟩ ((hv 0).trans (Array.getElem?_eq_getElem h1)),fun i x hx j v hj=>by
  rw [hv]
  have:=flat_get hs hx hj
  rw [← hc] at this
  simpa using this⟩
theorem glob_of {g : Nat} {cs : Array Value} {l : List Value} (hc : cs.toList = l) (hv : ∀ j,w.cell? ⟨g,j,none⟩ = cs[j]?) : Glob g l w:=fun j u hj=>by
 rw [hv,← hj,← hc]
 simp
theorem vars_two {sp : Nat → Bool} {n1 n2 : String} {gs : List (DataW H)} {ps : List MemPlace} (h : DataW.TrodVars en P w sp [n1,n2] gs ps) : ∃ g1 g2,gs = [g1,g2]:=by
 match gs,h with
 | [],h=>exact h.elim
 | [g1],h=>obtain ⟨_,_,_,_,_,_,_,_,_,_,h,_⟩:=h; exact h.elim
 | [g1,g2],_=>exact ⟨g1,g2,rfl⟩
 | g1 :: g2 :: g3 :: r,h=>obtain ⟨_,_,_,_,_,_,_,_,_,_,⟨_,_,_,_,_,_,_,_,_,_,h,_⟩,_⟩:=h; exact h.elim
theorem laid_cells {ts : List TypeId} (hts : ts.all (okF P ts) = true) {n : String} {d : DataW Unit} {r : List (String × DataW Unit)} {ps : List MemPlace} {g t : Nat} (hg : P.globalNamed n = some g) (ht : (P.globals[g]?).map (·.type) = some t) (hm : t ∈ ts)
  (h : DataW.LaidVars P w ((n,d) :: r) ps) : ∃ cs : Array Value,cs.toList = dcells d ∧ (∀ j,w.cell? ⟨g,j,none⟩ = cs[j]?) ∧ ∃ qs,DataW.LaidVars P w r qs:=by
 obtain ⟨g',t',cs,fuel,p,q,h1,h2,h3,h4,h5,_⟩:=h
 obtain rfl:=Option.some.inj (hg.symm.trans h1)
 obtain rfl:=Option.some.inj (ht.symm.trans h2)
 exact ⟨cs,(trod_cells hts hm h4).1,fun j=>World.var?_cell hg h3 j,q,h5⟩
end Go.Proofs.YtmpplggjpmmhlaaGreatDoor.X
