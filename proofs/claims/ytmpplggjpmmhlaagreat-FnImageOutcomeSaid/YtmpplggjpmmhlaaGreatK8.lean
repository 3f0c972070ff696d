/- Printed by a program of mine: that the program's functions compute it. What a row says of its arguments, in the program logic's words: data types in general. -/
import Derived.Test.YtmpplggjpmmhlaaGreatK7
import Derived.RowKit
import Derived.ChangeSlices
import Derived.ChangeArms
import Derived.WideShapes
set_option linter.unusedVariables false
set_option linter.unusedSimpArgs false
set_option maxRecDepth 100000
set_option maxHeartbeats 4000000
namespace Go.Proofs.YtmpplggjpmmhlaaGreat.N
open Go.Proofs.YtmpplggjpmmhlaaGreat.X
theorem fd0 {k : Nat} {a0 : L6Rd} {v_0_b : Hd} {g_0 : Nat} {S : Nat → Prop} {w : World} {r : Machine × Int × (List Int) × Int} (h : f6y k a0 = some r) (q_0_b : RV w (Old S w) (sv v_0_b) 5 1 (D.int .u8) a0.b) (hO : Owns w [.box g_0 55 [(sv v_0_b),.int .i64 a0.p]] S) (hlt : ∀ b,S b → b < w.heap.size) : Calls Tryz.prog 10 #[.pointer (some ⟨g_0,0,none⟩)] w (Ret S w (fun s : Hd × Hd × Hd=>.tuple #[.agg #[(sv s.1),.int .i64 r.1.Pc,(sv s.2.1)],.int .i64 r.2.1,(sv s.2.2)]) (fun s=>[.box g_0 55 [(sv v_0_b),.int .i64 r.2.2.2],rowV (sv s.1) 3 1 (D.int .i64) r.1.Regs,rowV (sv s.2.1) 3 1 (D.int .i64) r.1.Mem,rowV (sv s.2.2) 3 1 (D.int .i64) r.2.2.1])):=by
 unfold f6y at h
 refine enter Tryz.func10 z z ?_
 have hS:=Sep.startM hO hlt
 refine .g (.c (.alloc T.t25 hS ?_ z z z))
 intro g1 W hS
 refine .q z (.qn z (.g (.q z ?_)))
 have ⟨y1,hy1,h⟩:=bnd h
 have hS:=hS.p1
 refine .c (.callS2 (L0:=[.box g_0 55 [(sv v_0_b),.int .i64 a0.p]]) hS Tryz.func22 (fun S h1 h2 h3=>(fdl hy1 (hS.keepS q_0_b h1) h2 (zz h1))) z z ?_ z z z z)
 rintro v1 W hS
 refine .qn z (.g (.q z ?_))
 have ⟨y2,hy2,h⟩:=bnd h
 refine .c (.callS2 (L0:=[.box g_0 55 [(sv v_0_b),.int .i64 y1.2]]) hS Tryz.func11 (fun S h1 h2 h3=>(f00 hy2 (hS.keepS q_0_b h1) h2 (zz h1))) z z ?_ z z z z)
 rintro ⟨⟩ W hS
 refine .q z (.q z ?_)
 have ⟨y3,hy3,h⟩:=bnd h
 refine .c (.callS2 (L0:=[.box g_0 55 [(sv v_0_b),.int .i64 y2.2]]) hS Tryz.func11 (fun S h1 h2 h3=>(f00 hy3 (hS.keepS q_0_b h1) h2 (zz h1))) z z ?_ z z z z)
 rintro ⟨⟩ W hS
 refine .q z (.c (.liv [w64 (1 + y2.1),w64 (1 + y3.1)] (D.int .i64) T.u23 T.t3 hS z z z z ?_ z (fun _=>z) z z z z))
 intro v2 W hS
 refine .q z ?_
 have ⟨y4,hy4,h⟩:=bnd h
 refine .c (.call hS Tryz.func23 (fdr hy4 hS.lendv hS.p2.lendv) z z ?_ z z z z)
 rintro ⟨v3,v4⟩ W hS
 refine .q z (.q z (.q z (.q z (.c (.alloc T.t25 hS ?_ z z z)))))
 intro g2 W hS
 refine .c (.st T.t25 hS z z z ?_ z z z z z)
 intro W hS
 refine .q z (.qn z (.g (.q z ?_)))
 have ⟨y5,hy5,h⟩:=bnd h
 have hS:=hS.p4
 refine .c (.callS2 (L0:=[.box g_0 55 [(sv v_0_b),.int .i64 y3.2]]) hS Tryz.func11 (fun S h1 h2 h3=>(f00 hy5 (hS.keepS q_0_b h1) h2 (zz h1))) z z ?_ z z z z)
 rintro ⟨⟩ W hS
 refine .qn z (.seq ?_)
 have ⟨y6,hy6,h⟩:=bnd h
 have ⟨x1,hx1,h⟩:=bnd h
 have ⟨y7,hy7,h⟩:=bnd h
 refine .via (R':=fun x E' W'=>x = .normal ∧ ∃ (g3 : Nat) (v5 : Hd) (v6 : Hd) (v7 : Hd),SubL E' [(2,.pointer (some ⟨g1,0,none⟩)),(7,.int .i64 y4.2.1),(10,.pointer (some ⟨g3,0,none⟩)),(11,(sv v7))] ∧ Sep S w W' [.box g_0 55 [(sv v_0_b),.int .i64 y6.2],.box g2 25 [(sv v3),.int .i64 y4.1.Pc,(sv v4)],rowV (sv v3) 3 1 (D.int .i64) y4.1.Regs,rowV (sv v4) 3 1 (D.int .i64) y4.1.Mem,rowV (sv v2) 3 1 (D.int .i64) [w64 (1 + y2.1),w64 (1 + y3.1)],rowV (sv v1) 68 1 (fun (l : List Instr)=>D.row 87 5 (l.map dInstr)) y1.1,.box g1 25 [(sv nilH),.int .i64 0,(sv nilH)],.box g3 25 [(sv v5),.int .i64 y7.1.Pc,(sv v6)],rowV (sv v5) 3 1 (D.int .i64) y7.1.Regs,rowV (sv v6) 3 1 (D.int .i64) y7.1.Mem,rowV (sv v7) 3 1 (D.int .i64) y7.2.1]) ?_ ?_
 ·refine .rk 17 hS [1,1,1,1,1,1] T.mix ?_
  intro W hS
  have hT:=hS.to [1,1,1,1,1,1] z
  refine .ts 0 z (fun W hT=>ld T.t25 hT z z z z z) hT z (by kernel_rfl) (.tp 1 z z hT (by kernel_rfl) (.tp 3 z z hT (by kernel_rfl) (.by [2,4,13] ⟨⟨_,z,?_⟩,⟨_,z,?_⟩,⟨_,z,?_⟩,trivial⟩ (by kernel_rfl) z)))
  ·refine (.liv [1,10] (D.int .i64) T.u23 T.t3 hS z z z z ?_ z (fun _=>z) z z z z)
   intro v8 W hS
   have hT:=hS.to [2,2,2,2,2,2] z
   refine ⟨fun _=>hT,.by [4,13] ⟨⟨_,z,?_⟩,⟨_,z,?_⟩,trivial⟩ (by kernel_rfl) z⟩
   ·have hS:=hS.p1
    refine (.callS2 (L0:=[.box g_0 55 [(sv v_0_b),.int .i64 y5.2]]) hS Tryz.func11 (fun S h1 h2 h3=>(f00 hy6 (hS.keepS q_0_b h1) h2 (zz h1))) z z ?_ z z z z)
    rintro ⟨⟩ W hS
    have hT:=hS.to [2,2,2,2,2,2] z
    refine ⟨fun _=>hT,.ts 5 z (fun W hT=>ixv hS.p1.lendv hx1 T.u23 T.t3 z z z) hT z (by kernel_rfl) (.by [6,13] ⟨⟨_,z,?_⟩,⟨_,z,?_⟩,trivial⟩ (by kernel_rfl) z)⟩
    ·refine (.runs (lde (RV.flat hS.p1.lendv hx1 z) T.t3 z z z z z) z z ?_)
     have hT:=hS.to [2,2,2,2,2,2] z
     refine ⟨fun _=>hT,.tp 7 z z hT (by kernel_rfl) (.by [8,13] ⟨⟨_,z,?_⟩,⟨_,z,?_⟩,trivial⟩ (by kernel_rfl) z)⟩
     ·refine (.call hS Tryz.func24 (f1b hy7 hS.p3.lendv hS.p4.lendv) z z ?_ z z z z)
      rintro ⟨v9,v10,v11⟩ W hS
      have hT:=hS.to [5,5,5,5,5,5] z
      refine ⟨fun _=>hT,.tp 9 z z hT (by kernel_rfl) (.tp 10 z z hT (by kernel_rfl) (.tp 11 z z hT (by kernel_rfl) (.tp 12 z z hT (by kernel_rfl) (.by1 13 z (.alloc T.t25 hS ?_ z z z) (by kernel_rfl)))))⟩
      intro g4 W hS
      have hT:=hS.to [6,6,6,6,6,6] z
      refine ⟨fun _=>hT,.by1 14 z (.st T.t25 hS z z z ?_ z z z z z) (by kernel_rfl)⟩
      intro W hS
      have hT:=hS.to [6,6,6,6,6,6] z
      refine ⟨fun _=>hT,?_⟩
      exact .tp 15 z z hT (by kernel_rfl) (.tp 16 z z hT (by kernel_rfl) (.done (⟨z,g4,v9,v10,v11,sb z,hS.to [4,5,5,5,5,5,5,0,0,0,0] z⟩) (by kernel_rfl)))
     refine (.alloc T.t25 hS ?_ z z z)
     intro g5 W hS
     have hT:=hS.to [3,3,3,3,3,3] z
     refine ⟨fun _=>hT,.by1 8 z (.call hS Tryz.func24 (f1b hy7 hS.p4.lendv hS.p5.lendv) z z ?_ z z z z) (by kernel_rfl)⟩
     rintro ⟨v12,v13,v14⟩ W hS
     have hT:=hS.to [6,6,6,6,6,6] z
     refine ⟨fun _=>hT,.tp 9 z z hT (by kernel_rfl) (.tp 10 z z hT (by kernel_rfl) (.tp 11 z z hT (by kernel_rfl) (.tp 12 z z hT (by kernel_rfl) (.by1 14 z (.st T.t25 hS.p3 z z z ?_ z z z z z) (by kernel_rfl)))))⟩
     intro W hS
     have hT:=hS.to [6,6,6,6,6,6] z
     refine ⟨fun _=>hT,?_⟩
     exact .tp 15 z z hT (by kernel_rfl) (.tp 16 z z hT (by kernel_rfl) (.done (⟨z,g5,v12,v13,v14,sb z,hS.to [4,5,5,5,5,5,5,0,0,0,0] z⟩) (by kernel_rfl)))
    refine (.alloc T.t25 hS ?_ z z z)
    intro g6 W hS
    have hT:=hS.to [3,3,3,3,3,3] z
    refine ⟨fun _=>hT,.by1 6 z (.runs (lde (RV.flat hS.p2.lendv hx1 z) T.t3 z z z z z) z z ?_) (by kernel_rfl)⟩
    have hT:=hS.to [3,3,3,3,3,3] z
    refine ⟨fun _=>hT,.tp 7 z z hT (by kernel_rfl) (.by1 8 z (.call hS Tryz.func24 (f1b hy7 hS.p4.lendv hS.p5.lendv) z z ?_ z z z z) (by kernel_rfl))⟩
    rintro ⟨v15,v16,v17⟩ W hS
    have hT:=hS.to [6,6,6,6,6,6] z
    refine ⟨fun _=>hT,.tp 9 z z hT (by kernel_rfl) (.tp 10 z z hT (by kernel_rfl) (.tp 11 z z hT (by kernel_rfl) (.tp 12 z z hT (by kernel_rfl) (.by1 14 z (.st T.t25 hS.p3 z z z ?_ z z z z z) (by kernel_rfl)))))⟩
    intro W hS
    have hT:=hS.to [6,6,6,6,6,6] z
    refine ⟨fun _=>hT,?_⟩
    exact .tp 15 z z hT (by kernel_rfl) (.tp 16 z z hT (by kernel_rfl) (.done (⟨z,g6,v15,v16,v17,sb z,hS.to [4,5,5,5,5,5,5,0,0,0,0] z⟩) (by kernel_rfl)))
   refine (.alloc T.t25 hS ?_ z z z)
   intro g7 W hS
   have hT:=hS.to [3,3,3,3,3,3] z
   refine ⟨fun _=>hT,?_⟩
   have hS:=hS.p2
   refine .by1 4 z (.callS2 (L0:=[.box g_0 55 [(sv v_0_b),.int .i64 y5.2]]) hS Tryz.func11 (fun S h1 h2 h3=>(f00 hy6 (hS.keepS q_0_b h1) h2 (zz h1))) z z ?_ z z z z) (by kernel_rfl)
   rintro ⟨⟩ W hS
   have hT:=hS.to [3,3,3,3,3,3] z
   refine ⟨fun _=>hT,.ts 5 z (fun W hT=>ixv hS.p2.lendv hx1 T.u23 T.t3 z z z) hT z (by kernel_rfl) (.by1 6 z (.runs (lde (RV.flat hS.p2.lendv hx1 z) T.t3 z z z z z) z z ?_) (by kernel_rfl))⟩
   have hT:=hS.to [3,3,3,3,3,3] z
   refine ⟨fun _=>hT,.tp 7 z z hT (by kernel_rfl) (.by1 8 z (.call hS Tryz.func24 (f1b hy7 hS.p4.lendv hS.p5.lendv) z z ?_ z z z z) (by kernel_rfl))⟩
   rintro ⟨v18,v19,v20⟩ W hS
   have hT:=hS.to [6,6,6,6,6,6] z
   refine ⟨fun _=>hT,.tp 9 z z hT (by kernel_rfl) (.tp 10 z z hT (by kernel_rfl) (.tp 11 z z hT (by kernel_rfl) (.tp 12 z z hT (by kernel_rfl) (.by1 14 z (.st T.t25 hS.p4 z z z ?_ z z z z z) (by kernel_rfl)))))⟩
   intro W hS
   have hT:=hS.to [6,6,6,6,6,6] z
   refine ⟨fun _=>hT,?_⟩
   exact .tp 15 z z hT (by kernel_rfl) (.tp 16 z z hT (by kernel_rfl) (.done (⟨z,g7,v18,v19,v20,sb z,hS.to [4,5,5,5,5,5,5,0,0,0,0] z⟩) (by kernel_rfl)))
  ·refine (.callS2 (L0:=[.box g_0 55 [(sv v_0_b),.int .i64 y5.2]]) hS Tryz.func11 (fun S h1 h2 h3=>(f00 hy6 (hS.keepS q_0_b h1) h2 (zz h1))) z z ?_ z z z z)
   rintro ⟨⟩ W hS
   have hT:=hS.to [1,1,1,1,1,1] z
   refine ⟨fun _=>hT,.by [2,13] ⟨⟨_,z,?_⟩,⟨_,z,?_⟩,trivial⟩ (by kernel_rfl) z⟩
   ·refine (.liv [1,10] (D.int .i64) T.u23 T.t3 hS z z z z ?_ z (fun _=>z) z z z z)
    intro v21 W hS
    have hT:=hS.to [2,2,2,2,2,2] z
    refine ⟨fun _=>hT,.ts 5 z (fun W hT=>ixv hS.lendv hx1 T.u23 T.t3 z z z) hT z (by kernel_rfl) (.by [6,13] ⟨⟨_,z,?_⟩,⟨_,z,?_⟩,trivial⟩ (by kernel_rfl) z)⟩
    ·refine (.runs (lde (RV.flat hS.lendv hx1 z) T.t3 z z z z z) z z ?_)
     have hT:=hS.to [2,2,2,2,2,2] z
     refine ⟨fun _=>hT,.tp 7 z z hT (by kernel_rfl) (.by [8,13] ⟨⟨_,z,?_⟩,⟨_,z,?_⟩,trivial⟩ (by kernel_rfl) z)⟩
     ·refine (.call hS Tryz.func24 (f1b hy7 hS.p3.lendv hS.p4.lendv) z z ?_ z z z z)
      rintro ⟨v22,v23,v24⟩ W hS
      have hT:=hS.to [5,5,5,5,5,5] z
      refine ⟨fun _=>hT,.tp 9 z z hT (by kernel_rfl) (.tp 10 z z hT (by kernel_rfl) (.tp 11 z z hT (by kernel_rfl) (.tp 12 z z hT (by kernel_rfl) (.by1 13 z (.alloc T.t25 hS ?_ z z z) (by kernel_rfl)))))⟩
      intro g8 W hS
      have hT:=hS.to [6,6,6,6,6,6] z
      refine ⟨fun _=>hT,.by1 14 z (.st T.t25 hS z z z ?_ z z z z z) (by kernel_rfl)⟩
      intro W hS
      have hT:=hS.to [6,6,6,6,6,6] z
      refine ⟨fun _=>hT,?_⟩
      exact .tp 15 z z hT (by kernel_rfl) (.tp 16 z z hT (by kernel_rfl) (.done (⟨z,g8,v22,v23,v24,sb z,hS.to [5,5,5,5,5,5,5,0,0,0,0] z⟩) (by kernel_rfl)))
     refine (.alloc T.t25 hS ?_ z z z)
     intro g9 W hS
     have hT:=hS.to [3,3,3,3,3,3] z
     refine ⟨fun _=>hT,.by1 8 z (.call hS Tryz.func24 (f1b hy7 hS.p4.lendv hS.p5.lendv) z z ?_ z z z z) (by kernel_rfl)⟩
     rintro ⟨v25,v26,v27⟩ W hS
     have hT:=hS.to [6,6,6,6,6,6] z
     refine ⟨fun _=>hT,.tp 9 z z hT (by kernel_rfl) (.tp 10 z z hT (by kernel_rfl) (.tp 11 z z hT (by kernel_rfl) (.tp 12 z z hT (by kernel_rfl) (.by1 14 z (.st T.t25 hS.p3 z z z ?_ z z z z z) (by kernel_rfl)))))⟩
     intro W hS
     have hT:=hS.to [6,6,6,6,6,6] z
     refine ⟨fun _=>hT,?_⟩
     exact .tp 15 z z hT (by kernel_rfl) (.tp 16 z z hT (by kernel_rfl) (.done (⟨z,g9,v25,v26,v27,sb z,hS.to [5,5,5,5,5,5,5,0,0,0,0] z⟩) (by kernel_rfl)))
    refine (.alloc T.t25 hS ?_ z z z)
    intro g10 W hS
    have hT:=hS.to [3,3,3,3,3,3] z
    refine ⟨fun _=>hT,.by1 6 z (.runs (lde (RV.flat hS.p1.lendv hx1 z) T.t3 z z z z z) z z ?_) (by kernel_rfl)⟩
    have hT:=hS.to [3,3,3,3,3,3] z
    refine ⟨fun _=>hT,.tp 7 z z hT (by kernel_rfl) (.by1 8 z (.call hS Tryz.func24 (f1b hy7 hS.p4.lendv hS.p5.lendv) z z ?_ z z z z) (by kernel_rfl))⟩
    rintro ⟨v28,v29,v30⟩ W hS
    have hT:=hS.to [6,6,6,6,6,6] z
    refine ⟨fun _=>hT,.tp 9 z z hT (by kernel_rfl) (.tp 10 z z hT (by kernel_rfl) (.tp 11 z z hT (by kernel_rfl) (.tp 12 z z hT (by kernel_rfl) (.by1 14 z (.st T.t25 hS.p3 z z z ?_ z z z z z) (by kernel_rfl)))))⟩
    intro W hS
    have hT:=hS.to [6,6,6,6,6,6] z
    refine ⟨fun _=>hT,?_⟩
    exact .tp 15 z z hT (by kernel_rfl) (.tp 16 z z hT (by kernel_rfl) (.done (⟨z,g10,v28,v29,v30,sb z,hS.to [5,5,5,5,5,5,5,0,0,0,0] z⟩) (by kernel_rfl)))
   refine (.alloc T.t25 hS ?_ z z z)
   intro g11 W hS
   have hT:=hS.to [2,2,2,2,2,2] z
   refine ⟨fun _=>hT,.by1 2 z (.liv [1,10] (D.int .i64) T.u23 T.t3 hS z z z z ?_ z (fun _=>z) z z z z) (by kernel_rfl)⟩
   intro v31 W hS
   have hT:=hS.to [3,3,3,3,3,3] z
   refine ⟨fun _=>hT,.ts 5 z (fun W hT=>ixv hS.lendv hx1 T.u23 T.t3 z z z) hT z (by kernel_rfl) (.by1 6 z (.runs (lde (RV.flat hS.lendv hx1 z) T.t3 z z z z z) z z ?_) (by kernel_rfl))⟩
   have hT:=hS.to [3,3,3,3,3,3] z
   refine ⟨fun _=>hT,.tp 7 z z hT (by kernel_rfl) (.by1 8 z (.call hS Tryz.func24 (f1b hy7 hS.p4.lendv hS.p5.lendv) z z ?_ z z z z) (by kernel_rfl))⟩
   rintro ⟨v32,v33,v34⟩ W hS
   have hT:=hS.to [6,6,6,6,6,6] z
   refine ⟨fun _=>hT,.tp 9 z z hT (by kernel_rfl) (.tp 10 z z hT (by kernel_rfl) (.tp 11 z z hT (by kernel_rfl) (.tp 12 z z hT (by kernel_rfl) (.by1 14 z (.st T.t25 hS.p4 z z z ?_ z z z z z) (by kernel_rfl)))))⟩
   intro W hS
   have hT:=hS.to [6,6,6,6,6,6] z
   refine ⟨fun _=>hT,?_⟩
   exact .tp 15 z z hT (by kernel_rfl) (.tp 16 z z hT (by kernel_rfl) (.done (⟨z,g11,v32,v33,v34,sb z,hS.to [5,5,5,5,5,5,5,0,0,0,0] z⟩) (by kernel_rfl)))
  refine (.alloc T.t25 hS ?_ z z z)
  intro g12 W hS
  have hT:=hS.to [2,2,2,2,2,2] z
  refine ⟨fun _=>hT,.by [2,4] ⟨⟨_,z,?_⟩,⟨_,z,?_⟩,trivial⟩ (by kernel_rfl) z⟩
  ·refine (.liv [1,10] (D.int .i64) T.u23 T.t3 hS z z z z ?_ z (fun _=>z) z z z z)
   intro v35 W hS
   have hT:=hS.to [3,3,3,3,3,3] z
   refine ⟨fun _=>hT,?_⟩
   have hS:=hS.p2
   refine .by1 4 z (.callS2 (L0:=[.box g_0 55 [(sv v_0_b),.int .i64 y5.2]]) hS Tryz.func11 (fun S h1 h2 h3=>(f00 hy6 (hS.keepS q_0_b h1) h2 (zz h1))) z z ?_ z z z z) (by kernel_rfl)
   rintro ⟨⟩ W hS
   have hT:=hS.to [3,3,3,3,3,3] z
   refine ⟨fun _=>hT,.ts 5 z (fun W hT=>ixv hS.p1.lendv hx1 T.u23 T.t3 z z z) hT z (by kernel_rfl) (.by1 6 z (.runs (lde (RV.flat hS.p1.lendv hx1 z) T.t3 z z z z z) z z ?_) (by kernel_rfl))⟩
   have hT:=hS.to [3,3,3,3,3,3] z
   refine ⟨fun _=>hT,.tp 7 z z hT (by kernel_rfl) (.by1 8 z (.call hS Tryz.func24 (f1b hy7 hS.p4.lendv hS.p5.lendv) z z ?_ z z z z) (by kernel_rfl))⟩
   rintro ⟨v36,v37,v38⟩ W hS
   have hT:=hS.to [6,6,6,6,6,6] z
   refine ⟨fun _=>hT,.tp 9 z z hT (by kernel_rfl) (.tp 10 z z hT (by kernel_rfl) (.tp 11 z z hT (by kernel_rfl) (.tp 12 z z hT (by kernel_rfl) (.by1 14 z (.st T.t25 hS.p5 z z z ?_ z z z z z) (by kernel_rfl)))))⟩
   intro W hS
   have hT:=hS.to [6,6,6,6,6,6] z
   refine ⟨fun _=>hT,?_⟩
   exact .tp 15 z z hT (by kernel_rfl) (.tp 16 z z hT (by kernel_rfl) (.done (⟨z,g12,v36,v37,v38,sb z,hS.to [4,5,5,5,5,5,5,0,0,0,0] z⟩) (by kernel_rfl)))
  have hS:=hS.p1
  refine (.callS2 (L0:=[.box g_0 55 [(sv v_0_b),.int .i64 y5.2]]) hS Tryz.func11 (fun S h1 h2 h3=>(f00 hy6 (hS.keepS q_0_b h1) h2 (zz h1))) z z ?_ z z z z)
  rintro ⟨⟩ W hS
  have hT:=hS.to [2,2,2,2,2,2] z
  refine ⟨fun _=>hT,.by1 2 z (.liv [1,10] (D.int .i64) T.u23 T.t3 hS z z z z ?_ z (fun _=>z) z z z z) (by kernel_rfl)⟩
  intro v39 W hS
  have hT:=hS.to [3,3,3,3,3,3] z
  refine ⟨fun _=>hT,.ts 5 z (fun W hT=>ixv hS.lendv hx1 T.u23 T.t3 z z z) hT z (by kernel_rfl) (.by1 6 z (.runs (lde (RV.flat hS.lendv hx1 z) T.t3 z z z z z) z z ?_) (by kernel_rfl))⟩
  have hT:=hS.to [3,3,3,3,3,3] z
  refine ⟨fun _=>hT,.tp 7 z z hT (by kernel_rfl) (.by1 8 z (.call hS Tryz.func24 (f1b hy7 hS.p4.lendv hS.p5.lendv) z z ?_ z z z z) (by kernel_rfl))⟩
  rintro ⟨v40,v41,v42⟩ W hS
  have hT:=hS.to [6,6,6,6,6,6] z
  refine ⟨fun _=>hT,.tp 9 z z hT (by kernel_rfl) (.tp 10 z z hT (by kernel_rfl) (.tp 11 z z hT (by kernel_rfl) (.tp 12 z z hT (by kernel_rfl) (.by1 14 z (.st T.t25 hS.p5 z z z ?_ z z z z z) (by kernel_rfl)))))⟩
  intro W hS
  have hT:=hS.to [6,6,6,6,6,6] z
  refine ⟨fun _=>hT,?_⟩
  exact .tp 15 z z hT (by kernel_rfl) (.tp 16 z z hT (by kernel_rfl) (.done (⟨z,g12,v40,v41,v42,sb z,hS.to [5,5,5,5,5,5,5,0,0,0,0] z⟩) (by kernel_rfl)))
 intro x E W hJ
 obtain ⟨rfl,g13,v43,v44,v45,hE,hS⟩:=hJ
 refine ⟨_,hE.sub,?_⟩
 refine .g (.s (ld T.t25 hS.p7 z z z z z) z (.q z (.q z (.c (.st T.t25 hS.p6 z z z ?_ z z z z z)))))
 intro W hS
 cases h
 exact .q z (.qn z (.ret (fin_ret (vs:=[_,_,_]) (v43,v44,v45) (rc hS T.t25 z (rt z (rt z rn)) z z) z (hS.to [1,7,7,7] z))))
theorem fb0 {k : Nat} {a0 : List Int} {v_0 : Hd} {w : World} {r : Machine × Int × (List Int)} (h : f2i k a0 = some r) (q_0 : RV w (Old No w) (sv v_0) 5 1 (D.int .u8) a0) : Calls Tryz.prog 4 #[(sv v_0)] w (Ret No w (fun s : Hd × Hd × Hd=>.tuple #[.agg #[(sv s.1),.int .i64 r.1.Pc,(sv s.2.1)],.int .i64 r.2.1,(sv s.2.2)]) (fun s=>[rowV (sv s.1) 3 1 (D.int .i64) r.1.Regs,rowV (sv s.2.1) 3 1 (D.int .i64) r.1.Mem,rowV (sv s.2.2) 3 1 (D.int .i64) r.2.2])):=by
 unfold f2i at h
 refine enter Tryz.func4 z z ?_
 have hS:=Sep.start w
 have Q_0:=q_0
 refine .g (.c (.alloc T.t25 hS ?_ z z z))
 intro g1 W hS
 refine .q z (.qn z (.g (.q z ?_)))
 have ⟨y1,hy1,h⟩:=bnd h
 have hQ1:=hS
 refine .c (.call hS Tryz.func9 (ff5 hy1 (hS.keep q_0)) z z ?_ z z z z)
 rintro ⟨g2,⟨v1,q1⟩⟩ W hS
 refine .qn z (.g (.q z ?_))
 have ⟨y2,hy2,h⟩:=bnd h
 refine .c (.callS2 (L0:=[.box g2 55 [(sv v1),.int .i64 y1.p]]) hS Tryz.func10 (fun S h1 h2 h3=>(fd0 hy2 (hS.keepS (hQ1.wasA (q1 _ (hQ1.keepA q_0 Q_0))) h1) h2 (zz h1))) z z ?_ z z z z)
 rintro ⟨v2,v3,v4⟩ W hS
 refine .q z (.q z (.q z (.q z (.c (.alloc T.t25 hS ?_ z z z)))))
 intro g3 W hS
 refine .c (.st T.t25 hS z z z ?_ z z z z z)
 intro W hS
 refine .q z (.q z (.nil ?_))
 have ⟨y3,hy3,h⟩:=bnd h
 refine .seq (CW.via (R':=fun x E' W'=>x = .normal ∧ ∃ (v5 : Hd),SubL E' [(2,.pointer (some ⟨g1,0,none⟩)),(6,.pointer (some ⟨g3,0,none⟩)),(7,.int .i64 y3.1),(8,(sv v5))] ∧ Sep No w W' [.box g3 25 [(sv v2),.int .i64 y2.1.Pc,(sv v3)],.box g2 55 [(sv v1),.int .i64 y3.2.2.1],rowV (sv v2) 3 1 (D.int .i64) y2.1.Regs,rowV (sv v3) 3 1 (D.int .i64) y3.2.2.2,.box g1 25 [(sv nilH),.int .i64 0,(sv nilH)],rowV (sv v5) 3 1 (D.int .i64) y3.2.1]) ?_ ?_)
 ·have h:=hy3
  refine .g (.q z ?_)
  have ⟨y4,hy4,h⟩:=bnd h
  have hS:=hS.p1
  refine .c (.callS2 (L0:=[.box g2 55 [(sv v1),.int .i64 y2.2.2.2]]) hS Tryz.func11 (fun S h1 h2 h3=>(f00 hy4 (hS.keepS (hQ1.wasA (q1 _ (hQ1.keepA q_0 Q_0))) h1) h2 (zz h1))) z z ?_ z z z z)
  rintro ⟨⟩ W hS
  refine .nil (.block (.g (.q z (.qn z (.cond z (fun hb=>?_) (fun hb=>?_))))))
  ·have h:=sel_t hb h
   refine .region (.q z (.c (.liv [(-4),1,40000] (D.int .i64) T.u23 T.t3 hS z z z z ?_ z (fun _=>z) z z z z)))
   intro v6 W hS
   refine .q z ?_
   have ⟨y5,hy5,h⟩:=bnd h
   have hS:=hS.p1
   refine .c (.callS2 (L0:=[.box g2 55 [(sv v1),.int .i64 y4.2]]) hS Tryz.func11 (fun S h1 h2 h3=>(f00 hy5 (hS.keepS (hQ1.wasA (q1 _ (hQ1.keepA q_0 Q_0))) h1) h2 (zz h1))) z z ?_ z z z z)
   rintro ⟨⟩ W hS
   have ⟨x1,hx1,h⟩:=bnd h
   refine .s (ixv hS.p1.lendv hx1 T.u23 T.t3 z z z) z (.s (lde (RV.flat hS.p1.lendv hx1 z) T.t3 z z z z z) z (.q z (.q z (.nil ?_))))
   cases h
   exact ⟨z,v4,sb z,hS.to [2,0,1,1,2,1] z⟩
  have h:=sel_f hb h
  refine .g (.q z (.q z (.nil ?_)))
  refine .cs z h ?_ ?_ <;> intro h
  ·refine .region (.s (fa T.f25_2 z z z) z (.s (ld T.t23 hS.p1 z z z z z) z (.q z (.q z (.q z ?_)))))
   have ⟨x2,hx2,h⟩:=bnd h
   refine .s (ixv hS.p3.lendv hx2 T.u23 T.t3 z z z) z ?_
   have ⟨r1,hr1,h⟩:=bnd h
   refine .c (.sev hr1 hx2 hS.p3 T.t3 z z z z z z ?_ z z z z z z)
   intro W hS
   refine .nil ?_
   cases h
   exact ⟨z,v4,sb z,hS.to [2,1,1,0,1,0] z⟩
  refine .g (.q z (.q z (.nil ?_)))
  refine .cs z h ?_ ?_ <;> intro h
  ·refine .region (.q z (.c (.liv [2147483648] (D.int .i64) T.u23 T.t3 hS z z z z ?_ z (fun _=>z) z z z z)))
   intro v7 W hS
   have ⟨r2,hr2,h⟩:=bnd h
   have hT0:=hS.p5
   refine .c (.apprv hr2 hT0 hT0.p1.lendv (fun _=>z) T.u23 T.t3 z z z ?_ z z z z z)
   intro v8 W hS
   refine .q z (.nil ?_)
   cases h
   exact ⟨z,v8,sb z,hS.to [3,2,2,2,2,0] z⟩
  refine .skip ?_
  cases h
  exact ⟨z,v4,sb z,hS.to [1,0,0,0,1,0] z⟩
 intro x E W hJ
 obtain ⟨rfl,v9,hE,hS⟩:=hJ
 refine ⟨_,hE.sub,?_⟩
 refine .g (.s (ld T.t25 hS z z z z z) z (.q z (.q z (.c (.st T.t25 hS.p4 z z z ?_ z z z z z)))))
 intro W hS
 cases h
 exact .q z (.qn z (.ret (fin_ret (vs:=[_,_,_]) (v2,v3,v9) (rc hS T.t25 z (rt z (rt z rn)) z z) z (hS.to [3,3,3] z))))
theorem fas {a0 : Int} {w : World} {r : Bool} (h : f10 a0 = some r) : Calls Tryz.prog 25 #[.int .i64 a0] w (Ret No w (fun s : Unit=>.bool r) (fun s=>[])):=by
 unfold f10 at h
 refine enter Tryz.func25 z z ?_
 have hS:=Sep.start w
 refine .g (.qn z (.g (.q z (.q z (.q z (.chunk 3 8 ((decide (a0 ≥ (-2147483648))) && (decide (a0 ≤ 2147483647))) hS ?_ ?_))))))
 ·refine .both (decide (a0 ≥ (-2147483648))) (fun hb=>?_) (fun hb=>?_)
  ·have hg1:=hb
   exact .g hg1 (.q z (.g hg1 (.q z (.s (pkt hg1 z z z) z (.nil (ck 3 hS z (and_t hg1) z z)))) z)) z
  exact .xx hb z (.xx hb z (.s (pkf hb z z z) z (.nil (ck 3 hS z (and_f hb) z z))))
 intro W hS
 cases h
 exact .qn z (.ret (fin_ret (vs:=[_]) () (rt z rn) z (hS.to [] z)))
def feg (w : World) (r : Bool) : Env → World → Prop:=Fin Tryz.prog Tryz.f13 No w (fun s : Unit=>.bool r) (fun s=>[]) .ret
theorem f68 {a0 : List Int} {v_0 : Hd} {w : World} {r : Bool} (h : f1e a0 = some r) (q_0 : RV w (Old No w) (sv v_0) 3 1 (D.int .i64) a0) : Calls Tryz.prog 13 #[(sv v_0)] w (Ret No w (fun s : Unit=>.bool r) (fun s=>[])):=by
 unfold f1e at h
 refine enter Tryz.func13 z z ?_
 have hS:=Sep.start w
 refine .g (.qn z (.seq (.g (.q z (.s (lenv (hS.keep q_0) T.u23 z z) z (.qn z (.block ?_)))))))
 have ⟨y1,hy1,h⟩:=bnd h
 refine .via (.iter (fun s1 E' W'=>SubL E' [(5,(sv v_0)),(6,.int .i64 (a0.length : Int)),(7,.int .i64 s1)] ∧ Sep No w W' []) (fun y2 x E' W'=>(match y2 with | .inl o1=>x = .ret ∧ feg w o1 E' W' | .inr o2=>x = .exit 0 ∧ SubL E' [] ∧ Sep No w W' [])) hy1 ⟨sb rfl,hS.to [] rfl⟩ ?_) ?_
 ·intro s1 y3 E W h hI
  obtain ⟨hE,hS⟩:=hI
  refine CW.sub hE ?_
  unfold f1h at h
  refine .g (.qn z (.seq ?_))
  refine .cs z h ?_ ?_ <;> intro h
  ·refine .skip (.seq (.block (.seq (.region ?_))))
   have ⟨x1,hx1,h⟩:=bnd h
   refine .s (ixv (hS.keep q_0) hx1 T.u23 T.t3 z z z) z (.s (lde (RV.flat (hS.keep q_0) hx1 z) T.t3 z z z z z) z (.qn z (.g (.q z ?_))))
   have ⟨y4,hy4,h⟩:=bnd h
   refine .c (.call0 hS Tryz.func25 (fas hy4) z z ?_ z z z z)
   intro W hS
   refine .q z (.nil ?_)
   refine .cs z h ?_ ?_ <;> intro h
   ·refine .g (.qn z (.ret ?_))
    cases h
    exact ⟨by simp,z,fin_ret (vs:=[_]) () (rt z rn) z (hS.to [] z)⟩
   refine .skip (.region (.q z (.q z (.nil ?_))))
   cases h
   exact ⟨z,sb z,hS.to [] z⟩
  refine .exit ?_
  cases h
  exact ⟨by simp,z,sb z,hS.to [] z⟩
 intro x E W hJ
 rcases y1 with o3 | o4
 ·obtain ⟨rfl,hF⟩:=hJ
  refine ⟨_,fun _ _ h=>h,?_⟩
  cases h
  exact hF
 obtain ⟨rfl,hE,hS⟩:=hJ
 refine ⟨_,hE.sub,?_⟩
 obtain rfl:=Option.some.inj h
 exact .g (.qn z (.ret (fin_ret (vs:=[_]) () (rt z rn) z (hS.to [] z))))
theorem fbx {a0 : Machine} {v_0_Regs : Hd} {v_0_Mem : Hd} {w : World} {r : Bool} (h : f0w a0 = some r) (q_0_Regs : RV w (Old No w) (sv v_0_Regs) 3 1 (D.int .i64) a0.Regs) (q_0_Mem : RV w (Old No w) (sv v_0_Mem) 3 1 (D.int .i64) a0.Mem) : Calls Tryz.prog 12 #[.agg #[(sv v_0_Regs),.int .i64 a0.Pc,(sv v_0_Mem)]] w (Ret No w (fun s : Unit=>.bool r) (fun s=>[])):=by
 unfold f0w at h
 refine enter Tryz.func12 z z ?_
 have hS:=Sep.start w
 refine .g (.c (.box hS z z ?_ z z))
 intro g1 W hS
 refine .qn z (.g (.s (fa T.f25_0 z z z) z (.s (ld T.t23 hS z z z z z) z (.s (lenv (hS.keep q_0_Regs) T.u23 z z) z (.q z (.q z ?_))))))
 have ⟨b1,hb1,h⟩:=bnd h
 refine .chunk 4 11 (b1) hS ?_ ?_
 ·refine .both ((a0.Regs.length : Int) == 32) (fun hb=>?_) (fun hb=>?_)
  ·have hg1:=hb
   have h:=sel_t hb hb1
   refine .g hg1 (.s (fa T.f25_0 z z z) z (.g hg1 (.s (ld T.t23 hS z z z z z) z ?_) z)) z
   have ⟨y1,hy1,h⟩:=bnd h
   refine .g hg1 (.c (.call0 hS Tryz.func13 (f68 hy1 (hS.keep q_0_Regs)) z z ?_ z z z z)) z
   intro W hS
   refine .s (pkt hg1 z z z) z ?_
   cases h
   exact .nil (ck 4 hS z z z z)
  refine .xx hb z (.xx hb z (.xx hb z ?_))
  cases sel_f hb hb1
  exact .s (pkf hb z z z) z (.nil (ck 4 hS z z z z))
 intro W hS
 refine .q z ?_
 have ⟨b2,hb2,h⟩:=bnd h
 refine .chunk 6 18 (b2) hS ?_ ?_
 ·refine .both (b1) (fun hb=>?_) (fun hb=>?_)
  ·have hg2:=hb
   have h:=sel_t hb hb2
   refine .g hg2 (.s (fa T.f25_0 z z z) z (.g hg2 (.s (ld T.t23 hS z z z z z) z ?_) z)) z
   have ⟨x1,hx1,h⟩:=bnd h
   refine .g hg2 (.s (ixv (hS.keep q_0_Regs) hx1 T.u23 T.t3 z z z) z (.g hg2 (.s (lde (RV.flat (hS.keep q_0_Regs) hx1 z) T.t3 z z z z z) z (.g hg2 (.q z (.s (pkt hg2 z z z) z ?_)) z)) z)) z
   cases h
   exact .nil (ck 6 hS z z z z)
  refine .xx hb z (.xx hb z (.xx hb z (.xx hb z (.xx hb z ?_))))
  cases sel_f hb hb2
  exact .s (pkf hb z z z) z (.nil (ck 6 hS z z z z))
 intro W hS
 refine .q z ?_
 have ⟨b3,hb3,h⟩:=bnd h
 refine .chunk 4 23 (b3) hS ?_ ?_
 ·refine .both (b2) (fun hb=>?_) (fun hb=>?_)
  ·have hg3:=hb
   have h:=sel_t hb hb3
   refine .g hg3 (.s (fa T.f25_1 z z z) z (.g hg3 (.s (ld T.t3 hS z z z z z) z ?_) z)) z
   have ⟨y2,hy2,h⟩:=bnd h
   refine .g hg3 (.c (.call0 hS Tryz.func25 (fas hy2) z z ?_ z z z z)) z
   intro W hS
   refine .s (pkt hg3 z z z) z ?_
   cases h
   exact .nil (ck 4 hS z z z z)
  refine .xx hb z (.xx hb z (.xx hb z ?_))
  cases sel_f hb hb3
  exact .s (pkf hb z z z) z (.nil (ck 4 hS z z z z))
 intro W hS
 refine .q z (.chunk 5 29 (b3 && (decide ((a0.Mem.length : Int) ≤ 10000))) hS ?_ ?_)
 ·refine .both (b3) (fun hb=>?_) (fun hb=>?_)
  ·have hg4:=hb
   exact .g hg4 (.s (fa T.f25_2 z z z) z (.g hg4 (.s (ld T.t23 hS z z z z z) z (.g hg4 (.s (lenv (hS.keep q_0_Mem) T.u23 z z) z (.g hg4 (.q z (.s (pkt hg4 z z z) z (.nil (ck 5 hS z (and_t hg4) z z)))) z)) z)) z)) z
  exact .xx hb z (.xx hb z (.xx hb z (.xx hb z (.s (pkf hb z z z) z (.nil (ck 5 hS z (and_f hb) z z))))))
 intro W hS
 refine .q z ?_
 have ⟨b4,hb4,h⟩:=bnd h
 refine .chunk 4 34 (b4) hS ?_ ?_
 ·refine .both (b3 && (decide ((a0.Mem.length : Int) ≤ 10000))) (fun hb=>?_) (fun hb=>?_)
  ·have hg5:=hb
   have h:=sel_t hb hb4
   refine .g hg5 (.s (fa T.f25_2 z z z) z (.g hg5 (.s (ld T.t23 hS z z z z z) z ?_) z)) z
   have ⟨y3,hy3,h⟩:=bnd h
   refine .g hg5 (.c (.call0 hS Tryz.func13 (f68 hy3 (hS.keep q_0_Mem)) z z ?_ z z z z)) z
   intro W hS
   refine .s (pkt hg5 z z z) z ?_
   cases h
   exact .nil (ck 4 hS z z z z)
  refine .xx hb z (.xx hb z (.xx hb z ?_))
  cases sel_f hb hb4
  exact .s (pkf hb z z z) z (.nil (ck 4 hS z z z z))
 intro W hS
 obtain rfl:=Option.some.inj h
 exact .qn z (.ret (fin_ret (vs:=[_]) () (rt z rn) z (hS.to [] z)))
theorem f73 {a0 : List Int} {v_0 : Hd} {w : World} {r : (List Int)} (h : f0q a0 = some r) (q_0 : RV w (Old No w) (sv v_0) 3 1 (D.int .i64) a0) : Calls Tryz.prog 14 #[(sv v_0)] w (Ret No w (fun s : Hd=>(sv s)) (fun s=>[rowV (sv s) 3 1 (D.int .i64) r])):=by
 unfold f0q at h
 refine enter Tryz.func14 z z ?_
 have hS:=Sep.start w
 refine .g (.qn z (.seq (.g (.q z (.s (nilq T.u23 z z) z (.nil (.cond z (fun hb=>?_) (fun hb=>?_))))))))
 ·have hl:=RV.isnil q_0 hb
  subst hl
  refine .g (.qn z (.ret ?_))
  have hS:=hS.nilv 3 1 (D.int .i64)
  have h : some [] = some r:=h
  cases h
  exact fin_ret (vs:=[_]) nilH (rt z rn) z (hS.to [0] z)
 refine .skip (.g (.c (.liv [] (D.int .i64) T.u23 T.t3 hS z z z z ?_ z (fun _=>z) z z z z)))
 intro v1 W hS
 refine .q z ?_
 have ⟨r1,hr1,h⟩:=bnd h
 refine .c (.apprv hr1 hS (hS.keep q_0) (fun _=>z) T.u23 T.t3 z z z ?_ z z z z z)
 intro v2 W hS
 obtain rfl:=Option.some.inj h
 exact .qn z (.ret (fin_ret (vs:=[_]) v2 (rt z rn) z (hS.to [0] z)))
theorem fcn {a0 : Ring} {v_0_Slots : Hd} {w : World} {r : Bool} (h : f4c a0 = some r) (q_0_Slots : RV w (Old No w) (sv v_0_Slots) 3 1 (D.int .i64) a0.Slots) : Calls Tryz.prog 26 #[.agg #[.int .i64 a0.Room,.int .i64 a0.Head,.int .i64 a0.Len,(sv v_0_Slots)]] w (Ret No w (fun s : Unit=>.bool r) (fun s=>[])):=by
 unfold f4c at h
 refine enter Tryz.func26 z z ?_
 have hS:=Sep.start w
 refine .g (.c (.box hS z z ?_ z z))
 intro g1 W hS
 refine .qn z (.g (.s (fa T.f48_0 z z z) z (.s (ld T.t3 hS z z z z z) z (.q z (.q z (.chunk 4 10 ((decide (a0.Room ≥ 1)) && (decide (a0.Room ≤ 4))) hS ?_ ?_))))))
 ·refine .both (decide (a0.Room ≥ 1)) (fun hb=>?_) (fun hb=>?_)
  ·have hg1:=hb
   exact .g hg1 (.s (fa T.f48_0 z z z) z (.g hg1 (.s (ld T.t3 hS z z z z z) z (.g hg1 (.q z (.s (pkt hg1 z z z) z (.nil (ck 4 hS z (and_t hg1) z z)))) z)) z)) z
  exact .xx hb z (.xx hb z (.xx hb z (.s (pkf hb z z z) z (.nil (ck 4 hS z (and_f hb) z z)))))
 intro W hS
 refine .q z (.chunk 4 15 (((decide (a0.Room ≥ 1)) && (decide (a0.Room ≤ 4))) && (decide (a0.Head ≥ 0))) hS ?_ ?_)
 ·refine .both ((decide (a0.Room ≥ 1)) && (decide (a0.Room ≤ 4))) (fun hb=>?_) (fun hb=>?_)
  ·have hg2:=hb
   exact .g hg2 (.s (fa T.f48_1 z z z) z (.g hg2 (.s (ld T.t3 hS z z z z z) z (.g hg2 (.q z (.s (pkt hg2 z z z) z (.nil (ck 4 hS z (and_t hg2) z z)))) z)) z)) z
  exact .xx hb z (.xx hb z (.xx hb z (.s (pkf hb z z z) z (.nil (ck 4 hS z (and_f hb) z z)))))
 intro W hS
 refine .q z (.chunk 6 22 ((((decide (a0.Room ≥ 1)) && (decide (a0.Room ≤ 4))) && (decide (a0.Head ≥ 0))) && (decide (a0.Head < a0.Room))) hS ?_ ?_)
 ·refine .both (((decide (a0.Room ≥ 1)) && (decide (a0.Room ≤ 4))) && (decide (a0.Head ≥ 0))) (fun hb=>?_) (fun hb=>?_)
  ·have hg3:=hb
   exact .g hg3 (.s (fa T.f48_1 z z z) z (.g hg3 (.s (ld T.t3 hS z z z z z) z (.g hg3 (.s (fa T.f48_0 z z z) z (.g hg3 (.s (ld T.t3 hS z z z z z) z (.g hg3 (.q z (.s (pkt hg3 z z z) z (.nil (ck 6 hS z (and_t hg3) z z)))) z)) z)) z)) z)) z
  exact .xx hb z (.xx hb z (.xx hb z (.xx hb z (.xx hb z (.s (pkf hb z z z) z (.nil (ck 6 hS z (and_f hb) z z)))))))
 intro W hS
 refine .q z (.chunk 4 27 (((((decide (a0.Room ≥ 1)) && (decide (a0.Room ≤ 4))) && (decide (a0.Head ≥ 0))) && (decide (a0.Head < a0.Room))) && (decide (a0.Len ≥ 0))) hS ?_ ?_)
 ·refine .both ((((decide (a0.Room ≥ 1)) && (decide (a0.Room ≤ 4))) && (decide (a0.Head ≥ 0))) && (decide (a0.Head < a0.Room))) (fun hb=>?_) (fun hb=>?_)
  ·have hg4:=hb
   exact .g hg4 (.s (fa T.f48_2 z z z) z (.g hg4 (.s (ld T.t3 hS z z z z z) z (.g hg4 (.q z (.s (pkt hg4 z z z) z (.nil (ck 4 hS z (and_t hg4) z z)))) z)) z)) z
  exact .xx hb z (.xx hb z (.xx hb z (.s (pkf hb z z z) z (.nil (ck 4 hS z (and_f hb) z z)))))
 intro W hS
 refine .q z (.chunk 6 34 ((((((decide (a0.Room ≥ 1)) && (decide (a0.Room ≤ 4))) && (decide (a0.Head ≥ 0))) && (decide (a0.Head < a0.Room))) && (decide (a0.Len ≥ 0))) && (decide (a0.Len ≤ a0.Room))) hS ?_ ?_)
 ·refine .both (((((decide (a0.Room ≥ 1)) && (decide (a0.Room ≤ 4))) && (decide (a0.Head ≥ 0))) && (decide (a0.Head < a0.Room))) && (decide (a0.Len ≥ 0))) (fun hb=>?_) (fun hb=>?_)
  ·have hg5:=hb
   exact .g hg5 (.s (fa T.f48_2 z z z) z (.g hg5 (.s (ld T.t3 hS z z z z z) z (.g hg5 (.s (fa T.f48_0 z z z) z (.g hg5 (.s (ld T.t3 hS z z z z z) z (.g hg5 (.q z (.s (pkt hg5 z z z) z (.nil (ck 6 hS z (and_t hg5) z z)))) z)) z)) z)) z)) z
  exact .xx hb z (.xx hb z (.xx hb z (.xx hb z (.xx hb z (.s (pkf hb z z z) z (.nil (ck 6 hS z (and_f hb) z z)))))))
 intro W hS
 refine .q z (.chunk 5 40 (((((((decide (a0.Room ≥ 1)) && (decide (a0.Room ≤ 4))) && (decide (a0.Head ≥ 0))) && (decide (a0.Head < a0.Room))) && (decide (a0.Len ≥ 0))) && (decide (a0.Len ≤ a0.Room))) && ((a0.Slots.length : Int) == 4)) hS ?_ ?_)
 ·refine .both ((((((decide (a0.Room ≥ 1)) && (decide (a0.Room ≤ 4))) && (decide (a0.Head ≥ 0))) && (decide (a0.Head < a0.Room))) && (decide (a0.Len ≥ 0))) && (decide (a0.Len ≤ a0.Room))) (fun hb=>?_) (fun hb=>?_)
  ·have hg6:=hb
   exact .g hg6 (.s (fa T.f48_3 z z z) z (.g hg6 (.s (ld T.t23 hS z z z z z) z (.g hg6 (.s (lenv (hS.keep q_0_Slots) T.u23 z z) z (.g hg6 (.q z (.s (pkt hg6 z z z) z (.nil (ck 5 hS z (and_t hg6) z z)))) z)) z)) z)) z
  exact .xx hb z (.xx hb z (.xx hb z (.xx hb z (.s (pkf hb z z z) z (.nil (ck 5 hS z (and_f hb) z z))))))
 intro W hS
 refine .q z ?_
 have ⟨b1,hb1,h⟩:=bnd h
 refine .chunk 4 45 (b1) hS ?_ ?_
 ·refine .both (((((((decide (a0.Room ≥ 1)) && (decide (a0.Room ≤ 4))) && (decide (a0.Head ≥ 0))) && (decide (a0.Head < a0.Room))) && (decide (a0.Len ≥ 0))) && (decide (a0.Len ≤ a0.Room))) && ((a0.Slots.length : Int) == 4)) (fun hb=>?_) (fun hb=>?_)
  ·have hg7:=hb
   have h:=sel_t hb hb1
   refine .g hg7 (.s (fa T.f48_3 z z z) z (.g hg7 (.s (ld T.t23 hS z z z z z) z ?_) z)) z
   have ⟨y1,hy1,h⟩:=bnd h
   refine .g hg7 (.c (.call0 hS Tryz.func13 (f68 hy1 (hS.keep q_0_Slots)) z z ?_ z z z z)) z
   intro W hS
   refine .s (pkt hg7 z z z) z ?_
   cases h
   exact .nil (ck 4 hS z z z z)
  refine .xx hb z (.xx hb z (.xx hb z ?_))
  cases sel_f hb hb1
  exact .s (pkf hb z z z) z (.nil (ck 4 hS z z z z))
 intro W hS
 obtain rfl:=Option.some.inj h
 exact .qn z (.ret (fin_ret (vs:=[_]) () (rt z rn) z (hS.to [] z)))
theorem fba {a0 : Ring} {v_0_Slots : Hd} {w : World} {r : Box × Bool} (h : f89 a0 = some r) (q_0_Slots : RV w (Old No w) (sv v_0_Slots) 3 1 (D.int .i64) a0.Slots) : Calls Tryz.prog 15 #[.agg #[.int .i64 a0.Room,.int .i64 a0.Head,.int .i64 a0.Len,(sv v_0_Slots)]] w (Ret No w (fun s : Hd=>.tuple #[.agg #[.int .i64 r.1.Room,(sv s)],.bool r.2]) (fun s=>[rowV (sv s) 3 1 (D.int .i64) r.1.Items])):=by
 unfold f89 at h
 refine enter Tryz.func15 z z ?_
 have hS:=Sep.start w
 refine .g (.c (.box hS z z ?_ z z))
 intro g1 W hS
 refine .c (.alloc T.t44 hS ?_ z z z)
 intro g2 W hS
 refine .qn z (.seq (.g (.s (ld T.t48 hS.p1 z z z z z) z ?_)))
 have ⟨y1,hy1,h⟩:=bnd h
 refine .c (.call0 hS Tryz.func26 (fcn hy1 (hS.keep q_0_Slots)) z z ?_ z z z z)
 intro W hS
 refine .q z (.nil ?_)
 refine .cs z h ?_ ?_ <;> intro h
 ·refine .g (.s (bs T.s44 z z) z (.c (.st T.t44 hS z z z ?_ z z z z z)))
  intro W hS
  refine .qn z (.ret ?_)
  have hS:=hS.nilv 3 1 (D.int .i64)
  cases h
  exact fin_ret (vs:=[_,_]) nilH (rc hS.p1 T.t44 z (rt z rn) z z) z (hS.to [0] z)
 refine .skip (.g (.s (fa T.f48_0 z z z) z (.s (ld T.t3 hS.p1 z z z z z) z (.s (bs T.s44 z z) z (.c (.alloc T.t44 hS ?_ z z z))))))
 intro g3 W hS
 refine .c (.st T.t44 hS z z z ?_ z z z z z)
 intro W hS
 refine .nil (.seq (.g (.s (fa T.f48_2 z z z) z (.s (ld T.t3 hS.p2 z z z z z) z (.qn z (.block ?_))))))
 have hS:=hS.nilv 3 1 (D.int .i64)
 have ⟨y2,hy2,h⟩:=bnd h
 refine .via (.iter (fun s1 E' W'=>∃ (v3 : Hd),SubL E' [(1,.pointer (some ⟨g1,0,none⟩)),(2,.pointer (some ⟨g2,0,none⟩)),(4,.pointer (some ⟨g3,0,none⟩)),(14,.int .i64 a0.Len),(15,.int .i64 s1.1)] ∧ Sep No w W' [.box g3 44 [.int .i64 a0.Room,(sv v3)],.box g2 44 [.int .i64 0,(sv nilH)],.box g1 48 [.int .i64 a0.Room,.int .i64 a0.Head,.int .i64 a0.Len,(sv v_0_Slots)],rowV (sv v3) 3 1 (D.int .i64) s1.2]) (fun y3 x E' W'=>x = .exit 0 ∧ ∃ (v4 : Hd),SubL E' [(2,.pointer (some ⟨g2,0,none⟩)),(4,.pointer (some ⟨g3,0,none⟩))] ∧ Sep No w W' [.box g3 44 [.int .i64 a0.Room,(sv v4)],.box g2 44 [.int .i64 0,(sv nilH)],.box g1 48 [.int .i64 a0.Room,.int .i64 a0.Head,.int .i64 a0.Len,(sv v_0_Slots)],rowV (sv v4) 3 1 (D.int .i64) y3]) hy2 ⟨nilH,sb z,hS.to [1,1,1,0] z⟩ ?_) ?_
 ·intro s1 y4 E W h hI
  obtain ⟨v2,hE,hS⟩:=hI
  refine CW.sub hE ?_
  unfold f4y at h
  refine .g (.qn z (.seq ?_))
  refine .cs z h ?_ ?_ <;> intro h
  ·refine .skip (.seq (.block (.g (.q z (.qn z (.rk 16 hS [0,0,0] T.mix ?_))))))
   intro W hS
   have hT:=hS.to [0,0,0] z
   refine .ts 0 z (fun W hT=>fa T.f44_1 z z z) hT z (by kernel_rfl) (.ts 1 z (fun W hT=>ld T.t23 hT z z z z z) hT z (by kernel_rfl) (.ts 2 z (fun W hT=>fa T.f48_3 z z z) hT z (by kernel_rfl) (.ts 3 z (fun W hT=>ld T.t23 hT.p2 z z z z z) hT z (by kernel_rfl) (.ts 4 z (fun W hT=>fa T.f48_1 z z z) hT z (by kernel_rfl) (.ts 5 z (fun W hT=>ld T.t3 hT.p2 z z z z z) hT z (by kernel_rfl) (.tp 6 z z hT (by kernel_rfl) (.tp 7 z z hT (by kernel_rfl) (.ts 8 z (fun W hT=>fa T.f48_0 z z z) hT z (by kernel_rfl) (.ts 9 z (fun W hT=>ld T.t3 hT.p2 z z z z z) hT z (by kernel_rfl) ?_)))))))))
   have ⟨d1,hd1,h⟩:=bnd h
   refine .ts 10 z (fun W hT=>dr hd1 z z z) hT z (by kernel_rfl) ?_
   have ⟨x1,hx1,h⟩:=bnd h
   refine .ts 11 z (fun W hT=>ixv (hS.keep q_0_Slots) hx1 T.u23 T.t3 z z z) hT z (by kernel_rfl) (.ts 12 z (fun W hT=>lde (RV.flat (hT.keep q_0_Slots) hx1 z) T.t3 z z z z z) hT z (by kernel_rfl) (.by1 13 z (.liv [x1] (D.int .i64) T.u23 T.t3 hS z z z z ?_ z (fun _=>z) z z z z) (by kernel_rfl)))
   intro v5 W hS
   have hT:=hS.to [1,1,1] z
   refine ⟨fun _=>hT,?_⟩
   have ⟨r1,hr1,h⟩:=bnd h
   have hT0:=hS.p4
   refine .by1 14 z (.apprv hr1 hT0 hT0.p1.lendv (fun _=>z) T.u23 T.t3 z z z ?_ z z z z z) (by kernel_rfl)
   intro v6 W hS
   have hT:=hS.to [2,2,2] z
   refine ⟨fun _=>hT,.ts 15 z (fun W hT=>fa T.f44_1 z z z) hT z (by kernel_rfl) (.by1 16 z (.st T.t23 hS.p2 z z z ?_ z z z z z) (by kernel_rfl))⟩
   intro W hS
   refine ⟨fun h=>absurd z h,?_⟩
   refine .done (.region (.q z (.q z (.nil ?_)))) (by kernel_rfl)
   cases h
   exact ⟨z,v6,sb z,hS.to [0,2,2,0] z⟩
  refine .exit ?_
  cases h
  exact ⟨by simp,z,v2,sb z,hS.to [0,0,0,0] z⟩
 intro x E W hJ
 obtain ⟨rfl,v7,hE,hS⟩:=hJ
 refine ⟨_,hE.sub,?_⟩
 refine .g (.s (ld T.t44 hS z z z z z) z (.c (.st T.t44 hS.p1 z z z ?_ z z z z z)))
 intro W hS
 cases h
 exact .qn z (.ret (fin_ret (vs:=[_,_]) v7 (rc hS T.t44 z (rt z rn) z z) z (hS.to [3] z)))
def fcc (w : World) (r : Outcome) : Env → World → Prop:=Fin Tryz.prog Tryz.f5 No w (fun s : Hd × Hd × Hd=>.agg #[(sv s.1),(sv s.2.1),(sv s.2.2),.bool r.Rest]) (fun s=>[rowV (sv s.1) 3 1 (D.int .i64) r.Out,rowV (sv s.2.1) 23 1 (fun (l : List Int)=>D.row 3 1 (l.map (D.int .i64))) r.Items,rowV (sv s.2.2) 4 1 D.bool r.Ended]) .ret
theorem fby {a0 : Machine} {a1 : Int} {a2 : List Int} {v_0_Regs : Hd} {v_0_Mem : Hd} {v_2 : Hd} {w : World} {r : Outcome} (h : f3v a0 a1 a2 = some r) (q_0_Regs : RV w (Old No w) (sv v_0_Regs) 3 1 (D.int .i64) a0.Regs) (q_0_Mem : RV w (Old No w) (sv v_0_Mem) 3 1 (D.int .i64) a0.Mem) (q_2 : RV w (Old No w) (sv v_2) 3 1 (D.int .i64) a2) : Calls Tryz.prog 5 #[.agg #[(sv v_0_Regs),.int .i64 a0.Pc,(sv v_0_Mem)],.int .i64 a1,(sv v_2)] w (Ret No w (fun s : Hd × Hd × Hd=>.agg #[(sv s.1),(sv s.2.1),(sv s.2.2),.bool r.Rest]) (fun s=>[rowV (sv s.1) 3 1 (D.int .i64) r.Out,rowV (sv s.2.1) 23 1 (fun (l : List Int)=>D.row 3 1 (l.map (D.int .i64))) r.Items,rowV (sv s.2.2) 4 1 D.bool r.Ended])):=by
 unfold f3v at h
 refine enter Tryz.func5 z z ?_
 have hS:=Sep.start w
 refine .g (.c (.box hS z z ?_ z z))
 intro g1 W hS
 refine .c (.alloc T.t31 hS ?_ z z z)
 intro g2 W hS
 refine .nil (.seq (.g (.s (ld T.t25 hS.p1 z z z z z) z ?_)))
 have ⟨y1,hy1,h⟩:=bnd h
 refine .c (.call0 hS Tryz.func12 (fbx hy1 (hS.keep q_0_Regs) (hS.keep q_0_Mem)) z z ?_ z z z z)
 intro W hS
 refine .q z (.q z ?_)
 have ⟨b1,hb1,h⟩:=bnd h
 refine .chunk 4 22 (b1) hS ?_ ?_
 ·refine .both (!y1) (fun hb=>?_) (fun hb=>?_)
  ·refine .xx hb z (.xx hb z (.xx hb z ?_))
   cases sel_t hb hb1
   exact .s (pkt hb z z z) z (.nil (ck 4 hS z z z z))
  have hg1:=hb
  have h:=sel_f hb hb1
  refine .g hg1 (.q z ?_) z
  have ⟨y2,hy2,h⟩:=bnd h
  refine .g hg1 (.c (.call0 hS Tryz.func13 (f68 hy2 (hS.keep q_2)) z z ?_ z z z z)) z
  intro W hS
  refine .g hg1 (.q z (.s (pkf hg1 z z z) z ?_)) z
  cases h
  exact .nil (ck 4 hS z z z z)
 intro W hS
 refine .q z (.chunk 3 26 (b1 || (decide (a1 < 0))) hS ?_ ?_)
 ·refine .both (b1) (fun hb=>?_) (fun hb=>?_)
  ·exact .xx hb z (.xx hb z (.s (pkt hb z z z) z (.nil (ck 3 hS z (or_t hb) z z))))
  have hg2:=hb
  exact .g hg2 (.q z (.g hg2 (.q z (.s (pkf hg2 z z z) z (.nil (ck 3 hS z (or_f hg2) z z)))) z)) z
 intro W hS
 refine .q z (.chunk 4 31 ((b1 || (decide (a1 < 0))) || ((Int.tmod a1 4) != 0)) hS ?_ ?_)
 ·refine .both (b1 || (decide (a1 < 0))) (fun hb=>?_) (fun hb=>?_)
  ·exact .xx hb z (.xx hb z (.xx hb z (.s (pkt hb z z z) z (.nil (ck 4 hS z (or_t hb) z z)))))
  have hg3:=hb
  exact .g hg3 (.q z (.g hg3 (.q z (.g hg3 (.q z (.s (pkf hg3 z z z) z (.nil (ck 4 hS z (or_f hg3) z z)))) z)) z)) z
 intro W hS
 refine .q z (.chunk 8 40 (((b1 || (decide (a1 < 0))) || ((Int.tmod a1 4) != 0)) || (decide ((w64 ((w64 (Int.tdiv a1 4)) + 1)) ≥ (a0.Mem.length : Int)))) hS ?_ ?_)
 ·refine .both ((b1 || (decide (a1 < 0))) || ((Int.tmod a1 4) != 0)) (fun hb=>?_) (fun hb=>?_)
  ·exact .xx hb z (.xx hb z (.xx hb z (.xx hb z (.xx hb z (.xx hb z (.xx hb z (.s (pkt hb z z z) z (.nil (ck 8 hS z (or_t hb) z z)))))))))
  have hg4:=hb
  exact .g hg4 (.q z (.g hg4 (.q z (.g hg4 (.q z (.g hg4 (.s (fa T.f25_2 z z z) z (.g hg4 (.s (ld T.t23 hS.p1 z z z z z) z (.g hg4 (.s (lenv (hS.keep q_0_Mem) T.u23 z z) z (.g hg4 (.q z (.s (pkf hg4 z z z) z (.nil (ck 8 hS z (or_f hg4) z z)))) z)) z)) z)) z)) z)) z)) z
 intro W hS
 refine .nil ?_
 refine .cs z h ?_ ?_ <;> intro h
 ·refine .g (.s (bs T.s31 z z) z (.c (.st T.t31 hS z z z ?_ z z z z z)))
  intro W hS
  refine .nil (.ret ?_)
  have hS:=hS.nilv 3 1 (D.int .i64)
  have hS:=hS.nilv 23 1 (fun (l : List Int)=>D.row 3 1 (l.map (D.int .i64)))
  have hS:=hS.nilv 4 1 D.bool
  cases h
  exact fin_ret (vs:=[_]) (nilH,nilH,nilH) (rc hS.p3 T.t31 z rn z z) z (hS.to [2,1,0] z)
 refine .skip (.g (.s (fa T.f25_2 z z z) z (.s (ld T.t23 hS.p1 z z z z z) z (.q z (.q z ?_)))))
 have ⟨r1,hr1,h⟩:=bnd h
 refine .s (slv hr1 q_0_Mem T.u23 T.t3 z z z z) z (.qn z (.g (.q z ?_)))
 have ⟨x1,hx1,h⟩:=bnd h
 refine .s (ixv (hS.keep (slv_rd hr1 q_0_Mem)) hx1 T.u23 T.t3 z z z) z (.s (lde (RV.flat (hS.keep (slv_rd hr1 q_0_Mem)) hx1 z) T.t3 z z z z z) z (.qn z (.seq (.g (.q z (.q z (.q z (.chunk 3 55 ((decide (x1 < 1)) || (decide (x1 > 3))) hS ?_ ?_))))))))
 ·refine .both (decide (x1 < 1)) (fun hb=>?_) (fun hb=>?_)
  ·exact .xx hb z (.xx hb z (.s (pkt hb z z z) z (.nil (ck 3 hS z (or_t hb) z z))))
  have hg5:=hb
  exact .g hg5 (.q z (.g hg5 (.q z (.s (pkf hg5 z z z) z (.nil (ck 3 hS z (or_f hg5) z z)))) z)) z
 intro W hS
 refine .q z (.chunk 7 63 (((decide (x1 < 1)) || (decide (x1 > 3))) || (decide ((w64 (28 + (w64 (16 * x1)))) > (r1.length : Int)))) hS ?_ ?_)
 ·refine .both ((decide (x1 < 1)) || (decide (x1 > 3))) (fun hb=>?_) (fun hb=>?_)
  ·exact .xx hb z (.xx hb z (.xx hb z (.xx hb z (.xx hb z (.xx hb z (.s (pkt hb z z z) z (.nil (ck 7 hS z (or_t hb) z z))))))))
  have hg6:=hb
  exact .g hg6 (.q z (.g hg6 (.q z (.g hg6 (.q z (.g hg6 (.q z (.g hg6 (.s (lenv (hS.keep (slv_rd hr1 q_0_Mem)) T.u23 z z) z (.g hg6 (.q z (.s (pkf hg6 z z z) z (.nil (ck 7 hS z (or_f hg6) z z)))) z)) z)) z)) z)) z)) z
 intro W hS
 refine .nil ?_
 refine .cs z h ?_ ?_ <;> intro h
 ·refine .g (.s (bs T.s31 z z) z (.c (.st T.t31 hS z z z ?_ z z z z z)))
  intro W hS
  refine .nil (.ret ?_)
  have hS:=hS.nilv 3 1 (D.int .i64)
  have hS:=hS.nilv 23 1 (fun (l : List Int)=>D.row 3 1 (l.map (D.int .i64)))
  have hS:=hS.nilv 4 1 D.bool
  cases h
  exact fin_ret (vs:=[_]) (nilH,nilH,nilH) (rc hS.p3 T.t31 z rn z z) z (hS.to [2,1,0] z)
 refine .skip (.seq ?_)
 have ⟨x2,hx2,h⟩:=bnd h
 have ⟨y3,hy3,h⟩:=bnd h
 refine .via (R':=fun x E' W'=>x = .normal ∧ ∃ (g3 : Nat) (v1 : Hd) (v2 : Hd) (v3 : Hd),SubL E' [(6,.pointer (some ⟨g2,0,none⟩)),(7,(sv (cutH v_0_Mem (Int.toNat (w64 (Int.tdiv a1 4))) 1 r1.length))),(8,.int .i64 x1),(9,.pointer (some ⟨g3,0,none⟩))] ∧ Sep No w W' [.box g2 31 [(sv nilH),(sv nilH),(sv nilH),.bool false],.box g1 25 [(sv v_0_Regs),.int .i64 a0.Pc,(sv v_0_Mem)],.box g3 31 [(sv v1),(sv v2),(sv v3),.bool (x2 == x1)],rowV (sv v1) 3 1 (D.int .i64) y3,rowV (sv v2) 23 1 (fun (l : List Int)=>D.row 3 1 (l.map (D.int .i64))) [],rowV (sv v3) 4 1 D.bool []]) ?_ ?_
 ·refine .rk 9 hS [0,0] T.mix ?_
  intro W hS
  have hT:=hS.to [0,0] z
  refine .tp 0 z z hT (by kernel_rfl) (.tp 2 z z hT (by kernel_rfl) (.ts 3 z (fun W hT=>ixv (hS.keep (slv_rd hr1 q_0_Mem)) hx2 T.u23 T.t3 z z z) hT z (by kernel_rfl) (.ts 4 z (fun W hT=>lde (RV.flat (hT.keep (slv_rd hr1 q_0_Mem)) hx2 z) T.t3 z z z z z) hT z (by kernel_rfl) (.tp 5 z z hT (by kernel_rfl) (.tp 6 z z hT (by kernel_rfl) (.by [1,8] ⟨⟨_,z,?_⟩,⟨_,z,?_⟩,trivial⟩ (by kernel_rfl) z))))))
  ·refine (.call1v hS Tryz.func14 (f73 hy3 (hS.keep q_2)) z z ?_ z z z z)
   intro v4 W hS
   have hT:=hS.to [1,1] z
   refine ⟨fun _=>hT,.ts 7 z (fun W hT=>bs T.s31 z z) hT z (by kernel_rfl) (.by1 8 z (.alloc T.t31 hS ?_ z z z) (by kernel_rfl))⟩
   intro g4 W hS
   have hT:=hS.to [2,2] z
   refine ⟨fun _=>hT,.by1 9 z (.st T.t31 hS z z z ?_ z z z z z) (by kernel_rfl)⟩
   intro W hS
   refine ⟨fun h=>absurd z h,?_⟩
   refine .done ?_ (by kernel_rfl)
   have hS:=hS.nilv 23 1 (fun (l : List Int)=>D.row 3 1 (l.map (D.int .i64)))
   have hS:=hS.nilv 4 1 D.bool
   exact ⟨z,g4,v4,nilH,nilH,sb z,hS.to [4,4,2,2,1,0] z⟩
  refine (.alloc T.t31 hS ?_ z z z)
  intro g5 W hS
  have hT:=hS.to [1,1] z
  refine ⟨fun _=>hT,.by1 1 z (.call1v hS Tryz.func14 (f73 hy3 (hS.keep q_2)) z z ?_ z z z z) (by kernel_rfl)⟩
  intro v5 W hS
  have hT:=hS.to [2,2] z
  refine ⟨fun _=>hT,.ts 7 z (fun W hT=>bs T.s31 z z) hT z (by kernel_rfl) (.by1 9 z (.st T.t31 hS.p1 z z z ?_ z z z z z) (by kernel_rfl))⟩
  intro W hS
  refine ⟨fun h=>absurd z h,?_⟩
  refine .done ?_ (by kernel_rfl)
  have hS:=hS.nilv 23 1 (fun (l : List Int)=>D.row 3 1 (l.map (D.int .i64)))
  have hS:=hS.nilv 4 1 D.bool
  exact ⟨z,g5,v5,nilH,nilH,sb z,hS.to [4,4,2,2,1,0] z⟩
 intro x E W hJ
 obtain ⟨rfl,g6,v6,v7,v8,hE,hS⟩:=hJ
 refine ⟨_,hE.sub,?_⟩
 refine .seq (.g (.qn z (.block ?_)))
 have ⟨y4,hy4,h⟩:=bnd h
 refine .via (.iter (fun s1 E' W'=>∃ (v11 : Hd),SubL E' [(6,.pointer (some ⟨g2,0,none⟩)),(7,(sv (cutH v_0_Mem (Int.toNat (w64 (Int.tdiv a1 4))) 1 r1.length))),(8,.int .i64 x1),(9,.pointer (some ⟨g6,0,none⟩)),(10,.int .i64 s1.1)] ∧ Sep No w W' [.box g2 31 [(sv nilH),(sv nilH),(sv nilH),.bool false],.box g1 25 [(sv v_0_Regs),.int .i64 a0.Pc,(sv v_0_Mem)],.box g6 31 [(sv v6),(sv v11),(sv v8),.bool (x2 == x1)],rowV (sv v6) 3 1 (D.int .i64) y3,rowV (sv v8) 4 1 D.bool [],rowV (sv v11) 23 1 (fun (l : List Int)=>D.row 3 1 (l.map (D.int .i64))) s1.2]) (fun y5 x E' W'=>(match y5 with | .inl o1=>x = .ret ∧ fcc w o1 E' W' | .inr o2=>x = .exit 0 ∧ ∃ (v12 : Hd),SubL E' [(6,.pointer (some ⟨g2,0,none⟩)),(7,(sv (cutH v_0_Mem (Int.toNat (w64 (Int.tdiv a1 4))) 1 r1.length))),(8,.int .i64 x1),(9,.pointer (some ⟨g6,0,none⟩))] ∧ Sep No w W' [.box g2 31 [(sv nilH),(sv nilH),(sv nilH),.bool false],.box g1 25 [(sv v_0_Regs),.int .i64 a0.Pc,(sv v_0_Mem)],.box g6 31 [(sv v6),(sv v12),(sv v8),.bool (x2 == x1)],rowV (sv v6) 3 1 (D.int .i64) y3,rowV (sv v8) 4 1 D.bool [],rowV (sv v12) 23 1 (fun (l : List Int)=>D.row 3 1 (l.map (D.int .i64))) o2])) hy4 ⟨v7,sb rfl,hS.to [0,0,0,0,1,0] rfl⟩ ?_) ?_
 ·intro s1 y6 E W h hI
  obtain ⟨v10,hE,hS⟩:=hI
  refine CW.sub hE ?_
  unfold f1x at h
  refine .seq (.g (.q z (.q z (.q z ?_))))
  have ⟨b2,hb2,h⟩:=bnd h
  refine .chunk 8 83 (b2) hS ?_ ?_
  ·refine .both (decide (s1.1 < 3)) (fun hb=>?_) (fun hb=>?_)
   ·have hg7:=hb
    have h:=sel_t hb hb2
    refine .g hg7 (.q z (.g hg7 (.q z (.g hg7 (.q z (.g hg7 (.q z ?_) z)) z)) z)) z
    have ⟨x3,hx3,h⟩:=bnd h
    refine .g hg7 (.s (ixv (hS.keep (slv_rd hr1 q_0_Mem)) hx3 T.u23 T.t3 z z z) z (.g hg7 (.s (lde (RV.flat (hS.keep (slv_rd hr1 q_0_Mem)) hx3 z) T.t3 z z z z z) z (.g hg7 (.q z (.s (pkt hg7 z z z) z ?_)) z)) z)) z
    cases h
    exact .nil (ck 8 hS z z z z)
   refine .xx hb z (.xx hb z (.xx hb z (.xx hb z (.xx hb z (.xx hb z (.xx hb z ?_))))))
   cases sel_f hb hb2
   exact .s (pkf hb z z z) z (.nil (ck 8 hS z z z z))
  intro W hS
  refine .nil ?_
  refine .cs z h ?_ ?_ <;> intro h
  ·refine .skip (.seq (.block (.g (.q z (.q z (.q z (.q z ?_)))))))
   have ⟨r2,hr2,h⟩:=bnd h
   refine .s (slv hr2 (slv_rd hr1 q_0_Mem) T.u23 T.t3 z z z z) z (.qn z (.seq ?_))
   have ⟨x4,hx4,h⟩:=bnd h
   have ⟨x5,hx5,h⟩:=bnd h
   have ⟨x6,hx6,h⟩:=bnd h
   have ⟨r3,hr3,h⟩:=bnd h
   have ⟨y7,hy7,h⟩:=bnd h
   refine .via (R':=fun x E' W'=>x = .normal ∧ ∃ (g7 : Nat) (v13 : Hd),SubL E' [(6,.pointer (some ⟨g2,0,none⟩)),(7,(sv (cutH v_0_Mem (Int.toNat (w64 (Int.tdiv a1 4))) 1 r1.length))),(8,.int .i64 x1),(9,.pointer (some ⟨g6,0,none⟩)),(10,.int .i64 s1.1),(12,.pointer (some ⟨g7,0,none⟩)),(13,.bool y7.2)] ∧ Sep No w W' [.box g2 31 [(sv nilH),(sv nilH),(sv nilH),.bool false],.box g1 25 [(sv v_0_Regs),.int .i64 a0.Pc,(sv v_0_Mem)],.box g6 31 [(sv v6),(sv v10),(sv v8),.bool (x2 == x1)],rowV (sv v6) 3 1 (D.int .i64) y3,rowV (sv v8) 4 1 D.bool [],rowV (sv v10) 23 1 (fun (l : List Int)=>D.row 3 1 (l.map (D.int .i64))) s1.2,.box g7 44 [.int .i64 y7.1.Room,(sv v13)],rowV (sv v13) 3 1 (D.int .i64) y7.1.Items]) ?_ ?_
   ·refine .rk 19 hS [0,0,0,0,0,0] T.mix ?_
    intro W hS
    have hT:=hS.to [0,0,0,0,0,0] z
    refine .tp 0 z z hT (by kernel_rfl) (.ts 1 z (fun W hT=>ixv (hS.keep (slv_rd hr2 (slv_rd hr1 q_0_Mem))) hx4 T.u23 T.t3 z z z) hT z (by kernel_rfl) (.ts 2 z (fun W hT=>lde (RV.flat (hT.keep (slv_rd hr2 (slv_rd hr1 q_0_Mem))) hx4 z) T.t3 z z z z z) hT z (by kernel_rfl) (.tp 3 z z hT (by kernel_rfl) (.ts 4 z (fun W hT=>ixv (hS.keep (slv_rd hr2 (slv_rd hr1 q_0_Mem))) hx5 T.u23 T.t3 z z z) hT z (by kernel_rfl) (.ts 5 z (fun W hT=>lde (RV.flat (hT.keep (slv_rd hr2 (slv_rd hr1 q_0_Mem))) hx5 z) T.t3 z z z z z) hT z (by kernel_rfl) (.tp 6 z z hT (by kernel_rfl) (.ts 7 z (fun W hT=>ixv (hS.keep (slv_rd hr2 (slv_rd hr1 q_0_Mem))) hx6 T.u23 T.t3 z z z) hT z (by kernel_rfl) (.ts 8 z (fun W hT=>lde (RV.flat (hT.keep (slv_rd hr2 (slv_rd hr1 q_0_Mem))) hx6 z) T.t3 z z z z z) hT z (by kernel_rfl) (.tp 9 z z hT (by kernel_rfl) (.ts 10 z (fun W hT=>slv hr3 (slv_rd hr2 (slv_rd hr1 q_0_Mem)) T.u23 T.t3 z z z z) hT z (by kernel_rfl) (.ts 11 z (fun W hT=>bs T.s48 z z) hT z (by kernel_rfl) (.by [12,16] ⟨⟨_,z,?_⟩,⟨_,z,?_⟩,trivial⟩ (by kernel_rfl) z))))))))))))
    ·refine (.call1v hS Tryz.func15 (fba hy7 (hS.keep (slv_rd hr3 (slv_rd hr2 (slv_rd hr1 q_0_Mem))))) z z ?_ z z z z)
     intro v14 W hS
     have hT:=hS.to [1,1,1,1,1,1] z
     refine ⟨fun _=>hT,.tp 13 z z hT (by kernel_rfl) (.tp 14 z z hT (by kernel_rfl) (.tp 15 z z hT (by kernel_rfl) (.by1 16 z (.alloc T.t44 hS ?_ z z z) (by kernel_rfl))))⟩
     intro g8 W hS
     have hT:=hS.to [2,2,2,2,2,2] z
     refine ⟨fun _=>hT,.by1 17 z (.st T.t44 hS z z z ?_ z z z z z) (by kernel_rfl)⟩
     intro W hS
     have hT:=hS.to [2,2,2,2,2,2] z
     refine ⟨fun _=>hT,?_⟩
     exact .tp 18 z z hT (by kernel_rfl) (.done (⟨z,g8,v14,sb z,hS.to [2,2,2,2,2,2,0,0] z⟩) (by kernel_rfl))
    refine (.alloc T.t44 hS ?_ z z z)
    intro g9 W hS
    have hT:=hS.to [1,1,1,1,1,1] z
    refine ⟨fun _=>hT,.by1 12 z (.call1v hS Tryz.func15 (fba hy7 (hS.keep (slv_rd hr3 (slv_rd hr2 (slv_rd hr1 q_0_Mem))))) z z ?_ z z z z) (by kernel_rfl)⟩
    intro v15 W hS
    have hT:=hS.to [2,2,2,2,2,2] z
    refine ⟨fun _=>hT,.tp 13 z z hT (by kernel_rfl) (.tp 14 z z hT (by kernel_rfl) (.tp 15 z z hT (by kernel_rfl) (.by1 17 z (.st T.t44 hS.p1 z z z ?_ z z z z z) (by kernel_rfl))))⟩
    intro W hS
    have hT:=hS.to [2,2,2,2,2,2] z
    refine ⟨fun _=>hT,?_⟩
    exact .tp 18 z z hT (by kernel_rfl) (.done (⟨z,g9,v15,sb z,hS.to [2,2,2,2,2,2,0,0] z⟩) (by kernel_rfl))
   intro x E W hJ
   obtain ⟨rfl,g10,v16,hE,hS⟩:=hJ
   refine ⟨_,hE.sub,?_⟩
   refine .seq (.g (.q z (.q z (.nil ?_))))
   refine .cs z h ?_ ?_ <;> intro h
   ·refine .g (.s (bs T.s31 z z) z (.c (.st T.t31 hS z z z ?_ z z z z z)))
    intro W hS
    refine .nil (.ret ?_)
    have hS:=hS.nilv 3 1 (D.int .i64)
    have hS:=hS.nilv 23 1 (fun (l : List Int)=>D.row 3 1 (l.map (D.int .i64)))
    have hS:=hS.nilv 4 1 D.bool
    cases h
    exact ⟨by simp,z,fin_ret (vs:=[_]) (nilH,nilH,nilH) (rc hS.p3 T.t31 z rn z z) z (hS.to [2,1,0] z)⟩
   refine .skip (.region (.s (fa T.f31_1 z z z) z (.s (ld T.t28 hS.p2 z z z z z) z (.s (fa T.f44_1 z z z) z (.s (ld T.t23 hS.p6 z z z z z) z (.c (.ligv (L1:=[rowV (sv v16) 3 1 (D.int .i64) y7.1.Items]) [y7.1.Items] (fun (l : List Int)=>D.row 3 1 (l.map (D.int .i64))) T.u28 T.t23 (hS.to [7,0,0,0,0,0,0,0] z) z z z (.row (.nil)) ?_ z (fun _=>z) z z z z z)))))))
   intro v17 W hS
   have ⟨r4,hr4,h⟩:=bnd h
   refine .c (.appv hr4 (hS.to [6,0,0,0,0,0,0,0] z) T.u28 T.t23 z z z ?_ z z z z z)
   intro v18 W hS
   refine .s (fa T.f31_1 z z z) z (.c (.st T.t28 hS.p3 z z z ?_ z z z z z))
   intro W hS
   refine .nil (.region (.q z (.q z (.q z (.nil ?_)))))
   cases h
   exact ⟨z,v18,sb z,hS.to [2,2,0,1,1,0] z⟩
  refine .exit ?_
  cases h
  exact ⟨by simp,z,v10,sb z,hS.to [0,0,0,0,0,0] z⟩
 intro x E W hJ
 rcases y4 with o3 | o4
 ·obtain ⟨rfl,hF⟩:=hJ
  refine ⟨_,fun _ _ h=>h,?_⟩
  cases h
  exact hF
 obtain ⟨rfl,v19,hE,hS⟩:=hJ
 refine ⟨_,hE.sub,?_⟩
 refine .seq (.g (.q z (.qn z (.block ?_))))
 have ⟨y8,hy8,h⟩:=bnd h
 refine .via (.iter (fun s2 E' W'=>∃ (v22 : Hd),SubL E' [(6,.pointer (some ⟨g2,0,none⟩)),(7,(sv (cutH v_0_Mem (Int.toNat (w64 (Int.tdiv a1 4))) 1 r1.length))),(9,.pointer (some ⟨g6,0,none⟩)),(117,.int .i64 x1),(118,.int .i64 s2.1)] ∧ Sep No w W' [.box g2 31 [(sv nilH),(sv nilH),(sv nilH),.bool false],.box g1 25 [(sv v_0_Regs),.int .i64 a0.Pc,(sv v_0_Mem)],.box g6 31 [(sv v6),(sv v19),(sv v22),.bool (x2 == x1)],rowV (sv v6) 3 1 (D.int .i64) y3,rowV (sv v19) 23 1 (fun (l : List Int)=>D.row 3 1 (l.map (D.int .i64))) o4,rowV (sv v22) 4 1 D.bool s2.2]) (fun y9 x E' W'=>x = .exit 2 ∧ ∃ (v23 : Hd),SubL E' [(6,.pointer (some ⟨g2,0,none⟩)),(9,.pointer (some ⟨g6,0,none⟩))] ∧ Sep No w W' [.box g2 31 [(sv nilH),(sv nilH),(sv nilH),.bool false],.box g1 25 [(sv v_0_Regs),.int .i64 a0.Pc,(sv v_0_Mem)],.box g6 31 [(sv v6),(sv v19),(sv v23),.bool (x2 == x1)],rowV (sv v6) 3 1 (D.int .i64) y3,rowV (sv v19) 23 1 (fun (l : List Int)=>D.row 3 1 (l.map (D.int .i64))) o4,rowV (sv v23) 4 1 D.bool y9]) hy8 ⟨v8,sb z,hS.to [0,0,0,0,1,0] z⟩ ?_) ?_
 ·intro s2 y10 E W h hI
  obtain ⟨v21,hE,hS⟩:=hI
  refine CW.sub hE ?_
  unfold f3y at h
  refine .g (.qn z (.seq ?_))
  refine .cs z h ?_ ?_ <;> intro h
  ·refine .skip (.seq (.block (.g (.q z (.qn z (.rk 13 hS [0,0,0,0,0] T.mix ?_))))))
   intro W hS
   have hT:=hS.to [0,0,0,0,0] z
   refine .ts 0 z (fun W hT=>fa T.f31_2 z z z) hT z (by kernel_rfl) (.ts 1 z (fun W hT=>ld T.t29 hT.p2 z z z z z) hT z (by kernel_rfl) (.tp 2 z z hT (by kernel_rfl) (.tp 3 z z hT (by kernel_rfl) (.tp 4 z z hT (by kernel_rfl) (.tp 5 z z hT (by kernel_rfl) (.tp 6 z z hT (by kernel_rfl) ?_))))))
   have ⟨x7,hx7,h⟩:=bnd h
   refine .ts 7 z (fun W hT=>ixv (hS.keep (slv_rd hr1 q_0_Mem)) hx7 T.u23 T.t3 z z z) hT z (by kernel_rfl) (.ts 8 z (fun W hT=>lde (RV.flat (hT.keep (slv_rd hr1 q_0_Mem)) hx7 z) T.t3 z z z z z) hT z (by kernel_rfl) (.tp 9 z z hT (by kernel_rfl) (.by1 10 z (.liv [x7 == 5] D.bool T.u29 T.t4 hS z z z z ?_ z (fun _=>z) z z z z) (by kernel_rfl))))
   intro v24 W hS
   have hT:=hS.to [1,1,1,1,1] z
   refine ⟨fun _=>hT,?_⟩
   have ⟨r5,hr5,h⟩:=bnd h
   have hT0:=hS.p6
   refine .by1 11 z (.apprv hr5 hT0 hT0.p1.lendv (fun _=>z) T.u29 T.t4 z z z ?_ z z z z z) (by kernel_rfl)
   intro v25 W hS
   have hT:=hS.to [2,2,2,2,2] z
   refine ⟨fun _=>hT,.ts 12 z (fun W hT=>fa T.f31_2 z z z) hT z (by kernel_rfl) (.by1 13 z (.st T.t29 hS.p4 z z z ?_ z z z z z) (by kernel_rfl))⟩
   intro W hS
   refine ⟨fun h=>absurd z h,?_⟩
   refine .done (.region (.q z (.q z (.nil ?_)))) (by kernel_rfl)
   cases h
   exact ⟨z,v25,sb z,hS.to [3,3,0,2,2,0] z⟩
  refine .exit ?_
  cases h
  exact ⟨by simp,z,v21,sb z,hS.to [0,0,0,0,0,0] z⟩
 intro x E W hJ
 obtain ⟨rfl,v26,hE,hS⟩:=hJ
 refine ⟨_,hE.sub,?_⟩
 refine .g (.s (ld T.t31 hS.p2 z z z z z) z (.c (.st T.t31 hS z z z ?_ z z z z z)))
 intro W hS
 cases h
 exact .nil (.ret (fin_ret (vs:=[_]) (v6,v19,v26) (rc hS T.t31 z rn z z) z (hS.to [3,3,3] z)))
theorem fel {a0 : List Int} {a1 : Int} {v_0 : Hd} {w : World} {r : Bool} (h : fa4 a0 a1 = some r) (q_0 : RV w (Old No w) (sv v_0) 3 1 (D.int .i64) a0) : Calls Tryz.prog 18 #[(sv v_0),.int .i64 a1] w (Ret No w (fun s : Unit=>.bool r) (fun s=>[])):=by
 unfold fa4 at h
 refine enter Tryz.func18 z z ?_
 have hS:=Sep.start w
 refine .g (.qn z (.seq (.g (.q z (.q z (.q z (.chunk 4 12 ((decide (a1 < 0)) || ((Int.tmod a1 4) != 0)) hS ?_ ?_)))))))
 ·refine .both (decide (a1 < 0)) (fun hb=>?_) (fun hb=>?_)
  ·exact .xx hb z (.xx hb z (.xx hb z (.s (pkt hb z z z) z (.nil (ck 4 hS z (or_t hb) z z)))))
  have hg1:=hb
  exact .g hg1 (.q z (.g hg1 (.q z (.g hg1 (.q z (.s (pkf hg1 z z z) z (.nil (ck 4 hS z (or_f hg1) z z)))) z)) z)) z
 intro W hS
 refine .q z (.chunk 7 20 (((decide (a1 < 0)) || ((Int.tmod a1 4) != 0)) || (decide ((w64 ((w64 (Int.tdiv a1 4)) + 4)) > (a0.length : Int)))) hS ?_ ?_)
 ·refine .both ((decide (a1 < 0)) || ((Int.tmod a1 4) != 0)) (fun hb=>?_) (fun hb=>?_)
  ·exact .xx hb z (.xx hb z (.xx hb z (.xx hb z (.xx hb z (.xx hb z (.s (pkt hb z z z) z (.nil (ck 7 hS z (or_t hb) z z))))))))
  have hg2:=hb
  exact .g hg2 (.q z (.g hg2 (.q z (.g hg2 (.q z (.g hg2 (.q z (.g hg2 (.s (lenv (hS.keep q_0) T.u23 z z) z (.g hg2 (.q z (.s (pkf hg2 z z z) z (.nil (ck 7 hS z (or_f hg2) z z)))) z)) z)) z)) z)) z)) z
 intro W hS
 refine .nil ?_
 refine .cs z h ?_ ?_ <;> intro h
 ·obtain rfl:=Option.some.inj h
  exact .g (.qn z (.ret (fin_ret (vs:=[_]) () (rt z rn) z (hS.to [] z))))
 refine .skip (.g (.q z (.q z (.q z (.q z ?_)))))
 have ⟨x1,hx1,h⟩:=bnd h
 refine .s (ixv (hS.keep q_0) hx1 T.u23 T.t3 z z z) z (.s (lde (RV.flat (hS.keep q_0) hx1 z) T.t3 z z z z z) z (.qn z (.g (.q z ?_))))
 have ⟨y1,hy1,h⟩:=bnd h
 refine .c (.call0 hS Tryz.func28 (f06 hy1) z z ?_ z z z z)
 intro W hS
 refine .q z (.chunk 11 40 (y1 && (decide ((w64 ((w64 ((w64 ((w64 (Int.tdiv a1 4)) + 4)) + 24)) + (w64 (16 * x1)))) ≤ (a0.length : Int)))) hS ?_ ?_)
 ·refine .both (y1) (fun hb=>?_) (fun hb=>?_)
  ·have hg3:=hb
   exact .g hg3 (.q z (.g hg3 (.q z (.g hg3 (.q z (.g hg3 (.q z (.g hg3 (.q z (.g hg3 (.q z (.g hg3 (.q z (.g hg3 (.q z (.g hg3 (.s (lenv (hS.keep q_0) T.u23 z z) z (.g hg3 (.q z (.s (pkt hg3 z z z) z (.nil (ck 11 hS z (and_t hg3) z z)))) z)) z)) z)) z)) z)) z)) z)) z)) z)) z
  exact .xx hb z (.xx hb z (.xx hb z (.xx hb z (.xx hb z (.xx hb z (.xx hb z (.xx hb z (.xx hb z (.xx hb z (.s (pkf hb z z z) z (.nil (ck 11 hS z (and_f hb) z z))))))))))))
 intro W hS
 cases h
 exact .qn z (.ret (fin_ret (vs:=[_]) () (rt z rn) z (hS.to [] z)))
theorem fcs {a0 : Ring} {v_0_Slots : Hd} {w : World} {r : Bool} (h : f45 a0 = some r) (q_0_Slots : RV w (Old No w) (sv v_0_Slots) 3 1 (D.int .i64) a0.Slots) : Calls Tryz.prog 40 #[.agg #[.int .i64 a0.Room,.int .i64 a0.Head,.int .i64 a0.Len,(sv v_0_Slots)]] w (Ret No w (fun s : Unit=>.bool r) (fun s=>[])):=by
 unfold f45 at h
 refine enter Tryz.func40 z z ?_
 have hS:=Sep.start w
 refine .g (.c (.box hS z z ?_ z z))
 intro g1 W hS
 refine .qn z (.g (.s (fa T.f48_0 z z z) z (.s (ld T.t3 hS z z z z z) z ?_)))
 have ⟨y1,hy1,h⟩:=bnd h
 refine .c (.call0 hS Tryz.func28 (f06 hy1) z z ?_ z z z z)
 intro W hS
 refine .q z ?_
 have ⟨b1,hb1,h⟩:=bnd h
 refine .chunk 7 13 (b1) hS ?_ ?_
 ·refine .both (y1) (fun hb=>?_) (fun hb=>?_)
  ·have hg1:=hb
   have h:=sel_t hb hb1
   refine .g hg1 (.s (fa T.f48_1 z z z) z (.g hg1 (.s (ld T.t3 hS z z z z z) z (.g hg1 (.s (fa T.f48_0 z z z) z (.g hg1 (.s (ld T.t3 hS z z z z z) z (.g hg1 (.q z ?_) z)) z)) z)) z)) z
   have ⟨y2,hy2,h⟩:=bnd h
   refine .g hg1 (.c (.call0 hS Tryz.func28 (f06 hy2) z z ?_ z z z z)) z
   intro W hS
   refine .s (pkt hg1 z z z) z ?_
   cases h
   exact .nil (ck 7 hS z z z z)
  refine .xx hb z (.xx hb z (.xx hb z (.xx hb z (.xx hb z (.xx hb z ?_)))))
  cases sel_f hb hb1
  exact .s (pkf hb z z z) z (.nil (ck 7 hS z z z z))
 intro W hS
 refine .q z ?_
 have ⟨b2,hb2,h⟩:=bnd h
 refine .chunk 6 20 (b2) hS ?_ ?_
 ·refine .both (b1) (fun hb=>?_) (fun hb=>?_)
  ·have hg2:=hb
   have h:=sel_t hb hb2
   refine .g hg2 (.s (fa T.f48_2 z z z) z (.g hg2 (.s (ld T.t3 hS z z z z z) z (.g hg2 (.s (fa T.f48_0 z z z) z (.g hg2 (.s (ld T.t3 hS z z z z z) z ?_) z)) z)) z)) z
   have ⟨y3,hy3,h⟩:=bnd h
   refine .g hg2 (.c (.call0 hS Tryz.func28 (f06 hy3) z z ?_ z z z z)) z
   intro W hS
   refine .s (pkt hg2 z z z) z ?_
   cases h
   exact .nil (ck 6 hS z z z z)
  refine .xx hb z (.xx hb z (.xx hb z (.xx hb z (.xx hb z ?_))))
  cases sel_f hb hb2
  exact .s (pkf hb z z z) z (.nil (ck 6 hS z z z z))
 intro W hS
 refine .q z ?_
 have ⟨b3,hb3,h⟩:=bnd h
 refine .chunk 4 25 (b3) hS ?_ ?_
 ·refine .both (b2) (fun hb=>?_) (fun hb=>?_)
  ·have hg3:=hb
   have h:=sel_t hb hb3
   refine .g hg3 (.s (fa T.f48_3 z z z) z (.g hg3 (.s (ld T.t23 hS z z z z z) z ?_) z)) z
   have ⟨y4,hy4,h⟩:=bnd h
   refine .g hg3 (.c (.call0 hS Tryz.func17 (f7b hy4 (hS.keep q_0_Slots)) z z ?_ z z z z)) z
   intro W hS
   refine .s (pkt hg3 z z z) z ?_
   cases h
   exact .nil (ck 4 hS z z z z)
  refine .xx hb z (.xx hb z (.xx hb z ?_))
  cases sel_f hb hb3
  exact .s (pkf hb z z z) z (.nil (ck 4 hS z z z z))
 intro W hS
 obtain rfl:=Option.some.inj h
 exact .qn z (.ret (fin_ret (vs:=[_]) () (rt z rn) z (hS.to [] z)))
theorem fdz {a0 : Ring} {v_0_Slots : Hd} {w : World} {r : Box × Bool} (h : f7n a0 = some r) (q_0_Slots : RV w (Old No w) (sv v_0_Slots) 3 1 (D.int .i64) a0.Slots) : Calls Tryz.prog 29 #[.agg #[.int .i64 a0.Room,.int .i64 a0.Head,.int .i64 a0.Len,(sv v_0_Slots)]] w (Ret No w (fun s : Hd=>.tuple #[.agg #[.int .i64 r.1.Room,(sv s)],.bool r.2]) (fun s=>[rowV (sv s) 3 1 (D.int .i64) r.1.Items])):=by
 unfold f7n at h
 refine enter Tryz.func29 z z ?_
 have hS:=Sep.start w
 refine .g (.c (.box hS z z ?_ z z))
 intro g1 W hS
 refine .c (.alloc T.t44 hS ?_ z z z)
 intro g2 W hS
 refine .qn z (.seq (.g (.s (ld T.t48 hS.p1 z z z z z) z ?_)))
 have ⟨y1,hy1,h⟩:=bnd h
 refine .c (.call0 hS Tryz.func40 (fcs hy1 (hS.keep q_0_Slots)) z z ?_ z z z z)
 intro W hS
 refine .q z (.nil ?_)
 refine .cs z h ?_ ?_ <;> intro h
 ·refine .g (.s (bs T.s44 z z) z (.c (.st T.t44 hS z z z ?_ z z z z z)))
  intro W hS
  refine .qn z (.ret ?_)
  have hS:=hS.nilv 3 1 (D.int .i64)
  cases h
  exact fin_ret (vs:=[_,_]) nilH (rc hS.p1 T.t44 z (rt z rn) z z) z (hS.to [0] z)
 refine .skip (.g (.s (fa T.f48_0 z z z) z (.s (ld T.t3 hS.p1 z z z z z) z (.c (.liv [] (D.int .i64) T.u23 T.t3 hS z z z z ?_ z (fun _=>z) z z z z)))))
 intro v1 W hS
 refine .s (bs T.s44 z z) z (.c (.alloc T.t44 hS ?_ z z z))
 intro g3 W hS
 refine .c (.st T.t44 hS z z z ?_ z z z z z)
 intro W hS
 refine .nil (.seq (.g (.qn z (.block ?_))))
 have ⟨y2,hy2,h⟩:=bnd h
 refine .via (.iter (fun s1 E' W'=>∃ (v4 : Hd),SubL E' [(1,.pointer (some ⟨g1,0,none⟩)),(2,.pointer (some ⟨g2,0,none⟩)),(4,.pointer (some ⟨g3,0,none⟩)),(5,.int .i64 s1.1)] ∧ Sep No w W' [.box g3 44 [.int .i64 a0.Room,(sv v4)],.box g2 44 [.int .i64 0,(sv nilH)],.box g1 48 [.int .i64 a0.Room,.int .i64 a0.Head,.int .i64 a0.Len,(sv v_0_Slots)],rowV (sv v4) 3 1 (D.int .i64) s1.2]) (fun y3 x E' W'=>x = .exit 0 ∧ ∃ (v5 : Hd),SubL E' [(2,.pointer (some ⟨g2,0,none⟩)),(4,.pointer (some ⟨g3,0,none⟩))] ∧ Sep No w W' [.box g3 44 [.int .i64 a0.Room,(sv v5)],.box g2 44 [.int .i64 0,(sv nilH)],.box g1 48 [.int .i64 a0.Room,.int .i64 a0.Head,.int .i64 a0.Len,(sv v_0_Slots)],rowV (sv v5) 3 1 (D.int .i64) y3]) hy2 ⟨v1,sb z,hS.to [0,1,1,0] z⟩ ?_) ?_
 ·intro s1 y4 E W h hI
  obtain ⟨v3,hE,hS⟩:=hI
  refine CW.sub hE ?_
  unfold f9q at h
  refine .seq (.g (.q z (.s (fa T.f48_2 z z z) z (.s (ld T.t3 hS.p2 z z z z z) z (.q z (.nil ?_))))))
  refine .cs z h ?_ ?_ <;> intro h
  ·refine .skip (.seq (.block (.rk 16 hS [0,0,0] T.mix ?_)))
   intro W hS
   have hT:=hS.to [0,0,0] z
   refine .ts 0 z (fun W hT=>fa T.f44_1 z z z) hT z (by kernel_rfl) (.ts 1 z (fun W hT=>ld T.t23 hT z z z z z) hT z (by kernel_rfl) (.ts 2 z (fun W hT=>fa T.f48_3 z z z) hT z (by kernel_rfl) (.ts 3 z (fun W hT=>ld T.t23 hT.p2 z z z z z) hT z (by kernel_rfl) (.ts 4 z (fun W hT=>fa T.f48_1 z z z) hT z (by kernel_rfl) (.ts 5 z (fun W hT=>ld T.t3 hT.p2 z z z z z) hT z (by kernel_rfl) (.tp 6 z z hT (by kernel_rfl) (.tp 7 z z hT (by kernel_rfl) (.ts 8 z (fun W hT=>fa T.f48_0 z z z) hT z (by kernel_rfl) (.ts 9 z (fun W hT=>ld T.t3 hT.p2 z z z z z) hT z (by kernel_rfl) ?_)))))))))
   have ⟨d1,hd1,h⟩:=bnd h
   refine .ts 10 z (fun W hT=>dr hd1 z z z) hT z (by kernel_rfl) ?_
   have ⟨x1,hx1,h⟩:=bnd h
   refine .ts 11 z (fun W hT=>ixv (hS.keep q_0_Slots) hx1 T.u23 T.t3 z z z) hT z (by kernel_rfl) (.ts 12 z (fun W hT=>lde (RV.flat (hT.keep q_0_Slots) hx1 z) T.t3 z z z z z) hT z (by kernel_rfl) (.by1 13 z (.liv [x1] (D.int .i64) T.u23 T.t3 hS z z z z ?_ z (fun _=>z) z z z z) (by kernel_rfl)))
   intro v6 W hS
   have hT:=hS.to [1,1,1] z
   refine ⟨fun _=>hT,?_⟩
   have ⟨r1,hr1,h⟩:=bnd h
   have hT0:=hS.p4
   refine .by1 14 z (.apprv hr1 hT0 hT0.p1.lendv (fun _=>z) T.u23 T.t3 z z z ?_ z z z z z) (by kernel_rfl)
   intro v7 W hS
   have hT:=hS.to [2,2,2] z
   refine ⟨fun _=>hT,.ts 15 z (fun W hT=>fa T.f44_1 z z z) hT z (by kernel_rfl) (.by1 16 z (.st T.t23 hS.p2 z z z ?_ z z z z z) (by kernel_rfl))⟩
   intro W hS
   refine ⟨fun h=>absurd z h,?_⟩
   refine .done (.region (.q z (.q z (.q z (.nil ?_))))) (by kernel_rfl)
   cases h
   exact ⟨z,v7,sb z,hS.to [0,2,2,0] z⟩
  refine .exit ?_
  cases h
  exact ⟨by simp,z,v3,sb z,hS.to [0,0,0,0] z⟩
 intro x E W hJ
 obtain ⟨rfl,v8,hE,hS⟩:=hJ
 refine ⟨_,hE.sub,?_⟩
 refine .g (.s (ld T.t44 hS z z z z z) z (.c (.st T.t44 hS.p1 z z z ?_ z z z z z)))
 intro W hS
 cases h
 exact .qn z (.ret (fin_ret (vs:=[_,_]) v8 (rc hS T.t44 z (rt z rn) z z) z (hS.to [3] z)))
theorem few {a0 : List Int} {a1 : Int} {v_0 : Hd} {w : World} {r : Ring} (h : f82 a0 a1 = some r) (q_0 : RV w (Old No w) (sv v_0) 3 1 (D.int .i64) a0) : Calls Tryz.prog 30 #[(sv v_0),.int .i64 a1] w (Ret No w (fun s : Hd=>.agg #[.int .i64 r.Room,.int .i64 r.Head,.int .i64 r.Len,(sv s)]) (fun s=>[rowV (sv s) 3 1 (D.int .i64) r.Slots])):=by
 unfold f82 at h
 refine enter Tryz.func30 z z ?_
 have hS:=Sep.start w
 refine .g (.c (.alloc T.t48 hS ?_ z z z))
 intro g1 W hS
 refine .nil (.seq (.rk 23 hS [0] T.mix ?_))
 intro W hS
 have hT:=hS.to [0] z
 refine .tp 0 z z hT (by kernel_rfl) (.tp 1 z z hT (by kernel_rfl) ?_)
 have ⟨x1,hx1,h⟩:=bnd h
 refine .ts 2 z (fun W hT=>ixv (hS.keep q_0) hx1 T.u23 T.t3 z z z) hT z (by kernel_rfl) (.ts 3 z (fun W hT=>lde (RV.flat (hT.keep q_0) hx1 z) T.t3 z z z z z) hT z (by kernel_rfl) (.tp 4 z z hT (by kernel_rfl) (.tp 5 z z hT (by kernel_rfl) (.tp 6 z z hT (by kernel_rfl) ?_))))
 have ⟨x2,hx2,h⟩:=bnd h
 refine .ts 7 z (fun W hT=>ixv (hS.keep q_0) hx2 T.u23 T.t3 z z z) hT z (by kernel_rfl) (.ts 8 z (fun W hT=>lde (RV.flat (hT.keep q_0) hx2 z) T.t3 z z z z z) hT z (by kernel_rfl) (.tp 9 z z hT (by kernel_rfl) (.tp 10 z z hT (by kernel_rfl) (.tp 11 z z hT (by kernel_rfl) ?_))))
 have ⟨x3,hx3,h⟩:=bnd h
 refine .ts 12 z (fun W hT=>ixv (hS.keep q_0) hx3 T.u23 T.t3 z z z) hT z (by kernel_rfl) (.ts 13 z (fun W hT=>lde (RV.flat (hT.keep q_0) hx3 z) T.t3 z z z z z) hT z (by kernel_rfl) (.tp 15 z z hT (by kernel_rfl) (.tp 16 z z hT (by kernel_rfl) (.tp 17 z z hT (by kernel_rfl) (.tp 18 z z hT (by kernel_rfl) (.tp 19 z z hT (by kernel_rfl) ?_))))))
 have ⟨r1,hr1,h⟩:=bnd h
 refine .ts 20 z (fun W hT=>slv hr1 q_0 T.u23 T.t3 z z z z) hT z (by kernel_rfl) (.by1 14 z (.liv [] (D.int .i64) T.u23 T.t3 hS z z z z ?_ z (fun _=>z) z z z z) (by kernel_rfl))
 intro v1 W hS
 have hT:=hS.to [1] z
 refine ⟨fun _=>hT,?_⟩
 have ⟨r2,hr2,h⟩:=bnd h
 refine .by1 21 z (.apprv hr2 hS (hS.keep (slv_rd hr1 q_0)) (fun _=>z) T.u23 T.t3 z z z ?_ z z z z z) (by kernel_rfl)
 intro v2 W hS
 have hT:=hS.to [1] z
 refine ⟨fun _=>hT,.ts 22 z (fun W hT=>bs T.s48 z z) hT z (by kernel_rfl) (.by1 23 z (.st T.t48 hS.p1 z z z ?_ z z z z z) (by kernel_rfl))⟩
 intro W hS
 refine ⟨fun h=>absurd z h,?_⟩
 cases h
 exact .done (.ret (fin_ret (vs:=[_]) v2 (rc hS T.t48 z rn z z) z (hS.to [1] z))) (by kernel_rfl)
def fem (w : World) (r : (List (List Int)) × Bool) : Env → World → Prop:=Fin Tryz.prog Tryz.f19 No w (fun s : Hd=>.tuple #[(sv s),.bool r.2]) (fun s=>[rowV (sv s) 23 1 (fun (l : List Int)=>D.row 3 1 (l.map (D.int .i64))) r.1]) .ret
theorem fde {a0 : List Int} {a1 : Int} {v_0 : Hd} {w : World} {r : (List (List Int)) × Bool} (h : f8z a0 a1 = some r) (q_0 : RV w (Old No w) (sv v_0) 3 1 (D.int .i64) a0) : Calls Tryz.prog 19 #[(sv v_0),.int .i64 a1] w (Ret No w (fun s : Hd=>.tuple #[(sv s),.bool r.2]) (fun s=>[rowV (sv s) 23 1 (fun (l : List Int)=>D.row 3 1 (l.map (D.int .i64))) r.1])):=by
 unfold f8z at h
 refine enter Tryz.func19 z z ?_
 have hS:=Sep.start w
 refine .g (.q z (.qn z (.g (.c (.ligv (L1:=[]) [] (fun (l : List Int)=>D.row 3 1 (l.map (D.int .i64))) T.u28 T.t23 (hS.to [] z) z z z (.nil) ?_ z (fun _=>z) z z z z z)))))
 intro v1 W hS
 refine .qn z (.seq (.g (.qn z (.block ?_))))
 have ⟨y1,hy1,h⟩:=bnd h
 refine .via (.iter (fun s1 E' W'=>∃ (v4 : Hd),SubL E' [(0,(sv v_0)),(1,.int .i64 a1),(6,(sv v4)),(7,.int .i64 s1.2)] ∧ Sep No w W' [rowV (sv v4) 23 1 (fun (l : List Int)=>D.row 3 1 (l.map (D.int .i64))) s1.1]) (fun y2 x E' W'=>(match y2 with | .inl o1=>x = .ret ∧ fem w o1 E' W' | .inr o2=>x = .exit 0 ∧ ∃ (v5 : Hd),SubL E' [(6,(sv v5))] ∧ Sep No w W' [rowV (sv v5) 23 1 (fun (l : List Int)=>D.row 3 1 (l.map (D.int .i64))) o2])) hy1 ⟨v1,sb rfl,hS.to [0] rfl⟩ ?_) ?_
 ·intro s1 y3 E W h hI
  obtain ⟨v3,hE,hS⟩:=hI
  refine CW.sub hE ?_
  unfold f4e at h
  refine .seq (.g (.q z (.q z (.q z ?_))))
  have ⟨b1,hb1,h⟩:=bnd h
  refine .chunk 10 23 (b1) hS ?_ ?_
  ·refine .both (decide (s1.2 < 3)) (fun hb=>?_) (fun hb=>?_)
   ·have hg1:=hb
    have h:=sel_t hb hb1
    refine .g hg1 (.q z (.g hg1 (.q z (.g hg1 (.q z (.g hg1 (.q z (.g hg1 (.q z (.g hg1 (.q z ?_) z)) z)) z)) z)) z)) z
    have ⟨x1,hx1,h⟩:=bnd h
    refine .g hg1 (.s (ixv (hS.keep q_0) hx1 T.u23 T.t3 z z z) z (.g hg1 (.s (lde (RV.flat (hS.keep q_0) hx1 z) T.t3 z z z z z) z (.g hg1 (.q z (.s (pkt hg1 z z z) z ?_)) z)) z)) z
    cases h
    exact .nil (ck 10 hS z z z z)
   refine .xx hb z (.xx hb z (.xx hb z (.xx hb z (.xx hb z (.xx hb z (.xx hb z (.xx hb z (.xx hb z ?_))))))))
   cases sel_f hb hb1
   exact .s (pkf hb z z z) z (.nil (ck 10 hS z z z z))
  intro W hS
  refine .nil ?_
  refine .cs z h ?_ ?_ <;> intro h
  ·refine .skip (.seq (.block (.g (.q z (.q z (.q z (.q z (.q z (.q z ?_)))))))))
   have ⟨y4,hy4,h⟩:=bnd h
   refine .c (.call1v hS Tryz.func30 (few hy4 (hS.keep q_0)) z z ?_ z z z z)
   intro v6 W hS
   have ⟨y5,hy5,h⟩:=bnd h
   refine .c (.call1v hS Tryz.func29 (fdz hy5 hS.lendv) z z ?_ z z z z)
   intro v7 W hS
   refine .q z (.q z (.q z (.c (.alloc T.t44 hS ?_ z z z))))
   intro g1 W hS
   refine .c (.st T.t44 hS z z z ?_ z z z z z)
   intro W hS
   refine .qn z (.seq (.g (.q z (.q z (.nil ?_)))))
   refine .cs z h ?_ ?_ <;> intro h
   ·refine .g (.c (.ligv (L1:=[]) [] (fun (l : List Int)=>D.row 3 1 (l.map (D.int .i64))) T.u28 T.t23 (hS.to [0,0,0,0] z) z z z (.nil) ?_ z (fun _=>z) z z z z z))
    intro v8 W hS
    refine .q z (.qn z (.ret ?_))
    cases h
    exact ⟨by simp,z,fin_ret (vs:=[_,_]) v8 (rt z (rt z rn)) z (hS.to [0] z)⟩
   refine .skip (.region (.q z (.s (fa T.f44_1 z z z) z (.s (ld T.t23 hS z z z z z) z (.c (.ligv (L1:=[rowV (sv v7) 3 1 (D.int .i64) y5.1.Items]) [y5.1.Items] (fun (l : List Int)=>D.row 3 1 (l.map (D.int .i64))) T.u28 T.t23 (hS.to [1,0,0,0] z) z z z (.row (.nil)) ?_ z (fun _=>z) z z z z z))))))
   intro v9 W hS
   have ⟨r1,hr1,h⟩:=bnd h
   refine .c (.appv hr1 (hS.to [3,0,0,0] z) T.u28 T.t23 z z z ?_ z z z z z)
   intro v10 W hS
   refine .qn z (.region (.q z (.q z (.q z (.nil ?_)))))
   cases h
   exact ⟨z,v10,sb z,hS.to [0] z⟩
  refine .exit ?_
  cases h
  exact ⟨by simp,z,v3,sb z,hS.to [0] z⟩
 intro x E W hJ
 rcases y1 with o3 | o4
 ·obtain ⟨rfl,hF⟩:=hJ
  refine ⟨_,fun _ _ h=>h,?_⟩
  cases h
  exact hF
 obtain ⟨rfl,v11,hE,hS⟩:=hJ
 refine ⟨_,hE.sub,?_⟩
 cases h
 exact .g (.q z (.q z (.qn z (.ret (fin_ret (vs:=[_,_]) v11 (rt z (rt z rn)) z (hS.to [0] z))))))
end Go.Proofs.YtmpplggjpmmhlaaGreat.N
namespace Go.Proofs.YtmpplggjpmmhlaaGreat.N
open Go.Proofs.YtmpplggjpmmhlaaGreat.X
theorem fbz {a0 : Machine} {a1 : Int} {a2 : List Int} {v_0_Regs : Hd} {v_0_Mem : Hd} {v_2 : Hd} {w : World} {r : Outcome} (h : f3t a0 a1 a2 = some r) (q_0_Regs : RV w (Old No w) (sv v_0_Regs) 3 1 (D.int .i64) a0.Regs) (q_0_Mem : RV w (Old No w) (sv v_0_Mem) 3 1 (D.int .i64) a0.Mem) (q_2 : RV w (Old No w) (sv v_2) 3 1 (D.int .i64) a2) : Calls Tryz.prog 6 #[.agg #[(sv v_0_Regs),.int .i64 a0.Pc,(sv v_0_Mem)],.int .i64 a1,(sv v_2)] w (Ret No w (fun s : Hd × Hd × Hd=>.agg #[(sv s.1),(sv s.2.1),(sv s.2.2),.bool r.Rest]) (fun s=>[rowV (sv s.1) 3 1 (D.int .i64) r.Out,rowV (sv s.2.1) 23 1 (fun (l : List Int)=>D.row 3 1 (l.map (D.int .i64))) r.Items,rowV (sv s.2.2) 4 1 D.bool r.Ended])):=by
 unfold f3t at h
 refine enter Tryz.func6 z z ?_
 have hS:=Sep.start w
 refine .g (.c (.box hS z z ?_ z z))
 intro g1 W hS
 refine .c (.alloc T.t31 hS ?_ z z z)
 intro g2 W hS
 refine .nil (.seq (.g (.s (ld T.t25 hS.p1 z z z z z) z ?_)))
 have ⟨y1,hy1,h⟩:=bnd h
 refine .c (.call0 hS Tryz.func16 (fa5 hy1 (hS.keep q_0_Regs) (hS.keep q_0_Mem)) z z ?_ z z z z)
 intro W hS
 refine .q z (.q z ?_)
 have ⟨b1,hb1,h⟩:=bnd h
 refine .chunk 6 22 (b1) hS ?_ ?_
 ·refine .both (!y1) (fun hb=>?_) (fun hb=>?_)
  ·refine .xx hb z (.xx hb z (.xx hb z (.xx hb z (.xx hb z ?_))))
   cases sel_t hb hb1
   exact .s (pkt hb z z z) z (.nil (ck 6 hS z z z z))
  have hg1:=hb
  have h:=sel_f hb hb1
  refine .g hg1 (.q z (.g hg1 (.q z (.g hg1 (.s (lenv (hS.keep q_2) T.u23 z z) z ?_) z)) z)) z
  have ⟨y2,hy2,h⟩:=bnd h
  refine .g hg1 (.c (.call0 hS Tryz.func17 (f7b hy2 (hS.keep q_2)) z z ?_ z z z z)) z
  intro W hS
  refine .g hg1 (.q z (.s (pkf hg1 z z z) z ?_)) z
  cases h
  exact .nil (ck 6 hS z z z z)
 intro W hS
 refine .q z ?_
 have ⟨b2,hb2,h⟩:=bnd h
 refine .chunk 6 29 (b2) hS ?_ ?_
 ·refine .both (b1) (fun hb=>?_) (fun hb=>?_)
  ·refine .xx hb z (.xx hb z (.xx hb z (.xx hb z (.xx hb z ?_))))
   cases sel_t hb hb2
   exact .s (pkt hb z z z) z (.nil (ck 6 hS z z z z))
  have hg2:=hb
  have h:=sel_f hb hb2
  refine .g hg2 (.s (fa T.f25_2 z z z) z (.g hg2 (.s (ld T.t23 hS.p1 z z z z z) z (.g hg2 (.q z ?_) z)) z)) z
  have ⟨y3,hy3,h⟩:=bnd h
  refine .g hg2 (.c (.call0 hS Tryz.func18 (fel hy3 (hS.keep q_0_Mem)) z z ?_ z z z z)) z
  intro W hS
  refine .g hg2 (.q z (.s (pkf hg2 z z z) z ?_)) z
  cases h
  exact .nil (ck 6 hS z z z z)
 intro W hS
 refine .nil ?_
 refine .cs z h ?_ ?_ <;> intro h
 ·refine .g (.s (bs T.s31 z z) z (.c (.st T.t31 hS z z z ?_ z z z z z)))
  intro W hS
  refine .nil (.ret ?_)
  have hS:=hS.nilv 3 1 (D.int .i64)
  have hS:=hS.nilv 23 1 (fun (l : List Int)=>D.row 3 1 (l.map (D.int .i64)))
  have hS:=hS.nilv 4 1 D.bool
  cases h
  exact fin_ret (vs:=[_]) (nilH,nilH,nilH) (rc hS.p3 T.t31 z rn z z) z (hS.to [2,1,0] z)
 refine .skip (.g (.q z (.q z (.qn z (.g (.s (fa T.f25_2 z z z) z (.s (ld T.t23 hS.p1 z z z z z) z (.q z ?_))))))))
 have ⟨y4,hy4,h⟩:=bnd h
 refine .c (.call1v hS Tryz.func19 (fde hy4 (hS.keep q_0_Mem)) z z ?_ z z z z)
 intro v1 W hS
 refine .q z (.q z (.q z (.q z (.qn z (.seq (.g (.q z (.q z (.nil ?_)))))))))
 refine .cs z h ?_ ?_ <;> intro h
 ·refine .g (.s (bs T.s31 z z) z (.c (.st T.t31 hS.p1 z z z ?_ z z z z z)))
  intro W hS
  refine .nil (.ret ?_)
  have hS:=hS.nilv 3 1 (D.int .i64)
  have hS:=hS.nilv 23 1 (fun (l : List Int)=>D.row 3 1 (l.map (D.int .i64)))
  have hS:=hS.nilv 4 1 D.bool
  cases h
  exact fin_ret (vs:=[_]) (nilH,nilH,nilH) (rc hS.p3 T.t31 z rn z z) z (hS.to [2,1,0] z)
 refine .skip (.g (.s (fa T.f25_2 z z z) z (.s (ld T.t23 hS.p2 z z z z z) z (.q z (.q z ?_)))))
 have ⟨x1,hx1,h⟩:=bnd h
 refine .s (ixv (hS.keep q_0_Mem) hx1 T.u23 T.t3 z z z) z (.s (lde (RV.flat (hS.keep q_0_Mem) hx1 z) T.t3 z z z z z) z (.qn z (.seq ?_)))
 have ⟨x2,hx2,h⟩:=bnd h
 have ⟨r1,hr1,h⟩:=bnd h
 refine .via (R':=fun x E' W'=>x = .normal ∧ ∃ (g3 : Nat) (v2 : Hd) (v3 : Hd),SubL E' [(3,.pointer (some ⟨g1,0,none⟩)),(6,.pointer (some ⟨g2,0,none⟩)),(7,.int .i64 (w64 (Int.tdiv a1 4))),(10,.int .i64 x1),(11,.pointer (some ⟨g3,0,none⟩))] ∧ Sep No w W' [rowV (sv v1) 23 1 (fun (l : List Int)=>D.row 3 1 (l.map (D.int .i64))) y4.1,.box g2 31 [(sv nilH),(sv nilH),(sv nilH),.bool false],.box g1 25 [(sv v_0_Regs),.int .i64 a0.Pc,(sv v_0_Mem)],.box g3 31 [(sv v2),(sv v1),(sv v3),.bool (x2 == x1)],rowV (sv v2) 3 1 (D.int .i64) r1,rowV (sv v3) 4 1 D.bool []]) ?_ ?_
 ·refine .rk 14 hS [0,0,0] T.mix ?_
  intro W hS
  have hT:=hS.to [0,0,0] z
  refine .tp 1 z z hT (by kernel_rfl) (.tp 3 z z hT (by kernel_rfl) (.ts 5 z (fun W hT=>fa T.f25_2 z z z) hT z (by kernel_rfl) (.ts 6 z (fun W hT=>ld T.t23 hT.p2 z z z z z) hT z (by kernel_rfl) (.tp 7 z z hT (by kernel_rfl) (.ts 8 z (fun W hT=>ixv (hS.keep q_0_Mem) hx2 T.u23 T.t3 z z z) hT z (by kernel_rfl) (.ts 9 z (fun W hT=>lde (RV.flat (hT.keep q_0_Mem) hx2 z) T.t3 z z z z z) hT z (by kernel_rfl) (.tp 10 z z hT (by kernel_rfl) (.tp 11 z z hT (by kernel_rfl) (.by [0,4,13] ⟨⟨_,z,?_⟩,⟨_,z,?_⟩,⟨_,z,?_⟩,trivial⟩ (by kernel_rfl) z)))))))))
  ·refine (.liv [] (D.int .i64) T.u23 T.t3 hS z z z z ?_ z (fun _=>z) z z z z)
   intro v4 W hS
   have hT:=hS.to [1,1,1] z
   refine ⟨fun _=>hT,.by [2,4,13] ⟨⟨_,z,?_⟩,⟨_,z,?_⟩,⟨_,z,?_⟩,trivial⟩ (by kernel_rfl) z⟩
   ·refine (.apprv hr1 hS (hS.keep q_2) (fun _=>z) T.u23 T.t3 z z z ?_ z z z z z)
    intro v5 W hS
    have hT:=hS.to [1,1,1] z
    refine ⟨fun _=>hT,.by [4,13] ⟨⟨_,z,?_⟩,⟨_,z,?_⟩,trivial⟩ (by kernel_rfl) z⟩
    ·refine (.liv [] D.bool T.u29 T.t4 hS z z z z ?_ z (fun _=>z) z z z z)
     intro v6 W hS
     have hT:=hS.to [2,2,2] z
     refine ⟨fun _=>hT,.ts 12 z (fun W hT=>bs T.s31 z z) hT z (by kernel_rfl) (.by1 13 z (.alloc T.t31 hS ?_ z z z) (by kernel_rfl))⟩
     intro g4 W hS
     have hT:=hS.to [3,3,3] z
     refine ⟨fun _=>hT,.by1 14 z (.st T.t31 hS z z z ?_ z z z z z) (by kernel_rfl)⟩
     intro W hS
     refine ⟨fun h=>absurd z h,?_⟩
     exact .done (⟨z,g4,v5,v6,sb z,hS.to [3,3,3,0,1,0] z⟩) (by kernel_rfl)
    refine (.alloc T.t31 hS ?_ z z z)
    intro g5 W hS
    have hT:=hS.to [2,2,2] z
    refine ⟨fun _=>hT,.by1 4 z (.liv [] D.bool T.u29 T.t4 hS z z z z ?_ z (fun _=>z) z z z z) (by kernel_rfl)⟩
    intro v7 W hS
    have hT:=hS.to [3,3,3] z
    refine ⟨fun _=>hT,.ts 12 z (fun W hT=>bs T.s31 z z) hT z (by kernel_rfl) (.by1 14 z (.st T.t31 hS.p1 z z z ?_ z z z z z) (by kernel_rfl))⟩
    intro W hS
    refine ⟨fun h=>absurd z h,?_⟩
    exact .done (⟨z,g5,v5,v7,sb z,hS.to [3,3,3,0,1,0] z⟩) (by kernel_rfl)
   ·refine (.liv [] D.bool T.u29 T.t4 hS z z z z ?_ z (fun _=>z) z z z z)
    intro v8 W hS
    have hT:=hS.to [2,2,2] z
    refine ⟨fun _=>hT,.by [2,13] ⟨⟨_,z,?_⟩,⟨_,z,?_⟩,trivial⟩ (by kernel_rfl) z⟩
    ·refine (.apprv hr1 hS.p1 (hS.keep q_2) (fun _=>z) T.u23 T.t3 z z z ?_ z z z z z)
     intro v9 W hS
     have hT:=hS.to [2,2,2] z
     refine ⟨fun _=>hT,.ts 12 z (fun W hT=>bs T.s31 z z) hT z (by kernel_rfl) (.by1 13 z (.alloc T.t31 hS ?_ z z z) (by kernel_rfl))⟩
     intro g6 W hS
     have hT:=hS.to [3,3,3] z
     refine ⟨fun _=>hT,.by1 14 z (.st T.t31 hS z z z ?_ z z z z z) (by kernel_rfl)⟩
     intro W hS
     refine ⟨fun h=>absurd z h,?_⟩
     exact .done (⟨z,g6,v9,v8,sb z,hS.to [3,3,3,0,0,0] z⟩) (by kernel_rfl)
    refine (.alloc T.t31 hS ?_ z z z)
    intro g7 W hS
    have hT:=hS.to [3,3,3] z
    refine ⟨fun _=>hT,.by1 2 z (.apprv hr1 hS.p2 (hS.keep q_2) (fun _=>z) T.u23 T.t3 z z z ?_ z z z z z) (by kernel_rfl)⟩
    intro v10 W hS
    have hT:=hS.to [3,3,3] z
    refine ⟨fun _=>hT,.ts 12 z (fun W hT=>bs T.s31 z z) hT z (by kernel_rfl) (.by1 14 z (.st T.t31 hS.p1 z z z ?_ z z z z z) (by kernel_rfl))⟩
    intro W hS
    refine ⟨fun h=>absurd z h,?_⟩
    exact .done (⟨z,g7,v10,v8,sb z,hS.to [3,3,3,0,0,0] z⟩) (by kernel_rfl)
   refine (.alloc T.t31 hS ?_ z z z)
   intro g8 W hS
   have hT:=hS.to [2,2,2] z
   refine ⟨fun _=>hT,.by [2,4] ⟨⟨_,z,?_⟩,⟨_,z,?_⟩,trivial⟩ (by kernel_rfl) z⟩
   ·refine (.apprv hr1 hS.p1 (hS.keep q_2) (fun _=>z) T.u23 T.t3 z z z ?_ z z z z z)
    intro v11 W hS
    have hT:=hS.to [2,2,2] z
    refine ⟨fun _=>hT,.by1 4 z (.liv [] D.bool T.u29 T.t4 hS z z z z ?_ z (fun _=>z) z z z z) (by kernel_rfl)⟩
    intro v12 W hS
    have hT:=hS.to [3,3,3] z
    refine ⟨fun _=>hT,.ts 12 z (fun W hT=>bs T.s31 z z) hT z (by kernel_rfl) (.by1 14 z (.st T.t31 hS.p2 z z z ?_ z z z z z) (by kernel_rfl))⟩
    intro W hS
    refine ⟨fun h=>absurd z h,?_⟩
    exact .done (⟨z,g8,v11,v12,sb z,hS.to [3,3,3,0,1,0] z⟩) (by kernel_rfl)
   refine (.liv [] D.bool T.u29 T.t4 hS z z z z ?_ z (fun _=>z) z z z z)
   intro v13 W hS
   have hT:=hS.to [3,3,3] z
   refine ⟨fun _=>hT,.by1 2 z (.apprv hr1 hS.p2 (hS.keep q_2) (fun _=>z) T.u23 T.t3 z z z ?_ z z z z z) (by kernel_rfl)⟩
   intro v14 W hS
   have hT:=hS.to [3,3,3] z
   refine ⟨fun _=>hT,.ts 12 z (fun W hT=>bs T.s31 z z) hT z (by kernel_rfl) (.by1 14 z (.st T.t31 hS.p2 z z z ?_ z z z z z) (by kernel_rfl))⟩
   intro W hS
   refine ⟨fun h=>absurd z h,?_⟩
   exact .done (⟨z,g8,v14,v13,sb z,hS.to [3,3,3,0,0,0] z⟩) (by kernel_rfl)
  ·refine (.liv [] D.bool T.u29 T.t4 hS z z z z ?_ z (fun _=>z) z z z z)
   intro v15 W hS
   have hT:=hS.to [1,1,1] z
   refine ⟨fun _=>hT,.by [0,13] ⟨⟨_,z,?_⟩,⟨_,z,?_⟩,trivial⟩ (by kernel_rfl) z⟩
   ·refine (.liv [] (D.int .i64) T.u23 T.t3 hS z z z z ?_ z (fun _=>z) z z z z)
    intro v16 W hS
    have hT:=hS.to [2,2,2] z
    refine ⟨fun _=>hT,.by [2,13] ⟨⟨_,z,?_⟩,⟨_,z,?_⟩,trivial⟩ (by kernel_rfl) z⟩
    ·refine (.apprv hr1 hS (hS.keep q_2) (fun _=>z) T.u23 T.t3 z z z ?_ z z z z z)
     intro v17 W hS
     have hT:=hS.to [2,2,2] z
     refine ⟨fun _=>hT,.ts 12 z (fun W hT=>bs T.s31 z z) hT z (by kernel_rfl) (.by1 13 z (.alloc T.t31 hS ?_ z z z) (by kernel_rfl))⟩
     intro g9 W hS
     have hT:=hS.to [3,3,3] z
     refine ⟨fun _=>hT,.by1 14 z (.st T.t31 hS z z z ?_ z z z z z) (by kernel_rfl)⟩
     intro W hS
     refine ⟨fun h=>absurd z h,?_⟩
     exact .done (⟨z,g9,v17,v15,sb z,hS.to [3,3,3,0,0,0] z⟩) (by kernel_rfl)
    refine (.alloc T.t31 hS ?_ z z z)
    intro g10 W hS
    have hT:=hS.to [3,3,3] z
    refine ⟨fun _=>hT,.by1 2 z (.apprv hr1 hS.p1 (hS.keep q_2) (fun _=>z) T.u23 T.t3 z z z ?_ z z z z z) (by kernel_rfl)⟩
    intro v18 W hS
    have hT:=hS.to [3,3,3] z
    refine ⟨fun _=>hT,.ts 12 z (fun W hT=>bs T.s31 z z) hT z (by kernel_rfl) (.by1 14 z (.st T.t31 hS.p1 z z z ?_ z z z z z) (by kernel_rfl))⟩
    intro W hS
    refine ⟨fun h=>absurd z h,?_⟩
    exact .done (⟨z,g10,v18,v15,sb z,hS.to [3,3,3,0,0,0] z⟩) (by kernel_rfl)
   refine (.alloc T.t31 hS ?_ z z z)
   intro g11 W hS
   have hT:=hS.to [2,2,2] z
   refine ⟨fun _=>hT,.by1 0 z (.liv [] (D.int .i64) T.u23 T.t3 hS z z z z ?_ z (fun _=>z) z z z z) (by kernel_rfl)⟩
   intro v19 W hS
   have hT:=hS.to [3,3,3] z
   refine ⟨fun _=>hT,.by1 2 z (.apprv hr1 hS (hS.keep q_2) (fun _=>z) T.u23 T.t3 z z z ?_ z z z z z) (by kernel_rfl)⟩
   intro v20 W hS
   have hT:=hS.to [3,3,3] z
   refine ⟨fun _=>hT,.ts 12 z (fun W hT=>bs T.s31 z z) hT z (by kernel_rfl) (.by1 14 z (.st T.t31 hS.p1 z z z ?_ z z z z z) (by kernel_rfl))⟩
   intro W hS
   refine ⟨fun h=>absurd z h,?_⟩
   exact .done (⟨z,g11,v20,v15,sb z,hS.to [3,3,3,0,0,0] z⟩) (by kernel_rfl)
  refine (.alloc T.t31 hS ?_ z z z)
  intro g12 W hS
  have hT:=hS.to [1,1,1] z
  refine ⟨fun _=>hT,.by [0,4] ⟨⟨_,z,?_⟩,⟨_,z,?_⟩,trivial⟩ (by kernel_rfl) z⟩
  ·refine (.liv [] (D.int .i64) T.u23 T.t3 hS z z z z ?_ z (fun _=>z) z z z z)
   intro v21 W hS
   have hT:=hS.to [2,2,2] z
   refine ⟨fun _=>hT,.by [2,4] ⟨⟨_,z,?_⟩,⟨_,z,?_⟩,trivial⟩ (by kernel_rfl) z⟩
   ·refine (.apprv hr1 hS (hS.keep q_2) (fun _=>z) T.u23 T.t3 z z z ?_ z z z z z)
    intro v22 W hS
    have hT:=hS.to [2,2,2] z
    refine ⟨fun _=>hT,.by1 4 z (.liv [] D.bool T.u29 T.t4 hS z z z z ?_ z (fun _=>z) z z z z) (by kernel_rfl)⟩
    intro v23 W hS
    have hT:=hS.to [3,3,3] z
    refine ⟨fun _=>hT,.ts 12 z (fun W hT=>bs T.s31 z z) hT z (by kernel_rfl) (.by1 14 z (.st T.t31 hS.p2 z z z ?_ z z z z z) (by kernel_rfl))⟩
    intro W hS
    refine ⟨fun h=>absurd z h,?_⟩
    exact .done (⟨z,g12,v22,v23,sb z,hS.to [3,3,3,0,1,0] z⟩) (by kernel_rfl)
   refine (.liv [] D.bool T.u29 T.t4 hS z z z z ?_ z (fun _=>z) z z z z)
   intro v24 W hS
   have hT:=hS.to [3,3,3] z
   refine ⟨fun _=>hT,.by1 2 z (.apprv hr1 hS.p1 (hS.keep q_2) (fun _=>z) T.u23 T.t3 z z z ?_ z z z z z) (by kernel_rfl)⟩
   intro v25 W hS
   have hT:=hS.to [3,3,3] z
   refine ⟨fun _=>hT,.ts 12 z (fun W hT=>bs T.s31 z z) hT z (by kernel_rfl) (.by1 14 z (.st T.t31 hS.p2 z z z ?_ z z z z z) (by kernel_rfl))⟩
   intro W hS
   refine ⟨fun h=>absurd z h,?_⟩
   exact .done (⟨z,g12,v25,v24,sb z,hS.to [3,3,3,0,0,0] z⟩) (by kernel_rfl)
  refine (.liv [] D.bool T.u29 T.t4 hS z z z z ?_ z (fun _=>z) z z z z)
  intro v26 W hS
  have hT:=hS.to [2,2,2] z
  refine ⟨fun _=>hT,.by1 0 z (.liv [] (D.int .i64) T.u23 T.t3 hS z z z z ?_ z (fun _=>z) z z z z) (by kernel_rfl)⟩
  intro v27 W hS
  have hT:=hS.to [3,3,3] z
  refine ⟨fun _=>hT,.by1 2 z (.apprv hr1 hS (hS.keep q_2) (fun _=>z) T.u23 T.t3 z z z ?_ z z z z z) (by kernel_rfl)⟩
  intro v28 W hS
  have hT:=hS.to [3,3,3] z
  refine ⟨fun _=>hT,.ts 12 z (fun W hT=>bs T.s31 z z) hT z (by kernel_rfl) (.by1 14 z (.st T.t31 hS.p2 z z z ?_ z z z z z) (by kernel_rfl))⟩
  intro W hS
  refine ⟨fun h=>absurd z h,?_⟩
  exact .done (⟨z,g12,v28,v26,sb z,hS.to [3,3,3,0,0,0] z⟩) (by kernel_rfl)
 intro x E W hJ
 obtain ⟨rfl,g13,v29,v30,hE,hS⟩:=hJ
 refine ⟨_,hE.sub,?_⟩
 refine .seq (.g (.qn z (.block ?_)))
 have ⟨y5,hy5,h⟩:=bnd h
 refine .via (.iter (fun s1 E' W'=>∃ (v33 : Hd),SubL E' [(3,.pointer (some ⟨g1,0,none⟩)),(6,.pointer (some ⟨g2,0,none⟩)),(7,.int .i64 (w64 (Int.tdiv a1 4))),(10,.int .i64 x1),(11,.pointer (some ⟨g13,0,none⟩)),(12,.int .i64 s1.1)] ∧ Sep No w W' [rowV (sv v1) 23 1 (fun (l : List Int)=>D.row 3 1 (l.map (D.int .i64))) y4.1,.box g2 31 [(sv nilH),(sv nilH),(sv nilH),.bool false],.box g1 25 [(sv v_0_Regs),.int .i64 a0.Pc,(sv v_0_Mem)],.box g13 31 [(sv v29),(sv v1),(sv v33),.bool (x2 == x1)],rowV (sv v29) 3 1 (D.int .i64) r1,rowV (sv v33) 4 1 D.bool s1.2]) (fun y6 x E' W'=>x = .exit 0 ∧ ∃ (v34 : Hd),SubL E' [(6,.pointer (some ⟨g2,0,none⟩)),(11,.pointer (some ⟨g13,0,none⟩))] ∧ Sep No w W' [rowV (sv v1) 23 1 (fun (l : List Int)=>D.row 3 1 (l.map (D.int .i64))) y4.1,.box g2 31 [(sv nilH),(sv nilH),(sv nilH),.bool false],.box g1 25 [(sv v_0_Regs),.int .i64 a0.Pc,(sv v_0_Mem)],.box g13 31 [(sv v29),(sv v1),(sv v34),.bool (x2 == x1)],rowV (sv v29) 3 1 (D.int .i64) r1,rowV (sv v34) 4 1 D.bool y6]) hy5 ⟨v30,sb z,hS.to [0,0,0,0,0,0] z⟩ ?_) ?_
 ·intro s1 y7 E W h hI
  obtain ⟨v32,hE,hS⟩:=hI
  refine CW.sub hE ?_
  unfold f3x at h
  refine .seq (.g (.q z (.q z (.q z (.nil ?_)))))
  refine .cs z h ?_ ?_ <;> intro h
  ·refine .skip (.seq (.block (.rk 17 hS [0,0,0,0,0] T.mix ?_)))
   intro W hS
   have hT:=hS.to [0,0,0,0,0] z
   refine .ts 0 z (fun W hT=>fa T.f31_2 z z z) hT z (by kernel_rfl) (.ts 1 z (fun W hT=>ld T.t29 hT.p3 z z z z z) hT z (by kernel_rfl) (.ts 2 z (fun W hT=>fa T.f25_2 z z z) hT z (by kernel_rfl) (.ts 3 z (fun W hT=>ld T.t23 hT.p2 z z z z z) hT z (by kernel_rfl) (.tp 4 z z hT (by kernel_rfl) (.tp 5 z z hT (by kernel_rfl) (.tp 6 z z hT (by kernel_rfl) (.tp 7 z z hT (by kernel_rfl) (.tp 8 z z hT (by kernel_rfl) (.tp 9 z z hT (by kernel_rfl) (.tp 10 z z hT (by kernel_rfl) ?_))))))))))
   have ⟨x3,hx3,h⟩:=bnd h
   refine .ts 11 z (fun W hT=>ixv (hS.keep q_0_Mem) hx3 T.u23 T.t3 z z z) hT z (by kernel_rfl) (.ts 12 z (fun W hT=>lde (RV.flat (hT.keep q_0_Mem) hx3 z) T.t3 z z z z z) hT z (by kernel_rfl) (.tp 13 z z hT (by kernel_rfl) (.by1 14 z (.liv [x3 == 5] D.bool T.u29 T.t4 hS z z z z ?_ z (fun _=>z) z z z z) (by kernel_rfl))))
   intro v35 W hS
   have hT:=hS.to [1,1,1,1,1] z
   refine ⟨fun _=>hT,?_⟩
   have ⟨r2,hr2,h⟩:=bnd h
   have hT0:=hS.p6
   refine .by1 15 z (.apprv hr2 hT0 hT0.p1.lendv (fun _=>z) T.u29 T.t4 z z z ?_ z z z z z) (by kernel_rfl)
   intro v36 W hS
   have hT:=hS.to [2,2,2,2,2] z
   refine ⟨fun _=>hT,.ts 16 z (fun W hT=>fa T.f31_2 z z z) hT z (by kernel_rfl) (.by1 17 z (.st T.t29 hS.p5 z z z ?_ z z z z z) (by kernel_rfl))⟩
   intro W hS
   refine ⟨fun h=>absurd z h,?_⟩
   refine .done (.region (.q z (.q z (.q z (.nil ?_))))) (by kernel_rfl)
   cases h
   exact ⟨z,v36,sb z,hS.to [3,3,3,0,2,0] z⟩
  refine .exit ?_
  cases h
  exact ⟨by simp,z,v32,sb z,hS.to [0,0,0,0,0,0] z⟩
 intro x E W hJ
 obtain ⟨rfl,v37,hE,hS⟩:=hJ
 refine ⟨_,hE.sub,?_⟩
 refine .g (.s (ld T.t31 hS.p3 z z z z z) z (.c (.st T.t31 hS.p1 z z z ?_ z z z z z)))
 intro W hS
 cases h
 exact .nil (.ret (fin_ret (vs:=[_]) (v29,v1,v37) (rc hS T.t31 z rn z z) z (hS.to [4,1,3] z)))
def feh (w : World) (r : Bool) : Env → World → Prop:=Fin Tryz.prog Tryz.f8 No w (fun s : Unit=>.bool r) (fun s=>[]) .ret
theorem f9j {a0 : List Int} {a1 : List Int} {v_0 : Hd} {v_1 : Hd} {w : World} {r : Bool} (h : f3p a0 a1 = some r) (q_0 : RV w (Old No w) (sv v_0) 3 1 (D.int .i64) a0) (q_1 : RV w (Old No w) (sv v_1) 3 1 (D.int .i64) a1) : Calls Tryz.prog 8 #[(sv v_0),(sv v_1)] w (Ret No w (fun s : Unit=>.bool r) (fun s=>[])):=by
 unfold f3p at h
 refine enter Tryz.func8 z z ?_
 have hS:=Sep.start w
 refine .g (.qn z (.seq (.g (.q z (.s (lenv (hS.keep q_0) T.u23 z z) z (.q z (.s (lenv (hS.keep q_1) T.u23 z z) z (.q z (.nil ?_)))))))))
 refine .cs z h ?_ ?_ <;> intro h
 ·obtain rfl:=Option.some.inj h
  exact .g (.qn z (.ret (fin_ret (vs:=[_]) () (rt z rn) z (hS.to [] z))))
 refine .skip (.seq (.g (.qn z (.block ?_))))
 have ⟨y1,hy1,h⟩:=bnd h
 refine .via (.iter (fun s1 E' W'=>SubL E' [(0,(sv v_0)),(1,(sv v_1)),(5,.int .i64 s1)] ∧ Sep No w W' []) (fun y2 x E' W'=>(match y2 with | .inl o1=>x = .ret ∧ feh w o1 E' W' | .inr o2=>x = .exit 0 ∧ SubL E' [] ∧ Sep No w W' [])) hy1 ⟨sb rfl,hS.to [] rfl⟩ ?_) ?_
 ·intro s1 y3 E W h hI
  obtain ⟨hE,hS⟩:=hI
  refine CW.sub hE ?_
  unfold f4h at h
  refine .seq (.g (.q z (.q z (.s (lenv (hS.keep q_0) T.u23 z z) z (.q z (.nil ?_))))))
  refine .cs z h ?_ ?_ <;> intro h
  ·refine .skip (.seq (.block (.seq (.rk 9 hS [] T.mix ?_))))
   intro W hS
   have hT:=hS.to [] z
   refine .tp 0 z z hT (by kernel_rfl) (.tp 1 z z hT (by kernel_rfl) ?_)
   have ⟨x1,hx1,h⟩:=bnd h
   refine .ts 2 z (fun W hT=>ixv (hS.keep q_0) hx1 T.u23 T.t3 z z z) hT z (by kernel_rfl) (.ts 3 z (fun W hT=>lde (RV.flat (hT.keep q_0) hx1 z) T.t3 z z z z z) hT z (by kernel_rfl) (.tp 4 z z hT (by kernel_rfl) (.tp 5 z z hT (by kernel_rfl) ?_)))
   have ⟨x2,hx2,h⟩:=bnd h
   refine .ts 6 z (fun W hT=>ixv (hS.keep q_1) hx2 T.u23 T.t3 z z z) hT z (by kernel_rfl) (.ts 7 z (fun W hT=>lde (RV.flat (hT.keep q_1) hx2 z) T.t3 z z z z z) hT z (by kernel_rfl) (.tp 8 z z hT (by kernel_rfl) (.done ?_ (by kernel_rfl))))
   refine .cs z h ?_ ?_ <;> intro h
   ·refine .g (.qn z (.ret ?_))
    cases h
    exact ⟨by simp,z,fin_ret (vs:=[_]) () (rt z rn) z (hS.to [] z)⟩
   refine .skip (.region (.q z (.q z (.q z (.nil ?_)))))
   cases h
   exact ⟨z,sb z,hS.to [] z⟩
  refine .exit ?_
  cases h
  exact ⟨by simp,z,sb z,hS.to [] z⟩
 intro x E W hJ
 rcases y1 with o3 | o4
 ·obtain ⟨rfl,hF⟩:=hJ
  refine ⟨_,fun _ _ h=>h,?_⟩
  cases h
  exact hF
 obtain ⟨rfl,hE,hS⟩:=hJ
 refine ⟨_,hE.sub,?_⟩
 obtain rfl:=Option.some.inj h
 exact .g (.qn z (.ret (fin_ret (vs:=[_]) () (rt z rn) z (hS.to [] z))))
def fdm (w : World) (r : Bool) : Env → World → Prop:=Fin Tryz.prog Tryz.f20 No w (fun s : Unit=>.bool r) (fun s=>[]) .ret
theorem fcu {a0 : List (List Int)} {a1 : List (List Int)} {v_0 : Hd} {v_1 : Hd} {w : World} {r : Bool} (h : f5u a0 a1 = some r) (q_0 : RV w (Old No w) (sv v_0) 23 1 (fun (l : List Int)=>D.row 3 1 (l.map (D.int .i64))) a0) (q_1 : RV w (Old No w) (sv v_1) 23 1 (fun (l : List Int)=>D.row 3 1 (l.map (D.int .i64))) a1) : Calls Tryz.prog 20 #[(sv v_0),(sv v_1)] w (Ret No w (fun s : Unit=>.bool r) (fun s=>[])):=by
 unfold f5u at h
 refine enter Tryz.func20 z z ?_
 have hS:=Sep.start w
 refine .g (.qn z (.seq (.g (.q z (.s (lenv (hS.keep q_0) T.u28 z z) z (.q z (.s (lenv (hS.keep q_1) T.u28 z z) z (.q z (.nil ?_)))))))))
 refine .cs z h ?_ ?_ <;> intro h
 ·obtain rfl:=Option.some.inj h
  exact .g (.qn z (.ret (fin_ret (vs:=[_]) () (rt z rn) z (hS.to [] z))))
 refine .skip (.seq (.g (.qn z (.block ?_))))
 have ⟨y1,hy1,h⟩:=bnd h
 refine .via (.iter (fun s1 E' W'=>SubL E' [(0,(sv v_0)),(1,(sv v_1)),(5,.int .i64 s1)] ∧ Sep No w W' []) (fun y2 x E' W'=>(match y2 with | .inl o1=>x = .ret ∧ fdm w o1 E' W' | .inr o2=>x = .exit 0 ∧ SubL E' [] ∧ Sep No w W' [])) hy1 ⟨sb rfl,hS.to [] rfl⟩ ?_) ?_
 ·intro s1 y3 E W h hI
  obtain ⟨hE,hS⟩:=hI
  refine CW.sub hE ?_
  unfold f3u at h
  refine .seq (.g (.q z (.q z (.s (lenv (hS.keep q_0) T.u28 z z) z (.q z (.nil ?_))))))
  refine .cs z h ?_ ?_ <;> intro h
  ·refine .skip (.seq (.block (.seq (.rk 10 hS [] T.mix ?_))))
   intro W hS
   have hT:=hS.to [] z
   refine .tp 0 z z hT (by kernel_rfl) (.tp 1 z z hT (by kernel_rfl) ?_)
   have ⟨x1,hx1,h⟩:=bnd h
   obtain ⟨k1,hd,hck1⟩:=RV.el2 q_0 hx1
   obtain ⟨v1,k1,rfl,q1,hd1⟩:=rrowv q_0 hd
   obtain rfl:=rnil q_0 hd1
   refine .ts 2 z (fun W hT=>ixv (hS.keep q_0) hx1 T.u28 T.t23 z z z) hT z (by kernel_rfl) (.ts 3 z (fun W hT=>lde (hck1 _ hT.agree) T.t23 z z z z z) hT z (by kernel_rfl) (.tp 4 z z hT (by kernel_rfl) (.tp 5 z z hT (by kernel_rfl) ?_)))
   have ⟨x2,hx2,h⟩:=bnd h
   obtain ⟨k2,hd,hck2⟩:=RV.el2 q_1 hx2
   obtain ⟨v2,k2,rfl,q2,hd1⟩:=rrowv q_1 hd
   obtain rfl:=rnil q_1 hd1
   refine .ts 6 z (fun W hT=>ixv (hS.keep q_1) hx2 T.u28 T.t23 z z z) hT z (by kernel_rfl) (.ts 7 z (fun W hT=>lde (hck2 _ hT.agree) T.t23 z z z z z) hT z (by kernel_rfl) ?_)
   have ⟨y4,hy4,h⟩:=bnd h
   refine .by1 8 z (.call0 hS Tryz.func8 (f9j hy4 (hS.keep (q1 _ q_0)) (hS.keep (q2 _ q_1))) z z ?_ z z z z) (by kernel_rfl)
   intro W hS
   have hT:=hS.to [] z
   refine ⟨fun _=>hT,.tp 9 z z hT (by kernel_rfl) (.done ?_ (by kernel_rfl))⟩
   refine .cs z h ?_ ?_ <;> intro h
   ·refine .g (.qn z (.ret ?_))
    cases h
    exact ⟨by simp,z,fin_ret (vs:=[_]) () (rt z rn) z (hS.to [] z)⟩
   refine .skip (.region (.q z (.q z (.q z (.nil ?_)))))
   cases h
   exact ⟨z,sb z,hS.to [] z⟩
  refine .exit ?_
  cases h
  exact ⟨by simp,z,sb z,hS.to [] z⟩
 intro x E W hJ
 rcases y1 with o3 | o4
 ·obtain ⟨rfl,hF⟩:=hJ
  refine ⟨_,fun _ _ h=>h,?_⟩
  cases h
  exact hF
 obtain ⟨rfl,hE,hS⟩:=hJ
 refine ⟨_,hE.sub,?_⟩
 obtain rfl:=Option.some.inj h
 exact .g (.qn z (.ret (fin_ret (vs:=[_]) () (rt z rn) z (hS.to [] z))))
def fdh (w : World) (r : Bool) : Env → World → Prop:=Fin Tryz.prog Tryz.f21 No w (fun s : Unit=>.bool r) (fun s=>[]) .ret
theorem fcp {a0 : List Bool} {a1 : List Bool} {v_0 : Hd} {v_1 : Hd} {w : World} {r : Bool} (h : f5q a0 a1 = some r) (q_0 : RV w (Old No w) (sv v_0) 4 1 D.bool a0) (q_1 : RV w (Old No w) (sv v_1) 4 1 D.bool a1) : Calls Tryz.prog 21 #[(sv v_0),(sv v_1)] w (Ret No w (fun s : Unit=>.bool r) (fun s=>[])):=by
 unfold f5q at h
 refine enter Tryz.func21 z z ?_
 have hS:=Sep.start w
 refine .g (.qn z (.seq (.g (.q z (.s (lenv (hS.keep q_0) T.u29 z z) z (.q z (.s (lenv (hS.keep q_1) T.u29 z z) z (.q z (.nil ?_)))))))))
 refine .cs z h ?_ ?_ <;> intro h
 ·obtain rfl:=Option.some.inj h
  exact .g (.qn z (.ret (fin_ret (vs:=[_]) () (rt z rn) z (hS.to [] z))))
 refine .skip (.seq (.g (.qn z (.block ?_))))
 have ⟨y1,hy1,h⟩:=bnd h
 refine .via (.iter (fun s1 E' W'=>SubL E' [(0,(sv v_0)),(1,(sv v_1)),(5,.int .i64 s1)] ∧ Sep No w W' []) (fun y2 x E' W'=>(match y2 with | .inl o1=>x = .ret ∧ fdh w o1 E' W' | .inr o2=>x = .exit 0 ∧ SubL E' [] ∧ Sep No w W' [])) hy1 ⟨sb rfl,hS.to [] rfl⟩ ?_) ?_
 ·intro s1 y3 E W h hI
  obtain ⟨hE,hS⟩:=hI
  refine CW.sub hE ?_
  unfold f3s at h
  refine .seq (.g (.q z (.q z (.s (lenv (hS.keep q_0) T.u29 z z) z (.q z (.nil ?_))))))
  refine .cs z h ?_ ?_ <;> intro h
  ·refine .skip (.seq (.block (.seq (.rk 9 hS [] T.mix ?_))))
   intro W hS
   have hT:=hS.to [] z
   refine .tp 0 z z hT (by kernel_rfl) (.tp 1 z z hT (by kernel_rfl) ?_)
   have ⟨x1,hx1,h⟩:=bnd h
   refine .ts 2 z (fun W hT=>ixv (hS.keep q_0) hx1 T.u29 T.t4 z z z) hT z (by kernel_rfl) (.ts 3 z (fun W hT=>lde (RV.flat (hT.keep q_0) hx1 z) T.t4 z z z z z) hT z (by kernel_rfl) (.tp 4 z z hT (by kernel_rfl) (.tp 5 z z hT (by kernel_rfl) ?_)))
   have ⟨x2,hx2,h⟩:=bnd h
   refine .ts 6 z (fun W hT=>ixv (hS.keep q_1) hx2 T.u29 T.t4 z z z) hT z (by kernel_rfl) (.ts 7 z (fun W hT=>lde (RV.flat (hT.keep q_1) hx2 z) T.t4 z z z z z) hT z (by kernel_rfl) (.ts 8 z (fun W hT=>neb T.u4 z z z) hT z (by kernel_rfl) (.done ?_ (by kernel_rfl))))
   refine .cs z h ?_ ?_ <;> intro h
   ·refine .g (.qn z (.ret ?_))
    cases h
    exact ⟨by simp,z,fin_ret (vs:=[_]) () (rt z rn) z (hS.to [] z)⟩
   refine .skip (.region (.q z (.q z (.q z (.nil ?_)))))
   cases h
   exact ⟨z,sb z,hS.to [] z⟩
  refine .exit ?_
  cases h
  exact ⟨by simp,z,sb z,hS.to [] z⟩
 intro x E W hJ
 rcases y1 with o3 | o4
 ·obtain ⟨rfl,hF⟩:=hJ
  refine ⟨_,fun _ _ h=>h,?_⟩
  cases h
  exact hF
 obtain ⟨rfl,hE,hS⟩:=hJ
 refine ⟨_,hE.sub,?_⟩
 obtain rfl:=Option.some.inj h
 exact .g (.qn z (.ret (fin_ret (vs:=[_]) () (rt z rn) z (hS.to [] z))))
theorem fab {a0 : Outcome} {a1 : Outcome} {v_0_Out : Hd} {v_0_Items : Hd} {v_0_Ended : Hd} {v_1_Out : Hd} {v_1_Items : Hd} {v_1_Ended : Hd} {w : World} {r : Bool} (h : f32 a0 a1 = some r) (q_0_Out : RV w (Old No w) (sv v_0_Out) 3 1 (D.int .i64) a0.Out) (q_0_Items : RV w (Old No w) (sv v_0_Items) 23 1 (fun (l : List Int)=>D.row 3 1 (l.map (D.int .i64))) a0.Items) (q_0_Ended : RV w (Old No w) (sv v_0_Ended) 4 1 D.bool a0.Ended) (q_1_Out : RV w (Old No w) (sv v_1_Out) 3 1 (D.int .i64) a1.Out) (q_1_Items : RV w (Old No w) (sv v_1_Items) 23 1 (fun (l : List Int)=>D.row 3 1 (l.map (D.int .i64))) a1.Items) (q_1_Ended : RV w (Old No w) (sv v_1_Ended) 4 1 D.bool a1.Ended) : Calls Tryz.prog 7 #[.agg #[(sv v_0_Out),(sv v_0_Items),(sv v_0_Ended),.bool a0.Rest],.agg #[(sv v_1_Out),(sv v_1_Items),(sv v_1_Ended),.bool a1.Rest]] w (Ret No w (fun s : Unit=>.bool r) (fun s=>[])):=by
 unfold f32 at h
 refine enter Tryz.func7 z z ?_
 have hS:=Sep.start w
 refine .g (.c (.box hS z z ?_ z z))
 intro g1 W hS
 refine .c (.box hS z z ?_ z z)
 intro g2 W hS
 refine .qn z (.g (.s (fa T.f31_0 z z z) z (.s (ld T.t23 hS.p1 z z z z z) z (.s (fa T.f31_0 z z z) z (.s (ld T.t23 hS z z z z z) z ?_)))))
 have ⟨y1,hy1,h⟩:=bnd h
 refine .c (.call0 hS Tryz.func8 (f9j hy1 (hS.keep q_0_Out) (hS.keep q_1_Out)) z z ?_ z z z z)
 intro W hS
 refine .q z ?_
 have ⟨b1,hb1,h⟩:=bnd h
 refine .chunk 6 16 (b1) hS ?_ ?_
 ·refine .both (y1) (fun hb=>?_) (fun hb=>?_)
  ·have hg1:=hb
   have h:=sel_t hb hb1
   refine .g hg1 (.s (fa T.f31_1 z z z) z (.g hg1 (.s (ld T.t28 hS.p1 z z z z z) z (.g hg1 (.s (fa T.f31_1 z z z) z (.g hg1 (.s (ld T.t28 hS z z z z z) z ?_) z)) z)) z)) z
   have ⟨y2,hy2,h⟩:=bnd h
   refine .g hg1 (.c (.call0 hS Tryz.func20 (fcu hy2 (hS.keep q_0_Items) (hS.keep q_1_Items)) z z ?_ z z z z)) z
   intro W hS
   refine .s (pkt hg1 z z z) z ?_
   cases h
   exact .nil (ck 6 hS z z z z)
  refine .xx hb z (.xx hb z (.xx hb z (.xx hb z (.xx hb z ?_))))
  cases sel_f hb hb1
  exact .s (pkf hb z z z) z (.nil (ck 6 hS z z z z))
 intro W hS
 refine .q z ?_
 have ⟨b2,hb2,h⟩:=bnd h
 refine .chunk 6 23 (b2) hS ?_ ?_
 ·refine .both (b1) (fun hb=>?_) (fun hb=>?_)
  ·have hg2:=hb
   have h:=sel_t hb hb2
   refine .g hg2 (.s (fa T.f31_2 z z z) z (.g hg2 (.s (ld T.t29 hS.p1 z z z z z) z (.g hg2 (.s (fa T.f31_2 z z z) z (.g hg2 (.s (ld T.t29 hS z z z z z) z ?_) z)) z)) z)) z
   have ⟨y3,hy3,h⟩:=bnd h
   refine .g hg2 (.c (.call0 hS Tryz.func21 (fcp hy3 (hS.keep q_0_Ended) (hS.keep q_1_Ended)) z z ?_ z z z z)) z
   intro W hS
   refine .s (pkt hg2 z z z) z ?_
   cases h
   exact .nil (ck 6 hS z z z z)
  refine .xx hb z (.xx hb z (.xx hb z (.xx hb z (.xx hb z ?_))))
  cases sel_f hb hb2
  exact .s (pkf hb z z z) z (.nil (ck 6 hS z z z z))
 intro W hS
 refine .q z (.chunk 6 30 (b2 && (a0.Rest == a1.Rest)) hS ?_ ?_)
 ·refine .both (b2) (fun hb=>?_) (fun hb=>?_)
  ·have hg3:=hb
   exact .g hg3 (.s (fa T.f31_3 z z z) z (.g hg3 (.s (ld T.t4 hS.p1 z z z z z) z (.g hg3 (.s (fa T.f31_3 z z z) z (.g hg3 (.s (ld T.t4 hS z z z z z) z (.g hg3 (.s (eqb T.u4 z z z) z (.s (pkt hg3 z z z) z (.nil (ck 6 hS z (and_t hg3) z z)))) z)) z)) z)) z)) z
  exact .xx hb z (.xx hb z (.xx hb z (.xx hb z (.xx hb z (.s (pkf hb z z z) z (.nil (ck 6 hS z (and_f hb) z z)))))))
 intro W hS
 cases h
 exact .qn z (.ret (fin_ret (vs:=[_]) () (rt z rn) z (hS.to [] z)))
def fbs (w : World) (r : Bool) : Env → World → Prop:=Fin Tryz.prog Tryz.f3 No w (fun s : Unit=>.bool r) (fun s=>[]) .ret
theorem fbo {k : Nat} {a0 : List Int} {v_0 : Hd} {w : World} {r : Bool} (h : f4o k a0 = some r) (q_0 : RV w (Old No w) (sv v_0) 5 1 (D.int .u8) a0) : Calls Tryz.prog 3 #[(sv v_0)] w (Ret No w (fun s : Unit=>.bool r) (fun s=>[])):=by
 unfold f4o at h
 refine enter Tryz.func3 z z ?_
 have hS:=Sep.start w
 refine .g (.qn z (.seq (.g (.q z (.s (lenv (hS.keep q_0) T.u22 z z) z (.q z (.nil ?_)))))))
 refine .cs z h ?_ ?_ <;> intro h
 ·obtain rfl:=Option.some.inj h
  exact .g (.qn z (.ret (fin_ret (vs:=[_]) () (rt z rn) z (hS.to [] z))))
 refine .skip (.g (.q z ?_))
 have ⟨y1,hy1,h⟩:=bnd h
 refine .c (.call hS Tryz.func4 (fb0 hy1 (hS.keep q_0)) z z ?_ z z z z)
 rintro ⟨v1,v2,v3⟩ W hS
 refine .q z (.q z (.q z (.q z (.c (.alloc T.t25 hS ?_ z z z)))))
 intro g1 W hS
 refine .c (.st T.t25 hS z z z ?_ z z z z z)
 intro W hS
 refine .q z (.qn z (.g (.s (ld T.t25 hS z z z z z) z (.q z (.q z ?_)))))
 have ⟨y2,hy2,h⟩:=bnd h
 refine .c (.call hS Tryz.func5 (fby hy2 hS.p1.lendv hS.p2.lendv hS.p3.lendv) z z ?_ z z z z)
 rintro ⟨v4,v5,v6⟩ W hS
 refine .c (.alloc T.t31 hS ?_ z z z)
 intro g2 W hS
 refine .c (.st T.t31 hS z z z ?_ z z z z z)
 intro W hS
 refine .nil (.g (.s (ld T.t25 hS.p4 z z z z z) z (.q z (.q z ?_))))
 have ⟨y3,hy3,h⟩:=bnd h
 refine .c (.call hS Tryz.func6 (fbz hy3 hS.p5.lendv hS.p6.lendv hS.p7.lendv) z z ?_ z z z z)
 rintro ⟨v7,v8,v9⟩ W hS
 refine .c (.alloc T.t31 hS ?_ z z z)
 intro g3 W hS
 refine .c (.st T.t31 hS z z z ?_ z z z z z)
 intro W hS
 refine .nil (.seq (.g (.s (ld T.t31 hS.p4 z z z z z) z (.s (ld T.t31 hS z z z z z) z ?_))))
 have ⟨y4,hy4,h⟩:=bnd h
 refine .c (.call0 hS Tryz.func7 (fab hy4 hS.p5.lendv hS.p6.lendv hS.p7.lendv hS.p1.lendv hS.p2.lendv hS.p3.lendv) z z ?_ z z z z)
 intro W hS
 refine .q z (.q z (.chunk 5 35 ((!y4) || ((y2.Ended.length : Int) == 0)) hS ?_ ?_))
 ·refine .both (!y4) (fun hb=>?_) (fun hb=>?_)
  ·exact .xx hb z (.xx hb z (.xx hb z (.xx hb z (.s (pkt hb z z z) z (.nil (ck 5 hS z (or_t hb) z z))))))
  have hg1:=hb
  exact .g hg1 (.s (fa T.f31_2 z z z) z (.g hg1 (.s (ld T.t29 hS.p4 z z z z z) z (.g hg1 (.s (lenv hS.p7.lendv T.u29 z z) z (.g hg1 (.q z (.s (pkf hg1 z z z) z (.nil (ck 5 hS z (or_f hg1) z z)))) z)) z)) z)) z
 intro W hS
 refine .nil ?_
 refine .cs z h ?_ ?_ <;> intro h
 ·refine .g (.s (ld T.t31 hS.p4 z z z z z) z (.s (ld T.t31 hS z z z z z) z ?_))
  have ⟨y5,hy5,h⟩:=bnd h
  refine .c (.call0 hS Tryz.func7 (fab hy5 hS.p5.lendv hS.p6.lendv hS.p7.lendv hS.p1.lendv hS.p2.lendv hS.p3.lendv) z z ?_ z z z z)
  intro W hS
  obtain rfl:=Option.some.inj h
  exact .qn z (.ret (fin_ret (vs:=[_]) () (rt z rn) z (hS.to [] z)))
 refine .skip (.seq (.g (.qn z (.block ?_))))
 have ⟨y6,hy6,h⟩:=bnd h
 refine .via (.iter (fun s1 E' W'=>SubL E' [(3,.pointer (some ⟨g1,0,none⟩)),(4,.int .i64 y1.2.1),(5,(sv v3)),(6,.pointer (some ⟨g2,0,none⟩)),(8,.int .i64 s1)] ∧ Sep No w W' [.box g3 31 [(sv v7),(sv v8),(sv v9),.bool y3.Rest],rowV (sv v7) 3 1 (D.int .i64) y3.Out,rowV (sv v8) 23 1 (fun (l : List Int)=>D.row 3 1 (l.map (D.int .i64))) y3.Items,rowV (sv v9) 4 1 D.bool y3.Ended,.box g2 31 [(sv v4),(sv v5),(sv v6),.bool y2.Rest],rowV (sv v4) 3 1 (D.int .i64) y2.Out,rowV (sv v5) 23 1 (fun (l : List Int)=>D.row 3 1 (l.map (D.int .i64))) y2.Items,rowV (sv v6) 4 1 D.bool y2.Ended,.box g1 25 [(sv v1),.int .i64 y1.1.Pc,(sv v2)],rowV (sv v1) 3 1 (D.int .i64) y1.1.Regs,rowV (sv v2) 3 1 (D.int .i64) y1.1.Mem,rowV (sv v3) 3 1 (D.int .i64) y1.2.2]) (fun y7 x E' W'=>(match y7 with | .inl o1=>x = .ret ∧ fbs w o1 E' W' | .inr o2=>x = .exit 0 ∧ SubL E' [(3,.pointer (some ⟨g1,0,none⟩)),(4,.int .i64 y1.2.1),(5,(sv v3)),(6,.pointer (some ⟨g2,0,none⟩))] ∧ Sep No w W' [.box g3 31 [(sv v7),(sv v8),(sv v9),.bool y3.Rest],rowV (sv v7) 3 1 (D.int .i64) y3.Out,rowV (sv v8) 23 1 (fun (l : List Int)=>D.row 3 1 (l.map (D.int .i64))) y3.Items,rowV (sv v9) 4 1 D.bool y3.Ended,.box g2 31 [(sv v4),(sv v5),(sv v6),.bool y2.Rest],rowV (sv v4) 3 1 (D.int .i64) y2.Out,rowV (sv v5) 23 1 (fun (l : List Int)=>D.row 3 1 (l.map (D.int .i64))) y2.Items,rowV (sv v6) 4 1 D.bool y2.Ended,.box g1 25 [(sv v1),.int .i64 y1.1.Pc,(sv v2)],rowV (sv v1) 3 1 (D.int .i64) y1.1.Regs,rowV (sv v2) 3 1 (D.int .i64) y1.1.Mem,rowV (sv v3) 3 1 (D.int .i64) y1.2.2])) hy6 ⟨sb rfl,hS.to [0,0,0,0,0,0,0,0,0,0,0,0] rfl⟩ ?_) ?_
 ·intro s1 y8 E W h hI
  obtain ⟨hE,hS⟩:=hI
  refine CW.sub hE ?_
  unfold f27 at h
  refine .seq (.g (.q z (.s (fa T.f31_1 z z z) z (.s (ld T.t28 hS.p4 z z z z z) z (.s (lenv hS.p6.lendv T.u28 z z) z (.q z (.nil ?_)))))))
  refine .cs z h ?_ ?_ <;> intro h
  ·refine .skip (.seq (.block (.g (.s (fa T.f31_1 z z z) z (.s (ld T.t28 hS.p4 z z z z z) z (.q z ?_))))))
   have ⟨x1,hx1,h⟩:=bnd h
   refine .s (ixv hS.p6.lendv hx1 T.u28 T.t23 z z z) z ?_
   obtain ⟨k1,hS⟩:=Sep.outv hS.p6 hx1
   obtain ⟨v10,k1,rfl,hS⟩:=hS.orowv
   obtain ⟨rfl,hS⟩:=hS.onil
   refine .s (lde (hS.p1.hcellsv) T.t23 z z z z z) z (.s (lenv hS.lendv T.u23 z z) z (.q z (.nil ?_)))
   refine .cs z h ?_ ?_ <;> intro h
   ·refine .g (.qn z (.ret ?_))
    cases h
    exact ⟨by simp,z,fin_ret (vs:=[_]) () (rt z rn) z (hS.to [] z)⟩
   refine .skip (.region (.q z (.q z (.q z (.nil ?_)))))
   have hS:=Sep.gat (ds:=[.row 3 1 (x1.map (D.int .i64))]) (cs:=[(sv v10)]) (L1:=[rowV (sv v10) 3 1 (D.int .i64) x1]) (.row (.nil)) (hS.to [0,0,0,0,0,0,0,0,0,0,0,0,0] z)
   have hS : Sep _ _ _ [rowV (sv v5) 23 1 (fun (l : List Int)=>D.row 3 1 (l.map (D.int .i64))) y2.Items,.box g3 31 [(sv v7),(sv v8),(sv v9),.bool y3.Rest],rowV (sv v7) 3 1 (D.int .i64) y3.Out,rowV (sv v8) 23 1 (fun (l : List Int)=>D.row 3 1 (l.map (D.int .i64))) y3.Items,rowV (sv v9) 4 1 D.bool y3.Ended,.box g2 31 [(sv v4),(sv v5),(sv v6),.bool y2.Rest],rowV (sv v4) 3 1 (D.int .i64) y2.Out,rowV (sv v6) 4 1 D.bool y2.Ended,.box g1 25 [(sv v1),.int .i64 y1.1.Pc,(sv v2)],rowV (sv v1) 3 1 (D.int .i64) y1.1.Regs,rowV (sv v2) 3 1 (D.int .i64) y1.1.Mem,rowV (sv v3) 3 1 (D.int .i64) y1.2.2]:=Sep.back0v hx1 hS
   cases h
   exact ⟨z,sb z,hS.to [1,1,1,1,1,1,0,0,0,0,0,0] z⟩
  refine .exit ?_
  cases h
  exact ⟨by simp,z,sb z,hS.to [0,0,0,0,0,0,0,0,0,0,0,0] z⟩
 intro x E W hJ
 rcases y6 with o3 | o4
 ·obtain ⟨rfl,hF⟩:=hJ
  refine ⟨_,fun _ _ h=>h,?_⟩
  cases h
  exact hF
 obtain ⟨rfl,hE,hS⟩:=hJ
 refine ⟨_,hE.sub,?_⟩
 refine .seq ?_
 have ⟨y9,hy9,h⟩:=bnd h
 have ⟨b1,hb1,h⟩:=bnd h
 have ⟨b2,hb2,h⟩:=bnd h
 refine .via (R':=fun x E' W'=>x = .normal ∧ SubL E' [(2,.bool b2)] ∧ Sep No w W' [.box g3 31 [(sv v7),(sv v8),(sv v9),.bool y3.Rest],rowV (sv v7) 3 1 (D.int .i64) y3.Out,rowV (sv v8) 23 1 (fun (l : List Int)=>D.row 3 1 (l.map (D.int .i64))) y3.Items,rowV (sv v9) 4 1 D.bool y3.Ended,.box g2 31 [(sv v4),(sv v5),(sv v6),.bool y2.Rest],rowV (sv v4) 3 1 (D.int .i64) y2.Out,rowV (sv v5) 23 1 (fun (l : List Int)=>D.row 3 1 (l.map (D.int .i64))) y2.Items,rowV (sv v6) 4 1 D.bool y2.Ended,.box g1 25 [(sv v1),.int .i64 y1.1.Pc,(sv v2)],rowV (sv v1) 3 1 (D.int .i64) y1.1.Regs,rowV (sv v2) 3 1 (D.int .i64) y1.1.Mem,rowV (sv v3) 3 1 (D.int .i64) y1.2.2]) ?_ ?_
 ·refine .rk 39 hS [0,0,0,0,0,0,0,0,0,0,0,0] T.mix ?_
  intro W hS
  have hT:=hS.to [0,0,0,0,0,0,0,0,0,0,0,0] z
  refine .ts 0 z (fun W hT=>fa T.f31_0 z z z) hT z (by kernel_rfl) (.ts 1 z (fun W hT=>ld T.t23 hT.p4 z z z z z) hT z (by kernel_rfl) (.tp 2 z z hT (by kernel_rfl) (.by1 3 z (.call0 hS Tryz.func8 (f9j hy9 hS.p5.lendv hS.p11.lendv) z z ?_ z z z z) (by kernel_rfl))))
  intro W hS
  have hT:=hS.to [0,0,0,0,0,0,0,0,0,0,0,0] z
  refine ⟨fun _=>hT,.tp 4 z z hT (by kernel_rfl) (.both (y9) (fun hb=>?_) (fun hb=>?_))⟩
  ·have hg2:=hb
   refine .t1g 5 z hg2 (fun W hT=>fa T.f31_1 z z z) hT (.t1g 6 z hg2 (fun W hT=>ld T.t28 hT.p4 z z z z z) hT (.t1g 7 z hg2 (fun W hT=>lenv hS.p6.lendv T.u28 z z) hT (.t1g 8 z hg2 (fun W hT=>pr z) hT (.ts 9 z (fun W hT=>pkt hg2 z z z) hT z (by kernel_rfl) (.eqv 62 z (congrArg Value.bool (and_t hg2)) (.tp 10 z z hT (by kernel_rfl) (.both (y9 && (decide ((y2.Items.length : Int) ≤ 3))) (fun hb=>?_) (fun hb=>?_))))) (by kernel_rfl) z z) (by kernel_rfl) z z) (by kernel_rfl) z z) (by kernel_rfl) z z
   ·have hg3:=hb
    have h_b1:=sel_t hb hb1
    refine .t1g 11 z hg3 (fun W hT=>fa T.f31_2 z z z) hT (.t1g 12 z hg3 (fun W hT=>ld T.t29 hT.p4 z z z z z) hT (.t1g 13 z hg3 (fun W hT=>lenv hS.p7.lendv T.u29 z z) hT (.t1g 14 z hg3 (fun W hT=>fa T.f25_2 z z z) hT (.t1g 15 z hg3 (fun W hT=>ld T.t23 hT.p8 z z z z z) hT (.t1g 16 z hg3 (fun W hT=>pr z) hT (.t1g 17 z hg3 (fun W hT=>pr z) hT (.t1g 18 z hg3 (fun W hT=>pr z) hT ?_ (by kernel_rfl) z z) (by kernel_rfl) z z) (by kernel_rfl) z z) (by kernel_rfl) z z) (by kernel_rfl) z z) (by kernel_rfl) z z) (by kernel_rfl) z z) (by kernel_rfl) z z
    have ⟨x2,hx2,h_b1⟩:=bnd h_b1
    refine .t1g 19 z hg3 (fun W hT=>ixv hS.p10.lendv hx2 T.u23 T.t3 z z z) hT (.t1g 20 z hg3 (fun W hT=>lde (RV.flat hT.p10.lendv hx2 z) T.t3 z z z z z) hT (.t1g 21 z hg3 (fun W hT=>pr z) hT (.ts 22 z (fun W hT=>pkt hg3 z z z) hT z (by kernel_rfl) (.eqv 75 z (bool_eq h_b1) (.tp 23 z z hT (by kernel_rfl) (.both (b1) (fun hb=>?_) (fun hb=>?_))))) (by kernel_rfl) z z) (by kernel_rfl) z z) (by kernel_rfl) z z
    ·have hg4:=hb
     have h_b2:=sel_t hb hb2
     refine .t1g 24 z hg4 (fun W hT=>fa T.f31_3 z z z) hT (.t1g 25 z hg4 (fun W hT=>ld T.t4 hT.p4 z z z z z) hT (.t1g 26 z hg4 (fun W hT=>fa T.f25_2 z z z) hT (.t1g 27 z hg4 (fun W hT=>ld T.t23 hT.p8 z z z z z) hT (.t1g 28 z hg4 (fun W hT=>pr z) hT (.t1g 29 z hg4 (fun W hT=>pr z) hT ?_ (by kernel_rfl) z z) (by kernel_rfl) z z) (by kernel_rfl) z z) (by kernel_rfl) z z) (by kernel_rfl) z z) (by kernel_rfl) z z
     have ⟨x3,hx3,h_b2⟩:=bnd h_b2
     exact .t1g 30 z hg4 (fun W hT=>ixv hS.p10.lendv hx3 T.u23 T.t3 z z z) hT (.t1g 31 z hg4 (fun W hT=>lde (RV.flat hT.p10.lendv hx3 z) T.t3 z z z z z) hT (.t1g 32 z hg4 (fun W hT=>fa T.f31_2 z z z) hT (.t1g 33 z hg4 (fun W hT=>ld T.t29 hT.p4 z z z z z) hT (.t1g 34 z hg4 (fun W hT=>lenv hS.p7.lendv T.u29 z z) hT (.t1g 35 z hg4 (fun W hT=>pr z) hT (.t1g 36 z hg4 (fun W hT=>eqb T.u4 z z z) hT (.ts 37 z (fun W hT=>pkt hg4 z z z) hT z (by kernel_rfl) (.eqv 90 z (bool_eq h_b2) (.tp 38 z z hT (by kernel_rfl) (.done (⟨z,sb z,hS.to [0,0,0,0,0,0,0,0,0,0,0,0] z⟩) (by kernel_rfl))))) (by kernel_rfl) z z) (by kernel_rfl) z z) (by kernel_rfl) z z) (by kernel_rfl) z z) (by kernel_rfl) z z) (by kernel_rfl) z z) (by kernel_rfl) z z
    exact .off 24 z hb hT (.off 25 z hb hT (.off 26 z hb hT (.off 27 z hb hT (.off 28 z hb hT (.off 29 z hb hT (.off 30 z hb hT (.off 31 z hb hT (.off 32 z hb hT (.off 33 z hb hT (.off 34 z hb hT (.off 35 z hb hT (.off 36 z hb hT (.ts 37 z (fun W hT=>pkf hb z z z) hT z (by kernel_rfl) (.eqv 90 z (bool_eq (sel_f hb hb2)) (.tp 38 z z hT (by kernel_rfl) (.done (⟨z,sb z,hS.to [0,0,0,0,0,0,0,0,0,0,0,0] z⟩) (by kernel_rfl))))) (by kernel_rfl) z z) (by kernel_rfl) z z) (by kernel_rfl) z z) (by kernel_rfl) z z) (by kernel_rfl) z z) (by kernel_rfl) z z) (by kernel_rfl) z z) (by kernel_rfl) z z) (by kernel_rfl) z z) (by kernel_rfl) z z) (by kernel_rfl) z z) (by kernel_rfl) z z) (by kernel_rfl) z z
   refine .off 11 z hb hT (.off 12 z hb hT (.off 13 z hb hT (.off 14 z hb hT (.off 15 z hb hT (.off 16 z hb hT (.off 17 z hb hT (.off 18 z hb hT (.off 19 z hb hT (.off 20 z hb hT (.off 21 z hb hT (.ts 22 z (fun W hT=>pkf hb z z z) hT z (by kernel_rfl) (.eqv 75 z (bool_eq (sel_f hb hb1)) (.tp 23 z z hT (by kernel_rfl) (.both (b1) (fun hb=>?_) (fun hb=>?_))))) (by kernel_rfl) z z) (by kernel_rfl) z z) (by kernel_rfl) z z) (by kernel_rfl) z z) (by kernel_rfl) z z) (by kernel_rfl) z z) (by kernel_rfl) z z) (by kernel_rfl) z z) (by kernel_rfl) z z) (by kernel_rfl) z z) (by kernel_rfl) z z
   ·have hg5:=hb
    have h_b2:=sel_t hb hb2
    refine .t1g 24 z hg5 (fun W hT=>fa T.f31_3 z z z) hT (.t1g 25 z hg5 (fun W hT=>ld T.t4 hT.p4 z z z z z) hT (.t1g 26 z hg5 (fun W hT=>fa T.f25_2 z z z) hT (.t1g 27 z hg5 (fun W hT=>ld T.t23 hT.p8 z z z z z) hT (.t1g 28 z hg5 (fun W hT=>pr z) hT (.t1g 29 z hg5 (fun W hT=>pr z) hT ?_ (by kernel_rfl) z z) (by kernel_rfl) z z) (by kernel_rfl) z z) (by kernel_rfl) z z) (by kernel_rfl) z z) (by kernel_rfl) z z
    have ⟨x4,hx4,h_b2⟩:=bnd h_b2
    exact .t1g 30 z hg5 (fun W hT=>ixv hS.p10.lendv hx4 T.u23 T.t3 z z z) hT (.t1g 31 z hg5 (fun W hT=>lde (RV.flat hT.p10.lendv hx4 z) T.t3 z z z z z) hT (.t1g 32 z hg5 (fun W hT=>fa T.f31_2 z z z) hT (.t1g 33 z hg5 (fun W hT=>ld T.t29 hT.p4 z z z z z) hT (.t1g 34 z hg5 (fun W hT=>lenv hS.p7.lendv T.u29 z z) hT (.t1g 35 z hg5 (fun W hT=>pr z) hT (.t1g 36 z hg5 (fun W hT=>eqb T.u4 z z z) hT (.ts 37 z (fun W hT=>pkt hg5 z z z) hT z (by kernel_rfl) (.eqv 90 z (bool_eq h_b2) (.tp 38 z z hT (by kernel_rfl) (.done (⟨z,sb z,hS.to [0,0,0,0,0,0,0,0,0,0,0,0] z⟩) (by kernel_rfl))))) (by kernel_rfl) z z) (by kernel_rfl) z z) (by kernel_rfl) z z) (by kernel_rfl) z z) (by kernel_rfl) z z) (by kernel_rfl) z z) (by kernel_rfl) z z
   exact .off 24 z hb hT (.off 25 z hb hT (.off 26 z hb hT (.off 27 z hb hT (.off 28 z hb hT (.off 29 z hb hT (.off 30 z hb hT (.off 31 z hb hT (.off 32 z hb hT (.off 33 z hb hT (.off 34 z hb hT (.off 35 z hb hT (.off 36 z hb hT (.ts 37 z (fun W hT=>pkf hb z z z) hT z (by kernel_rfl) (.eqv 90 z (bool_eq (sel_f hb hb2)) (.tp 38 z z hT (by kernel_rfl) (.done (⟨z,sb z,hS.to [0,0,0,0,0,0,0,0,0,0,0,0] z⟩) (by kernel_rfl))))) (by kernel_rfl) z z) (by kernel_rfl) z z) (by kernel_rfl) z z) (by kernel_rfl) z z) (by kernel_rfl) z z) (by kernel_rfl) z z) (by kernel_rfl) z z) (by kernel_rfl) z z) (by kernel_rfl) z z) (by kernel_rfl) z z) (by kernel_rfl) z z) (by kernel_rfl) z z) (by kernel_rfl) z z
  refine .off 5 z hb hT (.off 6 z hb hT (.off 7 z hb hT (.off 8 z hb hT (.ts 9 z (fun W hT=>pkf hb z z z) hT z (by kernel_rfl) (.eqv 62 z (congrArg Value.bool (show false = (y9 && (decide ((y2.Items.length : Int) ≤ 3))) from and_f hb)) (.tp 10 z z hT (by kernel_rfl) (.both (y9 && (decide ((y2.Items.length : Int) ≤ 3))) (fun hb=>?_) (fun hb=>?_))))) (by kernel_rfl) z z) (by kernel_rfl) z z) (by kernel_rfl) z z) (by kernel_rfl) z z
  ·have hg6:=hb
   have h_b1:=sel_t hb hb1
   refine .t1g 11 z hg6 (fun W hT=>fa T.f31_2 z z z) hT (.t1g 12 z hg6 (fun W hT=>ld T.t29 hT.p4 z z z z z) hT (.t1g 13 z hg6 (fun W hT=>lenv hS.p7.lendv T.u29 z z) hT (.t1g 14 z hg6 (fun W hT=>fa T.f25_2 z z z) hT (.t1g 15 z hg6 (fun W hT=>ld T.t23 hT.p8 z z z z z) hT (.t1g 16 z hg6 (fun W hT=>pr z) hT (.t1g 17 z hg6 (fun W hT=>pr z) hT (.t1g 18 z hg6 (fun W hT=>pr z) hT ?_ (by kernel_rfl) z z) (by kernel_rfl) z z) (by kernel_rfl) z z) (by kernel_rfl) z z) (by kernel_rfl) z z) (by kernel_rfl) z z) (by kernel_rfl) z z) (by kernel_rfl) z z
   have ⟨x5,hx5,h_b1⟩:=bnd h_b1
   refine .t1g 19 z hg6 (fun W hT=>ixv hS.p10.lendv hx5 T.u23 T.t3 z z z) hT (.t1g 20 z hg6 (fun W hT=>lde (RV.flat hT.p10.lendv hx5 z) T.t3 z z z z z) hT (.t1g 21 z hg6 (fun W hT=>pr z) hT (.ts 22 z (fun W hT=>pkt hg6 z z z) hT z (by kernel_rfl) (.eqv 75 z (bool_eq h_b1) (.tp 23 z z hT (by kernel_rfl) (.both (b1) (fun hb=>?_) (fun hb=>?_))))) (by kernel_rfl) z z) (by kernel_rfl) z z) (by kernel_rfl) z z
   ·have hg7:=hb
    have h_b2:=sel_t hb hb2
    refine .t1g 24 z hg7 (fun W hT=>fa T.f31_3 z z z) hT (.t1g 25 z hg7 (fun W hT=>ld T.t4 hT.p4 z z z z z) hT (.t1g 26 z hg7 (fun W hT=>fa T.f25_2 z z z) hT (.t1g 27 z hg7 (fun W hT=>ld T.t23 hT.p8 z z z z z) hT (.t1g 28 z hg7 (fun W hT=>pr z) hT (.t1g 29 z hg7 (fun W hT=>pr z) hT ?_ (by kernel_rfl) z z) (by kernel_rfl) z z) (by kernel_rfl) z z) (by kernel_rfl) z z) (by kernel_rfl) z z) (by kernel_rfl) z z
    have ⟨x6,hx6,h_b2⟩:=bnd h_b2
    exact .t1g 30 z hg7 (fun W hT=>ixv hS.p10.lendv hx6 T.u23 T.t3 z z z) hT (.t1g 31 z hg7 (fun W hT=>lde (RV.flat hT.p10.lendv hx6 z) T.t3 z z z z z) hT (.t1g 32 z hg7 (fun W hT=>fa T.f31_2 z z z) hT (.t1g 33 z hg7 (fun W hT=>ld T.t29 hT.p4 z z z z z) hT (.t1g 34 z hg7 (fun W hT=>lenv hS.p7.lendv T.u29 z z) hT (.t1g 35 z hg7 (fun W hT=>pr z) hT (.t1g 36 z hg7 (fun W hT=>eqb T.u4 z z z) hT (.ts 37 z (fun W hT=>pkt hg7 z z z) hT z (by kernel_rfl) (.eqv 90 z (bool_eq h_b2) (.tp 38 z z hT (by kernel_rfl) (.done (⟨z,sb z,hS.to [0,0,0,0,0,0,0,0,0,0,0,0] z⟩) (by kernel_rfl))))) (by kernel_rfl) z z) (by kernel_rfl) z z) (by kernel_rfl) z z) (by kernel_rfl) z z) (by kernel_rfl) z z) (by kernel_rfl) z z) (by kernel_rfl) z z
   exact .off 24 z hb hT (.off 25 z hb hT (.off 26 z hb hT (.off 27 z hb hT (.off 28 z hb hT (.off 29 z hb hT (.off 30 z hb hT (.off 31 z hb hT (.off 32 z hb hT (.off 33 z hb hT (.off 34 z hb hT (.off 35 z hb hT (.off 36 z hb hT (.ts 37 z (fun W hT=>pkf hb z z z) hT z (by kernel_rfl) (.eqv 90 z (bool_eq (sel_f hb hb2)) (.tp 38 z z hT (by kernel_rfl) (.done (⟨z,sb z,hS.to [0,0,0,0,0,0,0,0,0,0,0,0] z⟩) (by kernel_rfl))))) (by kernel_rfl) z z) (by kernel_rfl) z z) (by kernel_rfl) z z) (by kernel_rfl) z z) (by kernel_rfl) z z) (by kernel_rfl) z z) (by kernel_rfl) z z) (by kernel_rfl) z z) (by kernel_rfl) z z) (by kernel_rfl) z z) (by kernel_rfl) z z) (by kernel_rfl) z z) (by kernel_rfl) z z
  refine .off 11 z hb hT (.off 12 z hb hT (.off 13 z hb hT (.off 14 z hb hT (.off 15 z hb hT (.off 16 z hb hT (.off 17 z hb hT (.off 18 z hb hT (.off 19 z hb hT (.off 20 z hb hT (.off 21 z hb hT (.ts 22 z (fun W hT=>pkf hb z z z) hT z (by kernel_rfl) (.eqv 75 z (bool_eq (sel_f hb hb1)) (.tp 23 z z hT (by kernel_rfl) (.both (b1) (fun hb=>?_) (fun hb=>?_))))) (by kernel_rfl) z z) (by kernel_rfl) z z) (by kernel_rfl) z z) (by kernel_rfl) z z) (by kernel_rfl) z z) (by kernel_rfl) z z) (by kernel_rfl) z z) (by kernel_rfl) z z) (by kernel_rfl) z z) (by kernel_rfl) z z) (by kernel_rfl) z z
  ·have hg8:=hb
   have h_b2:=sel_t hb hb2
   refine .t1g 24 z hg8 (fun W hT=>fa T.f31_3 z z z) hT (.t1g 25 z hg8 (fun W hT=>ld T.t4 hT.p4 z z z z z) hT (.t1g 26 z hg8 (fun W hT=>fa T.f25_2 z z z) hT (.t1g 27 z hg8 (fun W hT=>ld T.t23 hT.p8 z z z z z) hT (.t1g 28 z hg8 (fun W hT=>pr z) hT (.t1g 29 z hg8 (fun W hT=>pr z) hT ?_ (by kernel_rfl) z z) (by kernel_rfl) z z) (by kernel_rfl) z z) (by kernel_rfl) z z) (by kernel_rfl) z z) (by kernel_rfl) z z
   have ⟨x7,hx7,h_b2⟩:=bnd h_b2
   exact .t1g 30 z hg8 (fun W hT=>ixv hS.p10.lendv hx7 T.u23 T.t3 z z z) hT (.t1g 31 z hg8 (fun W hT=>lde (RV.flat hT.p10.lendv hx7 z) T.t3 z z z z z) hT (.t1g 32 z hg8 (fun W hT=>fa T.f31_2 z z z) hT (.t1g 33 z hg8 (fun W hT=>ld T.t29 hT.p4 z z z z z) hT (.t1g 34 z hg8 (fun W hT=>lenv hS.p7.lendv T.u29 z z) hT (.t1g 35 z hg8 (fun W hT=>pr z) hT (.t1g 36 z hg8 (fun W hT=>eqb T.u4 z z z) hT (.ts 37 z (fun W hT=>pkt hg8 z z z) hT z (by kernel_rfl) (.eqv 90 z (bool_eq h_b2) (.tp 38 z z hT (by kernel_rfl) (.done (⟨z,sb z,hS.to [0,0,0,0,0,0,0,0,0,0,0,0] z⟩) (by kernel_rfl))))) (by kernel_rfl) z z) (by kernel_rfl) z z) (by kernel_rfl) z z) (by kernel_rfl) z z) (by kernel_rfl) z z) (by kernel_rfl) z z) (by kernel_rfl) z z
  exact .off 24 z hb hT (.off 25 z hb hT (.off 26 z hb hT (.off 27 z hb hT (.off 28 z hb hT (.off 29 z hb hT (.off 30 z hb hT (.off 31 z hb hT (.off 32 z hb hT (.off 33 z hb hT (.off 34 z hb hT (.off 35 z hb hT (.off 36 z hb hT (.ts 37 z (fun W hT=>pkf hb z z z) hT z (by kernel_rfl) (.eqv 90 z (bool_eq (sel_f hb hb2)) (.tp 38 z z hT (by kernel_rfl) (.done (⟨z,sb z,hS.to [0,0,0,0,0,0,0,0,0,0,0,0] z⟩) (by kernel_rfl))))) (by kernel_rfl) z z) (by kernel_rfl) z z) (by kernel_rfl) z z) (by kernel_rfl) z z) (by kernel_rfl) z z) (by kernel_rfl) z z) (by kernel_rfl) z z) (by kernel_rfl) z z) (by kernel_rfl) z z) (by kernel_rfl) z z) (by kernel_rfl) z z) (by kernel_rfl) z z) (by kernel_rfl) z z
 intro x E W hJ
 obtain ⟨rfl,hE,hS⟩:=hJ
 refine ⟨_,hE.sub,?_⟩
 obtain rfl:=Option.some.inj h
 exact .ret (fin_ret (vs:=[_]) () (rt z rn) z (hS.to [] z))
end Go.Proofs.YtmpplggjpmmhlaaGreat.N
namespace Go.Proofs.YtmpplggjpmmhlaaGreat.X
variable {P : Program} {w : World} {T : Nat → Prop} {t e : TypeId} {size : Nat} {k : IntKind} {α : Type} {enc : α → D} {H : Type} {en : TypeId × Value → H} {base : Nat} {spare : Nat → Bool} {held : Bool}
def styp (P : Program) (t : TypeId) : Option (List TypeId):=match P.underlying t with
 | some (.struct fs)=>some (fs.toList.map (·.type))
 | _=>none
mutual
def Typ (P : Program) : D → TypeId → Prop
 | .int k n,t=>P.underlying t = some (.int k) ∧ (Lit.int k n).wf = true
 | .bool _,t=>P.underlying t = some .bool
 | .str s,t=>P.underlying t = some .string ∧ s.size ≤ maxLen
 | .row e size xs,t=>P.underlying t = some (.slice e) ∧ size = P.cellsOf e ∧ Typs P xs e
 | .agg xs,t=>∃ ts,styp P t = some ts ∧ TypF P xs ts
def Typs (P : Program) : List D → TypeId → Prop
 | [],_=>True
 | x :: xs,e=>Typ P x e ∧ Typs P xs e
def TypF (P : Program) : List D → List TypeId → Prop
 | [],[]=>True
 | x :: xs,t :: ts=>Typ P x t ∧ TypF P xs ts
 | _,_=>False
end
def contig (P : Program) : List Field → Nat → Option Nat
 | [],k=>some k
 | f :: r,k=>match Nat.beq f.offset k with
  | true=>contig P r (k + P.cellsOf f.type)
  | false=>none
def okT (P : Program) (ts : List TypeId) (t : TypeId) : Bool:=match P.underlying t with
 | some (.int _) | some .bool | some .string=>Nat.beq (P.cellsOf t) 1
 | some (.slice e)=>Nat.beq (P.cellsOf t) 1 && ts.contains e && !(Nat.beq (P.cellsOf e) 0)
 | some (.struct fs)=>(match contig P fs.toList 0 with
  | some n=>Nat.beq n (P.cellsOf t)
  | none=>false) && fs.toList.all (fun f=>ts.contains f.type)
 | _=>false
theorem D.rd_length : ∀ {d : D} {cs : List Value},D.rd w d T cs → cs.length = d.sz
 | .int _ _,_,h=>by simp only [D.rd] at h; subst h; rfl
 | .bool _,_,h=>by simp only [D.rd] at h; subst h; rfl
 | .str _,_,h=>by simp only [D.rd] at h; subst h; rfl
 | .row _ _ _,_,⟨A,cap,c,h1,_⟩=>by subst h1; rfl
 | .agg xs,_,h=>by simp only [D.sz]; exact rds_length (xs:=xs) h
theorem Typs.append : ∀ {xs ys : List D},Typs P xs e → Typs P ys e → Typs P (xs ++ ys) e
 | [],_,_,h=>h
 | x :: xs,_,⟨h1,h2⟩,h=>⟨h1,Typs.append h2 h⟩
theorem old_of_cell {a : Addr} {v : Value} (h : w.cell? a = some v) : Old No w a.block:=⟨World.block_lt_of_cell? w a h,id⟩
theorem trod_typ {ts : List TypeId} (hts : ts.all (okT P ts) = true) : ∀ {fuel : Nat} {t : TypeId} {cs : List Value} {x : DataW H × List MemPlace},t ∈ ts → DataW.trod en P w base spare held fuel t cs = some x → ∃ d,Typ P d t ∧ D.rd w d (Old No w) cs ∧ d.sz = P.cellsOf t:=by
 intro fuel
 induction fuel with
 | zero=>intro t cs x _ h; simp [DataW.trod] at h
 | succ fuel ih =>
  intro t cs x ht h
  have hok:=List.all_eq_true.1 hts t ht
  unfold okT at hok
  split at hok
  ·rename_i k hu
   obtain ⟨n,rfl,_,hw⟩:=DataW.trod_int hu h
   exact ⟨.int k n,⟨hu,hw⟩,rfl,(Nat.eq_of_beq_eq_true hok).symm⟩
  ·rename_i hu
   obtain ⟨b,rfl,_⟩:=DataW.trod_bool hu h
   exact ⟨.bool b,hu,rfl,(Nat.eq_of_beq_eq_true hok).symm⟩
  ·rename_i hu
   obtain ⟨s,rfl,_,hs⟩:=DataW.trod_string hu h
   exact ⟨.str s,⟨hu,hs⟩,rfl,(Nat.eq_of_beq_eq_true hok).symm⟩
  ·rename_i e hu
   simp only [Bool.and_eq_true,Bool.not_eq_true'] at hok
   obtain ⟨⟨h1,h2⟩,h3⟩:=hok
   have he : e ∈ ts:=by simpa using h2
   have h0 : P.cellsOf e ≠ 0:=by intro h0; rw [h0] at h3; cases h3
   have hc1:=(Nat.eq_of_beq_eq_true h1).symm
   rcases DataW.trod_slice hu h with ⟨rfl,_⟩ | ⟨a,len,cap,elems,rest,n,hn,rfl,_,hb,hl,hm,hlen,hel,_,_⟩
   ·exact ⟨.row e (P.cellsOf e) [],⟨hu,rfl,trivial⟩,⟨none,0,[],rfl,Nat.le_refl _,Nat.zero_le _,by simp,fun h=>absurd rfl h,rfl⟩,hc1⟩
   ·obtain rfl : fuel = n:=by omega
    have key : ∀ m,m ≤ len → ∃ ds c,ds.length = m ∧ Typs P ds e ∧ (∀ x ∈ ds,x.sz = P.cellsOf e) ∧ D.rds w ds (Old No w) c ∧ c.length = m * P.cellsOf e ∧ ∀ j u,c[j]? = some u → w.cell? (a.add j) = some u:=by
     intro m
     induction m with
     | zero=>intro _; exact ⟨[],[],rfl,trivial,by simp,rfl,by simp,by simp⟩
     | succ m ihm =>
      intro hle
      obtain ⟨ds,c,k1,k2,k3,k4,k5,k6⟩:=ihm (by omega)
      have hi:=hel m (by omega)
      have hs : ∃ y,elems[m]? = some y:=⟨_,List.getElem?_eq_getElem (by omega)⟩
      obtain ⟨y,hy⟩:=hs
      rw [hy,Option.bind_eq_some_iff] at hi
      obtain ⟨ci,hci,hyi⟩:=hi
      obtain ⟨d,g1,g2,g3⟩:=ih he hyi
      obtain ⟨_,q2,q3⟩:=World.cells?_some hci
      refine ⟨ds ++ [d],c ++ ci,by simp [k1],k2.append ⟨g1,trivial⟩,fun x hx=>?_,rds_app k4 ⟨ci,[],by simp,D.rd_length g2,g2,rfl⟩,by rw [List.length_append,k5,q2,Nat.add_mul]; omega,fun j u hj=>?_⟩
      ·rcases List.mem_append.1 hx with hx | hx
       ·exact k3 x hx
       ·rw [List.mem_singleton.1 hx]; exact g3
      ·rcases Nat.lt_or_ge j c.length with hj' | hj'
       ·rw [List.getElem?_append_left hj'] at hj; exact k6 j u hj
       ·rw [List.getElem?_append_right hj'] at hj
        have hlt : j - c.length < P.cellsOf e:=by
         rcases Nat.lt_or_ge (j - c.length) ci.length with h | h
         ·omega
         ·rw [List.getElem?_eq_none h] at hj; cases hj
        have:=q3 _ hlt
        rw [hj,Addr.add_add,← k5] at this
        rw [show c.length + (j - c.length) = j by omega] at this
        exact this
    obtain ⟨ds,c,k1,k2,k3,k4,k5,k6⟩:=key len (Nat.le_refl _)
    refine ⟨.row e (P.cellsOf e) ds,⟨hu,rfl,k2⟩,⟨some a,cap,c,by rw [k1],by omega,by omega,k3,fun hne=>⟨a,rfl,?_,k6⟩,k4⟩,hc1⟩
    have hpos : 0 < c.length:=by
     rw [k5,← k1]
     exact Nat.mul_pos (List.length_pos_iff.2 hne) (by omega)
    have h6:=k6 0 _ (List.getElem?_eq_getElem hpos)
    simp only [Addr.add,if_true] at h6
    exact old_of_cell h6
  ·rename_i fs hu
   simp only [Bool.and_eq_true] at hok
   obtain ⟨h1,h2⟩:=hok
   split at h1
   ·rename_i tot hcg
    obtain rfl:=Nat.eq_of_beq_eq_true h1
    obtain ⟨xs,n,hn,_,hlen,hxl,hf⟩:=DataW.trod_struct hu h
    obtain rfl : fuel = n:=by omega
    have key : ∀ (gs : List Field) (o : Nat),(∀ f ∈ gs,f.type ∈ ts ∧ ∃ y,DataW.trod en P w base spare held fuel f.type ((cs.drop f.offset).take (P.cellsOf f.type)) = some y) → contig P gs o = some (P.cellsOf t) →
      ∃ ds,TypF P ds (gs.map (·.type)) ∧ D.rds w ds (Old No w) (cs.drop o) ∧ o + D.szs ds = P.cellsOf t:=by
     intro gs
     induction gs with
     | nil =>
      intro o _ hc
      simp only [contig,Option.some.injEq] at hc
      subst hc
      exact ⟨[],trivial,by rw [← hlen,List.drop_length]; rfl,rfl⟩
     | cons f gs ihg =>
      intro o hall hc
      simp only [contig] at hc
      split at hc
      ·rename_i ho
       have ho':=Nat.eq_of_beq_eq_true ho
       obtain ⟨hft,y,hy⟩:=hall f (by simp)
       obtain ⟨d,g1,g2,g3⟩:=ih hft hy
       obtain ⟨ds,q1,q2,q3⟩:=ihg _ (fun g hg=>hall g (by simp [hg])) hc
       rw [ho'] at g2
       refine ⟨d :: ds,⟨g1,q1⟩,⟨_,_,?_,D.rd_length g2,g2,q2⟩,?_⟩
       ·rw [← List.drop_drop,List.take_append_drop]
       ·simp only [D.szs,g3]; omega
      ·cases hc
    obtain ⟨ds,q1,q2,q3⟩:=key fs.toList 0 (fun f hf'=>⟨by have:=List.all_eq_true.1 h2 f hf'; simpa using this,by
      obtain ⟨i,hi⟩:=List.getElem?_of_mem hf'
      have hi' : fs[i]? = some f:=by simpa using hi
      have hlt : i < xs.length:=by
       have:=(List.getElem?_eq_some_iff.1 hi).1
       rw [hxl]
       simpa using this
      exact ⟨_,(hf i f hi').trans (List.getElem?_eq_getElem hlt)⟩⟩) hcg
    exact ⟨.agg ds,⟨_,by simp only [styp,hu],q1⟩,q2,by simp only [D.sz]; omega⟩
   ·cases h1
  ·cases hok
def Dec (P : Program) (t : TypeId) (enc : α → D) (Wf : α → Prop) : Prop:=∀ d,Typ P d t → ∃ x,d = enc x ∧ Wf x
theorem Dec.int (hu : P.underlying t = some (.int k)) : Dec P t (D.int k) (fun n=>(Lit.int k n).wf = true):=by
 intro d h
 cases d with
 | int k' n =>
  obtain ⟨h1,h2⟩:=h
  rw [hu] at h1
  injection h1 with h1
  injection h1 with h1
  subst h1
  exact ⟨n,rfl,h2⟩
 | bool b=>rw [show P.underlying t = some .bool from h] at hu; cases hu
 | str s=>rw [show P.underlying t = some .string from h.1] at hu; cases hu
 | row e s xs=>rw [h.1] at hu; cases hu
 | agg xs=>obtain ⟨ts,h1,_⟩:=h; simp [styp,hu] at h1
theorem Dec.bool (hu : P.underlying t = some .bool) : Dec P t D.bool (fun _=>True):=by
 intro d h
 cases d with
 | bool b=>exact ⟨b,rfl,trivial⟩
 | int k' n=>rw [h.1] at hu; cases hu
 | str s=>rw [show P.underlying t = some .string from h.1] at hu; cases hu
 | row e s xs=>rw [h.1] at hu; cases hu
 | agg xs=>obtain ⟨ts,h1,_⟩:=h; simp [styp,hu] at h1
theorem Dec.str (hu : P.underlying t = some .string) : Dec P t D.str (fun s=>s.size ≤ maxLen):=by
 intro d h
 cases d with
 | str s=>exact ⟨s,rfl,h.2⟩
 | bool b=>rw [show P.underlying t = some .bool from h] at hu; cases hu
 | int k' n=>rw [h.1] at hu; cases hu
 | row e s xs=>rw [h.1] at hu; cases hu
 | agg xs=>obtain ⟨ts,h1,_⟩:=h; simp [styp,hu] at h1
theorem Dec.list {Wf : α → Prop} (h : Dec P e enc Wf) : ∀ {xs : List D},Typs P xs e → ∃ l : List α,xs = l.map enc ∧ ∀ x ∈ l,Wf x
 | [],_=>⟨[],rfl,by simp⟩
 | d :: xs,⟨h1,h2⟩=>by
  obtain ⟨x,rfl,hx⟩:=h d h1
  obtain ⟨l,rfl,hl⟩:=Dec.list h h2
  exact ⟨x :: l,rfl,fun y hy=>(List.mem_cons.1 hy).elim (fun e=>e ▸ hx) (hl y)⟩
theorem Dec.slice {Wf : α → Prop} (hu : P.underlying t = some (.slice e)) (hc : P.cellsOf e = size) (h : Dec P e enc Wf) : Dec P t (fun (l : List α)=>D.row e size (l.map enc)) (fun l=>∀ x ∈ l,Wf x):=by
 intro d hd
 cases d with
 | row e' s xs =>
  obtain ⟨h1,h2,h3⟩:=hd
  rw [hu] at h1
  injection h1 with h1
  injection h1 with h1
  subst h1
  obtain ⟨l,rfl,hl⟩:=h.list h3
  exact ⟨l,by rw [h2,hc],hl⟩
 | bool b=>rw [show P.underlying t = some .bool from hd] at hu; cases hu
 | int k' n=>rw [hd.1] at hu; cases hu
 | str s=>rw [show P.underlying t = some .string from hd.1] at hu; cases hu
 | agg xs=>obtain ⟨ts,h1,_⟩:=hd; simp [styp,hu] at h1
end Go.Proofs.YtmpplggjpmmhlaaGreat.X
