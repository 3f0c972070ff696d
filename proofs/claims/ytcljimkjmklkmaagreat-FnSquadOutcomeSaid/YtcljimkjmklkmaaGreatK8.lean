/- Printed by a program of mine: that the program's functions compute it. What a row says of its arguments, in the program logic's words: data types in general. -/
import Derived.Test.YtcljimkjmklkmaaGreatK7
import Derived.RowKit
import Derived.ChangeSlices
import Derived.ChangeArms
import Derived.WideShapes
set_option linter.unusedVariables false
set_option linter.unusedSimpArgs false
set_option maxRecDepth 100000
set_option maxHeartbeats 4000000
namespace Go.Proofs.YtcljimkjmklkmaaGreat.N
open Go.Proofs.YtcljimkjmklkmaaGreat.X
theorem fbr {a0 : Squad} {v_0_Harts : Hd} {v_0_Boxes : Hd} {v_0_Out : Hd} {w : World} {r : Outcome} (h : f1v a0 = some r) (q_0_Harts : RV w (Old No w) (sv v_0_Harts) 36 3 dMachine a0.Harts) (q_0_Boxes : RV w (Old No w) (sv v_0_Boxes) 61 2 dBox a0.Boxes) (q_0_Out : RV w (Old No w) (sv v_0_Out) 3 1 (D.int .i64) a0.Out) : Calls Tryz.prog 6 #[.agg #[(sv v_0_Harts),(sv v_0_Boxes),.int .i64 a0.Turn,.int .i64 a0.Idle,(sv v_0_Out)]] w (Ret No w (fun s : Hd × Hd × Hd=>.agg #[(sv s.1),(sv s.2.1),(sv s.2.2),.bool r.Rest]) (fun s=>[rowV (sv s.1) 3 1 (D.int .i64) r.Out,rowV (sv s.2.1) 25 1 (fun (l : List Int)=>D.row 3 1 (l.map (D.int .i64))) r.Items,rowV (sv s.2.2) 4 1 D.bool r.Ended])):=by
 unfold f1v at h
 refine enter Tryz.func6 z z ?_
 have hS:=Sep.start w
 refine .g (.c (.box hS z z ?_ z z))
 intro g1 W hS
 refine .c (.alloc T.t32 hS ?_ z z z)
 intro g2 W hS
 refine .nil (.seq (.g (.s (ld T.t27 hS.p1 z z z z z) z ?_)))
 have ⟨y1,hy1,h⟩:=bnd h
 refine .c (.call0 hS Tryz.func13 (fat hy1 (hS.keep q_0_Harts) (hS.keep q_0_Boxes) (hS.keep q_0_Out)) z z ?_ z z z z)
 intro W hS
 refine .q z (.nil ?_)
 refine .cs z h ?_ ?_ <;> intro h
 ·refine .g (.s (bs T.s32 z z) z (.c (.st T.t32 hS z z z ?_ z z z z z)))
  intro W hS
  refine .nil (.ret ?_)
  have hS:=hS.nilv 3 1 (D.int .i64)
  have hS:=hS.nilv 25 1 (fun (l : List Int)=>D.row 3 1 (l.map (D.int .i64)))
  have hS:=hS.nilv 4 1 D.bool
  cases h
  exact fin_ret (vs:=[_]) (nilH,nilH,nilH) (rc hS.p3 T.t32 z rn z z) z (hS.to [2,1,0] z)
 refine .skip (.seq ?_)
 have ⟨r1,hr1,h⟩:=bnd h
 have ⟨y2,hy2,h⟩:=bnd h
 refine .via (R':=fun x E' W'=>x = .normal ∧ ∃ (g3 : Nat) (v1 : Hd) (v2 : Hd) (v3 : Hd),SubL E' [(1,.pointer (some ⟨g1,0,none⟩)),(2,.pointer (some ⟨g2,0,none⟩)),(3,.pointer (some ⟨g3,0,none⟩))] ∧ Sep No w W' [.box g2 32 [(sv nilH),(sv nilH),(sv nilH),.bool false],.box g1 27 [(sv v_0_Harts),(sv v_0_Boxes),.int .i64 a0.Turn,.int .i64 a0.Idle,(sv v_0_Out)],.box g3 32 [(sv v1),(sv v2),(sv v3),.bool (a0.Idle == (a0.Harts.length : Int))],rowV (sv v1) 3 1 (D.int .i64) r1,rowV (sv v2) 25 1 (fun (l : List Int)=>D.row 3 1 (l.map (D.int .i64))) y2,rowV (sv v3) 4 1 D.bool []]) ?_ ?_
 ·refine .rk 16 hS [0,0] T.mix ?_
  intro W hS
  have hT:=hS.to [0,0] z
  refine .ts 1 z (fun W hT=>fa T.f27_4 z z z) hT z (by kernel_rfl) (.ts 2 z (fun W hT=>ld T.t25 hT.p1 z z z z z) hT z (by kernel_rfl) (.ts 4 z (fun W hT=>fa T.f27_1 z z z) hT z (by kernel_rfl) (.ts 5 z (fun W hT=>ld T.t24 hT.p1 z z z z z) hT z (by kernel_rfl) (.ts 8 z (fun W hT=>fa T.f27_3 z z z) hT z (by kernel_rfl) (.ts 9 z (fun W hT=>ld T.t3 hT.p1 z z z z z) hT z (by kernel_rfl) (.ts 10 z (fun W hT=>fa T.f27_0 z z z) hT z (by kernel_rfl) (.ts 11 z (fun W hT=>ld T.t23 hT.p1 z z z z z) hT z (by kernel_rfl) (.ts 12 z (fun W hT=>lenv (hS.keep q_0_Harts) T.u23 z z) hT z (by kernel_rfl) (.tp 13 z z hT (by kernel_rfl) (.by [0,7,15] ⟨⟨_,z,?_⟩,⟨_,z,?_⟩,⟨_,z,?_⟩,trivial⟩ (by kernel_rfl) z))))))))))
  ·refine (.liv [] (D.int .i64) T.u25 T.t3 hS z z z z ?_ z (fun _=>z) z z z z)
   intro v4 W hS
   have hT:=hS.to [1,1] z
   refine ⟨fun _=>hT,.by [3,7,15] ⟨⟨_,z,?_⟩,⟨_,z,?_⟩,⟨_,z,?_⟩,trivial⟩ (by kernel_rfl) z⟩
   ·refine (.apprv hr1 hS (hS.keep q_0_Out) (fun _=>z) T.u25 T.t3 z z z ?_ z z z z z)
    intro v5 W hS
    have hT:=hS.to [1,1] z
    refine ⟨fun _=>hT,.by [6,7,15] ⟨⟨_,z,?_⟩,⟨_,z,?_⟩,⟨_,z,?_⟩,trivial⟩ (by kernel_rfl) z⟩
    ·refine (.call1v hS Tryz.func14 (f0f hy2 (hS.keep q_0_Boxes)) z z ?_ z z z z)
     intro v6 W hS
     have hT:=hS.to [2,2] z
     refine ⟨fun _=>hT,.by [7,15] ⟨⟨_,z,?_⟩,⟨_,z,?_⟩,trivial⟩ (by kernel_rfl) z⟩
     ·refine (.liv [] D.bool T.u30 T.t4 hS z z z z ?_ z (fun _=>z) z z z z)
      intro v7 W hS
      have hT:=hS.to [3,3] z
      refine ⟨fun _=>hT,.ts 14 z (fun W hT=>bs T.s32 z z) hT z (by kernel_rfl) (.by1 15 z (.alloc T.t32 hS ?_ z z z) (by kernel_rfl))⟩
      intro g4 W hS
      have hT:=hS.to [4,4] z
      refine ⟨fun _=>hT,.by1 16 z (.st T.t32 hS z z z ?_ z z z z z) (by kernel_rfl)⟩
      intro W hS
      refine ⟨fun h=>absurd z h,?_⟩
      exact .done (⟨z,g4,v5,v6,v7,sb z,hS.to [4,4,0,2,1,0] z⟩) (by kernel_rfl)
     refine (.alloc T.t32 hS ?_ z z z)
     intro g5 W hS
     have hT:=hS.to [3,3] z
     refine ⟨fun _=>hT,.by1 7 z (.liv [] D.bool T.u30 T.t4 hS z z z z ?_ z (fun _=>z) z z z z) (by kernel_rfl)⟩
     intro v8 W hS
     have hT:=hS.to [4,4] z
     refine ⟨fun _=>hT,.ts 14 z (fun W hT=>bs T.s32 z z) hT z (by kernel_rfl) (.by1 16 z (.st T.t32 hS.p1 z z z ?_ z z z z z) (by kernel_rfl))⟩
     intro W hS
     refine ⟨fun h=>absurd z h,?_⟩
     exact .done (⟨z,g5,v5,v6,v8,sb z,hS.to [4,4,0,2,1,0] z⟩) (by kernel_rfl)
    ·refine (.liv [] D.bool T.u30 T.t4 hS z z z z ?_ z (fun _=>z) z z z z)
     intro v9 W hS
     have hT:=hS.to [2,2] z
     refine ⟨fun _=>hT,.by [6,15] ⟨⟨_,z,?_⟩,⟨_,z,?_⟩,trivial⟩ (by kernel_rfl) z⟩
     ·refine (.call1v hS Tryz.func14 (f0f hy2 (hS.keep q_0_Boxes)) z z ?_ z z z z)
      intro v10 W hS
      have hT:=hS.to [3,3] z
      refine ⟨fun _=>hT,.ts 14 z (fun W hT=>bs T.s32 z z) hT z (by kernel_rfl) (.by1 15 z (.alloc T.t32 hS ?_ z z z) (by kernel_rfl))⟩
      intro g6 W hS
      have hT:=hS.to [4,4] z
      refine ⟨fun _=>hT,.by1 16 z (.st T.t32 hS z z z ?_ z z z z z) (by kernel_rfl)⟩
      intro W hS
      refine ⟨fun h=>absurd z h,?_⟩
      exact .done (⟨z,g6,v5,v10,v9,sb z,hS.to [4,4,0,2,0,0] z⟩) (by kernel_rfl)
     refine (.alloc T.t32 hS ?_ z z z)
     intro g7 W hS
     have hT:=hS.to [3,3] z
     refine ⟨fun _=>hT,.by1 6 z (.call1v hS Tryz.func14 (f0f hy2 (hS.keep q_0_Boxes)) z z ?_ z z z z) (by kernel_rfl)⟩
     intro v11 W hS
     have hT:=hS.to [4,4] z
     refine ⟨fun _=>hT,.ts 14 z (fun W hT=>bs T.s32 z z) hT z (by kernel_rfl) (.by1 16 z (.st T.t32 hS.p1 z z z ?_ z z z z z) (by kernel_rfl))⟩
     intro W hS
     refine ⟨fun h=>absurd z h,?_⟩
     exact .done (⟨z,g7,v5,v11,v9,sb z,hS.to [4,4,0,2,0,0] z⟩) (by kernel_rfl)
    refine (.alloc T.t32 hS ?_ z z z)
    intro g8 W hS
    have hT:=hS.to [2,2] z
    refine ⟨fun _=>hT,.by [6,7] ⟨⟨_,z,?_⟩,⟨_,z,?_⟩,trivial⟩ (by kernel_rfl) z⟩
    ·refine (.call1v hS Tryz.func14 (f0f hy2 (hS.keep q_0_Boxes)) z z ?_ z z z z)
     intro v12 W hS
     have hT:=hS.to [3,3] z
     refine ⟨fun _=>hT,.by1 7 z (.liv [] D.bool T.u30 T.t4 hS z z z z ?_ z (fun _=>z) z z z z) (by kernel_rfl)⟩
     intro v13 W hS
     have hT:=hS.to [4,4] z
     refine ⟨fun _=>hT,.ts 14 z (fun W hT=>bs T.s32 z z) hT z (by kernel_rfl) (.by1 16 z (.st T.t32 hS.p2 z z z ?_ z z z z z) (by kernel_rfl))⟩
     intro W hS
     refine ⟨fun h=>absurd z h,?_⟩
     exact .done (⟨z,g8,v5,v12,v13,sb z,hS.to [4,4,0,2,1,0] z⟩) (by kernel_rfl)
    refine (.liv [] D.bool T.u30 T.t4 hS z z z z ?_ z (fun _=>z) z z z z)
    intro v14 W hS
    have hT:=hS.to [3,3] z
    refine ⟨fun _=>hT,.by1 6 z (.call1v hS Tryz.func14 (f0f hy2 (hS.keep q_0_Boxes)) z z ?_ z z z z) (by kernel_rfl)⟩
    intro v15 W hS
    have hT:=hS.to [4,4] z
    refine ⟨fun _=>hT,.ts 14 z (fun W hT=>bs T.s32 z z) hT z (by kernel_rfl) (.by1 16 z (.st T.t32 hS.p2 z z z ?_ z z z z z) (by kernel_rfl))⟩
    intro W hS
    refine ⟨fun h=>absurd z h,?_⟩
    exact .done (⟨z,g8,v5,v15,v14,sb z,hS.to [4,4,0,2,0,0] z⟩) (by kernel_rfl)
   ·refine (.liv [] D.bool T.u30 T.t4 hS z z z z ?_ z (fun _=>z) z z z z)
    intro v16 W hS
    have hT:=hS.to [2,2] z
    refine ⟨fun _=>hT,.by [3,15] ⟨⟨_,z,?_⟩,⟨_,z,?_⟩,trivial⟩ (by kernel_rfl) z⟩
    ·refine (.apprv hr1 hS.p1 (hS.keep q_0_Out) (fun _=>z) T.u25 T.t3 z z z ?_ z z z z z)
     intro v17 W hS
     have hT:=hS.to [2,2] z
     refine ⟨fun _=>hT,.by [6,15] ⟨⟨_,z,?_⟩,⟨_,z,?_⟩,trivial⟩ (by kernel_rfl) z⟩
     ·refine (.call1v hS Tryz.func14 (f0f hy2 (hS.keep q_0_Boxes)) z z ?_ z z z z)
      intro v18 W hS
      have hT:=hS.to [3,3] z
      refine ⟨fun _=>hT,.ts 14 z (fun W hT=>bs T.s32 z z) hT z (by kernel_rfl) (.by1 15 z (.alloc T.t32 hS ?_ z z z) (by kernel_rfl))⟩
      intro g9 W hS
      have hT:=hS.to [4,4] z
      refine ⟨fun _=>hT,.by1 16 z (.st T.t32 hS z z z ?_ z z z z z) (by kernel_rfl)⟩
      intro W hS
      refine ⟨fun h=>absurd z h,?_⟩
      exact .done (⟨z,g9,v17,v18,v16,sb z,hS.to [4,4,0,1,0,0] z⟩) (by kernel_rfl)
     refine (.alloc T.t32 hS ?_ z z z)
     intro g10 W hS
     have hT:=hS.to [3,3] z
     refine ⟨fun _=>hT,.by1 6 z (.call1v hS Tryz.func14 (f0f hy2 (hS.keep q_0_Boxes)) z z ?_ z z z z) (by kernel_rfl)⟩
     intro v19 W hS
     have hT:=hS.to [4,4] z
     refine ⟨fun _=>hT,.ts 14 z (fun W hT=>bs T.s32 z z) hT z (by kernel_rfl) (.by1 16 z (.st T.t32 hS.p1 z z z ?_ z z z z z) (by kernel_rfl))⟩
     intro W hS
     refine ⟨fun h=>absurd z h,?_⟩
     exact .done (⟨z,g10,v17,v19,v16,sb z,hS.to [4,4,0,1,0,0] z⟩) (by kernel_rfl)
    refine (.alloc T.t32 hS ?_ z z z)
    intro g11 W hS
    have hT:=hS.to [3,3] z
    refine ⟨fun _=>hT,.by1 3 z (.apprv hr1 hS.p2 (hS.keep q_0_Out) (fun _=>z) T.u25 T.t3 z z z ?_ z z z z z) (by kernel_rfl)⟩
    intro v20 W hS
    have hT:=hS.to [3,3] z
    refine ⟨fun _=>hT,.by1 6 z (.call1v hS Tryz.func14 (f0f hy2 (hS.keep q_0_Boxes)) z z ?_ z z z z) (by kernel_rfl)⟩
    intro v21 W hS
    have hT:=hS.to [4,4] z
    refine ⟨fun _=>hT,.ts 14 z (fun W hT=>bs T.s32 z z) hT z (by kernel_rfl) (.by1 16 z (.st T.t32 hS.p2 z z z ?_ z z z z z) (by kernel_rfl))⟩
    intro W hS
    refine ⟨fun h=>absurd z h,?_⟩
    exact .done (⟨z,g11,v20,v21,v16,sb z,hS.to [4,4,0,1,0,0] z⟩) (by kernel_rfl)
   refine (.alloc T.t32 hS ?_ z z z)
   intro g12 W hS
   have hT:=hS.to [2,2] z
   refine ⟨fun _=>hT,.by [3,7] ⟨⟨_,z,?_⟩,⟨_,z,?_⟩,trivial⟩ (by kernel_rfl) z⟩
   ·refine (.apprv hr1 hS.p1 (hS.keep q_0_Out) (fun _=>z) T.u25 T.t3 z z z ?_ z z z z z)
    intro v22 W hS
    have hT:=hS.to [2,2] z
    refine ⟨fun _=>hT,.by [6,7] ⟨⟨_,z,?_⟩,⟨_,z,?_⟩,trivial⟩ (by kernel_rfl) z⟩
    ·refine (.call1v hS Tryz.func14 (f0f hy2 (hS.keep q_0_Boxes)) z z ?_ z z z z)
     intro v23 W hS
     have hT:=hS.to [3,3] z
     refine ⟨fun _=>hT,.by1 7 z (.liv [] D.bool T.u30 T.t4 hS z z z z ?_ z (fun _=>z) z z z z) (by kernel_rfl)⟩
     intro v24 W hS
     have hT:=hS.to [4,4] z
     refine ⟨fun _=>hT,.ts 14 z (fun W hT=>bs T.s32 z z) hT z (by kernel_rfl) (.by1 16 z (.st T.t32 hS.p3 z z z ?_ z z z z z) (by kernel_rfl))⟩
     intro W hS
     refine ⟨fun h=>absurd z h,?_⟩
     exact .done (⟨z,g12,v22,v23,v24,sb z,hS.to [4,4,0,2,1,0] z⟩) (by kernel_rfl)
    refine (.liv [] D.bool T.u30 T.t4 hS z z z z ?_ z (fun _=>z) z z z z)
    intro v25 W hS
    have hT:=hS.to [3,3] z
    refine ⟨fun _=>hT,.by1 6 z (.call1v hS Tryz.func14 (f0f hy2 (hS.keep q_0_Boxes)) z z ?_ z z z z) (by kernel_rfl)⟩
    intro v26 W hS
    have hT:=hS.to [4,4] z
    refine ⟨fun _=>hT,.ts 14 z (fun W hT=>bs T.s32 z z) hT z (by kernel_rfl) (.by1 16 z (.st T.t32 hS.p3 z z z ?_ z z z z z) (by kernel_rfl))⟩
    intro W hS
    refine ⟨fun h=>absurd z h,?_⟩
    exact .done (⟨z,g12,v22,v26,v25,sb z,hS.to [4,4,0,2,0,0] z⟩) (by kernel_rfl)
   refine (.liv [] D.bool T.u30 T.t4 hS z z z z ?_ z (fun _=>z) z z z z)
   intro v27 W hS
   have hT:=hS.to [3,3] z
   refine ⟨fun _=>hT,.by1 3 z (.apprv hr1 hS.p2 (hS.keep q_0_Out) (fun _=>z) T.u25 T.t3 z z z ?_ z z z z z) (by kernel_rfl)⟩
   intro v28 W hS
   have hT:=hS.to [3,3] z
   refine ⟨fun _=>hT,.by1 6 z (.call1v hS Tryz.func14 (f0f hy2 (hS.keep q_0_Boxes)) z z ?_ z z z z) (by kernel_rfl)⟩
   intro v29 W hS
   have hT:=hS.to [4,4] z
   refine ⟨fun _=>hT,.ts 14 z (fun W hT=>bs T.s32 z z) hT z (by kernel_rfl) (.by1 16 z (.st T.t32 hS.p3 z z z ?_ z z z z z) (by kernel_rfl))⟩
   intro W hS
   refine ⟨fun h=>absurd z h,?_⟩
   exact .done (⟨z,g12,v28,v29,v27,sb z,hS.to [4,4,0,1,0,0] z⟩) (by kernel_rfl)
  ·refine (.liv [] D.bool T.u30 T.t4 hS z z z z ?_ z (fun _=>z) z z z z)
   intro v30 W hS
   have hT:=hS.to [1,1] z
   refine ⟨fun _=>hT,.by [0,15] ⟨⟨_,z,?_⟩,⟨_,z,?_⟩,trivial⟩ (by kernel_rfl) z⟩
   ·refine (.liv [] (D.int .i64) T.u25 T.t3 hS z z z z ?_ z (fun _=>z) z z z z)
    intro v31 W hS
    have hT:=hS.to [2,2] z
    refine ⟨fun _=>hT,.by [3,15] ⟨⟨_,z,?_⟩,⟨_,z,?_⟩,trivial⟩ (by kernel_rfl) z⟩
    ·refine (.apprv hr1 hS (hS.keep q_0_Out) (fun _=>z) T.u25 T.t3 z z z ?_ z z z z z)
     intro v32 W hS
     have hT:=hS.to [2,2] z
     refine ⟨fun _=>hT,.by [6,15] ⟨⟨_,z,?_⟩,⟨_,z,?_⟩,trivial⟩ (by kernel_rfl) z⟩
     ·refine (.call1v hS Tryz.func14 (f0f hy2 (hS.keep q_0_Boxes)) z z ?_ z z z z)
      intro v33 W hS
      have hT:=hS.to [3,3] z
      refine ⟨fun _=>hT,.ts 14 z (fun W hT=>bs T.s32 z z) hT z (by kernel_rfl) (.by1 15 z (.alloc T.t32 hS ?_ z z z) (by kernel_rfl))⟩
      intro g13 W hS
      have hT:=hS.to [4,4] z
      refine ⟨fun _=>hT,.by1 16 z (.st T.t32 hS z z z ?_ z z z z z) (by kernel_rfl)⟩
      intro W hS
      refine ⟨fun h=>absurd z h,?_⟩
      exact .done (⟨z,g13,v32,v33,v30,sb z,hS.to [4,4,0,1,0,0] z⟩) (by kernel_rfl)
     refine (.alloc T.t32 hS ?_ z z z)
     intro g14 W hS
     have hT:=hS.to [3,3] z
     refine ⟨fun _=>hT,.by1 6 z (.call1v hS Tryz.func14 (f0f hy2 (hS.keep q_0_Boxes)) z z ?_ z z z z) (by kernel_rfl)⟩
     intro v34 W hS
     have hT:=hS.to [4,4] z
     refine ⟨fun _=>hT,.ts 14 z (fun W hT=>bs T.s32 z z) hT z (by kernel_rfl) (.by1 16 z (.st T.t32 hS.p1 z z z ?_ z z z z z) (by kernel_rfl))⟩
     intro W hS
     refine ⟨fun h=>absurd z h,?_⟩
     exact .done (⟨z,g14,v32,v34,v30,sb z,hS.to [4,4,0,1,0,0] z⟩) (by kernel_rfl)
    refine (.alloc T.t32 hS ?_ z z z)
    intro g15 W hS
    have hT:=hS.to [3,3] z
    refine ⟨fun _=>hT,.by1 3 z (.apprv hr1 hS.p1 (hS.keep q_0_Out) (fun _=>z) T.u25 T.t3 z z z ?_ z z z z z) (by kernel_rfl)⟩
    intro v35 W hS
    have hT:=hS.to [3,3] z
    refine ⟨fun _=>hT,.by1 6 z (.call1v hS Tryz.func14 (f0f hy2 (hS.keep q_0_Boxes)) z z ?_ z z z z) (by kernel_rfl)⟩
    intro v36 W hS
    have hT:=hS.to [4,4] z
    refine ⟨fun _=>hT,.ts 14 z (fun W hT=>bs T.s32 z z) hT z (by kernel_rfl) (.by1 16 z (.st T.t32 hS.p2 z z z ?_ z z z z z) (by kernel_rfl))⟩
    intro W hS
    refine ⟨fun h=>absurd z h,?_⟩
    exact .done (⟨z,g15,v35,v36,v30,sb z,hS.to [4,4,0,1,0,0] z⟩) (by kernel_rfl)
   refine (.alloc T.t32 hS ?_ z z z)
   intro g16 W hS
   have hT:=hS.to [2,2] z
   refine ⟨fun _=>hT,.by1 0 z (.liv [] (D.int .i64) T.u25 T.t3 hS z z z z ?_ z (fun _=>z) z z z z) (by kernel_rfl)⟩
   intro v37 W hS
   have hT:=hS.to [3,3] z
   refine ⟨fun _=>hT,.by1 3 z (.apprv hr1 hS (hS.keep q_0_Out) (fun _=>z) T.u25 T.t3 z z z ?_ z z z z z) (by kernel_rfl)⟩
   intro v38 W hS
   have hT:=hS.to [3,3] z
   refine ⟨fun _=>hT,.by1 6 z (.call1v hS Tryz.func14 (f0f hy2 (hS.keep q_0_Boxes)) z z ?_ z z z z) (by kernel_rfl)⟩
   intro v39 W hS
   have hT:=hS.to [4,4] z
   refine ⟨fun _=>hT,.ts 14 z (fun W hT=>bs T.s32 z z) hT z (by kernel_rfl) (.by1 16 z (.st T.t32 hS.p2 z z z ?_ z z z z z) (by kernel_rfl))⟩
   intro W hS
   refine ⟨fun h=>absurd z h,?_⟩
   exact .done (⟨z,g16,v38,v39,v30,sb z,hS.to [4,4,0,1,0,0] z⟩) (by kernel_rfl)
  refine (.alloc T.t32 hS ?_ z z z)
  intro g17 W hS
  have hT:=hS.to [1,1] z
  refine ⟨fun _=>hT,.by [0,7] ⟨⟨_,z,?_⟩,⟨_,z,?_⟩,trivial⟩ (by kernel_rfl) z⟩
  ·refine (.liv [] (D.int .i64) T.u25 T.t3 hS z z z z ?_ z (fun _=>z) z z z z)
   intro v40 W hS
   have hT:=hS.to [2,2] z
   refine ⟨fun _=>hT,.by [3,7] ⟨⟨_,z,?_⟩,⟨_,z,?_⟩,trivial⟩ (by kernel_rfl) z⟩
   ·refine (.apprv hr1 hS (hS.keep q_0_Out) (fun _=>z) T.u25 T.t3 z z z ?_ z z z z z)
    intro v41 W hS
    have hT:=hS.to [2,2] z
    refine ⟨fun _=>hT,.by [6,7] ⟨⟨_,z,?_⟩,⟨_,z,?_⟩,trivial⟩ (by kernel_rfl) z⟩
    ·refine (.call1v hS Tryz.func14 (f0f hy2 (hS.keep q_0_Boxes)) z z ?_ z z z z)
     intro v42 W hS
     have hT:=hS.to [3,3] z
     refine ⟨fun _=>hT,.by1 7 z (.liv [] D.bool T.u30 T.t4 hS z z z z ?_ z (fun _=>z) z z z z) (by kernel_rfl)⟩
     intro v43 W hS
     have hT:=hS.to [4,4] z
     refine ⟨fun _=>hT,.ts 14 z (fun W hT=>bs T.s32 z z) hT z (by kernel_rfl) (.by1 16 z (.st T.t32 hS.p3 z z z ?_ z z z z z) (by kernel_rfl))⟩
     intro W hS
     refine ⟨fun h=>absurd z h,?_⟩
     exact .done (⟨z,g17,v41,v42,v43,sb z,hS.to [4,4,0,2,1,0] z⟩) (by kernel_rfl)
    refine (.liv [] D.bool T.u30 T.t4 hS z z z z ?_ z (fun _=>z) z z z z)
    intro v44 W hS
    have hT:=hS.to [3,3] z
    refine ⟨fun _=>hT,.by1 6 z (.call1v hS Tryz.func14 (f0f hy2 (hS.keep q_0_Boxes)) z z ?_ z z z z) (by kernel_rfl)⟩
    intro v45 W hS
    have hT:=hS.to [4,4] z
    refine ⟨fun _=>hT,.ts 14 z (fun W hT=>bs T.s32 z z) hT z (by kernel_rfl) (.by1 16 z (.st T.t32 hS.p3 z z z ?_ z z z z z) (by kernel_rfl))⟩
    intro W hS
    refine ⟨fun h=>absurd z h,?_⟩
    exact .done (⟨z,g17,v41,v45,v44,sb z,hS.to [4,4,0,2,0,0] z⟩) (by kernel_rfl)
   refine (.liv [] D.bool T.u30 T.t4 hS z z z z ?_ z (fun _=>z) z z z z)
   intro v46 W hS
   have hT:=hS.to [3,3] z
   refine ⟨fun _=>hT,.by1 3 z (.apprv hr1 hS.p1 (hS.keep q_0_Out) (fun _=>z) T.u25 T.t3 z z z ?_ z z z z z) (by kernel_rfl)⟩
   intro v47 W hS
   have hT:=hS.to [3,3] z
   refine ⟨fun _=>hT,.by1 6 z (.call1v hS Tryz.func14 (f0f hy2 (hS.keep q_0_Boxes)) z z ?_ z z z z) (by kernel_rfl)⟩
   intro v48 W hS
   have hT:=hS.to [4,4] z
   refine ⟨fun _=>hT,.ts 14 z (fun W hT=>bs T.s32 z z) hT z (by kernel_rfl) (.by1 16 z (.st T.t32 hS.p3 z z z ?_ z z z z z) (by kernel_rfl))⟩
   intro W hS
   refine ⟨fun h=>absurd z h,?_⟩
   exact .done (⟨z,g17,v47,v48,v46,sb z,hS.to [4,4,0,1,0,0] z⟩) (by kernel_rfl)
  refine (.liv [] D.bool T.u30 T.t4 hS z z z z ?_ z (fun _=>z) z z z z)
  intro v49 W hS
  have hT:=hS.to [2,2] z
  refine ⟨fun _=>hT,.by1 0 z (.liv [] (D.int .i64) T.u25 T.t3 hS z z z z ?_ z (fun _=>z) z z z z) (by kernel_rfl)⟩
  intro v50 W hS
  have hT:=hS.to [3,3] z
  refine ⟨fun _=>hT,.by1 3 z (.apprv hr1 hS (hS.keep q_0_Out) (fun _=>z) T.u25 T.t3 z z z ?_ z z z z z) (by kernel_rfl)⟩
  intro v51 W hS
  have hT:=hS.to [3,3] z
  refine ⟨fun _=>hT,.by1 6 z (.call1v hS Tryz.func14 (f0f hy2 (hS.keep q_0_Boxes)) z z ?_ z z z z) (by kernel_rfl)⟩
  intro v52 W hS
  have hT:=hS.to [4,4] z
  refine ⟨fun _=>hT,.ts 14 z (fun W hT=>bs T.s32 z z) hT z (by kernel_rfl) (.by1 16 z (.st T.t32 hS.p3 z z z ?_ z z z z z) (by kernel_rfl))⟩
  intro W hS
  refine ⟨fun h=>absurd z h,?_⟩
  exact .done (⟨z,g17,v51,v52,v49,sb z,hS.to [4,4,0,1,0,0] z⟩) (by kernel_rfl)
 intro x E W hJ
 obtain ⟨rfl,g18,v53,v54,v55,hE,hS⟩:=hJ
 refine ⟨_,hE.sub,?_⟩
 refine .seq (.g (.qn z (.block ?_)))
 have ⟨y3,hy3,h⟩:=bnd h
 refine .via (.iter (fun s1 E' W'=>∃ (v58 : Hd),SubL E' [(1,.pointer (some ⟨g1,0,none⟩)),(2,.pointer (some ⟨g2,0,none⟩)),(3,.pointer (some ⟨g18,0,none⟩)),(4,.int .i64 s1.1)] ∧ Sep No w W' [.box g2 32 [(sv nilH),(sv nilH),(sv nilH),.bool false],.box g1 27 [(sv v_0_Harts),(sv v_0_Boxes),.int .i64 a0.Turn,.int .i64 a0.Idle,(sv v_0_Out)],.box g18 32 [(sv v53),(sv v54),(sv v58),.bool (a0.Idle == (a0.Harts.length : Int))],rowV (sv v53) 3 1 (D.int .i64) r1,rowV (sv v54) 25 1 (fun (l : List Int)=>D.row 3 1 (l.map (D.int .i64))) y2,rowV (sv v58) 4 1 D.bool s1.2]) (fun y4 x E' W'=>x = .exit 0 ∧ ∃ (v59 : Hd),SubL E' [(2,.pointer (some ⟨g2,0,none⟩)),(3,.pointer (some ⟨g18,0,none⟩))] ∧ Sep No w W' [.box g2 32 [(sv nilH),(sv nilH),(sv nilH),.bool false],.box g1 27 [(sv v_0_Harts),(sv v_0_Boxes),.int .i64 a0.Turn,.int .i64 a0.Idle,(sv v_0_Out)],.box g18 32 [(sv v53),(sv v54),(sv v59),.bool (a0.Idle == (a0.Harts.length : Int))],rowV (sv v53) 3 1 (D.int .i64) r1,rowV (sv v54) 25 1 (fun (l : List Int)=>D.row 3 1 (l.map (D.int .i64))) y2,rowV (sv v59) 4 1 D.bool y4]) hy3 ⟨v55,sb z,hS.to [0,0,0,0,0,0] z⟩ ?_) ?_
 ·intro s1 y5 E W h hI
  obtain ⟨v57,hE,hS⟩:=hI
  refine CW.sub hE ?_
  unfold f2q at h
  refine .seq (.g (.q z (.s (fa T.f27_0 z z z) z (.s (ld T.t23 hS.p1 z z z z z) z (.s (lenv (hS.keep q_0_Harts) T.u23 z z) z (.q z (.nil ?_)))))))
  refine .cs z h ?_ ?_ <;> intro h
  ·refine .skip (.seq (.block ?_))
   have ⟨x1,hx1,h⟩:=bnd h
   have ⟨b1,hb1,h⟩:=bnd h
   have ⟨r2,hr2,h⟩:=bnd h
   refine .via (R':=fun x E' W'=>x = .normal ∧ ∃ (v60 : Hd),SubL E' [(1,.pointer (some ⟨g1,0,none⟩)),(2,.pointer (some ⟨g2,0,none⟩)),(3,.pointer (some ⟨g18,0,none⟩)),(4,.int .i64 s1.1)] ∧ Sep No w W' [.box g2 32 [(sv nilH),(sv nilH),(sv nilH),.bool false],.box g1 27 [(sv v_0_Harts),(sv v_0_Boxes),.int .i64 a0.Turn,.int .i64 a0.Idle,(sv v_0_Out)],.box g18 32 [(sv v53),(sv v54),(sv v60),.bool (a0.Idle == (a0.Harts.length : Int))],rowV (sv v53) 3 1 (D.int .i64) r1,rowV (sv v54) 25 1 (fun (l : List Int)=>D.row 3 1 (l.map (D.int .i64))) y2,rowV (sv v60) 4 1 D.bool r2]) ?_ ?_
   ·refine .rk 23 hS [0,0,0,0,0] T.mix ?_
    intro W hS
    have hT:=hS.to [0,0,0,0,0] z
    refine .ts 0 z (fun W hT=>fa T.f32_2 z z z) hT z (by kernel_rfl) (.ts 1 z (fun W hT=>ld T.t30 hT.p2 z z z z z) hT z (by kernel_rfl) (.ts 2 z (fun W hT=>fa T.f27_0 z z z) hT z (by kernel_rfl) (.ts 3 z (fun W hT=>ld T.t23 hT.p1 z z z z z) hT z (by kernel_rfl) (.tp 4 z z hT (by kernel_rfl) ?_))))
    obtain ⟨k1,hd,hck1⟩:=RV.el2 q_0_Harts hx1
    have hd1:=ragg hd
    obtain ⟨v61,k1,rfl,q14,hd2⟩:=rrowv q_0_Harts hd1
    obtain ⟨k1,rfl,hd3⟩:=rflat q_0_Harts z hd2
    obtain ⟨v62,k1,rfl,q15,hd4⟩:=rrowv q_0_Harts hd3
    obtain rfl:=rnil q_0_Harts hd4
    refine .ts 5 z (fun W hT=>ixv (hS.keep q_0_Harts) hx1 T.u23 T.t36 z z z) hT z (by kernel_rfl) (.ts 6 z (fun W hT=>fe T.f36_1 z z z) hT z (by kernel_rfl) (.ts 7 z (fun W hT=>lde (hck1 _ hT.agree) T.t3 z z z z z) hT z (by kernel_rfl) (.tp 8 z z hT (by kernel_rfl) (.tp 9 z z hT (by kernel_rfl) (.both (x1.Pc == 0) (fun hb=>?_) (fun hb=>?_))))))
    ·have hg1:=hb
     have h_b1:=sel_t hb hb1
     refine .t1g 10 z hg1 (fun W hT=>fa T.f27_0 z z z) hT (.t1g 11 z hg1 (fun W hT=>ld T.t23 hT.p1 z z z z z) hT (.t1g 12 z hg1 (fun W hT=>pr z) hT ?_ (by kernel_rfl) z z) (by kernel_rfl) z z) (by kernel_rfl) z z
     have ⟨x2,hx2,h_b1⟩:=bnd h_b1
     obtain ⟨k2,hd,hck2⟩:=RV.el2 q_0_Harts hx2
     have hd1:=ragg hd
     obtain ⟨v63,k2,rfl,q16,hd2⟩:=rrowv q_0_Harts hd1
     obtain ⟨k2,rfl,hd3⟩:=rflat q_0_Harts z hd2
     obtain ⟨v64,k2,rfl,q17,hd4⟩:=rrowv q_0_Harts hd3
     obtain rfl:=rnil q_0_Harts hd4
     refine .t1g 13 z hg1 (fun W hT=>ixv (hS.keep q_0_Harts) hx2 T.u23 T.t36 z z z) hT (.t1g 14 z hg1 (fun W hT=>fe T.f36_0 z z z) hT (.t1g 15 z hg1 (fun W hT=>lde (hck2 _ hT.agree) T.t25 z z z z z) hT ?_ (by kernel_rfl) z z) (by kernel_rfl) z z) (by kernel_rfl) z z
     have ⟨x3,hx3,h_b1⟩:=bnd h_b1
     refine .t1g 16 z hg1 (fun W hT=>ixv (hS.keep (q16 _ q_0_Harts)) hx3 T.u25 T.t3 z z z) hT (.t1g 17 z hg1 (fun W hT=>lde (RV.flat (hT.keep (q16 _ q_0_Harts)) hx3 z) T.t3 z z z z z) hT (.t1g 18 z hg1 (fun W hT=>pr z) hT (.ts 19 z (fun W hT=>pkt hg1 z z z) hT z (by kernel_rfl) (.eqv 50 z (bool_eq h_b1) (.by1 20 z (.liv [b1] D.bool T.u30 T.t4 hS z z z z ?_ z (fun _=>z) z z z z) (by kernel_rfl)))) (by kernel_rfl) z z) (by kernel_rfl) z z) (by kernel_rfl) z z
     intro v65 W hS
     have hT:=hS.to [1,1,1,1,1] z
     refine ⟨fun _=>hT,?_⟩
     have hT0:=hS.p6
     refine .by1 21 z (.apprv hr2 hT0 hT0.p1.lendv (fun _=>z) T.u30 T.t4 z z z ?_ z z z z z) (by kernel_rfl)
     intro v66 W hS
     have hT:=hS.to [2,2,2,2,2] z
     refine ⟨fun _=>hT,.ts 22 z (fun W hT=>fa T.f32_2 z z z) hT z (by kernel_rfl) (.by1 23 z (.st T.t30 hS.p4 z z z ?_ z z z z z) (by kernel_rfl))⟩
     intro W hS
     refine ⟨fun h=>absurd z h,?_⟩
     exact .done (⟨z,v66,sb z,hS.to [3,3,0,2,2,0] z⟩) (by kernel_rfl)
    refine .off 10 z hb hT (.off 11 z hb hT (.off 12 z hb hT (.off 13 z hb hT (.off 14 z hb hT (.off 15 z hb hT (.off 16 z hb hT (.off 17 z hb hT (.off 18 z hb hT (.ts 19 z (fun W hT=>pkf hb z z z) hT z (by kernel_rfl) (.eqv 50 z (bool_eq (sel_f hb hb1)) (.by1 20 z (.liv [b1] D.bool T.u30 T.t4 hS z z z z ?_ z (fun _=>z) z z z z) (by kernel_rfl)))) (by kernel_rfl) z z) (by kernel_rfl) z z) (by kernel_rfl) z z) (by kernel_rfl) z z) (by kernel_rfl) z z) (by kernel_rfl) z z) (by kernel_rfl) z z) (by kernel_rfl) z z) (by kernel_rfl) z z
    intro v67 W hS
    have hT:=hS.to [1,1,1,1,1] z
    refine ⟨fun _=>hT,?_⟩
    have hT0:=hS.p6
    refine .by1 21 z (.apprv hr2 hT0 hT0.p1.lendv (fun _=>z) T.u30 T.t4 z z z ?_ z z z z z) (by kernel_rfl)
    intro v68 W hS
    have hT:=hS.to [2,2,2,2,2] z
    refine ⟨fun _=>hT,.ts 22 z (fun W hT=>fa T.f32_2 z z z) hT z (by kernel_rfl) (.by1 23 z (.st T.t30 hS.p4 z z z ?_ z z z z z) (by kernel_rfl))⟩
    intro W hS
    refine ⟨fun h=>absurd z h,?_⟩
    exact .done (⟨z,v68,sb z,hS.to [3,3,0,2,2,0] z⟩) (by kernel_rfl)
   intro x E W hJ
   obtain ⟨rfl,v69,hE,hS⟩:=hJ
   refine ⟨_,hE.sub,?_⟩
   refine .region (.q z (.q z (.q z (.nil ?_))))
   cases h
   exact ⟨z,v69,sb z,hS.to [0,0,0,0,0,0] z⟩
  refine .exit ?_
  cases h
  exact ⟨by simp,z,v57,sb z,hS.to [0,0,0,0,0,0] z⟩
 intro x E W hJ
 obtain ⟨rfl,v70,hE,hS⟩:=hJ
 refine ⟨_,hE.sub,?_⟩
 refine .g (.s (ld T.t32 hS.p2 z z z z z) z (.c (.st T.t32 hS z z z ?_ z z z z z)))
 intro W hS
 cases h
 exact .nil (.ret (fin_ret (vs:=[_]) (v53,v54,v70) (rc hS T.t32 z rn z z) z (hS.to [3,3,3] z)))
def fe9 (w : World) (r : Bool) : Env → World → Prop:=Fin Tryz.prog Tryz.f8 No w (fun s : Unit=>.bool r) (fun s=>[]) .ret
theorem f9j {a0 : List Int} {a1 : List Int} {v_0 : Hd} {v_1 : Hd} {w : World} {r : Bool} (h : f3p a0 a1 = some r) (q_0 : RV w (Old No w) (sv v_0) 3 1 (D.int .i64) a0) (q_1 : RV w (Old No w) (sv v_1) 3 1 (D.int .i64) a1) : Calls Tryz.prog 8 #[(sv v_0),(sv v_1)] w (Ret No w (fun s : Unit=>.bool r) (fun s=>[])):=by
 unfold f3p at h
 refine enter Tryz.func8 z z ?_
 have hS:=Sep.start w
 refine .g (.qn z (.seq (.g (.q z (.s (lenv (hS.keep q_0) T.u25 z z) z (.q z (.s (lenv (hS.keep q_1) T.u25 z z) z (.q z (.nil ?_)))))))))
 refine .cs z h ?_ ?_ <;> intro h
 ·obtain rfl:=Option.some.inj h
  exact .g (.qn z (.ret (fin_ret (vs:=[_]) () (rt z rn) z (hS.to [] z))))
 refine .skip (.seq (.g (.qn z (.block ?_))))
 have ⟨y1,hy1,h⟩:=bnd h
 refine .via (.iter (fun s1 E' W'=>SubL E' [(0,(sv v_0)),(1,(sv v_1)),(5,.int .i64 s1)] ∧ Sep No w W' []) (fun y2 x E' W'=>(match y2 with | .inl o1=>x = .ret ∧ fe9 w o1 E' W' | .inr o2=>x = .exit 0 ∧ SubL E' [] ∧ Sep No w W' [])) hy1 ⟨sb rfl,hS.to [] rfl⟩ ?_) ?_
 ·intro s1 y3 E W h hI
  obtain ⟨hE,hS⟩:=hI
  refine CW.sub hE ?_
  unfold f4e at h
  refine .seq (.g (.q z (.q z (.s (lenv (hS.keep q_0) T.u25 z z) z (.q z (.nil ?_))))))
  refine .cs z h ?_ ?_ <;> intro h
  ·refine .skip (.seq (.block (.seq (.rk 9 hS [] T.mix ?_))))
   intro W hS
   have hT:=hS.to [] z
   refine .tp 0 z z hT (by kernel_rfl) (.tp 1 z z hT (by kernel_rfl) ?_)
   have ⟨x1,hx1,h⟩:=bnd h
   refine .ts 2 z (fun W hT=>ixv (hS.keep q_0) hx1 T.u25 T.t3 z z z) hT z (by kernel_rfl) (.ts 3 z (fun W hT=>lde (RV.flat (hT.keep q_0) hx1 z) T.t3 z z z z z) hT z (by kernel_rfl) (.tp 4 z z hT (by kernel_rfl) (.tp 5 z z hT (by kernel_rfl) ?_)))
   have ⟨x2,hx2,h⟩:=bnd h
   refine .ts 6 z (fun W hT=>ixv (hS.keep q_1) hx2 T.u25 T.t3 z z z) hT z (by kernel_rfl) (.ts 7 z (fun W hT=>lde (RV.flat (hT.keep q_1) hx2 z) T.t3 z z z z z) hT z (by kernel_rfl) (.tp 8 z z hT (by kernel_rfl) (.done ?_ (by kernel_rfl))))
   refine .cs z h ?_ ?_ <;> intro h
   ·refine .g (.qn z (.ret ?_))
    cases h
    exact ⟨by simp,z,fin_ret (vs:=[_]) () (rt z rn) z (hS.to [] z)⟩
   refine .skip (.region (.q z (.q z (.q z (.nil ?_)))))
   cases h
   exact ⟨z,sb z,hS.to [] z⟩
  refine .exit ?_
  cases h
  exact ⟨by simp,z,sb z,hS.to [] z⟩
 intro x E W hJ
 rcases y1 with o3 | o4
 ·obtain ⟨rfl,hF⟩:=hJ
  refine ⟨_,fun _ _ h=>h,?_⟩
  cases h
  exact hF
 obtain ⟨rfl,hE,hS⟩:=hJ
 refine ⟨_,hE.sub,?_⟩
 obtain rfl:=Option.some.inj h
 exact .g (.qn z (.ret (fin_ret (vs:=[_]) () (rt z rn) z (hS.to [] z))))
def fdg (w : World) (r : Bool) : Env → World → Prop:=Fin Tryz.prog Tryz.f15 No w (fun s : Unit=>.bool r) (fun s=>[]) .ret
theorem fcr {a0 : List (List Int)} {a1 : List (List Int)} {v_0 : Hd} {v_1 : Hd} {w : World} {r : Bool} (h : f5h a0 a1 = some r) (q_0 : RV w (Old No w) (sv v_0) 25 1 (fun (l : List Int)=>D.row 3 1 (l.map (D.int .i64))) a0) (q_1 : RV w (Old No w) (sv v_1) 25 1 (fun (l : List Int)=>D.row 3 1 (l.map (D.int .i64))) a1) : Calls Tryz.prog 15 #[(sv v_0),(sv v_1)] w (Ret No w (fun s : Unit=>.bool r) (fun s=>[])):=by
 unfold f5h at h
 refine enter Tryz.func15 z z ?_
 have hS:=Sep.start w
 refine .g (.qn z (.seq (.g (.q z (.s (lenv (hS.keep q_0) T.u29 z z) z (.q z (.s (lenv (hS.keep q_1) T.u29 z z) z (.q z (.nil ?_)))))))))
 refine .cs z h ?_ ?_ <;> intro h
 ·obtain rfl:=Option.some.inj h
  exact .g (.qn z (.ret (fin_ret (vs:=[_]) () (rt z rn) z (hS.to [] z))))
 refine .skip (.seq (.g (.qn z (.block ?_))))
 have ⟨y1,hy1,h⟩:=bnd h
 refine .via (.iter (fun s1 E' W'=>SubL E' [(0,(sv v_0)),(1,(sv v_1)),(5,.int .i64 s1)] ∧ Sep No w W' []) (fun y2 x E' W'=>(match y2 with | .inl o1=>x = .ret ∧ fdg w o1 E' W' | .inr o2=>x = .exit 0 ∧ SubL E' [] ∧ Sep No w W' [])) hy1 ⟨sb rfl,hS.to [] rfl⟩ ?_) ?_
 ·intro s1 y3 E W h hI
  obtain ⟨hE,hS⟩:=hI
  refine CW.sub hE ?_
  unfold f3u at h
  refine .seq (.g (.q z (.q z (.s (lenv (hS.keep q_0) T.u29 z z) z (.q z (.nil ?_))))))
  refine .cs z h ?_ ?_ <;> intro h
  ·refine .skip (.seq (.block (.seq (.rk 10 hS [] T.mix ?_))))
   intro W hS
   have hT:=hS.to [] z
   refine .tp 0 z z hT (by kernel_rfl) (.tp 1 z z hT (by kernel_rfl) ?_)
   have ⟨x1,hx1,h⟩:=bnd h
   obtain ⟨k1,hd,hck1⟩:=RV.el2 q_0 hx1
   obtain ⟨v1,k1,rfl,q1,hd1⟩:=rrowv q_0 hd
   obtain rfl:=rnil q_0 hd1
   refine .ts 2 z (fun W hT=>ixv (hS.keep q_0) hx1 T.u29 T.t25 z z z) hT z (by kernel_rfl) (.ts 3 z (fun W hT=>lde (hck1 _ hT.agree) T.t25 z z z z z) hT z (by kernel_rfl) (.tp 4 z z hT (by kernel_rfl) (.tp 5 z z hT (by kernel_rfl) ?_)))
   have ⟨x2,hx2,h⟩:=bnd h
   obtain ⟨k2,hd,hck2⟩:=RV.el2 q_1 hx2
   obtain ⟨v2,k2,rfl,q2,hd1⟩:=rrowv q_1 hd
   obtain rfl:=rnil q_1 hd1
   refine .ts 6 z (fun W hT=>ixv (hS.keep q_1) hx2 T.u29 T.t25 z z z) hT z (by kernel_rfl) (.ts 7 z (fun W hT=>lde (hck2 _ hT.agree) T.t25 z z z z z) hT z (by kernel_rfl) ?_)
   have ⟨y4,hy4,h⟩:=bnd h
   refine .by1 8 z (.call0 hS Tryz.func8 (f9j hy4 (hS.keep (q1 _ q_0)) (hS.keep (q2 _ q_1))) z z ?_ z z z z) (by kernel_rfl)
   intro W hS
   have hT:=hS.to [] z
   refine ⟨fun _=>hT,.tp 9 z z hT (by kernel_rfl) (.done ?_ (by kernel_rfl))⟩
   refine .cs z h ?_ ?_ <;> intro h
   ·refine .g (.qn z (.ret ?_))
    cases h
    exact ⟨by simp,z,fin_ret (vs:=[_]) () (rt z rn) z (hS.to [] z)⟩
   refine .skip (.region (.q z (.q z (.q z (.nil ?_)))))
   cases h
   exact ⟨z,sb z,hS.to [] z⟩
  refine .exit ?_
  cases h
  exact ⟨by simp,z,sb z,hS.to [] z⟩
 intro x E W hJ
 rcases y1 with o3 | o4
 ·obtain ⟨rfl,hF⟩:=hJ
  refine ⟨_,fun _ _ h=>h,?_⟩
  cases h
  exact hF
 obtain ⟨rfl,hE,hS⟩:=hJ
 refine ⟨_,hE.sub,?_⟩
 obtain rfl:=Option.some.inj h
 exact .g (.qn z (.ret (fin_ret (vs:=[_]) () (rt z rn) z (hS.to [] z))))
def fd1 (w : World) (r : Bool) : Env → World → Prop:=Fin Tryz.prog Tryz.f16 No w (fun s : Unit=>.bool r) (fun s=>[]) .ret
theorem fcj {a0 : List Bool} {a1 : List Bool} {v_0 : Hd} {v_1 : Hd} {w : World} {r : Bool} (h : f5z a0 a1 = some r) (q_0 : RV w (Old No w) (sv v_0) 4 1 D.bool a0) (q_1 : RV w (Old No w) (sv v_1) 4 1 D.bool a1) : Calls Tryz.prog 16 #[(sv v_0),(sv v_1)] w (Ret No w (fun s : Unit=>.bool r) (fun s=>[])):=by
 unfold f5z at h
 refine enter Tryz.func16 z z ?_
 have hS:=Sep.start w
 refine .g (.qn z (.seq (.g (.q z (.s (lenv (hS.keep q_0) T.u30 z z) z (.q z (.s (lenv (hS.keep q_1) T.u30 z z) z (.q z (.nil ?_)))))))))
 refine .cs z h ?_ ?_ <;> intro h
 ·obtain rfl:=Option.some.inj h
  exact .g (.qn z (.ret (fin_ret (vs:=[_]) () (rt z rn) z (hS.to [] z))))
 refine .skip (.seq (.g (.qn z (.block ?_))))
 have ⟨y1,hy1,h⟩:=bnd h
 refine .via (.iter (fun s1 E' W'=>SubL E' [(0,(sv v_0)),(1,(sv v_1)),(5,.int .i64 s1)] ∧ Sep No w W' []) (fun y2 x E' W'=>(match y2 with | .inl o1=>x = .ret ∧ fd1 w o1 E' W' | .inr o2=>x = .exit 0 ∧ SubL E' [] ∧ Sep No w W' [])) hy1 ⟨sb rfl,hS.to [] rfl⟩ ?_) ?_
 ·intro s1 y3 E W h hI
  obtain ⟨hE,hS⟩:=hI
  refine CW.sub hE ?_
  unfold f3w at h
  refine .seq (.g (.q z (.q z (.s (lenv (hS.keep q_0) T.u30 z z) z (.q z (.nil ?_))))))
  refine .cs z h ?_ ?_ <;> intro h
  ·refine .skip (.seq (.block (.seq (.rk 9 hS [] T.mix ?_))))
   intro W hS
   have hT:=hS.to [] z
   refine .tp 0 z z hT (by kernel_rfl) (.tp 1 z z hT (by kernel_rfl) ?_)
   have ⟨x1,hx1,h⟩:=bnd h
   refine .ts 2 z (fun W hT=>ixv (hS.keep q_0) hx1 T.u30 T.t4 z z z) hT z (by kernel_rfl) (.ts 3 z (fun W hT=>lde (RV.flat (hT.keep q_0) hx1 z) T.t4 z z z z z) hT z (by kernel_rfl) (.tp 4 z z hT (by kernel_rfl) (.tp 5 z z hT (by kernel_rfl) ?_)))
   have ⟨x2,hx2,h⟩:=bnd h
   refine .ts 6 z (fun W hT=>ixv (hS.keep q_1) hx2 T.u30 T.t4 z z z) hT z (by kernel_rfl) (.ts 7 z (fun W hT=>lde (RV.flat (hT.keep q_1) hx2 z) T.t4 z z z z z) hT z (by kernel_rfl) (.ts 8 z (fun W hT=>neb T.u4 z z z) hT z (by kernel_rfl) (.done ?_ (by kernel_rfl))))
   refine .cs z h ?_ ?_ <;> intro h
   ·refine .g (.qn z (.ret ?_))
    cases h
    exact ⟨by simp,z,fin_ret (vs:=[_]) () (rt z rn) z (hS.to [] z)⟩
   refine .skip (.region (.q z (.q z (.q z (.nil ?_)))))
   cases h
   exact ⟨z,sb z,hS.to [] z⟩
  refine .exit ?_
  cases h
  exact ⟨by simp,z,sb z,hS.to [] z⟩
 intro x E W hJ
 rcases y1 with o3 | o4
 ·obtain ⟨rfl,hF⟩:=hJ
  refine ⟨_,fun _ _ h=>h,?_⟩
  cases h
  exact hF
 obtain ⟨rfl,hE,hS⟩:=hJ
 refine ⟨_,hE.sub,?_⟩
 obtain rfl:=Option.some.inj h
 exact .g (.qn z (.ret (fin_ret (vs:=[_]) () (rt z rn) z (hS.to [] z))))
theorem fab {a0 : Outcome} {a1 : Outcome} {v_0_Out : Hd} {v_0_Items : Hd} {v_0_Ended : Hd} {v_1_Out : Hd} {v_1_Items : Hd} {v_1_Ended : Hd} {w : World} {r : Bool} (h : f2w a0 a1 = some r) (q_0_Out : RV w (Old No w) (sv v_0_Out) 3 1 (D.int .i64) a0.Out) (q_0_Items : RV w (Old No w) (sv v_0_Items) 25 1 (fun (l : List Int)=>D.row 3 1 (l.map (D.int .i64))) a0.Items) (q_0_Ended : RV w (Old No w) (sv v_0_Ended) 4 1 D.bool a0.Ended) (q_1_Out : RV w (Old No w) (sv v_1_Out) 3 1 (D.int .i64) a1.Out) (q_1_Items : RV w (Old No w) (sv v_1_Items) 25 1 (fun (l : List Int)=>D.row 3 1 (l.map (D.int .i64))) a1.Items) (q_1_Ended : RV w (Old No w) (sv v_1_Ended) 4 1 D.bool a1.Ended) : Calls Tryz.prog 7 #[.agg #[(sv v_0_Out),(sv v_0_Items),(sv v_0_Ended),.bool a0.Rest],.agg #[(sv v_1_Out),(sv v_1_Items),(sv v_1_Ended),.bool a1.Rest]] w (Ret No w (fun s : Unit=>.bool r) (fun s=>[])):=by
 unfold f2w at h
 refine enter Tryz.func7 z z ?_
 have hS:=Sep.start w
 refine .g (.c (.box hS z z ?_ z z))
 intro g1 W hS
 refine .c (.box hS z z ?_ z z)
 intro g2 W hS
 refine .qn z (.g (.s (fa T.f32_0 z z z) z (.s (ld T.t25 hS.p1 z z z z z) z (.s (fa T.f32_0 z z z) z (.s (ld T.t25 hS z z z z z) z ?_)))))
 have ⟨y1,hy1,h⟩:=bnd h
 refine .c (.call0 hS Tryz.func8 (f9j hy1 (hS.keep q_0_Out) (hS.keep q_1_Out)) z z ?_ z z z z)
 intro W hS
 refine .q z ?_
 have ⟨b1,hb1,h⟩:=bnd h
 refine .chunk 6 16 (b1) hS ?_ ?_
 ·refine .both (y1) (fun hb=>?_) (fun hb=>?_)
  ·have hg1:=hb
   have h:=sel_t hb hb1
   refine .g hg1 (.s (fa T.f32_1 z z z) z (.g hg1 (.s (ld T.t29 hS.p1 z z z z z) z (.g hg1 (.s (fa T.f32_1 z z z) z (.g hg1 (.s (ld T.t29 hS z z z z z) z ?_) z)) z)) z)) z
   have ⟨y2,hy2,h⟩:=bnd h
   refine .g hg1 (.c (.call0 hS Tryz.func15 (fcr hy2 (hS.keep q_0_Items) (hS.keep q_1_Items)) z z ?_ z z z z)) z
   intro W hS
   refine .s (pkt hg1 z z z) z ?_
   cases h
   exact .nil (ck 6 hS z z z z)
  refine .xx hb z (.xx hb z (.xx hb z (.xx hb z (.xx hb z ?_))))
  cases sel_f hb hb1
  exact .s (pkf hb z z z) z (.nil (ck 6 hS z z z z))
 intro W hS
 refine .q z ?_
 have ⟨b2,hb2,h⟩:=bnd h
 refine .chunk 6 23 (b2) hS ?_ ?_
 ·refine .both (b1) (fun hb=>?_) (fun hb=>?_)
  ·have hg2:=hb
   have h:=sel_t hb hb2
   refine .g hg2 (.s (fa T.f32_2 z z z) z (.g hg2 (.s (ld T.t30 hS.p1 z z z z z) z (.g hg2 (.s (fa T.f32_2 z z z) z (.g hg2 (.s (ld T.t30 hS z z z z z) z ?_) z)) z)) z)) z
   have ⟨y3,hy3,h⟩:=bnd h
   refine .g hg2 (.c (.call0 hS Tryz.func16 (fcj hy3 (hS.keep q_0_Ended) (hS.keep q_1_Ended)) z z ?_ z z z z)) z
   intro W hS
   refine .s (pkt hg2 z z z) z ?_
   cases h
   exact .nil (ck 6 hS z z z z)
  refine .xx hb z (.xx hb z (.xx hb z (.xx hb z (.xx hb z ?_))))
  cases sel_f hb hb2
  exact .s (pkf hb z z z) z (.nil (ck 6 hS z z z z))
 intro W hS
 refine .q z (.chunk 6 30 (b2 && (a0.Rest == a1.Rest)) hS ?_ ?_)
 ·refine .both (b2) (fun hb=>?_) (fun hb=>?_)
  ·have hg3:=hb
   exact .g hg3 (.s (fa T.f32_3 z z z) z (.g hg3 (.s (ld T.t4 hS.p1 z z z z z) z (.g hg3 (.s (fa T.f32_3 z z z) z (.g hg3 (.s (ld T.t4 hS z z z z z) z (.g hg3 (.s (eqb T.u4 z z z) z (.s (pkt hg3 z z z) z (.nil (ck 6 hS z (and_t hg3) z z)))) z)) z)) z)) z)) z
  exact .xx hb z (.xx hb z (.xx hb z (.xx hb z (.xx hb z (.s (pkf hb z z z) z (.nil (ck 6 hS z (and_f hb) z z)))))))
 intro W hS
 cases h
 exact .qn z (.ret (fin_ret (vs:=[_]) () (rt z rn) z (hS.to [] z)))
def fbj (w : World) (r : Bool) : Env → World → Prop:=Fin Tryz.prog Tryz.f3 No w (fun s : Unit=>.bool r) (fun s=>[]) .ret
theorem fbf {k : Nat} {a0 : List Int} {v_0 : Hd} {w : World} {r : Bool} (h : f4q k a0 = some r) (q_0 : RV w (Old No w) (sv v_0) 5 1 (D.int .u8) a0) : Calls Tryz.prog 3 #[(sv v_0)] w (Ret No w (fun s : Unit=>.bool r) (fun s=>[])):=by
 unfold f4q at h
 refine enter Tryz.func3 z z ?_
 have hS:=Sep.start w
 refine .g (.qn z (.seq (.g (.q z (.s (lenv (hS.keep q_0) T.u22 z z) z (.q z (.nil ?_)))))))
 refine .cs z h ?_ ?_ <;> intro h
 ·obtain rfl:=Option.some.inj h
  exact .g (.qn z (.ret (fin_ret (vs:=[_]) () (rt z rn) z (hS.to [] z))))
 refine .skip (.g (.q z ?_))
 have ⟨y1,hy1,h⟩:=bnd h
 refine .c (.call hS Tryz.func4 (fay hy1 (hS.keep q_0)) z z ?_ z z z z)
 rintro ⟨v1,v2,v3⟩ W hS
 refine .c (.alloc T.t27 hS ?_ z z z)
 intro g1 W hS
 refine .c (.st T.t27 hS z z z ?_ z z z z z)
 intro W hS
 refine .nil (.g (.s (ld T.t27 hS z z z z z) z ?_))
 have ⟨y2,hy2,h⟩:=bnd h
 refine .c (.call hS Tryz.func5 (fbq hy2 hS.p1.lendv hS.p2.lendv hS.p3.lendv) z z ?_ z z z z)
 rintro ⟨v4,v5,v6⟩ W hS
 refine .c (.alloc T.t32 hS ?_ z z z)
 intro g2 W hS
 refine .c (.st T.t32 hS z z z ?_ z z z z z)
 intro W hS
 refine .nil (.g (.s (ld T.t27 hS.p4 z z z z z) z ?_))
 have ⟨y3,hy3,h⟩:=bnd h
 refine .c (.call hS Tryz.func6 (fbr hy3 hS.p5.lendv hS.p6.lendv hS.p7.lendv) z z ?_ z z z z)
 rintro ⟨v7,v8,v9⟩ W hS
 refine .c (.alloc T.t32 hS ?_ z z z)
 intro g3 W hS
 refine .c (.st T.t32 hS z z z ?_ z z z z z)
 intro W hS
 refine .nil (.seq (.g (.s (ld T.t32 hS.p4 z z z z z) z (.s (ld T.t32 hS z z z z z) z ?_))))
 have ⟨y4,hy4,h⟩:=bnd h
 refine .c (.call0 hS Tryz.func7 (fab hy4 hS.p5.lendv hS.p6.lendv hS.p7.lendv hS.p1.lendv hS.p2.lendv hS.p3.lendv) z z ?_ z z z z)
 intro W hS
 refine .q z (.q z (.chunk 5 25 ((!y4) || ((y2.Ended.length : Int) == 0)) hS ?_ ?_))
 ·refine .both (!y4) (fun hb=>?_) (fun hb=>?_)
  ·exact .xx hb z (.xx hb z (.xx hb z (.xx hb z (.s (pkt hb z z z) z (.nil (ck 5 hS z (or_t hb) z z))))))
  have hg1:=hb
  exact .g hg1 (.s (fa T.f32_2 z z z) z (.g hg1 (.s (ld T.t30 hS.p4 z z z z z) z (.g hg1 (.s (lenv hS.p7.lendv T.u30 z z) z (.g hg1 (.q z (.s (pkf hg1 z z z) z (.nil (ck 5 hS z (or_f hg1) z z)))) z)) z)) z)) z
 intro W hS
 refine .nil ?_
 refine .cs z h ?_ ?_ <;> intro h
 ·refine .g (.s (ld T.t32 hS.p4 z z z z z) z (.s (ld T.t32 hS z z z z z) z ?_))
  have ⟨y5,hy5,h⟩:=bnd h
  refine .c (.call0 hS Tryz.func7 (fab hy5 hS.p5.lendv hS.p6.lendv hS.p7.lendv hS.p1.lendv hS.p2.lendv hS.p3.lendv) z z ?_ z z z z)
  intro W hS
  obtain rfl:=Option.some.inj h
  exact .qn z (.ret (fin_ret (vs:=[_]) () (rt z rn) z (hS.to [] z)))
 refine .skip (.seq (.g (.qn z (.block ?_))))
 have ⟨y6,hy6,h⟩:=bnd h
 refine .via (.iter (fun s1 E' W'=>SubL E' [(3,.pointer (some ⟨g1,0,none⟩)),(4,.pointer (some ⟨g2,0,none⟩)),(6,.int .i64 s1)] ∧ Sep No w W' [.box g3 32 [(sv v7),(sv v8),(sv v9),.bool y3.Rest],rowV (sv v7) 3 1 (D.int .i64) y3.Out,rowV (sv v8) 25 1 (fun (l : List Int)=>D.row 3 1 (l.map (D.int .i64))) y3.Items,rowV (sv v9) 4 1 D.bool y3.Ended,.box g2 32 [(sv v4),(sv v5),(sv v6),.bool y2.Rest],rowV (sv v4) 3 1 (D.int .i64) y2.Out,rowV (sv v5) 25 1 (fun (l : List Int)=>D.row 3 1 (l.map (D.int .i64))) y2.Items,rowV (sv v6) 4 1 D.bool y2.Ended,.box g1 27 [(sv v1),(sv v2),.int .i64 y1.Turn,.int .i64 y1.Idle,(sv v3)],rowV (sv v1) 36 3 dMachine y1.Harts,rowV (sv v2) 61 2 dBox y1.Boxes,rowV (sv v3) 3 1 (D.int .i64) y1.Out]) (fun y7 x E' W'=>(match y7 with | .inl o1=>x = .ret ∧ fbj w o1 E' W' | .inr o2=>x = .exit 0 ∧ SubL E' [(3,.pointer (some ⟨g1,0,none⟩)),(4,.pointer (some ⟨g2,0,none⟩))] ∧ Sep No w W' [.box g3 32 [(sv v7),(sv v8),(sv v9),.bool y3.Rest],rowV (sv v7) 3 1 (D.int .i64) y3.Out,rowV (sv v8) 25 1 (fun (l : List Int)=>D.row 3 1 (l.map (D.int .i64))) y3.Items,rowV (sv v9) 4 1 D.bool y3.Ended,.box g2 32 [(sv v4),(sv v5),(sv v6),.bool y2.Rest],rowV (sv v4) 3 1 (D.int .i64) y2.Out,rowV (sv v5) 25 1 (fun (l : List Int)=>D.row 3 1 (l.map (D.int .i64))) y2.Items,rowV (sv v6) 4 1 D.bool y2.Ended,.box g1 27 [(sv v1),(sv v2),.int .i64 y1.Turn,.int .i64 y1.Idle,(sv v3)],rowV (sv v1) 36 3 dMachine y1.Harts,rowV (sv v2) 61 2 dBox y1.Boxes,rowV (sv v3) 3 1 (D.int .i64) y1.Out])) hy6 ⟨sb rfl,hS.to [0,0,0,0,0,0,0,0,0,0,0,0] rfl⟩ ?_) ?_
 ·intro s1 y8 E W h hI
  obtain ⟨hE,hS⟩:=hI
  refine CW.sub hE ?_
  unfold f26 at h
  refine .seq (.g (.q z (.s (fa T.f27_0 z z z) z (.s (ld T.t23 hS.p8 z z z z z) z (.s (lenv hS.p9.lendv T.u23 z z) z (.q z (.nil ?_)))))))
  refine .cs z h ?_ ?_ <;> intro h
  ·refine .skip (.seq (.block (.seq ?_)))
   have ⟨x1,hx1,h⟩:=bnd h
   obtain ⟨k1,hS⟩:=Sep.outv hS.p9 hx1
   have hS:=hS.oagg
   obtain ⟨v10,k1,rfl,hS⟩:=hS.orowv
   obtain ⟨k1,rfl,hS⟩:=Sep.oflat z hS
   obtain ⟨v11,k1,rfl,hS⟩:=hS.orowv
   obtain ⟨rfl,hS⟩:=hS.onil
   have ⟨x4,hx4,h⟩:=bnd h
   have ⟨b2,hb2,h⟩:=bnd h
   refine .via (R':=fun x E' W'=>x = .normal ∧ SubL E' [(3,.pointer (some ⟨g1,0,none⟩)),(4,.pointer (some ⟨g2,0,none⟩)),(6,.int .i64 s1),(59,.bool (x4 != b2))] ∧ Sep No w W' [.box g3 32 [(sv v7),(sv v8),(sv v9),.bool y3.Rest],rowV (sv v7) 3 1 (D.int .i64) y3.Out,rowV (sv v8) 25 1 (fun (l : List Int)=>D.row 3 1 (l.map (D.int .i64))) y3.Items,rowV (sv v9) 4 1 D.bool y3.Ended,.box g2 32 [(sv v4),(sv v5),(sv v6),.bool y2.Rest],rowV (sv v4) 3 1 (D.int .i64) y2.Out,rowV (sv v5) 25 1 (fun (l : List Int)=>D.row 3 1 (l.map (D.int .i64))) y2.Items,rowV (sv v6) 4 1 D.bool y2.Ended,.box g1 27 [(sv v1),(sv v2),.int .i64 y1.Turn,.int .i64 y1.Idle,(sv v3)],rowV (sv v1) 36 3 dMachine y1.Harts,rowV (sv v2) 61 2 dBox y1.Boxes,rowV (sv v3) 3 1 (D.int .i64) y1.Out]) ?_ ?_
   ·refine .rk 24 hS [0,0,0,0,0,0,0,0,0,0,0,0,0,0] T.mix ?_
    intro W hS
    have hT:=hS.to [0,0,0,0,0,0,0,0,0,0,0,0,0,0] z
    refine .ts 0 z (fun W hT=>fa T.f32_2 z z z) hT z (by kernel_rfl) (.ts 1 z (fun W hT=>ld T.t30 hT.p7 z z z z z) hT z (by kernel_rfl) (.tp 2 z z hT (by kernel_rfl) (.ts 3 z (fun W hT=>ixv hS.p10.lendv hx4 T.u30 T.t4 z z z) hT z (by kernel_rfl) (.ts 4 z (fun W hT=>lde (RV.flat hT.p10.lendv hx4 z) T.t4 z z z z z) hT z (by kernel_rfl) (.ts 5 z (fun W hT=>fa T.f27_0 z z z) hT z (by kernel_rfl) (.ts 6 z (fun W hT=>ld T.t23 hT.p11 z z z z z) hT z (by kernel_rfl) (.tp 7 z z hT (by kernel_rfl) (.ts 8 z (fun W hT=>ixh hT.p2 hx1 T.u23 T.t36 z z z) hT z (by kernel_rfl) (.ts 9 z (fun W hT=>fe T.f36_1 z z z) hT z (by kernel_rfl) (.ts 10 z (fun W hT=>lde (hT.p2.hcellsv) T.t3 z z z z z) hT z (by kernel_rfl) (.tp 11 z z hT (by kernel_rfl) (.tp 12 z z hT (by kernel_rfl) (.both (x1.Pc == 0) (fun hb=>?_) (fun hb=>?_))))))))))))))
    ·have hg3:=hb
     have h_b2:=sel_t hb hb2
     refine .t1g 13 z hg3 (fun W hT=>fa T.f27_0 z z z) hT (.t1g 14 z hg3 (fun W hT=>ld T.t23 hT.p11 z z z z z) hT (.t1g 15 z hg3 (fun W hT=>pr z) hT (.t1g 16 z hg3 (fun W hT=>ixh hT.p2 hx1 T.u23 T.t36 z z z) hT (.t1g 17 z hg3 (fun W hT=>fe T.f36_0 z z z) hT (.t1g 18 z hg3 (fun W hT=>lde (hT.p2.hcellsv) T.t25 z z z z z) hT ?_ (by kernel_rfl) z z) (by kernel_rfl) z z) (by kernel_rfl) z z) (by kernel_rfl) z z) (by kernel_rfl) z z) (by kernel_rfl) z z
     have ⟨x5,hx5,h_b2⟩:=bnd h_b2
     refine .t1g 19 z hg3 (fun W hT=>ixv hS.p1.lendv hx5 T.u25 T.t3 z z z) hT (.t1g 20 z hg3 (fun W hT=>lde (RV.flat hT.p1.lendv hx5 z) T.t3 z z z z z) hT (.t1g 21 z hg3 (fun W hT=>pr z) hT (.ts 22 z (fun W hT=>pkt hg3 z z z) hT z (by kernel_rfl) (.eqv 58 z (bool_eq h_b2) (.ts 23 z (fun W hT=>neb T.u4 z z z) hT z (by kernel_rfl) (.done ?_ (by kernel_rfl))))) (by kernel_rfl) z z) (by kernel_rfl) z z) (by kernel_rfl) z z
     have hS:=Sep.gat (ds:=[dMachine x1]) (cs:=[(sv v10),.int .i64 x1.Pc,(sv v11)]) (L1:=[rowV (sv v10) 3 1 (D.int .i64) x1.Regs,rowV (sv v11) 3 1 (D.int .i64) x1.Mem]) (.agg (.row (.flat (c1:=[.int .i64 x1.Pc]) z (.row .nil)))) (hS.to [1,0,0,0,0,0,0,0,0,0,0,0,0,0] z)
     have hS : Sep _ _ _ [rowV (sv v1) 36 3 dMachine y1.Harts,.box g3 32 [(sv v7),(sv v8),(sv v9),.bool y3.Rest],rowV (sv v7) 3 1 (D.int .i64) y3.Out,rowV (sv v8) 25 1 (fun (l : List Int)=>D.row 3 1 (l.map (D.int .i64))) y3.Items,rowV (sv v9) 4 1 D.bool y3.Ended,.box g2 32 [(sv v4),(sv v5),(sv v6),.bool y2.Rest],rowV (sv v4) 3 1 (D.int .i64) y2.Out,rowV (sv v5) 25 1 (fun (l : List Int)=>D.row 3 1 (l.map (D.int .i64))) y2.Items,rowV (sv v6) 4 1 D.bool y2.Ended,.box g1 27 [(sv v1),(sv v2),.int .i64 y1.Turn,.int .i64 y1.Idle,(sv v3)],rowV (sv v2) 61 2 dBox y1.Boxes,rowV (sv v3) 3 1 (D.int .i64) y1.Out]:=Sep.back0v hx1 hS
     exact ⟨z,sb z,hS.to [1,1,1,1,1,1,1,1,1,0,0,0] z⟩
    refine .off 13 z hb hT (.off 14 z hb hT (.off 15 z hb hT (.off 16 z hb hT (.off 17 z hb hT (.off 18 z hb hT (.off 19 z hb hT (.off 20 z hb hT (.off 21 z hb hT (.ts 22 z (fun W hT=>pkf hb z z z) hT z (by kernel_rfl) (.eqv 58 z (bool_eq (sel_f hb hb2)) (.ts 23 z (fun W hT=>neb T.u4 z z z) hT z (by kernel_rfl) (.done ?_ (by kernel_rfl))))) (by kernel_rfl) z z) (by kernel_rfl) z z) (by kernel_rfl) z z) (by kernel_rfl) z z) (by kernel_rfl) z z) (by kernel_rfl) z z) (by kernel_rfl) z z) (by kernel_rfl) z z) (by kernel_rfl) z z
    have hS:=Sep.gat (ds:=[dMachine x1]) (cs:=[(sv v10),.int .i64 x1.Pc,(sv v11)]) (L1:=[rowV (sv v10) 3 1 (D.int .i64) x1.Regs,rowV (sv v11) 3 1 (D.int .i64) x1.Mem]) (.agg (.row (.flat (c1:=[.int .i64 x1.Pc]) z (.row .nil)))) (hS.to [1,0,0,0,0,0,0,0,0,0,0,0,0,0] z)
    have hS : Sep _ _ _ [rowV (sv v1) 36 3 dMachine y1.Harts,.box g3 32 [(sv v7),(sv v8),(sv v9),.bool y3.Rest],rowV (sv v7) 3 1 (D.int .i64) y3.Out,rowV (sv v8) 25 1 (fun (l : List Int)=>D.row 3 1 (l.map (D.int .i64))) y3.Items,rowV (sv v9) 4 1 D.bool y3.Ended,.box g2 32 [(sv v4),(sv v5),(sv v6),.bool y2.Rest],rowV (sv v4) 3 1 (D.int .i64) y2.Out,rowV (sv v5) 25 1 (fun (l : List Int)=>D.row 3 1 (l.map (D.int .i64))) y2.Items,rowV (sv v6) 4 1 D.bool y2.Ended,.box g1 27 [(sv v1),(sv v2),.int .i64 y1.Turn,.int .i64 y1.Idle,(sv v3)],rowV (sv v2) 61 2 dBox y1.Boxes,rowV (sv v3) 3 1 (D.int .i64) y1.Out]:=Sep.back0v hx1 hS
    exact ⟨z,sb z,hS.to [1,1,1,1,1,1,1,1,1,0,0,0] z⟩
   intro x E W hJ
   obtain ⟨rfl,hE,hS⟩:=hJ
   refine ⟨_,hE.sub,?_⟩
   refine .cs z h ?_ ?_ <;> intro h
   ·refine .g (.qn z (.ret ?_))
    cases h
    exact ⟨by simp,z,fin_ret (vs:=[_]) () (rt z rn) z (hS.to [] z)⟩
   refine .skip (.region (.q z (.q z (.q z (.nil ?_)))))
   cases h
   exact ⟨z,sb z,hS.to [0,0,0,0,0,0,0,0,0,0,0,0] z⟩
  refine .exit ?_
  cases h
  exact ⟨by simp,z,sb z,hS.to [0,0,0,0,0,0,0,0,0,0,0,0] z⟩
 intro x E W hJ
 rcases y6 with o3 | o4
 ·obtain ⟨rfl,hF⟩:=hJ
  refine ⟨_,fun _ _ h=>h,?_⟩
  cases h
  exact hF
 obtain ⟨rfl,hE,hS⟩:=hJ
 refine ⟨_,hE.sub,?_⟩
 refine .g (.s (fa T.f32_0 z z z) z (.s (ld T.t25 hS.p4 z z z z z) z (.s (fa T.f27_4 z z z) z (.s (ld T.t25 hS.p8 z z z z z) z ?_))))
 have ⟨y9,hy9,h⟩:=bnd h
 refine .c (.call0 hS Tryz.func8 (f9j hy9 hS.p5.lendv hS.p11.lendv) z z ?_ z z z z)
 intro W hS
 refine .q z (.chunk 8 73 (y9 && ((y2.Items.length : Int) == (y1.Boxes.length : Int))) hS ?_ ?_)
 ·refine .both (y9) (fun hb=>?_) (fun hb=>?_)
  ·have hg4:=hb
   exact .g hg4 (.s (fa T.f32_1 z z z) z (.g hg4 (.s (ld T.t29 hS.p4 z z z z z) z (.g hg4 (.s (lenv hS.p6.lendv T.u29 z z) z (.g hg4 (.s (fa T.f27_1 z z z) z (.g hg4 (.s (ld T.t24 hS.p8 z z z z z) z (.g hg4 (.s (lenv hS.p10.lendv T.u24 z z) z (.g hg4 (.q z (.s (pkt hg4 z z z) z (.nil (ck 8 hS z (and_t hg4) z z)))) z)) z)) z)) z)) z)) z)) z
  exact .xx hb z (.xx hb z (.xx hb z (.xx hb z (.xx hb z (.xx hb z (.xx hb z (.s (pkf hb z z z) z (.nil (ck 8 hS z (and_f hb) z z)))))))))
 intro W hS
 refine .q z (.chunk 10 84 ((y9 && ((y2.Items.length : Int) == (y1.Boxes.length : Int))) && (y2.Rest == (y1.Idle == (y1.Harts.length : Int)))) hS ?_ ?_)
 ·refine .both (y9 && ((y2.Items.length : Int) == (y1.Boxes.length : Int))) (fun hb=>?_) (fun hb=>?_)
  ·have hg5:=hb
   exact .g hg5 (.s (fa T.f32_3 z z z) z (.g hg5 (.s (ld T.t4 hS.p4 z z z z z) z (.g hg5 (.s (fa T.f27_3 z z z) z (.g hg5 (.s (ld T.t3 hS.p8 z z z z z) z (.g hg5 (.s (fa T.f27_0 z z z) z (.g hg5 (.s (ld T.t23 hS.p8 z z z z z) z (.g hg5 (.s (lenv hS.p9.lendv T.u23 z z) z (.g hg5 (.q z (.g hg5 (.s (eqb T.u4 z z z) z (.s (pkt hg5 z z z) z (.nil (ck 10 hS z (and_t hg5) z z)))) z)) z)) z)) z)) z)) z)) z)) z)) z
  exact .xx hb z (.xx hb z (.xx hb z (.xx hb z (.xx hb z (.xx hb z (.xx hb z (.xx hb z (.xx hb z (.s (pkf hb z z z) z (.nil (ck 10 hS z (and_f hb) z z)))))))))))
 intro W hS
 cases h
 exact .qn z (.ret (fin_ret (vs:=[_]) () (rt z rn) z (hS.to [] z)))
end Go.Proofs.YtcljimkjmklkmaaGreat.N
namespace Go.Proofs.YtcljimkjmklkmaaGreat.X
variable {P : Program} {w : World} {T : Nat → Prop} {t e : TypeId} {size : Nat} {k : IntKind} {α : Type} {enc : α → D} {H : Type} {en : TypeId × Value → H} {base : Nat} {spare : Nat → Bool} {held : Bool}
def styp (P : Program) (t : TypeId) : Option (List TypeId):=match P.underlying t with
 | some (.struct fs)=>some (fs.toList.map (·.type))
 | _=>none
mutual
def Typ (P : Program) : D → TypeId → Prop
 | .int k n,t=>P.underlying t = some (.int k) ∧ (Lit.int k n).wf = true
 | .bool _,t=>P.underlying t = some .bool
 | .str s,t=>P.underlying t = some .string ∧ s.size ≤ maxLen
 | .row e size xs,t=>P.underlying t = some (.slice e) ∧ size = P.cellsOf e ∧ Typs P xs e
 | .agg xs,t=>∃ ts,styp P t = some ts ∧ TypF P xs ts
def Typs (P : Program) : List D → TypeId → Prop
 | [],_=>True
 | x :: xs,e=>Typ P x e ∧ Typs P xs e
def TypF (P : Program) : List D → List TypeId → Prop
 | [],[]=>True
 | x :: xs,t :: ts=>Typ P x t ∧ TypF P xs ts
 | _,_=>False
end
def contig (P : Program) : List Field → Nat → Option Nat
 | [],k=>some k
 | f :: r,k=>match Nat.beq f.offset k with
  | true=>contig P r (k + P.cellsOf f.type)
  | false=>none
def okT (P : Program) (ts : List TypeId) (t : TypeId) : Bool:=match P.underlying t with
 | some (.int _) | some .bool | some .string=>Nat.beq (P.cellsOf t) 1
 | some (.slice e)=>Nat.beq (P.cellsOf t) 1 && ts.contains e && !(Nat.beq (P.cellsOf e) 0)
 | some (.struct fs)=>(match contig P fs.toList 0 with
  | some n=>Nat.beq n (P.cellsOf t)
  | none=>false) && fs.toList.all (fun f=>ts.contains f.type)
 | _=>false
theorem D.rd_length : ∀ {d : D} {cs : List Value},D.rd w d T cs → cs.length = d.sz
 | .int _ _,_,h=>by simp only [D.rd] at h; subst h; rfl
 | .bool _,_,h=>by simp only [D.rd] at h; subst h; rfl
 | .str _,_,h=>by simp only [D.rd] at h; subst h; rfl
 | .row _ _ _,_,⟨A,cap,c,h1,_⟩=>by subst h1; rfl
 | .agg xs,_,h=>by simp only [D.sz]; exact rds_length (xs:=xs) h
theorem Typs.append : ∀ {xs ys : List D},Typs P xs e → Typs P ys e → Typs P (xs ++ ys) e
 | [],_,_,h=>h
 | x :: xs,_,⟨h1,h2⟩,h=>⟨h1,Typs.append h2 h⟩
theorem old_of_cell {a : Addr} {v : Value} (h : w.cell? a = some v) : Old No w a.block:=⟨World.block_lt_of_cell? w a h,id⟩
theorem trod_typ {ts : List TypeId} (hts : ts.all (okT P ts) = true) : ∀ {fuel : Nat} {t : TypeId} {cs : List Value} {x : DataW H × List MemPlace},t ∈ ts → DataW.trod en P w base spare held fuel t cs = some x → ∃ d,Typ P d t ∧ D.rd w d (Old No w) cs ∧ d.sz = P.cellsOf t:=by
 intro fuel
 induction fuel with
 | zero=>intro t cs x _ h; simp [DataW.trod] at h
 | succ fuel ih =>
  intro t cs x ht h
  have hok:=List.all_eq_true.1 hts t ht
  unfold okT at hok
  split at hok
  ·rename_i k hu
   obtain ⟨n,rfl,_,hw⟩:=DataW.trod_int hu h
   exact ⟨.int k n,⟨hu,hw⟩,rfl,(Nat.eq_of_beq_eq_true hok).symm⟩
  ·rename_i hu
   obtain ⟨b,rfl,_⟩:=DataW.trod_bool hu h
   exact ⟨.bool b,hu,rfl,(Nat.eq_of_beq_eq_true hok).symm⟩
  ·rename_i hu
   obtain ⟨s,rfl,_,hs⟩:=DataW.trod_string hu h
   exact ⟨.str s,⟨hu,hs⟩,rfl,(Nat.eq_of_beq_eq_true hok).symm⟩
  ·rename_i e hu
   simp only [Bool.and_eq_true,Bool.not_eq_true'] at hok
   obtain ⟨⟨h1,h2⟩,h3⟩:=hok
   have he : e ∈ ts:=by simpa using h2
   have h0 : P.cellsOf e ≠ 0:=by intro h0; rw [h0] at h3; cases h3
   have hc1:=(Nat.eq_of_beq_eq_true h1).symm
   rcases DataW.trod_slice hu h with ⟨rfl,_⟩ | ⟨a,len,cap,elems,rest,n,hn,rfl,_,hb,hl,hm,hlen,hel,_,_⟩
   ·exact ⟨.row e (P.cellsOf e) [],⟨hu,rfl,trivial⟩,⟨none,0,[],rfl,Nat.le_refl _,Nat.zero_le _,by simp,fun h=>absurd rfl h,rfl⟩,hc1⟩
   ·obtain rfl : fuel = n:=by omega
    have key : ∀ m,m ≤ len → ∃ ds c,ds.length = m ∧ Typs P ds e ∧ (∀ x ∈ ds,x.sz = P.cellsOf e) ∧ D.rds w ds (Old No w) c ∧ c.length = m * P.cellsOf e ∧ ∀ j u,c[j]? = some u → w.cell? (a.add j) = some u:=by
     intro m
     induction m with
     | zero=>intro _; exact ⟨[],[],rfl,trivial,by simp,rfl,by simp,by simp⟩
     | succ m ihm =>
      intro hle
      obtain ⟨ds,c,k1,k2,k3,k4,k5,k6⟩:=ihm (by omega)
      have hi:=hel m (by omega)
      have hs : ∃ y,elems[m]? = some y:=⟨_,List.getElem?_eq_getElem (by omega)⟩
      obtain ⟨y,hy⟩:=hs
      rw [hy,Option.bind_eq_some_iff] at hi
      obtain ⟨ci,hci,hyi⟩:=hi
      obtain ⟨d,g1,g2,g3⟩:=ih he hyi
      obtain ⟨_,q2,q3⟩:=World.cells?_some hci
      refine ⟨ds ++ [d],c ++ ci,by simp [k1],k2.append ⟨g1,trivial⟩,fun x hx=>?_,rds_app k4 ⟨ci,[],by simp,D.rd_length g2,g2,rfl⟩,by rw [List.length_append,k5,q2,Nat.add_mul]; omega,fun j u hj=>?_⟩
      ·rcases List.mem_append.1 hx with hx | hx
       ·exact k3 x hx
       ·rw [List.mem_singleton.1 hx]; exact g3
      ·rcases Nat.lt_or_ge j c.length with hj' | hj'
       ·rw [List.getElem?_append_left hj'] at hj; exact k6 j u hj
       ·rw [List.getElem?_append_right hj'] at hj
        have hlt : j - c.length < P.cellsOf e:=by
         rcases Nat.lt_or_ge (j - c.length) ci.length with h | h
         ·omega
         ·rw [List.getElem?_eq_none h] at hj; cases hj
        have:=q3 _ hlt
        rw [hj,Addr.add_add,← k5] at this
        rw [show c.length + (j - c.length) = j by omega] at this
        exact this
    obtain ⟨ds,c,k1,k2,k3,k4,k5,k6⟩:=key len (Nat.le_refl _)
    refine ⟨.row e (P.cellsOf e) ds,⟨hu,rfl,k2⟩,⟨some a,cap,c,by rw [k1],by omega,by omega,k3,fun hne=>⟨a,rfl,?_,k6⟩,k4⟩,hc1⟩
    have hpos : 0 < c.length:=by
     rw [k5,← k1]
     exact Nat.mul_pos (List.length_pos_iff.2 hne) (by omega)
    have h6:=k6 0 _ (List.getElem?_eq_getElem hpos)
    simp only [Addr.add,if_true] at h6
    exact old_of_cell h6
  ·rename_i fs hu
   simp only [Bool.and_eq_true] at hok
   obtain ⟨h1,h2⟩:=hok
   split at h1
   ·rename_i tot hcg
    obtain rfl:=Nat.eq_of_beq_eq_true h1
    obtain ⟨xs,n,hn,_,hlen,hxl,hf⟩:=DataW.trod_struct hu h
    obtain rfl : fuel = n:=by omega
    have key : ∀ (gs : List Field) (o : Nat),(∀ f ∈ gs,f.type ∈ ts ∧ ∃ y,DataW.trod en P w base spare held fuel f.type ((cs.drop f.offset).take (P.cellsOf f.type)) = some y) → contig P gs o = some (P.cellsOf t) →
      ∃ ds,TypF P ds (gs.map (·.type)) ∧ D.rds w ds (Old No w) (cs.drop o) ∧ o + D.szs ds = P.cellsOf t:=by
     intro gs
     induction gs with
     | nil =>
      intro o _ hc
      simp only [contig,Option.some.injEq] at hc
      subst hc
      exact ⟨[],trivial,by rw [← hlen,List.drop_length]; rfl,rfl⟩
     | cons f gs ihg =>
      intro o hall hc
      simp only [contig] at hc
      split at hc
      ·rename_i ho
       have ho':=Nat.eq_of_beq_eq_true ho
       obtain ⟨hft,y,hy⟩:=hall f (by simp)
       obtain ⟨d,g1,g2,g3⟩:=ih hft hy
       obtain ⟨ds,q1,q2,q3⟩:=ihg _ (fun g hg=>hall g (by simp [hg])) hc
       rw [ho'] at g2
       refine ⟨d :: ds,⟨g1,q1⟩,⟨_,_,?_,D.rd_length g2,g2,q2⟩,?_⟩
       ·rw [← List.drop_drop,List.take_append_drop]
       ·simp only [D.szs,g3]; omega
      ·cases hc
    obtain ⟨ds,q1,q2,q3⟩:=key fs.toList 0 (fun f hf'=>⟨by have:=List.all_eq_true.1 h2 f hf'; simpa using this,by
      obtain ⟨i,hi⟩:=List.getElem?_of_mem hf'
      have hi' : fs[i]? = some f:=by simpa using hi
      have hlt : i < xs.length:=by
       have:=(List.getElem?_eq_some_iff.1 hi).1
       rw [hxl]
       simpa using this
      exact ⟨_,(hf i f hi').trans (List.getElem?_eq_getElem hlt)⟩⟩) hcg
    exact ⟨.agg ds,⟨_,by simp only [styp,hu],q1⟩,q2,by simp only [D.sz]; omega⟩
   ·cases h1
  ·cases hok
def Dec (P : Program) (t : TypeId) (enc : α → D) (Wf : α → Prop) : Prop:=∀ d,Typ P d t → ∃ x,d = enc x ∧ Wf x
theorem Dec.int (hu : P.underlying t = some (.int k)) : Dec P t (D.int k) (fun n=>(Lit.int k n).wf = true):=by
 intro d h
 cases d with
 | int k' n =>
  obtain ⟨h1,h2⟩:=h
  rw [hu] at h1
  injection h1 with h1
  injection h1 with h1
  subst h1
  exact ⟨n,rfl,h2⟩
 | bool b=>rw [show P.underlying t = some .bool from h] at hu; cases hu
 | str s=>rw [show P.underlying t = some .string from h.1] at hu; cases hu
 | row e s xs=>rw [h.1] at hu; cases hu
 | agg xs=>obtain ⟨ts,h1,_⟩:=h; simp [styp,hu] at h1
theorem Dec.bool (hu : P.underlying t = some .bool) : Dec P t D.bool (fun _=>True):=by
 intro d h
 cases d with
 | bool b=>exact ⟨b,rfl,trivial⟩
 | int k' n=>rw [h.1] at hu; cases hu
 | str s=>rw [show P.underlying t = some .string from h.1] at hu; cases hu
 | row e s xs=>rw [h.1] at hu; cases hu
 | agg xs=>obtain ⟨ts,h1,_⟩:=h; simp [styp,hu] at h1
theorem Dec.str (hu : P.underlying t = some .string) : Dec P t D.str (fun s=>s.size ≤ maxLen):=by
 intro d h
 cases d with
 | str s=>exact ⟨s,rfl,h.2⟩
 | bool b=>rw [show P.underlying t = some .bool from h] at hu; cases hu
 | int k' n=>rw [h.1] at hu; cases hu
 | row e s xs=>rw [h.1] at hu; cases hu
 | agg xs=>obtain ⟨ts,h1,_⟩:=h; simp [styp,hu] at h1
theorem Dec.list {Wf : α → Prop} (h : Dec P e enc Wf) : ∀ {xs : List D},Typs P xs e → ∃ l : List α,xs = l.map enc ∧ ∀ x ∈ l,Wf x
 | [],_=>⟨[],rfl,by simp⟩
 | d :: xs,⟨h1,h2⟩=>by
  obtain ⟨x,rfl,hx⟩:=h d h1
  obtain ⟨l,rfl,hl⟩:=Dec.list h h2
  exact ⟨x :: l,rfl,fun y hy=>(List.mem_cons.1 hy).elim (fun e=>e ▸ hx) (hl y)⟩
theorem Dec.slice {Wf : α → Prop} (hu : P.underlying t = some (.slice e)) (hc : P.cellsOf e = size) (h : Dec P e enc Wf) : Dec P t (fun (l : List α)=>D.row e size (l.map enc)) (fun l=>∀ x ∈ l,Wf x):=by
 intro d hd
 cases d with
 | row e' s xs =>
  obtain ⟨h1,h2,h3⟩:=hd
  rw [hu] at h1
  injection h1 with h1
  injection h1 with h1
  subst h1
  obtain ⟨l,rfl,hl⟩:=h.list h3
  exact ⟨l,by rw [h2,hc],hl⟩
 | bool b=>rw [show P.underlying t = some .bool from hd] at hu; cases hu
 | int k' n=>rw [hd.1] at hu; cases hu
 | str s=>rw [show P.underlying t = some .string from hd.1] at hu; cases hu
 | agg xs=>obtain ⟨ts,h1,_⟩:=hd; simp [styp,hu] at h1
end Go.Proofs.YtcljimkjmklkmaaGreat.X
