/- Printed by a program of mine: that the program's functions compute it. -/
import Derived.Test.YtmpplggjpmmhlaaGreatDoorK4
set_option linter.unusedVariables false
set_option linter.unusedSimpArgs false
set_option maxRecDepth 100000
set_option maxHeartbeats 4000000
namespace Go.Proofs.YtmpplggjpmmhlaaGreatDoor.N
open Go.Proofs.YtmpplggjpmmhlaaGreatDoor.X
theorem fe4 {k : Nat} {f0d : L6Rd → Int → Int → Int → Bool → Option ((List Stmt) × Int)} {f0j : L6Rd → Int → Int → Bool → Option ((List Stmt) × Int)} {f0w : L6Rd → Int → Int → Bool → Option (Stmt × Int)} {f0o : L6Rd → Int → Int → Option ((List Stmt) × Int)} (f30 : f2e f0d) (f6p : f3v f0j) (f8d : f5l f0w) (f6u : f3z f0o) : f3z (f5a k f0d f0j f0w f0o):=by
 intro a0 a1 a2 v_0_b g_0 S w r h q_0_b hO hlt
 unfold f5a at h
 refine enter Tryz.func177 z z ?_
 have hS:=Sep.startM hO hlt
 refine .g (.qn z (.g (.qn z (.g (.q z (.q z (.q z (.q z (.q z ?_)))))))))
 have ⟨y1,hy1,h⟩:=bnd h
 refine .c (.callS2 (L0:=[.box g_0 100 [(sv v_0_b),.int .i64 a0.p]]) hS Tryz.func36 (fun S h1 h2 h3=>(f00 hy1 (hS.keepS q_0_b h1) h2 (zz h1))) z z ?_ z z z z)
 rintro ⟨⟩ W hS
 have ⟨y2,hy2,h⟩:=bnd h
 refine .c (.callS2 (L0:=[.box g_0 100 [(sv v_0_b),.int .i64 y1.2]]) hS Tryz.func149 (fun S h1 h2 h3=>(f30 hy2 (hS.keepS q_0_b h1) h2 (zz h1))) z z ?_ z z z z)
 rintro v1 W hS
 refine .qn z (.g (.q z (.q z ?_)))
 have ⟨y3,hy3,h⟩:=bnd h
 refine .c (.call1v hS Tryz.func197 (f04 hy3) z z ?_ z z z z)
 intro v2 W hS
 have ⟨y4,hy4,h⟩:=bnd h
 refine .c (.call1v hS Tryz.func197 (f04 hy4) z z ?_ z z z z)
 intro v3 W hS
 have ⟨y5,hy5,h⟩:=bnd h
 have hS:=hS.p1
 refine .c (.callS2 (L0:=[rowV (sv v2) 158 3 dExpr y3.Args,rowV (sv v3) 158 3 dExpr y4.Args]) hS Tryz.func196 (fun S h1 h2 h3=>(f03 hy5 h2 (zz h1))) z z ?_ z z z z)
 rintro v4 W hS
 refine .s (bs T.s160 z z) z (.c (.alloc T.t160 hS ?_ z z z))
 intro g1 W hS
 refine .c (.st T.t160 hS z z z ?_ z z z z z)
 intro W hS
 refine .nil (.seq ?_)
 have ⟨y6,hy6,h⟩:=bnd h
 have ⟨y7,hy7,h⟩:=bnd h
 have ⟨y8,hy8,h⟩:=bnd h
 have ⟨y9,hy9,h⟩:=bnd h
 have ⟨r1,hr1,h⟩:=bnd h
 refine .via (R':=fun x E' W'=>x = .normal ∧ ∃ (g2 : Nat) (v5 : Hd) (v6 : Hd) (v7 : Hd),SubL E' [(7,.int .i64 3),(10,.pointer (some ⟨g2,0,none⟩))] ∧ Sep S w W' [.box g_0 100 [(sv v_0_b),.int .i64 y7.2],.box g2 160 [.int .i64 3,.int .i64 0,.int .i64 0,.int .i64 y9.Op,.int .i64 y9.N,(sv v5),(sv v6),(sv v7)],rowV (sv v5) 158 3 dExpr y9.Args,rowV (sv v6) 160 8 dStmt r1,rowV (sv v7) 160 8 dStmt []]) ?_ ?_
 ·refine .rk 13 hS [0] T.mix ?_
  intro W hS
  have hT:=hS.to [0] z
  refine .tp 0 z z hT (by kernel_rfl) (.tp 2 z z hT (by kernel_rfl) (.tp 7 z z hT (by kernel_rfl) (.ts 8 z (fun W hT=>ld T.t160 hT z z z z z) hT z (by kernel_rfl) (.by [1,9,12] ⟨⟨_,z,?_⟩,⟨_,z,?_⟩,⟨_,z,?_⟩,trivial⟩ (by kernel_rfl) z))))
  ·refine (.call1v hS Tryz.func197 (f04 hy6) z z ?_ z z z z)
   intro v8 W hS
   have hT:=hS.to [1] z
   refine ⟨fun _=>hT,.by [3,9,12] ⟨⟨_,z,?_⟩,⟨_,z,?_⟩,⟨_,z,?_⟩,trivial⟩ (by kernel_rfl) z⟩
   ·have hS:=hS.p3
    refine (.callS2 (L0:=[.box g_0 100 [(sv v_0_b),.int .i64 y2.2]]) hS Tryz.func36 (fun S h1 h2 h3=>(f00 hy7 (hS.keepS q_0_b h1) h2 (zz h1))) z z ?_ z z z z)
    rintro ⟨⟩ W hS
    have hT:=hS.to [2] z
    refine ⟨fun _=>hT,.tp 4 z z hT (by kernel_rfl) (.by [5,9,12] ⟨⟨_,z,?_⟩,⟨_,z,?_⟩,⟨_,z,?_⟩,trivial⟩ (by kernel_rfl) z)⟩
    ·refine (.call1v hS Tryz.func197 (f04 hy8) z z ?_ z z z z)
     intro v9 W hS
     have hT:=hS.to [3] z
     refine ⟨fun _=>hT,.by [6,9,12] ⟨⟨_,z,?_⟩,⟨_,z,?_⟩,⟨_,z,?_⟩,trivial⟩ (by kernel_rfl) z⟩
     ·have hS:=hS.p2
      refine (.callS2 (L0:=[rowV (sv v8) 158 3 dExpr y6.Args,rowV (sv v9) 158 3 dExpr y8.Args]) hS Tryz.func196 (fun S h1 h2 h3=>(f03 hy9 h2 (zz h1))) z z ?_ z z z z)
      rintro v10 W hS
      have hT:=hS.to [2] z
      refine ⟨fun _=>hT,.by [9,12] ⟨⟨_,z,?_⟩,⟨_,z,?_⟩,trivial⟩ (by kernel_rfl) z⟩
      ·have hS:=hS.nilv 160 8 dStmt
       have hS:=hS.nilv 160 8 dStmt
       refine (.ligv (L1:=[rowV (sv v4) 158 3 dExpr y5.Args,rowV (sv nilH) 160 8 dStmt [],rowV (sv nilH) 160 8 dStmt []]) [(Stmt.mk 1 3 0 (Expr.mk y5.Op y5.N y5.Args) [] [])] dStmt T.u134 T.t160 (hS.to [5,1,0,0,0,0,0] z) z z z (.aggE (eStmt _) (.flat (c1:=[.int .i64 1]) z (.flat (c1:=[.int .i64 3]) z (.flat (c1:=[.int .i64 0]) z (.aggE (eExpr _) (.flat (c1:=[.int .i64 y5.Op]) z (.flat (c1:=[.int .i64 y5.N]) z (.row (.row (.row .nil)))))))))) ?_ z zStmt z z z z z)
       intro v11 W hS
       have hT:=hS.to [3] z
       refine ⟨fun _=>hT,.by [10,12] ⟨⟨_,z,?_⟩,⟨_,z,?_⟩,trivial⟩ (by kernel_rfl) z⟩
       ·refine (.appv hr1 (hS.to [4,0,0,0,0] z) T.u134 T.t160 z z z ?_ z z z z z)
        intro v12 W hS
        have hT:=hS.to [3] z
        refine ⟨fun _=>hT,.ts 11 z (fun W hT=>bs T.s160 z z) hT z (by kernel_rfl) (.by1 12 z (.alloc T.t160 hS ?_ z z z) (by kernel_rfl))⟩
        intro g3 W hS
        have hT:=hS.to [4] z
        refine ⟨fun _=>hT,.by1 13 z (.st T.t160 hS z z z ?_ z z z z z) (by kernel_rfl)⟩
        intro W hS
        refine ⟨fun h=>absurd z h,?_⟩
        refine .done ?_ (by kernel_rfl)
        have hS:=hS.nilv 160 8 dStmt
        exact ⟨z,g3,v10,v12,nilH,sb z,hS.to [4,1,2,1,0] z⟩
       refine (.alloc T.t160 hS ?_ z z z)
       intro g4 W hS
       have hT:=hS.to [4] z
       refine ⟨fun _=>hT,.by1 10 z (.appv hr1 (hS.to [5,1,0,0,0,0] z) T.u134 T.t160 z z z ?_ z z z z z) (by kernel_rfl)⟩
       intro v13 W hS
       have hT:=hS.to [4] z
       refine ⟨fun _=>hT,.ts 11 z (fun W hT=>bs T.s160 z z) hT z (by kernel_rfl) (.by1 13 z (.st T.t160 hS.p1 z z z ?_ z z z z z) (by kernel_rfl))⟩
       intro W hS
       refine ⟨fun h=>absurd z h,?_⟩
       refine .done ?_ (by kernel_rfl)
       have hS:=hS.nilv 160 8 dStmt
       exact ⟨z,g4,v10,v13,nilH,sb z,hS.to [4,1,2,1,0] z⟩
      refine (.alloc T.t160 hS ?_ z z z)
      intro g5 W hS
      have hT:=hS.to [3] z
      refine ⟨fun _=>hT,?_⟩
      have hS:=hS.nilv 160 8 dStmt
      have hS:=hS.nilv 160 8 dStmt
      refine .by1 9 z (.ligv (L1:=[rowV (sv v4) 158 3 dExpr y5.Args,rowV (sv nilH) 160 8 dStmt [],rowV (sv nilH) 160 8 dStmt []]) [(Stmt.mk 1 3 0 (Expr.mk y5.Op y5.N y5.Args) [] [])] dStmt T.u134 T.t160 (hS.to [6,1,0,0,0,0,0,0] z) z z z (.aggE (eStmt _) (.flat (c1:=[.int .i64 1]) z (.flat (c1:=[.int .i64 3]) z (.flat (c1:=[.int .i64 0]) z (.aggE (eExpr _) (.flat (c1:=[.int .i64 y5.Op]) z (.flat (c1:=[.int .i64 y5.N]) z (.row (.row (.row .nil)))))))))) ?_ z zStmt z z z z z) (by kernel_rfl)
      intro v14 W hS
      have hT:=hS.to [4] z
      refine ⟨fun _=>hT,.by1 10 z (.appv hr1 (hS.to [5,0,0,0,0,0] z) T.u134 T.t160 z z z ?_ z z z z z) (by kernel_rfl)⟩
      intro v15 W hS
      have hT:=hS.to [4] z
      refine ⟨fun _=>hT,.ts 11 z (fun W hT=>bs T.s160 z z) hT z (by kernel_rfl) (.by1 13 z (.st T.t160 hS.p1 z z z ?_ z z z z z) (by kernel_rfl))⟩
      intro W hS
      refine ⟨fun h=>absurd z h,?_⟩
      refine .done ?_ (by kernel_rfl)
      have hS:=hS.nilv 160 8 dStmt
      exact ⟨z,g5,v10,v15,nilH,sb z,hS.to [4,1,2,1,0] z⟩
     ·have hS:=hS.nilv 160 8 dStmt
      have hS:=hS.nilv 160 8 dStmt
      refine (.ligv (L1:=[rowV (sv v4) 158 3 dExpr y5.Args,rowV (sv nilH) 160 8 dStmt [],rowV (sv nilH) 160 8 dStmt []]) [(Stmt.mk 1 3 0 (Expr.mk y5.Op y5.N y5.Args) [] [])] dStmt T.u134 T.t160 (hS.to [6,1,0,0,0,0,0,0] z) z z z (.aggE (eStmt _) (.flat (c1:=[.int .i64 1]) z (.flat (c1:=[.int .i64 3]) z (.flat (c1:=[.int .i64 0]) z (.aggE (eExpr _) (.flat (c1:=[.int .i64 y5.Op]) z (.flat (c1:=[.int .i64 y5.N]) z (.row (.row (.row .nil)))))))))) ?_ z zStmt z z z z z)
      intro v16 W hS
      have hT:=hS.to [4] z
      refine ⟨fun _=>hT,.by [6,12] ⟨⟨_,z,?_⟩,⟨_,z,?_⟩,trivial⟩ (by kernel_rfl) z⟩
      ·have hS:=hS.p1
       have hS:=hS.p3
       refine (.callS2 (L0:=[rowV (sv v8) 158 3 dExpr y6.Args,rowV (sv v9) 158 3 dExpr y8.Args]) hS Tryz.func196 (fun S h1 h2 h3=>(f03 hy9 h2 (zz h1))) z z ?_ z z z z)
       rintro v17 W hS
       have hT:=hS.to [3] z
       refine ⟨fun _=>hT,.by [10,12] ⟨⟨_,z,?_⟩,⟨_,z,?_⟩,trivial⟩ (by kernel_rfl) z⟩
       ·refine (.appv hr1 (hS.to [4,1,0,0,0] z) T.u134 T.t160 z z z ?_ z z z z z)
        intro v18 W hS
        have hT:=hS.to [3] z
        refine ⟨fun _=>hT,.ts 11 z (fun W hT=>bs T.s160 z z) hT z (by kernel_rfl) (.by1 12 z (.alloc T.t160 hS ?_ z z z) (by kernel_rfl))⟩
        intro g6 W hS
        have hT:=hS.to [4] z
        refine ⟨fun _=>hT,.by1 13 z (.st T.t160 hS z z z ?_ z z z z z) (by kernel_rfl)⟩
        intro W hS
        refine ⟨fun h=>absurd z h,?_⟩
        refine .done ?_ (by kernel_rfl)
        have hS:=hS.nilv 160 8 dStmt
        exact ⟨z,g6,v17,v18,nilH,sb z,hS.to [4,1,2,1,0] z⟩
       refine (.alloc T.t160 hS ?_ z z z)
       intro g7 W hS
       have hT:=hS.to [4] z
       refine ⟨fun _=>hT,.by1 10 z (.appv hr1 (hS.to [5,2,0,0,0,0] z) T.u134 T.t160 z z z ?_ z z z z z) (by kernel_rfl)⟩
       intro v19 W hS
       have hT:=hS.to [4] z
       refine ⟨fun _=>hT,.ts 11 z (fun W hT=>bs T.s160 z z) hT z (by kernel_rfl) (.by1 13 z (.st T.t160 hS.p1 z z z ?_ z z z z z) (by kernel_rfl))⟩
       intro W hS
       refine ⟨fun h=>absurd z h,?_⟩
       refine .done ?_ (by kernel_rfl)
       have hS:=hS.nilv 160 8 dStmt
       exact ⟨z,g7,v17,v19,nilH,sb z,hS.to [4,1,2,1,0] z⟩
      refine (.alloc T.t160 hS ?_ z z z)
      intro g8 W hS
      have hT:=hS.to [5] z
      refine ⟨fun _=>hT,?_⟩
      have hS:=hS.p2
      have hS:=hS.p4
      refine .by1 6 z (.callS2 (L0:=[rowV (sv v8) 158 3 dExpr y6.Args,rowV (sv v9) 158 3 dExpr y8.Args]) hS Tryz.func196 (fun S h1 h2 h3=>(f03 hy9 h2 (zz h1))) z z ?_ z z z z) (by kernel_rfl)
      rintro v20 W hS
      have hT:=hS.to [4] z
      refine ⟨fun _=>hT,.by1 10 z (.appv hr1 (hS.to [5,2,0,0,0,0] z) T.u134 T.t160 z z z ?_ z z z z z) (by kernel_rfl)⟩
      intro v21 W hS
      have hT:=hS.to [4] z
      refine ⟨fun _=>hT,.ts 11 z (fun W hT=>bs T.s160 z z) hT z (by kernel_rfl) (.by1 13 z (.st T.t160 hS.p2 z z z ?_ z z z z z) (by kernel_rfl))⟩
      intro W hS
      refine ⟨fun h=>absurd z h,?_⟩
      refine .done ?_ (by kernel_rfl)
      have hS:=hS.nilv 160 8 dStmt
      exact ⟨z,g8,v20,v21,nilH,sb z,hS.to [4,1,2,1,0] z⟩
     refine (.alloc T.t160 hS ?_ z z z)
     intro g9 W hS
     have hT:=hS.to [4] z
     refine ⟨fun _=>hT,.by [6,9] ⟨⟨_,z,?_⟩,⟨_,z,?_⟩,trivial⟩ (by kernel_rfl) z⟩
     ·have hS:=hS.p1
      have hS:=hS.p3
      refine (.callS2 (L0:=[rowV (sv v8) 158 3 dExpr y6.Args,rowV (sv v9) 158 3 dExpr y8.Args]) hS Tryz.func196 (fun S h1 h2 h3=>(f03 hy9 h2 (zz h1))) z z ?_ z z z z)
      rintro v22 W hS
      have hT:=hS.to [3] z
      refine ⟨fun _=>hT,?_⟩
      have hS:=hS.nilv 160 8 dStmt
      have hS:=hS.nilv 160 8 dStmt
      refine .by1 9 z (.ligv (L1:=[rowV (sv v4) 158 3 dExpr y5.Args,rowV (sv nilH) 160 8 dStmt [],rowV (sv nilH) 160 8 dStmt []]) [(Stmt.mk 1 3 0 (Expr.mk y5.Op y5.N y5.Args) [] [])] dStmt T.u134 T.t160 (hS.to [6,1,0,0,0,0,0,0] z) z z z (.aggE (eStmt _) (.flat (c1:=[.int .i64 1]) z (.flat (c1:=[.int .i64 3]) z (.flat (c1:=[.int .i64 0]) z (.aggE (eExpr _) (.flat (c1:=[.int .i64 y5.Op]) z (.flat (c1:=[.int .i64 y5.N]) z (.row (.row (.row .nil)))))))))) ?_ z zStmt z z z z z) (by kernel_rfl)
      intro v23 W hS
      have hT:=hS.to [4] z
      refine ⟨fun _=>hT,.by1 10 z (.appv hr1 (hS.to [5,0,0,0,0,0] z) T.u134 T.t160 z z z ?_ z z z z z) (by kernel_rfl)⟩
      intro v24 W hS
      have hT:=hS.to [4] z
      refine ⟨fun _=>hT,.ts 11 z (fun W hT=>bs T.s160 z z) hT z (by kernel_rfl) (.by1 13 z (.st T.t160 hS.p2 z z z ?_ z z z z z) (by kernel_rfl))⟩
      intro W hS
      refine ⟨fun h=>absurd z h,?_⟩
      refine .done ?_ (by kernel_rfl)
      have hS:=hS.nilv 160 8 dStmt
      exact ⟨z,g9,v22,v24,nilH,sb z,hS.to [4,1,2,1,0] z⟩
     have hS:=hS.nilv 160 8 dStmt
     have hS:=hS.nilv 160 8 dStmt
     refine (.ligv (L1:=[rowV (sv v4) 158 3 dExpr y5.Args,rowV (sv nilH) 160 8 dStmt [],rowV (sv nilH) 160 8 dStmt []]) [(Stmt.mk 1 3 0 (Expr.mk y5.Op y5.N y5.Args) [] [])] dStmt T.u134 T.t160 (hS.to [7,1,0,0,0,0,0,0,0] z) z z z (.aggE (eStmt _) (.flat (c1:=[.int .i64 1]) z (.flat (c1:=[.int .i64 3]) z (.flat (c1:=[.int .i64 0]) z (.aggE (eExpr _) (.flat (c1:=[.int .i64 y5.Op]) z (.flat (c1:=[.int .i64 y5.N]) z (.row (.row (.row .nil)))))))))) ?_ z zStmt z z z z z)
     intro v25 W hS
     have hT:=hS.to [5] z
     refine ⟨fun _=>hT,?_⟩
     have hS:=hS.p2
     have hS:=hS.p4
     refine .by1 6 z (.callS2 (L0:=[rowV (sv v8) 158 3 dExpr y6.Args,rowV (sv v9) 158 3 dExpr y8.Args]) hS Tryz.func196 (fun S h1 h2 h3=>(f03 hy9 h2 (zz h1))) z z ?_ z z z z) (by kernel_rfl)
     rintro v26 W hS
     have hT:=hS.to [4] z
     refine ⟨fun _=>hT,.by1 10 z (.appv hr1 (hS.to [5,1,0,0,0,0] z) T.u134 T.t160 z z z ?_ z z z z z) (by kernel_rfl)⟩
     intro v27 W hS
     have hT:=hS.to [4] z
     refine ⟨fun _=>hT,.ts 11 z (fun W hT=>bs T.s160 z z) hT z (by kernel_rfl) (.by1 13 z (.st T.t160 hS.p2 z z z ?_ z z z z z) (by kernel_rfl))⟩
     intro W hS
     refine ⟨fun h=>absurd z h,?_⟩
     refine .done ?_ (by kernel_rfl)
     have hS:=hS.nilv 160 8 dStmt
     exact ⟨z,g9,v26,v27,nilH,sb z,hS.to [4,1,2,1,0] z⟩
    ·have hS:=hS.nilv 160 8 dStmt
     have hS:=hS.nilv 160 8 dStmt
     refine (.ligv (L1:=[rowV (sv v4) 158 3 dExpr y5.Args,rowV (sv nilH) 160 8 dStmt [],rowV (sv nilH) 160 8 dStmt []]) [(Stmt.mk 1 3 0 (Expr.mk y5.Op y5.N y5.Args) [] [])] dStmt T.u134 T.t160 (hS.to [5,1,0,0,0,0,0] z) z z z (.aggE (eStmt _) (.flat (c1:=[.int .i64 1]) z (.flat (c1:=[.int .i64 3]) z (.flat (c1:=[.int .i64 0]) z (.aggE (eExpr _) (.flat (c1:=[.int .i64 y5.Op]) z (.flat (c1:=[.int .i64 y5.N]) z (.row (.row (.row .nil)))))))))) ?_ z zStmt z z z z z)
     intro v28 W hS
     have hT:=hS.to [3] z
     refine ⟨fun _=>hT,.by [5,12] ⟨⟨_,z,?_⟩,⟨_,z,?_⟩,trivial⟩ (by kernel_rfl) z⟩
     ·refine (.call1v hS Tryz.func197 (f04 hy8) z z ?_ z z z z)
      intro v29 W hS
      have hT:=hS.to [4] z
      refine ⟨fun _=>hT,.by [6,12] ⟨⟨_,z,?_⟩,⟨_,z,?_⟩,trivial⟩ (by kernel_rfl) z⟩
      ·have hS:=hS.p3
       refine (.callS2 (L0:=[rowV (sv v8) 158 3 dExpr y6.Args,rowV (sv v29) 158 3 dExpr y8.Args]) hS Tryz.func196 (fun S h1 h2 h3=>(f03 hy9 h2 (zz h1))) z z ?_ z z z z)
       rintro v30 W hS
       have hT:=hS.to [3] z
       refine ⟨fun _=>hT,.by [10,12] ⟨⟨_,z,?_⟩,⟨_,z,?_⟩,trivial⟩ (by kernel_rfl) z⟩
       ·refine (.appv hr1 (hS.to [4,1,0,0,0] z) T.u134 T.t160 z z z ?_ z z z z z)
        intro v31 W hS
        have hT:=hS.to [3] z
        refine ⟨fun _=>hT,.ts 11 z (fun W hT=>bs T.s160 z z) hT z (by kernel_rfl) (.by1 12 z (.alloc T.t160 hS ?_ z z z) (by kernel_rfl))⟩
        intro g10 W hS
        have hT:=hS.to [4] z
        refine ⟨fun _=>hT,.by1 13 z (.st T.t160 hS z z z ?_ z z z z z) (by kernel_rfl)⟩
        intro W hS
        refine ⟨fun h=>absurd z h,?_⟩
        refine .done ?_ (by kernel_rfl)
        have hS:=hS.nilv 160 8 dStmt
        exact ⟨z,g10,v30,v31,nilH,sb z,hS.to [4,1,2,1,0] z⟩
       refine (.alloc T.t160 hS ?_ z z z)
       intro g11 W hS
       have hT:=hS.to [4] z
       refine ⟨fun _=>hT,.by1 10 z (.appv hr1 (hS.to [5,2,0,0,0,0] z) T.u134 T.t160 z z z ?_ z z z z z) (by kernel_rfl)⟩
       intro v32 W hS
       have hT:=hS.to [4] z
       refine ⟨fun _=>hT,.ts 11 z (fun W hT=>bs T.s160 z z) hT z (by kernel_rfl) (.by1 13 z (.st T.t160 hS.p1 z z z ?_ z z z z z) (by kernel_rfl))⟩
       intro W hS
       refine ⟨fun h=>absurd z h,?_⟩
       refine .done ?_ (by kernel_rfl)
       have hS:=hS.nilv 160 8 dStmt
       exact ⟨z,g11,v30,v32,nilH,sb z,hS.to [4,1,2,1,0] z⟩
      refine (.alloc T.t160 hS ?_ z z z)
      intro g12 W hS
      have hT:=hS.to [5] z
      refine ⟨fun _=>hT,?_⟩
      have hS:=hS.p1
      have hS:=hS.p4
      refine .by1 6 z (.callS2 (L0:=[rowV (sv v8) 158 3 dExpr y6.Args,rowV (sv v29) 158 3 dExpr y8.Args]) hS Tryz.func196 (fun S h1 h2 h3=>(f03 hy9 h2 (zz h1))) z z ?_ z z z z) (by kernel_rfl)
      rintro v33 W hS
      have hT:=hS.to [4] z
      refine ⟨fun _=>hT,.by1 10 z (.appv hr1 (hS.to [5,2,0,0,0,0] z) T.u134 T.t160 z z z ?_ z z z z z) (by kernel_rfl)⟩
      intro v34 W hS
      have hT:=hS.to [4] z
      refine ⟨fun _=>hT,.ts 11 z (fun W hT=>bs T.s160 z z) hT z (by kernel_rfl) (.by1 13 z (.st T.t160 hS.p2 z z z ?_ z z z z z) (by kernel_rfl))⟩
      intro W hS
      refine ⟨fun h=>absurd z h,?_⟩
      refine .done ?_ (by kernel_rfl)
      have hS:=hS.nilv 160 8 dStmt
      exact ⟨z,g12,v33,v34,nilH,sb z,hS.to [4,1,2,1,0] z⟩
     refine (.alloc T.t160 hS ?_ z z z)
     intro g13 W hS
     have hT:=hS.to [4] z
     refine ⟨fun _=>hT,.by1 5 z (.call1v hS Tryz.func197 (f04 hy8) z z ?_ z z z z) (by kernel_rfl)⟩
     intro v35 W hS
     have hT:=hS.to [5] z
     refine ⟨fun _=>hT,?_⟩
     have hS:=hS.p4
     refine .by1 6 z (.callS2 (L0:=[rowV (sv v8) 158 3 dExpr y6.Args,rowV (sv v35) 158 3 dExpr y8.Args]) hS Tryz.func196 (fun S h1 h2 h3=>(f03 hy9 h2 (zz h1))) z z ?_ z z z z) (by kernel_rfl)
     rintro v36 W hS
     have hT:=hS.to [4] z
     refine ⟨fun _=>hT,.by1 10 z (.appv hr1 (hS.to [5,2,0,0,0,0] z) T.u134 T.t160 z z z ?_ z z z z z) (by kernel_rfl)⟩
     intro v37 W hS
     have hT:=hS.to [4] z
     refine ⟨fun _=>hT,.ts 11 z (fun W hT=>bs T.s160 z z) hT z (by kernel_rfl) (.by1 13 z (.st T.t160 hS.p2 z z z ?_ z z z z z) (by kernel_rfl))⟩
     intro W hS
     refine ⟨fun h=>absurd z h,?_⟩
     refine .done ?_ (by kernel_rfl)
     have hS:=hS.nilv 160 8 dStmt
     exact ⟨z,g13,v36,v37,nilH,sb z,hS.to [4,1,2,1,0] z⟩
    refine (.alloc T.t160 hS ?_ z z z)
    intro g14 W hS
    have hT:=hS.to [3] z
    refine ⟨fun _=>hT,.by [5,9] ⟨⟨_,z,?_⟩,⟨_,z,?_⟩,trivial⟩ (by kernel_rfl) z⟩
    ·refine (.call1v hS Tryz.func197 (f04 hy8) z z ?_ z z z z)
     intro v38 W hS
     have hT:=hS.to [4] z
     refine ⟨fun _=>hT,.by [6,9] ⟨⟨_,z,?_⟩,⟨_,z,?_⟩,trivial⟩ (by kernel_rfl) z⟩
     ·have hS:=hS.p3
      refine (.callS2 (L0:=[rowV (sv v8) 158 3 dExpr y6.Args,rowV (sv v38) 158 3 dExpr y8.Args]) hS Tryz.func196 (fun S h1 h2 h3=>(f03 hy9 h2 (zz h1))) z z ?_ z z z z)
      rintro v39 W hS
      have hT:=hS.to [3] z
      refine ⟨fun _=>hT,?_⟩
      have hS:=hS.nilv 160 8 dStmt
      have hS:=hS.nilv 160 8 dStmt
      refine .by1 9 z (.ligv (L1:=[rowV (sv v4) 158 3 dExpr y5.Args,rowV (sv nilH) 160 8 dStmt [],rowV (sv nilH) 160 8 dStmt []]) [(Stmt.mk 1 3 0 (Expr.mk y5.Op y5.N y5.Args) [] [])] dStmt T.u134 T.t160 (hS.to [6,1,0,0,0,0,0,0] z) z z z (.aggE (eStmt _) (.flat (c1:=[.int .i64 1]) z (.flat (c1:=[.int .i64 3]) z (.flat (c1:=[.int .i64 0]) z (.aggE (eExpr _) (.flat (c1:=[.int .i64 y5.Op]) z (.flat (c1:=[.int .i64 y5.N]) z (.row (.row (.row .nil)))))))))) ?_ z zStmt z z z z z) (by kernel_rfl)
      intro v40 W hS
      have hT:=hS.to [4] z
      refine ⟨fun _=>hT,.by1 10 z (.appv hr1 (hS.to [5,0,0,0,0,0] z) T.u134 T.t160 z z z ?_ z z z z z) (by kernel_rfl)⟩
      intro v41 W hS
      have hT:=hS.to [4] z
      refine ⟨fun _=>hT,.ts 11 z (fun W hT=>bs T.s160 z z) hT z (by kernel_rfl) (.by1 13 z (.st T.t160 hS.p2 z z z ?_ z z z z z) (by kernel_rfl))⟩
      intro W hS
      refine ⟨fun h=>absurd z h,?_⟩
      refine .done ?_ (by kernel_rfl)
      have hS:=hS.nilv 160 8 dStmt
      exact ⟨z,g14,v39,v41,nilH,sb z,hS.to [4,1,2,1,0] z⟩
     have hS:=hS.nilv 160 8 dStmt
     have hS:=hS.nilv 160 8 dStmt
     refine (.ligv (L1:=[rowV (sv v4) 158 3 dExpr y5.Args,rowV (sv nilH) 160 8 dStmt [],rowV (sv nilH) 160 8 dStmt []]) [(Stmt.mk 1 3 0 (Expr.mk y5.Op y5.N y5.Args) [] [])] dStmt T.u134 T.t160 (hS.to [7,1,0,0,0,0,0,0,0] z) z z z (.aggE (eStmt _) (.flat (c1:=[.int .i64 1]) z (.flat (c1:=[.int .i64 3]) z (.flat (c1:=[.int .i64 0]) z (.aggE (eExpr _) (.flat (c1:=[.int .i64 y5.Op]) z (.flat (c1:=[.int .i64 y5.N]) z (.row (.row (.row .nil)))))))))) ?_ z zStmt z z z z z)
     intro v42 W hS
     have hT:=hS.to [5] z
     refine ⟨fun _=>hT,?_⟩
     have hS:=hS.p1
     have hS:=hS.p4
     refine .by1 6 z (.callS2 (L0:=[rowV (sv v8) 158 3 dExpr y6.Args,rowV (sv v38) 158 3 dExpr y8.Args]) hS Tryz.func196 (fun S h1 h2 h3=>(f03 hy9 h2 (zz h1))) z z ?_ z z z z) (by kernel_rfl)
     rintro v43 W hS
     have hT:=hS.to [4] z
     refine ⟨fun _=>hT,.by1 10 z (.appv hr1 (hS.to [5,1,0,0,0,0] z) T.u134 T.t160 z z z ?_ z z z z z) (by kernel_rfl)⟩
     intro v44 W hS
     have hT:=hS.to [4] z
     refine ⟨fun _=>hT,.ts 11 z (fun W hT=>bs T.s160 z z) hT z (by kernel_rfl) (.by1 13 z (.st T.t160 hS.p2 z z z ?_ z z z z z) (by kernel_rfl))⟩
     intro W hS
     refine ⟨fun h=>absurd z h,?_⟩
     refine .done ?_ (by kernel_rfl)
     have hS:=hS.nilv 160 8 dStmt
     exact ⟨z,g14,v43,v44,nilH,sb z,hS.to [4,1,2,1,0] z⟩
    have hS:=hS.nilv 160 8 dStmt
    have hS:=hS.nilv 160 8 dStmt
    refine (.ligv (L1:=[rowV (sv v4) 158 3 dExpr y5.Args,rowV (sv nilH) 160 8 dStmt [],rowV (sv nilH) 160 8 dStmt []]) [(Stmt.mk 1 3 0 (Expr.mk y5.Op y5.N y5.Args) [] [])] dStmt T.u134 T.t160 (hS.to [6,1,0,0,0,0,0,0] z) z z z (.aggE (eStmt _) (.flat (c1:=[.int .i64 1]) z (.flat (c1:=[.int .i64 3]) z (.flat (c1:=[.int .i64 0]) z (.aggE (eExpr _) (.flat (c1:=[.int .i64 y5.Op]) z (.flat (c1:=[.int .i64 y5.N]) z (.row (.row (.row .nil)))))))))) ?_ z zStmt z z z z z)
    intro v45 W hS
    have hT:=hS.to [4] z
    refine ⟨fun _=>hT,.by1 5 z (.call1v hS Tryz.func197 (f04 hy8) z z ?_ z z z z) (by kernel_rfl)⟩
    intro v46 W hS
    have hT:=hS.to [5] z
    refine ⟨fun _=>hT,?_⟩
    have hS:=hS.p4
    refine .by1 6 z (.callS2 (L0:=[rowV (sv v8) 158 3 dExpr y6.Args,rowV (sv v46) 158 3 dExpr y8.Args]) hS Tryz.func196 (fun S h1 h2 h3=>(f03 hy9 h2 (zz h1))) z z ?_ z z z z) (by kernel_rfl)
    rintro v47 W hS
    have hT:=hS.to [4] z
    refine ⟨fun _=>hT,.by1 10 z (.appv hr1 (hS.to [5,1,0,0,0,0] z) T.u134 T.t160 z z z ?_ z z z z z) (by kernel_rfl)⟩
    intro v48 W hS
    have hT:=hS.to [4] z
    refine ⟨fun _=>hT,.ts 11 z (fun W hT=>bs T.s160 z z) hT z (by kernel_rfl) (.by1 13 z (.st T.t160 hS.p2 z z z ?_ z z z z z) (by kernel_rfl))⟩
    intro W hS
    refine ⟨fun h=>absurd z h,?_⟩
    refine .done ?_ (by kernel_rfl)
    have hS:=hS.nilv 160 8 dStmt
    exact ⟨z,g14,v47,v48,nilH,sb z,hS.to [4,1,2,1,0] z⟩
   ·have hS:=hS.nilv 160 8 dStmt
    have hS:=hS.nilv 160 8 dStmt
    refine (.ligv (L1:=[rowV (sv v4) 158 3 dExpr y5.Args,rowV (sv nilH) 160 8 dStmt [],rowV (sv nilH) 160 8 dStmt []]) [(Stmt.mk 1 3 0 (Expr.mk y5.Op y5.N y5.Args) [] [])] dStmt T.u134 T.t160 (hS.to [4,1,0,0,0,0,0] z) z z z (.aggE (eStmt _) (.flat (c1:=[.int .i64 1]) z (.flat (c1:=[.int .i64 3]) z (.flat (c1:=[.int .i64 0]) z (.aggE (eExpr _) (.flat (c1:=[.int .i64 y5.Op]) z (.flat (c1:=[.int .i64 y5.N]) z (.row (.row (.row .nil)))))))))) ?_ z zStmt z z z z z)
    intro v49 W hS
    have hT:=hS.to [2] z
    refine ⟨fun _=>hT,.by [3,12] ⟨⟨_,z,?_⟩,⟨_,z,?_⟩,trivial⟩ (by kernel_rfl) z⟩
    ·have hS:=hS.p3
     refine (.callS2 (L0:=[.box g_0 100 [(sv v_0_b),.int .i64 y2.2]]) hS Tryz.func36 (fun S h1 h2 h3=>(f00 hy7 (hS.keepS q_0_b h1) h2 (zz h1))) z z ?_ z z z z)
     rintro ⟨⟩ W hS
     have hT:=hS.to [3] z
     refine ⟨fun _=>hT,.tp 4 z z hT (by kernel_rfl) (.by [5,12] ⟨⟨_,z,?_⟩,⟨_,z,?_⟩,trivial⟩ (by kernel_rfl) z)⟩
     ·refine (.call1v hS Tryz.func197 (f04 hy8) z z ?_ z z z z)
      intro v50 W hS
      have hT:=hS.to [4] z
      refine ⟨fun _=>hT,.by [6,12] ⟨⟨_,z,?_⟩,⟨_,z,?_⟩,trivial⟩ (by kernel_rfl) z⟩
      ·have hS:=hS.p3
       refine (.callS2 (L0:=[rowV (sv v8) 158 3 dExpr y6.Args,rowV (sv v50) 158 3 dExpr y8.Args]) hS Tryz.func196 (fun S h1 h2 h3=>(f03 hy9 h2 (zz h1))) z z ?_ z z z z)
       rintro v51 W hS
       have hT:=hS.to [3] z
       refine ⟨fun _=>hT,.by [10,12] ⟨⟨_,z,?_⟩,⟨_,z,?_⟩,trivial⟩ (by kernel_rfl) z⟩
       ·refine (.appv hr1 (hS.to [4,2,0,0,0] z) T.u134 T.t160 z z z ?_ z z z z z)
        intro v52 W hS
        have hT:=hS.to [3] z
        refine ⟨fun _=>hT,.ts 11 z (fun W hT=>bs T.s160 z z) hT z (by kernel_rfl) (.by1 12 z (.alloc T.t160 hS ?_ z z z) (by kernel_rfl))⟩
        intro g15 W hS
        have hT:=hS.to [4] z
        refine ⟨fun _=>hT,.by1 13 z (.st T.t160 hS z z z ?_ z z z z z) (by kernel_rfl)⟩
        intro W hS
        refine ⟨fun h=>absurd z h,?_⟩
        refine .done ?_ (by kernel_rfl)
        have hS:=hS.nilv 160 8 dStmt
        exact ⟨z,g15,v51,v52,nilH,sb z,hS.to [4,1,2,1,0] z⟩
       refine (.alloc T.t160 hS ?_ z z z)
       intro g16 W hS
       have hT:=hS.to [4] z
       refine ⟨fun _=>hT,.by1 10 z (.appv hr1 (hS.to [5,3,0,0,0,0] z) T.u134 T.t160 z z z ?_ z z z z z) (by kernel_rfl)⟩
       intro v53 W hS
       have hT:=hS.to [4] z
       refine ⟨fun _=>hT,.ts 11 z (fun W hT=>bs T.s160 z z) hT z (by kernel_rfl) (.by1 13 z (.st T.t160 hS.p1 z z z ?_ z z z z z) (by kernel_rfl))⟩
       intro W hS
       refine ⟨fun h=>absurd z h,?_⟩
       refine .done ?_ (by kernel_rfl)
       have hS:=hS.nilv 160 8 dStmt
       exact ⟨z,g16,v51,v53,nilH,sb z,hS.to [4,1,2,1,0] z⟩
      refine (.alloc T.t160 hS ?_ z z z)
      intro g17 W hS
      have hT:=hS.to [5] z
      refine ⟨fun _=>hT,?_⟩
      have hS:=hS.p1
      have hS:=hS.p4
      refine .by1 6 z (.callS2 (L0:=[rowV (sv v8) 158 3 dExpr y6.Args,rowV (sv v50) 158 3 dExpr y8.Args]) hS Tryz.func196 (fun S h1 h2 h3=>(f03 hy9 h2 (zz h1))) z z ?_ z z z z) (by kernel_rfl)
      rintro v54 W hS
      have hT:=hS.to [4] z
      refine ⟨fun _=>hT,.by1 10 z (.appv hr1 (hS.to [5,3,0,0,0,0] z) T.u134 T.t160 z z z ?_ z z z z z) (by kernel_rfl)⟩
      intro v55 W hS
      have hT:=hS.to [4] z
      refine ⟨fun _=>hT,.ts 11 z (fun W hT=>bs T.s160 z z) hT z (by kernel_rfl) (.by1 13 z (.st T.t160 hS.p2 z z z ?_ z z z z z) (by kernel_rfl))⟩
      intro W hS
      refine ⟨fun h=>absurd z h,?_⟩
      refine .done ?_ (by kernel_rfl)
      have hS:=hS.nilv 160 8 dStmt
      exact ⟨z,g17,v54,v55,nilH,sb z,hS.to [4,1,2,1,0] z⟩
     refine (.alloc T.t160 hS ?_ z z z)
     intro g18 W hS
     have hT:=hS.to [4] z
     refine ⟨fun _=>hT,.by1 5 z (.call1v hS Tryz.func197 (f04 hy8) z z ?_ z z z z) (by kernel_rfl)⟩
     intro v56 W hS
     have hT:=hS.to [5] z
     refine ⟨fun _=>hT,?_⟩
     have hS:=hS.p4
     refine .by1 6 z (.callS2 (L0:=[rowV (sv v8) 158 3 dExpr y6.Args,rowV (sv v56) 158 3 dExpr y8.Args]) hS Tryz.func196 (fun S h1 h2 h3=>(f03 hy9 h2 (zz h1))) z z ?_ z z z z) (by kernel_rfl)
     rintro v57 W hS
     have hT:=hS.to [4] z
     refine ⟨fun _=>hT,.by1 10 z (.appv hr1 (hS.to [5,3,0,0,0,0] z) T.u134 T.t160 z z z ?_ z z z z z) (by kernel_rfl)⟩
     intro v58 W hS
     have hT:=hS.to [4] z
     refine ⟨fun _=>hT,.ts 11 z (fun W hT=>bs T.s160 z z) hT z (by kernel_rfl) (.by1 13 z (.st T.t160 hS.p2 z z z ?_ z z z z z) (by kernel_rfl))⟩
     intro W hS
     refine ⟨fun h=>absurd z h,?_⟩
     refine .done ?_ (by kernel_rfl)
     have hS:=hS.nilv 160 8 dStmt
     exact ⟨z,g18,v57,v58,nilH,sb z,hS.to [4,1,2,1,0] z⟩
    refine (.alloc T.t160 hS ?_ z z z)
    intro g19 W hS
    have hT:=hS.to [3] z
    refine ⟨fun _=>hT,?_⟩
    have hS:=hS.p4
    refine .by1 3 z (.callS2 (L0:=[.box g_0 100 [(sv v_0_b),.int .i64 y2.2]]) hS Tryz.func36 (fun S h1 h2 h3=>(f00 hy7 (hS.keepS q_0_b h1) h2 (zz h1))) z z ?_ z z z z) (by kernel_rfl)
    rintro ⟨⟩ W hS
    have hT:=hS.to [4] z
    refine ⟨fun _=>hT,.tp 4 z z hT (by kernel_rfl) (.by1 5 z (.call1v hS Tryz.func197 (f04 hy8) z z ?_ z z z z) (by kernel_rfl))⟩
    intro v59 W hS
    have hT:=hS.to [5] z
    refine ⟨fun _=>hT,?_⟩
    have hS:=hS.p4
    refine .by1 6 z (.callS2 (L0:=[rowV (sv v8) 158 3 dExpr y6.Args,rowV (sv v59) 158 3 dExpr y8.Args]) hS Tryz.func196 (fun S h1 h2 h3=>(f03 hy9 h2 (zz h1))) z z ?_ z z z z) (by kernel_rfl)
    rintro v60 W hS
    have hT:=hS.to [4] z
    refine ⟨fun _=>hT,.by1 10 z (.appv hr1 (hS.to [5,3,0,0,0,0] z) T.u134 T.t160 z z z ?_ z z z z z) (by kernel_rfl)⟩
    intro v61 W hS
    have hT:=hS.to [4] z
    refine ⟨fun _=>hT,.ts 11 z (fun W hT=>bs T.s160 z z) hT z (by kernel_rfl) (.by1 13 z (.st T.t160 hS.p3 z z z ?_ z z z z z) (by kernel_rfl))⟩
    intro W hS
    refine ⟨fun h=>absurd z h,?_⟩
    refine .done ?_ (by kernel_rfl)
    have hS:=hS.nilv 160 8 dStmt
    exact ⟨z,g19,v60,v61,nilH,sb z,hS.to [4,1,2,1,0] z⟩
   refine (.alloc T.t160 hS ?_ z z z)
   intro g20 W hS
   have hT:=hS.to [2] z
   refine ⟨fun _=>hT,.by [3,9] ⟨⟨_,z,?_⟩,⟨_,z,?_⟩,trivial⟩ (by kernel_rfl) z⟩
   ·have hS:=hS.p4
    refine (.callS2 (L0:=[.box g_0 100 [(sv v_0_b),.int .i64 y2.2]]) hS Tryz.func36 (fun S h1 h2 h3=>(f00 hy7 (hS.keepS q_0_b h1) h2 (zz h1))) z z ?_ z z z z)
    rintro ⟨⟩ W hS
    have hT:=hS.to [3] z
    refine ⟨fun _=>hT,.tp 4 z z hT (by kernel_rfl) (.by [5,9] ⟨⟨_,z,?_⟩,⟨_,z,?_⟩,trivial⟩ (by kernel_rfl) z)⟩
    ·refine (.call1v hS Tryz.func197 (f04 hy8) z z ?_ z z z z)
     intro v62 W hS
     have hT:=hS.to [4] z
     refine ⟨fun _=>hT,.by [6,9] ⟨⟨_,z,?_⟩,⟨_,z,?_⟩,trivial⟩ (by kernel_rfl) z⟩
     ·have hS:=hS.p3
      refine (.callS2 (L0:=[rowV (sv v8) 158 3 dExpr y6.Args,rowV (sv v62) 158 3 dExpr y8.Args]) hS Tryz.func196 (fun S h1 h2 h3=>(f03 hy9 h2 (zz h1))) z z ?_ z z z z)
      rintro v63 W hS
      have hT:=hS.to [3] z
      refine ⟨fun _=>hT,?_⟩
      have hS:=hS.nilv 160 8 dStmt
      have hS:=hS.nilv 160 8 dStmt
      refine .by1 9 z (.ligv (L1:=[rowV (sv v4) 158 3 dExpr y5.Args,rowV (sv nilH) 160 8 dStmt [],rowV (sv nilH) 160 8 dStmt []]) [(Stmt.mk 1 3 0 (Expr.mk y5.Op y5.N y5.Args) [] [])] dStmt T.u134 T.t160 (hS.to [6,1,0,0,0,0,0,0] z) z z z (.aggE (eStmt _) (.flat (c1:=[.int .i64 1]) z (.flat (c1:=[.int .i64 3]) z (.flat (c1:=[.int .i64 0]) z (.aggE (eExpr _) (.flat (c1:=[.int .i64 y5.Op]) z (.flat (c1:=[.int .i64 y5.N]) z (.row (.row (.row .nil)))))))))) ?_ z zStmt z z z z z) (by kernel_rfl)
      intro v64 W hS
      have hT:=hS.to [4] z
      refine ⟨fun _=>hT,.by1 10 z (.appv hr1 (hS.to [5,0,0,0,0,0] z) T.u134 T.t160 z z z ?_ z z z z z) (by kernel_rfl)⟩
      intro v65 W hS
      have hT:=hS.to [4] z
      refine ⟨fun _=>hT,.ts 11 z (fun W hT=>bs T.s160 z z) hT z (by kernel_rfl) (.by1 13 z (.st T.t160 hS.p3 z z z ?_ z z z z z) (by kernel_rfl))⟩
      intro W hS
      refine ⟨fun h=>absurd z h,?_⟩
      refine .done ?_ (by kernel_rfl)
      have hS:=hS.nilv 160 8 dStmt
      exact ⟨z,g20,v63,v65,nilH,sb z,hS.to [4,1,2,1,0] z⟩
     have hS:=hS.nilv 160 8 dStmt
     have hS:=hS.nilv 160 8 dStmt
     refine (.ligv (L1:=[rowV (sv v4) 158 3 dExpr y5.Args,rowV (sv nilH) 160 8 dStmt [],rowV (sv nilH) 160 8 dStmt []]) [(Stmt.mk 1 3 0 (Expr.mk y5.Op y5.N y5.Args) [] [])] dStmt T.u134 T.t160 (hS.to [7,1,0,0,0,0,0,0,0] z) z z z (.aggE (eStmt _) (.flat (c1:=[.int .i64 1]) z (.flat (c1:=[.int .i64 3]) z (.flat (c1:=[.int .i64 0]) z (.aggE (eExpr _) (.flat (c1:=[.int .i64 y5.Op]) z (.flat (c1:=[.int .i64 y5.N]) z (.row (.row (.row .nil)))))))))) ?_ z zStmt z z z z z)
     intro v66 W hS
     have hT:=hS.to [5] z
     refine ⟨fun _=>hT,?_⟩
     have hS:=hS.p1
     have hS:=hS.p4
     refine .by1 6 z (.callS2 (L0:=[rowV (sv v8) 158 3 dExpr y6.Args,rowV (sv v62) 158 3 dExpr y8.Args]) hS Tryz.func196 (fun S h1 h2 h3=>(f03 hy9 h2 (zz h1))) z z ?_ z z z z) (by kernel_rfl)
     rintro v67 W hS
     have hT:=hS.to [4] z
     refine ⟨fun _=>hT,.by1 10 z (.appv hr1 (hS.to [5,1,0,0,0,0] z) T.u134 T.t160 z z z ?_ z z z z z) (by kernel_rfl)⟩
     intro v68 W hS
     have hT:=hS.to [4] z
     refine ⟨fun _=>hT,.ts 11 z (fun W hT=>bs T.s160 z z) hT z (by kernel_rfl) (.by1 13 z (.st T.t160 hS.p3 z z z ?_ z z z z z) (by kernel_rfl))⟩
     intro W hS
     refine ⟨fun h=>absurd z h,?_⟩
     refine .done ?_ (by kernel_rfl)
     have hS:=hS.nilv 160 8 dStmt
     exact ⟨z,g20,v67,v68,nilH,sb z,hS.to [4,1,2,1,0] z⟩
    have hS:=hS.nilv 160 8 dStmt
    have hS:=hS.nilv 160 8 dStmt
    refine (.ligv (L1:=[rowV (sv v4) 158 3 dExpr y5.Args,rowV (sv nilH) 160 8 dStmt [],rowV (sv nilH) 160 8 dStmt []]) [(Stmt.mk 1 3 0 (Expr.mk y5.Op y5.N y5.Args) [] [])] dStmt T.u134 T.t160 (hS.to [6,1,0,0,0,0,0,0] z) z z z (.aggE (eStmt _) (.flat (c1:=[.int .i64 1]) z (.flat (c1:=[.int .i64 3]) z (.flat (c1:=[.int .i64 0]) z (.aggE (eExpr _) (.flat (c1:=[.int .i64 y5.Op]) z (.flat (c1:=[.int .i64 y5.N]) z (.row (.row (.row .nil)))))))))) ?_ z zStmt z z z z z)
    intro v69 W hS
    have hT:=hS.to [4] z
    refine ⟨fun _=>hT,.by1 5 z (.call1v hS Tryz.func197 (f04 hy8) z z ?_ z z z z) (by kernel_rfl)⟩
    intro v70 W hS
    have hT:=hS.to [5] z
    refine ⟨fun _=>hT,?_⟩
    have hS:=hS.p4
    refine .by1 6 z (.callS2 (L0:=[rowV (sv v8) 158 3 dExpr y6.Args,rowV (sv v70) 158 3 dExpr y8.Args]) hS Tryz.func196 (fun S h1 h2 h3=>(f03 hy9 h2 (zz h1))) z z ?_ z z z z) (by kernel_rfl)
    rintro v71 W hS
    have hT:=hS.to [4] z
    refine ⟨fun _=>hT,.by1 10 z (.appv hr1 (hS.to [5,1,0,0,0,0] z) T.u134 T.t160 z z z ?_ z z z z z) (by kernel_rfl)⟩
    intro v72 W hS
    have hT:=hS.to [4] z
    refine ⟨fun _=>hT,.ts 11 z (fun W hT=>bs T.s160 z z) hT z (by kernel_rfl) (.by1 13 z (.st T.t160 hS.p3 z z z ?_ z z z z z) (by kernel_rfl))⟩
    intro W hS
    refine ⟨fun h=>absurd z h,?_⟩
    refine .done ?_ (by kernel_rfl)
    have hS:=hS.nilv 160 8 dStmt
    exact ⟨z,g20,v71,v72,nilH,sb z,hS.to [4,1,2,1,0] z⟩
   have hS:=hS.nilv 160 8 dStmt
   have hS:=hS.nilv 160 8 dStmt
   refine (.ligv (L1:=[rowV (sv v4) 158 3 dExpr y5.Args,rowV (sv nilH) 160 8 dStmt [],rowV (sv nilH) 160 8 dStmt []]) [(Stmt.mk 1 3 0 (Expr.mk y5.Op y5.N y5.Args) [] [])] dStmt T.u134 T.t160 (hS.to [5,1,0,0,0,0,0,0] z) z z z (.aggE (eStmt _) (.flat (c1:=[.int .i64 1]) z (.flat (c1:=[.int .i64 3]) z (.flat (c1:=[.int .i64 0]) z (.aggE (eExpr _) (.flat (c1:=[.int .i64 y5.Op]) z (.flat (c1:=[.int .i64 y5.N]) z (.row (.row (.row .nil)))))))))) ?_ z zStmt z z z z z)
   intro v73 W hS
   have hT:=hS.to [3] z
   refine ⟨fun _=>hT,?_⟩
   have hS:=hS.p4
   refine .by1 3 z (.callS2 (L0:=[.box g_0 100 [(sv v_0_b),.int .i64 y2.2]]) hS Tryz.func36 (fun S h1 h2 h3=>(f00 hy7 (hS.keepS q_0_b h1) h2 (zz h1))) z z ?_ z z z z) (by kernel_rfl)
   rintro ⟨⟩ W hS
   have hT:=hS.to [4] z
   refine ⟨fun _=>hT,.tp 4 z z hT (by kernel_rfl) (.by1 5 z (.call1v hS Tryz.func197 (f04 hy8) z z ?_ z z z z) (by kernel_rfl))⟩
   intro v74 W hS
   have hT:=hS.to [5] z
   refine ⟨fun _=>hT,?_⟩
   have hS:=hS.p4
   refine .by1 6 z (.callS2 (L0:=[rowV (sv v8) 158 3 dExpr y6.Args,rowV (sv v74) 158 3 dExpr y8.Args]) hS Tryz.func196 (fun S h1 h2 h3=>(f03 hy9 h2 (zz h1))) z z ?_ z z z z) (by kernel_rfl)
   rintro v75 W hS
   have hT:=hS.to [4] z
   refine ⟨fun _=>hT,.by1 10 z (.appv hr1 (hS.to [5,2,0,0,0,0] z) T.u134 T.t160 z z z ?_ z z z z z) (by kernel_rfl)⟩
   intro v76 W hS
   have hT:=hS.to [4] z
   refine ⟨fun _=>hT,.ts 11 z (fun W hT=>bs T.s160 z z) hT z (by kernel_rfl) (.by1 13 z (.st T.t160 hS.p3 z z z ?_ z z z z z) (by kernel_rfl))⟩
   intro W hS
   refine ⟨fun h=>absurd z h,?_⟩
   refine .done ?_ (by kernel_rfl)
   have hS:=hS.nilv 160 8 dStmt
   exact ⟨z,g20,v75,v76,nilH,sb z,hS.to [4,1,2,1,0] z⟩
  ·have hS:=hS.nilv 160 8 dStmt
   have hS:=hS.nilv 160 8 dStmt
   refine (.ligv (L1:=[rowV (sv v4) 158 3 dExpr y5.Args,rowV (sv nilH) 160 8 dStmt [],rowV (sv nilH) 160 8 dStmt []]) [(Stmt.mk 1 3 0 (Expr.mk y5.Op y5.N y5.Args) [] [])] dStmt T.u134 T.t160 (hS.to [3,1,0,0,0,0] z) z z z (.aggE (eStmt _) (.flat (c1:=[.int .i64 1]) z (.flat (c1:=[.int .i64 3]) z (.flat (c1:=[.int .i64 0]) z (.aggE (eExpr _) (.flat (c1:=[.int .i64 y5.Op]) z (.flat (c1:=[.int .i64 y5.N]) z (.row (.row (.row .nil)))))))))) ?_ z zStmt z z z z z)
   intro v77 W hS
   have hT:=hS.to [1] z
   refine ⟨fun _=>hT,.by [1,12] ⟨⟨_,z,?_⟩,⟨_,z,?_⟩,trivial⟩ (by kernel_rfl) z⟩
   ·refine (.call1v hS Tryz.func197 (f04 hy6) z z ?_ z z z z)
    intro v78 W hS
    have hT:=hS.to [2] z
    refine ⟨fun _=>hT,.by [3,12] ⟨⟨_,z,?_⟩,⟨_,z,?_⟩,trivial⟩ (by kernel_rfl) z⟩
    ·have hS:=hS.p3
     refine (.callS2 (L0:=[.box g_0 100 [(sv v_0_b),.int .i64 y2.2]]) hS Tryz.func36 (fun S h1 h2 h3=>(f00 hy7 (hS.keepS q_0_b h1) h2 (zz h1))) z z ?_ z z z z)
     rintro ⟨⟩ W hS
     have hT:=hS.to [3] z
     refine ⟨fun _=>hT,.tp 4 z z hT (by kernel_rfl) (.by [5,12] ⟨⟨_,z,?_⟩,⟨_,z,?_⟩,trivial⟩ (by kernel_rfl) z)⟩
     ·refine (.call1v hS Tryz.func197 (f04 hy8) z z ?_ z z z z)
      intro v79 W hS
      have hT:=hS.to [4] z
      refine ⟨fun _=>hT,.by [6,12] ⟨⟨_,z,?_⟩,⟨_,z,?_⟩,trivial⟩ (by kernel_rfl) z⟩
      ·have hS:=hS.p2
       refine (.callS2 (L0:=[rowV (sv v78) 158 3 dExpr y6.Args,rowV (sv v79) 158 3 dExpr y8.Args]) hS Tryz.func196 (fun S h1 h2 h3=>(f03 hy9 h2 (zz h1))) z z ?_ z z z z)
       rintro v80 W hS
       have hT:=hS.to [3] z
       refine ⟨fun _=>hT,.by [10,12] ⟨⟨_,z,?_⟩,⟨_,z,?_⟩,trivial⟩ (by kernel_rfl) z⟩
       ·refine (.appv hr1 (hS.to [4,2,0,0,0] z) T.u134 T.t160 z z z ?_ z z z z z)
        intro v81 W hS
        have hT:=hS.to [3] z
        refine ⟨fun _=>hT,.ts 11 z (fun W hT=>bs T.s160 z z) hT z (by kernel_rfl) (.by1 12 z (.alloc T.t160 hS ?_ z z z) (by kernel_rfl))⟩
        intro g21 W hS
        have hT:=hS.to [4] z
        refine ⟨fun _=>hT,.by1 13 z (.st T.t160 hS z z z ?_ z z z z z) (by kernel_rfl)⟩
        intro W hS
        refine ⟨fun h=>absurd z h,?_⟩
        refine .done ?_ (by kernel_rfl)
        have hS:=hS.nilv 160 8 dStmt
        exact ⟨z,g21,v80,v81,nilH,sb z,hS.to [4,1,2,1,0] z⟩
       refine (.alloc T.t160 hS ?_ z z z)
       intro g22 W hS
       have hT:=hS.to [4] z
       refine ⟨fun _=>hT,.by1 10 z (.appv hr1 (hS.to [5,3,0,0,0,0] z) T.u134 T.t160 z z z ?_ z z z z z) (by kernel_rfl)⟩
       intro v82 W hS
       have hT:=hS.to [4] z
       refine ⟨fun _=>hT,.ts 11 z (fun W hT=>bs T.s160 z z) hT z (by kernel_rfl) (.by1 13 z (.st T.t160 hS.p1 z z z ?_ z z z z z) (by kernel_rfl))⟩
       intro W hS
       refine ⟨fun h=>absurd z h,?_⟩
       refine .done ?_ (by kernel_rfl)
       have hS:=hS.nilv 160 8 dStmt
       exact ⟨z,g22,v80,v82,nilH,sb z,hS.to [4,1,2,1,0] z⟩
      refine (.alloc T.t160 hS ?_ z z z)
      intro g23 W hS
      have hT:=hS.to [5] z
      refine ⟨fun _=>hT,?_⟩
      have hS:=hS.p1
      have hS:=hS.p3
      refine .by1 6 z (.callS2 (L0:=[rowV (sv v78) 158 3 dExpr y6.Args,rowV (sv v79) 158 3 dExpr y8.Args]) hS Tryz.func196 (fun S h1 h2 h3=>(f03 hy9 h2 (zz h1))) z z ?_ z z z z) (by kernel_rfl)
      rintro v83 W hS
      have hT:=hS.to [4] z
      refine ⟨fun _=>hT,.by1 10 z (.appv hr1 (hS.to [5,3,0,0,0,0] z) T.u134 T.t160 z z z ?_ z z z z z) (by kernel_rfl)⟩
      intro v84 W hS
      have hT:=hS.to [4] z
      refine ⟨fun _=>hT,.ts 11 z (fun W hT=>bs T.s160 z z) hT z (by kernel_rfl) (.by1 13 z (.st T.t160 hS.p2 z z z ?_ z z z z z) (by kernel_rfl))⟩
      intro W hS
      refine ⟨fun h=>absurd z h,?_⟩
      refine .done ?_ (by kernel_rfl)
      have hS:=hS.nilv 160 8 dStmt
      exact ⟨z,g23,v83,v84,nilH,sb z,hS.to [4,1,2,1,0] z⟩
     refine (.alloc T.t160 hS ?_ z z z)
     intro g24 W hS
     have hT:=hS.to [4] z
     refine ⟨fun _=>hT,.by1 5 z (.call1v hS Tryz.func197 (f04 hy8) z z ?_ z z z z) (by kernel_rfl)⟩
     intro v85 W hS
     have hT:=hS.to [5] z
     refine ⟨fun _=>hT,?_⟩
     have hS:=hS.p3
     refine .by1 6 z (.callS2 (L0:=[rowV (sv v78) 158 3 dExpr y6.Args,rowV (sv v85) 158 3 dExpr y8.Args]) hS Tryz.func196 (fun S h1 h2 h3=>(f03 hy9 h2 (zz h1))) z z ?_ z z z z) (by kernel_rfl)
     rintro v86 W hS
     have hT:=hS.to [4] z
     refine ⟨fun _=>hT,.by1 10 z (.appv hr1 (hS.to [5,3,0,0,0,0] z) T.u134 T.t160 z z z ?_ z z z z z) (by kernel_rfl)⟩
     intro v87 W hS
     have hT:=hS.to [4] z
     refine ⟨fun _=>hT,.ts 11 z (fun W hT=>bs T.s160 z z) hT z (by kernel_rfl) (.by1 13 z (.st T.t160 hS.p2 z z z ?_ z z z z z) (by kernel_rfl))⟩
     intro W hS
     refine ⟨fun h=>absurd z h,?_⟩
     refine .done ?_ (by kernel_rfl)
     have hS:=hS.nilv 160 8 dStmt
     exact ⟨z,g24,v86,v87,nilH,sb z,hS.to [4,1,2,1,0] z⟩
    refine (.alloc T.t160 hS ?_ z z z)
    intro g25 W hS
    have hT:=hS.to [3] z
    refine ⟨fun _=>hT,?_⟩
    have hS:=hS.p4
    refine .by1 3 z (.callS2 (L0:=[.box g_0 100 [(sv v_0_b),.int .i64 y2.2]]) hS Tryz.func36 (fun S h1 h2 h3=>(f00 hy7 (hS.keepS q_0_b h1) h2 (zz h1))) z z ?_ z z z z) (by kernel_rfl)
    rintro ⟨⟩ W hS
    have hT:=hS.to [4] z
    refine ⟨fun _=>hT,.tp 4 z z hT (by kernel_rfl) (.by1 5 z (.call1v hS Tryz.func197 (f04 hy8) z z ?_ z z z z) (by kernel_rfl))⟩
    intro v88 W hS
    have hT:=hS.to [5] z
    refine ⟨fun _=>hT,?_⟩
    have hS:=hS.p3
    refine .by1 6 z (.callS2 (L0:=[rowV (sv v78) 158 3 dExpr y6.Args,rowV (sv v88) 158 3 dExpr y8.Args]) hS Tryz.func196 (fun S h1 h2 h3=>(f03 hy9 h2 (zz h1))) z z ?_ z z z z) (by kernel_rfl)
    rintro v89 W hS
    have hT:=hS.to [4] z
    refine ⟨fun _=>hT,.by1 10 z (.appv hr1 (hS.to [5,3,0,0,0,0] z) T.u134 T.t160 z z z ?_ z z z z z) (by kernel_rfl)⟩
    intro v90 W hS
    have hT:=hS.to [4] z
    refine ⟨fun _=>hT,.ts 11 z (fun W hT=>bs T.s160 z z) hT z (by kernel_rfl) (.by1 13 z (.st T.t160 hS.p3 z z z ?_ z z z z z) (by kernel_rfl))⟩
    intro W hS
    refine ⟨fun h=>absurd z h,?_⟩
    refine .done ?_ (by kernel_rfl)
    have hS:=hS.nilv 160 8 dStmt
    exact ⟨z,g25,v89,v90,nilH,sb z,hS.to [4,1,2,1,0] z⟩
   refine (.alloc T.t160 hS ?_ z z z)
   intro g26 W hS
   have hT:=hS.to [2] z
   refine ⟨fun _=>hT,.by1 1 z (.call1v hS Tryz.func197 (f04 hy6) z z ?_ z z z z) (by kernel_rfl)⟩
   intro v91 W hS
   have hT:=hS.to [3] z
   refine ⟨fun _=>hT,?_⟩
   have hS:=hS.p4
   refine .by1 3 z (.callS2 (L0:=[.box g_0 100 [(sv v_0_b),.int .i64 y2.2]]) hS Tryz.func36 (fun S h1 h2 h3=>(f00 hy7 (hS.keepS q_0_b h1) h2 (zz h1))) z z ?_ z z z z) (by kernel_rfl)
   rintro ⟨⟩ W hS
   have hT:=hS.to [4] z
   refine ⟨fun _=>hT,.tp 4 z z hT (by kernel_rfl) (.by1 5 z (.call1v hS Tryz.func197 (f04 hy8) z z ?_ z z z z) (by kernel_rfl))⟩
   intro v92 W hS
   have hT:=hS.to [5] z
   refine ⟨fun _=>hT,?_⟩
   have hS:=hS.p2
   refine .by1 6 z (.callS2 (L0:=[rowV (sv v91) 158 3 dExpr y6.Args,rowV (sv v92) 158 3 dExpr y8.Args]) hS Tryz.func196 (fun S h1 h2 h3=>(f03 hy9 h2 (zz h1))) z z ?_ z z z z) (by kernel_rfl)
   rintro v93 W hS
   have hT:=hS.to [4] z
   refine ⟨fun _=>hT,.by1 10 z (.appv hr1 (hS.to [5,3,0,0,0,0] z) T.u134 T.t160 z z z ?_ z z z z z) (by kernel_rfl)⟩
   intro v94 W hS
   have hT:=hS.to [4] z
   refine ⟨fun _=>hT,.ts 11 z (fun W hT=>bs T.s160 z z) hT z (by kernel_rfl) (.by1 13 z (.st T.t160 hS.p3 z z z ?_ z z z z z) (by kernel_rfl))⟩
   intro W hS
   refine ⟨fun h=>absurd z h,?_⟩
   refine .done ?_ (by kernel_rfl)
   have hS:=hS.nilv 160 8 dStmt
   exact ⟨z,g26,v93,v94,nilH,sb z,hS.to [4,1,2,1,0] z⟩
  refine (.alloc T.t160 hS ?_ z z z)
  intro g27 W hS
  have hT:=hS.to [1] z
  refine ⟨fun _=>hT,.by [1,9] ⟨⟨_,z,?_⟩,⟨_,z,?_⟩,trivial⟩ (by kernel_rfl) z⟩
  ·refine (.call1v hS Tryz.func197 (f04 hy6) z z ?_ z z z z)
   intro v95 W hS
   have hT:=hS.to [2] z
   refine ⟨fun _=>hT,.by [3,9] ⟨⟨_,z,?_⟩,⟨_,z,?_⟩,trivial⟩ (by kernel_rfl) z⟩
   ·have hS:=hS.p4
    refine (.callS2 (L0:=[.box g_0 100 [(sv v_0_b),.int .i64 y2.2]]) hS Tryz.func36 (fun S h1 h2 h3=>(f00 hy7 (hS.keepS q_0_b h1) h2 (zz h1))) z z ?_ z z z z)
    rintro ⟨⟩ W hS
    have hT:=hS.to [3] z
    refine ⟨fun _=>hT,.tp 4 z z hT (by kernel_rfl) (.by [5,9] ⟨⟨_,z,?_⟩,⟨_,z,?_⟩,trivial⟩ (by kernel_rfl) z)⟩
    ·refine (.call1v hS Tryz.func197 (f04 hy8) z z ?_ z z z z)
     intro v96 W hS
     have hT:=hS.to [4] z
     refine ⟨fun _=>hT,.by [6,9] ⟨⟨_,z,?_⟩,⟨_,z,?_⟩,trivial⟩ (by kernel_rfl) z⟩
     ·have hS:=hS.p2
      refine (.callS2 (L0:=[rowV (sv v95) 158 3 dExpr y6.Args,rowV (sv v96) 158 3 dExpr y8.Args]) hS Tryz.func196 (fun S h1 h2 h3=>(f03 hy9 h2 (zz h1))) z z ?_ z z z z)
      rintro v97 W hS
      have hT:=hS.to [3] z
      refine ⟨fun _=>hT,?_⟩
      have hS:=hS.nilv 160 8 dStmt
      have hS:=hS.nilv 160 8 dStmt
      refine .by1 9 z (.ligv (L1:=[rowV (sv v4) 158 3 dExpr y5.Args,rowV (sv nilH) 160 8 dStmt [],rowV (sv nilH) 160 8 dStmt []]) [(Stmt.mk 1 3 0 (Expr.mk y5.Op y5.N y5.Args) [] [])] dStmt T.u134 T.t160 (hS.to [6,1,0,0,0,0,0,0] z) z z z (.aggE (eStmt _) (.flat (c1:=[.int .i64 1]) z (.flat (c1:=[.int .i64 3]) z (.flat (c1:=[.int .i64 0]) z (.aggE (eExpr _) (.flat (c1:=[.int .i64 y5.Op]) z (.flat (c1:=[.int .i64 y5.N]) z (.row (.row (.row .nil)))))))))) ?_ z zStmt z z z z z) (by kernel_rfl)
      intro v98 W hS
      have hT:=hS.to [4] z
      refine ⟨fun _=>hT,.by1 10 z (.appv hr1 (hS.to [5,0,0,0,0,0] z) T.u134 T.t160 z z z ?_ z z z z z) (by kernel_rfl)⟩
      intro v99 W hS
      have hT:=hS.to [4] z
      refine ⟨fun _=>hT,.ts 11 z (fun W hT=>bs T.s160 z z) hT z (by kernel_rfl) (.by1 13 z (.st T.t160 hS.p3 z z z ?_ z z z z z) (by kernel_rfl))⟩
      intro W hS
      refine ⟨fun h=>absurd z h,?_⟩
      refine .done ?_ (by kernel_rfl)
      have hS:=hS.nilv 160 8 dStmt
      exact ⟨z,g27,v97,v99,nilH,sb z,hS.to [4,1,2,1,0] z⟩
     have hS:=hS.nilv 160 8 dStmt
     have hS:=hS.nilv 160 8 dStmt
     refine (.ligv (L1:=[rowV (sv v4) 158 3 dExpr y5.Args,rowV (sv nilH) 160 8 dStmt [],rowV (sv nilH) 160 8 dStmt []]) [(Stmt.mk 1 3 0 (Expr.mk y5.Op y5.N y5.Args) [] [])] dStmt T.u134 T.t160 (hS.to [7,1,0,0,0,0,0,0,0] z) z z z (.aggE (eStmt _) (.flat (c1:=[.int .i64 1]) z (.flat (c1:=[.int .i64 3]) z (.flat (c1:=[.int .i64 0]) z (.aggE (eExpr _) (.flat (c1:=[.int .i64 y5.Op]) z (.flat (c1:=[.int .i64 y5.N]) z (.row (.row (.row .nil)))))))))) ?_ z zStmt z z z z z)
     intro v100 W hS
     have hT:=hS.to [5] z
     refine ⟨fun _=>hT,?_⟩
     have hS:=hS.p1
     have hS:=hS.p3
     refine .by1 6 z (.callS2 (L0:=[rowV (sv v95) 158 3 dExpr y6.Args,rowV (sv v96) 158 3 dExpr y8.Args]) hS Tryz.func196 (fun S h1 h2 h3=>(f03 hy9 h2 (zz h1))) z z ?_ z z z z) (by kernel_rfl)
     rintro v101 W hS
     have hT:=hS.to [4] z
     refine ⟨fun _=>hT,.by1 10 z (.appv hr1 (hS.to [5,1,0,0,0,0] z) T.u134 T.t160 z z z ?_ z z z z z) (by kernel_rfl)⟩
     intro v102 W hS
     have hT:=hS.to [4] z
     refine ⟨fun _=>hT,.ts 11 z (fun W hT=>bs T.s160 z z) hT z (by kernel_rfl) (.by1 13 z (.st T.t160 hS.p3 z z z ?_ z z z z z) (by kernel_rfl))⟩
     intro W hS
     refine ⟨fun h=>absurd z h,?_⟩
     refine .done ?_ (by kernel_rfl)
     have hS:=hS.nilv 160 8 dStmt
     exact ⟨z,g27,v101,v102,nilH,sb z,hS.to [4,1,2,1,0] z⟩
    have hS:=hS.nilv 160 8 dStmt
    have hS:=hS.nilv 160 8 dStmt
    refine (.ligv (L1:=[rowV (sv v4) 158 3 dExpr y5.Args,rowV (sv nilH) 160 8 dStmt [],rowV (sv nilH) 160 8 dStmt []]) [(Stmt.mk 1 3 0 (Expr.mk y5.Op y5.N y5.Args) [] [])] dStmt T.u134 T.t160 (hS.to [6,1,0,0,0,0,0,0] z) z z z (.aggE (eStmt _) (.flat (c1:=[.int .i64 1]) z (.flat (c1:=[.int .i64 3]) z (.flat (c1:=[.int .i64 0]) z (.aggE (eExpr _) (.flat (c1:=[.int .i64 y5.Op]) z (.flat (c1:=[.int .i64 y5.N]) z (.row (.row (.row .nil)))))))))) ?_ z zStmt z z z z z)
    intro v103 W hS
    have hT:=hS.to [4] z
    refine ⟨fun _=>hT,.by1 5 z (.call1v hS Tryz.func197 (f04 hy8) z z ?_ z z z z) (by kernel_rfl)⟩
    intro v104 W hS
    have hT:=hS.to [5] z
    refine ⟨fun _=>hT,?_⟩
    have hS:=hS.p3
    refine .by1 6 z (.callS2 (L0:=[rowV (sv v95) 158 3 dExpr y6.Args,rowV (sv v104) 158 3 dExpr y8.Args]) hS Tryz.func196 (fun S h1 h2 h3=>(f03 hy9 h2 (zz h1))) z z ?_ z z z z) (by kernel_rfl)
    rintro v105 W hS
    have hT:=hS.to [4] z
    refine ⟨fun _=>hT,.by1 10 z (.appv hr1 (hS.to [5,1,0,0,0,0] z) T.u134 T.t160 z z z ?_ z z z z z) (by kernel_rfl)⟩
    intro v106 W hS
    have hT:=hS.to [4] z
    refine ⟨fun _=>hT,.ts 11 z (fun W hT=>bs T.s160 z z) hT z (by kernel_rfl) (.by1 13 z (.st T.t160 hS.p3 z z z ?_ z z z z z) (by kernel_rfl))⟩
    intro W hS
    refine ⟨fun h=>absurd z h,?_⟩
    refine .done ?_ (by kernel_rfl)
    have hS:=hS.nilv 160 8 dStmt
    exact ⟨z,g27,v105,v106,nilH,sb z,hS.to [4,1,2,1,0] z⟩
   have hS:=hS.nilv 160 8 dStmt
   have hS:=hS.nilv 160 8 dStmt
   refine (.ligv (L1:=[rowV (sv v4) 158 3 dExpr y5.Args,rowV (sv nilH) 160 8 dStmt [],rowV (sv nilH) 160 8 dStmt []]) [(Stmt.mk 1 3 0 (Expr.mk y5.Op y5.N y5.Args) [] [])] dStmt T.u134 T.t160 (hS.to [5,1,0,0,0,0,0,0] z) z z z (.aggE (eStmt _) (.flat (c1:=[.int .i64 1]) z (.flat (c1:=[.int .i64 3]) z (.flat (c1:=[.int .i64 0]) z (.aggE (eExpr _) (.flat (c1:=[.int .i64 y5.Op]) z (.flat (c1:=[.int .i64 y5.N]) z (.row (.row (.row .nil)))))))))) ?_ z zStmt z z z z z)
   intro v107 W hS
   have hT:=hS.to [3] z
   refine ⟨fun _=>hT,?_⟩
   have hS:=hS.p4
   refine .by1 3 z (.callS2 (L0:=[.box g_0 100 [(sv v_0_b),.int .i64 y2.2]]) hS Tryz.func36 (fun S h1 h2 h3=>(f00 hy7 (hS.keepS q_0_b h1) h2 (zz h1))) z z ?_ z z z z) (by kernel_rfl)
   rintro ⟨⟩ W hS
   have hT:=hS.to [4] z
   refine ⟨fun _=>hT,.tp 4 z z hT (by kernel_rfl) (.by1 5 z (.call1v hS Tryz.func197 (f04 hy8) z z ?_ z z z z) (by kernel_rfl))⟩
   intro v108 W hS
   have hT:=hS.to [5] z
   refine ⟨fun _=>hT,?_⟩
   have hS:=hS.p3
   refine .by1 6 z (.callS2 (L0:=[rowV (sv v95) 158 3 dExpr y6.Args,rowV (sv v108) 158 3 dExpr y8.Args]) hS Tryz.func196 (fun S h1 h2 h3=>(f03 hy9 h2 (zz h1))) z z ?_ z z z z) (by kernel_rfl)
   rintro v109 W hS
   have hT:=hS.to [4] z
   refine ⟨fun _=>hT,.by1 10 z (.appv hr1 (hS.to [5,2,0,0,0,0] z) T.u134 T.t160 z z z ?_ z z z z z) (by kernel_rfl)⟩
   intro v110 W hS
   have hT:=hS.to [4] z
   refine ⟨fun _=>hT,.ts 11 z (fun W hT=>bs T.s160 z z) hT z (by kernel_rfl) (.by1 13 z (.st T.t160 hS.p3 z z z ?_ z z z z z) (by kernel_rfl))⟩
   intro W hS
   refine ⟨fun h=>absurd z h,?_⟩
   refine .done ?_ (by kernel_rfl)
   have hS:=hS.nilv 160 8 dStmt
   exact ⟨z,g27,v109,v110,nilH,sb z,hS.to [4,1,2,1,0] z⟩
  have hS:=hS.nilv 160 8 dStmt
  have hS:=hS.nilv 160 8 dStmt
  refine (.ligv (L1:=[rowV (sv v4) 158 3 dExpr y5.Args,rowV (sv nilH) 160 8 dStmt [],rowV (sv nilH) 160 8 dStmt []]) [(Stmt.mk 1 3 0 (Expr.mk y5.Op y5.N y5.Args) [] [])] dStmt T.u134 T.t160 (hS.to [4,1,0,0,0,0,0] z) z z z (.aggE (eStmt _) (.flat (c1:=[.int .i64 1]) z (.flat (c1:=[.int .i64 3]) z (.flat (c1:=[.int .i64 0]) z (.aggE (eExpr _) (.flat (c1:=[.int .i64 y5.Op]) z (.flat (c1:=[.int .i64 y5.N]) z (.row (.row (.row .nil)))))))))) ?_ z zStmt z z z z z)
  intro v111 W hS
  have hT:=hS.to [2] z
  refine ⟨fun _=>hT,.by1 1 z (.call1v hS Tryz.func197 (f04 hy6) z z ?_ z z z z) (by kernel_rfl)⟩
  intro v112 W hS
  have hT:=hS.to [3] z
  refine ⟨fun _=>hT,?_⟩
  have hS:=hS.p4
  refine .by1 3 z (.callS2 (L0:=[.box g_0 100 [(sv v_0_b),.int .i64 y2.2]]) hS Tryz.func36 (fun S h1 h2 h3=>(f00 hy7 (hS.keepS q_0_b h1) h2 (zz h1))) z z ?_ z z z z) (by kernel_rfl)
  rintro ⟨⟩ W hS
  have hT:=hS.to [4] z
  refine ⟨fun _=>hT,.tp 4 z z hT (by kernel_rfl) (.by1 5 z (.call1v hS Tryz.func197 (f04 hy8) z z ?_ z z z z) (by kernel_rfl))⟩
  intro v113 W hS
  have hT:=hS.to [5] z
  refine ⟨fun _=>hT,?_⟩
  have hS:=hS.p2
  refine .by1 6 z (.callS2 (L0:=[rowV (sv v112) 158 3 dExpr y6.Args,rowV (sv v113) 158 3 dExpr y8.Args]) hS Tryz.func196 (fun S h1 h2 h3=>(f03 hy9 h2 (zz h1))) z z ?_ z z z z) (by kernel_rfl)
  rintro v114 W hS
  have hT:=hS.to [4] z
  refine ⟨fun _=>hT,.by1 10 z (.appv hr1 (hS.to [5,2,0,0,0,0] z) T.u134 T.t160 z z z ?_ z z z z z) (by kernel_rfl)⟩
  intro v115 W hS
  have hT:=hS.to [4] z
  refine ⟨fun _=>hT,.ts 11 z (fun W hT=>bs T.s160 z z) hT z (by kernel_rfl) (.by1 13 z (.st T.t160 hS.p3 z z z ?_ z z z z z) (by kernel_rfl))⟩
  intro W hS
  refine ⟨fun h=>absurd z h,?_⟩
  refine .done ?_ (by kernel_rfl)
  have hS:=hS.nilv 160 8 dStmt
  exact ⟨z,g27,v114,v115,nilH,sb z,hS.to [4,1,2,1,0] z⟩
 intro x E W hJ
 obtain ⟨rfl,g28,v116,v117,v118,hE,hS⟩:=hJ
 refine ⟨_,hE.sub,?_⟩
 refine .seq (.rk 6 hS [0,0] T.mix ?_)
 intro W hS
 have hT:=hS.to [0,0] z
 refine .tp 0 z z hT (by kernel_rfl) (.ts 3 z (fun W hT=>ld T.t160 hT.p1 z z z z z) hT z (by kernel_rfl) ?_)
 have ⟨y10,hy10,h⟩:=bnd h
 refine .by1 1 z (.call1v hS Tryz.func197 (f04 hy10) z z ?_ z z z z) (by kernel_rfl)
 intro v119 W hS
 have hT:=hS.to [1,1] z
 refine ⟨fun _=>hT,.ts 2 z (fun W hT=>bs T.s160 z z) hT z (by kernel_rfl) ?_⟩
 have hS:=hS.nilv 160 8 dStmt
 have hS:=hS.nilv 160 8 dStmt
 refine .by1 4 z (.ligv (L1:=[rowV (sv v119) 158 3 dExpr y10.Args,rowV (sv nilH) 160 8 dStmt [],rowV (sv nilH) 160 8 dStmt [],rowV (sv v116) 158 3 dExpr y9.Args,rowV (sv v117) 160 8 dStmt r1,rowV (sv v118) 160 8 dStmt []]) [(Stmt.mk 1 3 0 (Expr.mk y10.Op y10.N y10.Args) [] []),(Stmt.mk 3 0 0 (Expr.mk y9.Op y9.N y9.Args) r1 [])] dStmt T.u134 T.t160 (hS.to [2,1,0,2,2,2,0,0] z) z z z (.aggE (eStmt _) (.flat (c1:=[.int .i64 1]) z (.flat (c1:=[.int .i64 3]) z (.flat (c1:=[.int .i64 0]) z (.aggE (eExpr _) (.flat (c1:=[.int .i64 y10.Op]) z (.flat (c1:=[.int .i64 y10.N]) z (.row (.row (.row (.aggE (eStmt _) (.flat (c1:=[.int .i64 3]) z (.flat (c1:=[.int .i64 0]) z (.flat (c1:=[.int .i64 0]) z (.aggE (eExpr _) (.flat (c1:=[.int .i64 y9.Op]) z (.flat (c1:=[.int .i64 y9.N]) z (.row (.row (.row .nil)))))))))))))))))))) ?_ z zStmt z z z z z) (by kernel_rfl)
 intro v120 W hS
 have hT:=hS.to [1,1] z
 refine ⟨fun _=>hT,?_⟩
 cases h
 exact .tp 5 z z hT (by kernel_rfl) (.done (.ret (fin_ret (vs:=[_]) v120 (rt z rn) z (hS.to [1,0] z))) (by kernel_rfl))
theorem fb9 (k : Nat) : f2e (f21 k) ∧ f3v (f50 k) ∧ f5l (f94 k) ∧ f3z (f78 k):=by
  induction k with
  | zero=>exact ⟨by intro a0 a1 a2 a3 a4 v_0_b g_0 S w r h q_0_b hO hlt; exact no h,by intro a0 a1 a2 a3 v_0_b g_0 S w r h q_0_b hO hlt; exact no h,by intro a0 a1 a2 a3 v_0_b g_0 S w r h q_0_b hO hlt; exact no h,by intro a0 a1 a2 v_0_b g_0 S w r h q_0_b hO hlt; exact no h⟩
  | succ k ih=>exact ⟨fd7 (k:=k) ih.1 ih.2.1 ih.2.2.1 ih.2.2.2,fea (k:=k) ih.1 ih.2.1 ih.2.2.1 ih.2.2.2,fel (k:=k) ih.1 ih.2.1 ih.2.2.1 ih.2.2.2,fe4 (k:=k) ih.1 ih.2.1 ih.2.2.1 ih.2.2.2⟩
theorem fct {k : Nat} : f2e (f21 k):=(fb9 k).1
theorem fcy {k : Nat} {a0 : L6Rd} {a1 : Int} {v_0_b : Hd} {g_0 : Nat} {S : Nat → Prop} {w : World} {r : (List Stmt) × Int} (h : f64 k a0 a1 = some r) (q_0_b : RV w (Old S w) (sv v_0_b) 5 1 (D.int .u8) a0.b) (hO : Owns w [.box g_0 100 [(sv v_0_b),.int .i64 a0.p]] S) (hlt : ∀ b,S b → b < w.heap.size) : Calls Tryz.prog 121 #[.pointer (some ⟨g_0,0,none⟩),.int .i64 a1] w (Ret S w (fun s : Hd=>(sv s)) (fun s=>[.box g_0 100 [(sv v_0_b),.int .i64 r.2],rowV (sv s) 160 8 dStmt r.1])):=by
 unfold f64 at h
 refine enter Tryz.func121 z z ?_
 have hS:=Sep.startM hO hlt
 refine .g (.qn z (.g (.q z (.q z (.q z ?_)))))
 have ⟨y1,hy1,h⟩:=bnd h
 refine .c (.callS2 (L0:=[.box g_0 100 [(sv v_0_b),.int .i64 a0.p]]) hS Tryz.func36 (fun S h1 h2 h3=>(f00 hy1 (hS.keepS q_0_b h1) h2 (zz h1))) z z ?_ z z z z)
 rintro ⟨⟩ W hS
 refine .q z ?_
 have ⟨y2,hy2,h⟩:=bnd h
 refine .c (.callS2 (L0:=[.box g_0 100 [(sv v_0_b),.int .i64 y1.2]]) hS Tryz.func149 (fun S h1 h2 h3=>(fct hy2 (hS.keepS q_0_b h1) h2 (zz h1))) z z ?_ z z z z)
 rintro v1 W hS
 refine .qn z (.seq (.block ?_))
 have ⟨y3,hy3,h⟩:=bnd h
 refine .via (.iter (fun s1 E' W'=>∃ (v4 : Hd),SubL E' [(5,(sv v4))] ∧ Sep S w W' [.box g_0 100 [(sv v_0_b),.int .i64 y2.2],rowV (sv v4) 160 8 dStmt s1]) (fun y4 x E' W'=>x = .exit 0 ∧ ∃ (v5 : Hd),SubL E' [(5,(sv v5))] ∧ Sep S w W' [.box g_0 100 [(sv v_0_b),.int .i64 y2.2],rowV (sv v5) 160 8 dStmt y4]) hy3 ⟨v1,sb z,hS.to [0,0] z⟩ ?_) ?_
 ·intro s1 y5 E W h hI
  obtain ⟨v3,hE,hS⟩:=hI
  refine CW.sub hE ?_
  unfold f8n at h
  refine .seq (.g (.q z ?_))
  have ⟨y6,hy6,h⟩:=bnd h
  refine .c (.call0 hS Tryz.func150 (fai hy6 hS.p1.lendv) z z ?_ z z z z)
  intro W hS
  refine .q z (.nil ?_)
  refine .cs z h ?_ ?_ <;> intro h
  ·refine .skip (.block (.region (.q z (.q z (.s (lenv hS.p1.lendv T.u134 z z) z (.q z ?_))))))
   have ⟨r1,hr1,h⟩:=bnd h
   refine .c (.cuto hr1 hS.p1 T.u134 T.t160 z z z z ?_ z z)
   intro v6 hS
   refine .q z (.nil ?_)
   cases h
   exact ⟨z,v6,sb z,hS.to [1,0] z⟩
  refine .exit ?_
  cases h
  exact ⟨by simp,z,v3,sb z,hS.to [0,0] z⟩
 intro x E W hJ
 obtain ⟨rfl,v7,hE,hS⟩:=hJ
 refine ⟨_,hE.sub,?_⟩
 cases h
 exact .g (.q z (.qn z (.ret (fin_ret (vs:=[_]) v7 (rt z rn) z (hS.to [0,0] z)))))
theorem f4w {a0 : Int} {w : World} {r : Bool} (h : f19 a0 = some r) : Calls Tryz.prog 94 #[.int .i64 a0] w (Ret No w (fun s : Unit=>.bool r) (fun s=>[])):=by
 unfold f19 at h
 refine enter Tryz.func94 z z ?_
 have hS:=Sep.start w
 refine .g (.qn z (.g (.q z ?_)))
 have ⟨y1,hy1,h⟩:=bnd h
 refine .c (.call0 hS Tryz.func48 (f08 hy1) z z ?_ z z z z)
 intro W hS
 obtain rfl:=Option.some.inj h
 exact .qn z (.ret (fin_ret (vs:=[_]) () (rt z rn) z (hS.to [] z)))
theorem f9r {a0 : Int} {a1 : Bool} {w : World} {r : Bool} (h : f4u a0 a1 = some r) : Calls Tryz.prog 199 #[.int .i64 a0,.bool a1] w (Ret No w (fun s : Unit=>.bool r) (fun s=>[])):=by
 unfold f4u at h
 refine enter Tryz.func199 z z ?_
 have hS:=Sep.start w
 refine .g (.qn z (.seq (.g (.q z (.nil ?_)))))
 refine .cs z h ?_ ?_ <;> intro h
 ·refine .g (.q z ?_)
  have ⟨y1,hy1,h⟩:=bnd h
  refine .c (.call0 hS Tryz.func48 (f08 hy1) z z ?_ z z z z)
  intro W hS
  obtain rfl:=Option.some.inj h
  exact .qn z (.ret (fin_ret (vs:=[_]) () (rt z rn) z (hS.to [] z)))
 cases h
 exact .skip (.g (.q z (.q z (.qn z (.ret (fin_ret (vs:=[_]) () (rt z rn) z (hS.to [] z)))))))
theorem f1n {a0 : Quad} {a1 : Bool} {a2 : Bool} {a3 : Bool} {w : World} {r : Bool} (h : f1a a0 a1 a2 a3 = some r) : Calls Tryz.prog 180 #[.agg #[.int .i64 a0.Op,.int .i64 a0.Dst,.int .i64 a0.A,.int .i64 a0.B,.int .i64 a0.N],.bool a1,.bool a2,.bool a3] w (Ret No w (fun s : Unit=>.bool r) (fun s=>[])):=by
 unfold f1a at h
 refine enter Tryz.func180 z z ?_
 have hS:=Sep.start w
 refine .g (.c (.box hS z z ?_ z z))
 intro g1 W hS
 refine .qn z (.g (.s (fa T.f126_1 z z z) z (.s (ld T.t3 hS z z z z z) z (.q z ?_))))
 have ⟨y1,hy1,h⟩:=bnd h
 refine .c (.call0 hS Tryz.func199 (f9r hy1) z z ?_ z z z z)
 intro W hS
 refine .q z ?_
 have ⟨b1,hb1,h⟩:=bnd h
 refine .chunk 5 18 (b1) hS ?_ ?_
 ·refine .both (y1) (fun hb=>?_) (fun hb=>?_)
  ·have hg1:=hb
   have h:=sel_t hb hb1
   refine .g hg1 (.s (fa T.f126_2 z z z) z (.g hg1 (.s (ld T.t3 hS z z z z z) z (.g hg1 (.q z ?_) z)) z)) z
   have ⟨y2,hy2,h⟩:=bnd h
   refine .g hg1 (.c (.call0 hS Tryz.func199 (f9r hy2) z z ?_ z z z z)) z
   intro W hS
   refine .s (pkt hg1 z z z) z ?_
   cases h
   exact .nil (ck 5 hS z z z z)
  refine .xx hb z (.xx hb z (.xx hb z (.xx hb z ?_)))
  cases sel_f hb hb1
  exact .s (pkf hb z z z) z (.nil (ck 5 hS z z z z))
 intro W hS
 refine .q z ?_
 have ⟨b2,hb2,h⟩:=bnd h
 refine .chunk 5 24 (b2) hS ?_ ?_
 ·refine .both (b1) (fun hb=>?_) (fun hb=>?_)
  ·have hg2:=hb
   have h:=sel_t hb hb2
   refine .g hg2 (.s (fa T.f126_3 z z z) z (.g hg2 (.s (ld T.t3 hS z z z z z) z (.g hg2 (.q z ?_) z)) z)) z
   have ⟨y3,hy3,h⟩:=bnd h
   refine .g hg2 (.c (.call0 hS Tryz.func199 (f9r hy3) z z ?_ z z z z)) z
   intro W hS
   refine .s (pkt hg2 z z z) z ?_
   cases h
   exact .nil (ck 5 hS z z z z)
  refine .xx hb z (.xx hb z (.xx hb z (.xx hb z ?_)))
  cases sel_f hb hb2
  exact .s (pkf hb z z z) z (.nil (ck 5 hS z z z z))
 intro W hS
 obtain rfl:=Option.some.inj h
 exact .qn z (.ret (fin_ret (vs:=[_]) () (rt z rn) z (hS.to [] z)))
theorem f7v {a0 : Quad} {a1 : Int} {w : World} {r : Bool} (h : f2s a0 a1 = some r) : Calls Tryz.prog 165 #[.agg #[.int .i64 a0.Op,.int .i64 a0.Dst,.int .i64 a0.A,.int .i64 a0.B,.int .i64 a0.N],.int .i64 a1] w (Ret No w (fun s : Unit=>.bool r) (fun s=>[])):=by
 unfold f2s at h
 refine enter Tryz.func165 z z ?_
 have hS:=Sep.start w
 refine .g (.c (.box hS z z ?_ z z))
 intro g1 W hS
 refine .qn z (.seq (.g (.s (fa T.f126_0 z z z) z (.s (ld T.t3 hS z z z z z) z (.nil (.block (.g (.q z (.q z (.nil ?_))))))))))
 refine .cs z h ?_ ?_ <;> intro h
 ·refine .g (.s (ld T.t126 hS z z z z z) z ?_)
  have ⟨y1,hy1,h⟩:=bnd h
  refine .c (.call0 hS Tryz.func180 (f1n hy1) z z ?_ z z z z)
  intro W hS
  refine .q z ?_
  have ⟨b1,hb1,h⟩:=bnd h
  refine .chunk 4 15 (b1) hS ?_ ?_
  ·refine .both (y1) (fun hb=>?_) (fun hb=>?_)
   ·have hg1:=hb
    have h:=sel_t hb hb1
    refine .g hg1 (.s (fa T.f126_4 z z z) z (.g hg1 (.s (ld T.t3 hS z z z z z) z ?_) z)) z
    have ⟨y2,hy2,h⟩:=bnd h
    refine .g hg1 (.c (.call0 hS Tryz.func94 (f4w hy2) z z ?_ z z z z)) z
    intro W hS
    refine .s (pkt hg1 z z z) z ?_
    cases h
    exact .nil (ck 4 hS z z z z)
   refine .xx hb z (.xx hb z (.xx hb z ?_))
   cases sel_f hb hb1
   exact .s (pkf hb z z z) z (.nil (ck 4 hS z z z z))
  intro W hS
  obtain rfl:=Option.some.inj h
  exact .qn z (.ret (fin_ret (vs:=[_]) () (rt z rn) z (hS.to [] z)))
 refine .g (.q z (.q z (.nil ?_)))
 refine .cs z h ?_ ?_ <;> intro h
 ·refine .g (.s (ld T.t126 hS z z z z z) z ?_)
  have ⟨y3,hy3,h⟩:=bnd h
  refine .c (.call0 hS Tryz.func180 (f1n hy3) z z ?_ z z z z)
  intro W hS
  refine .q z (.chunk 4 24 (y3 && (a0.N == 0)) hS ?_ ?_)
  ·refine .both (y3) (fun hb=>?_) (fun hb=>?_)
   ·have hg2:=hb
    exact .g hg2 (.s (fa T.f126_4 z z z) z (.g hg2 (.s (ld T.t3 hS z z z z z) z (.g hg2 (.q z (.s (pkt hg2 z z z) z (.nil (ck 4 hS z (and_t hg2) z z)))) z)) z)) z
   exact .xx hb z (.xx hb z (.xx hb z (.s (pkf hb z z z) z (.nil (ck 4 hS z (and_f hb) z z)))))
  intro W hS
  cases h
  exact .qn z (.ret (fin_ret (vs:=[_]) () (rt z rn) z (hS.to [] z)))
 refine .g (.q z (.q z (.nil ?_)))
 refine .cs z h ?_ ?_ <;> intro h
 ·refine .g (.s (ld T.t126 hS z z z z z) z ?_)
  have ⟨y4,hy4,h⟩:=bnd h
  refine .c (.call0 hS Tryz.func180 (f1n hy4) z z ?_ z z z z)
  intro W hS
  refine .q z ?_
  have ⟨b2,hb2,h⟩:=bnd h
  refine .chunk 4 33 (b2) hS ?_ ?_
  ·refine .both (y4) (fun hb=>?_) (fun hb=>?_)
   ·have hg3:=hb
    have h:=sel_t hb hb2
    refine .g hg3 (.s (fa T.f126_4 z z z) z (.g hg3 (.s (ld T.t3 hS z z z z z) z ?_) z)) z
    have ⟨y5,hy5,h⟩:=bnd h
    refine .g hg3 (.c (.call0 hS Tryz.func155 (f95 hy5) z z ?_ z z z z)) z
    intro W hS
    refine .s (pkt hg3 z z z) z ?_
    cases h
    exact .nil (ck 4 hS z z z z)
   refine .xx hb z (.xx hb z (.xx hb z ?_))
   cases sel_f hb hb2
   exact .s (pkf hb z z z) z (.nil (ck 4 hS z z z z))
  intro W hS
  obtain rfl:=Option.some.inj h
  exact .qn z (.ret (fin_ret (vs:=[_]) () (rt z rn) z (hS.to [] z)))
 refine .g (.q z (.q z (.nil ?_)))
 refine .cs z h ?_ ?_ <;> intro h
 ·refine .g (.s (ld T.t126 hS z z z z z) z ?_)
  have ⟨y6,hy6,h⟩:=bnd h
  refine .c (.call0 hS Tryz.func180 (f1n hy6) z z ?_ z z z z)
  intro W hS
  refine .q z (.chunk 4 42 (y6 && (decide (a0.N ≥ 0))) hS ?_ ?_)
  ·refine .both (y6) (fun hb=>?_) (fun hb=>?_)
   ·have hg4:=hb
    exact .g hg4 (.s (fa T.f126_4 z z z) z (.g hg4 (.s (ld T.t3 hS z z z z z) z (.g hg4 (.q z (.s (pkt hg4 z z z) z (.nil (ck 4 hS z (and_t hg4) z z)))) z)) z)) z
   exact .xx hb z (.xx hb z (.xx hb z (.s (pkf hb z z z) z (.nil (ck 4 hS z (and_f hb) z z)))))
  intro W hS
  refine .q z (.chunk 5 48 ((y6 && (decide (a0.N ≥ 0))) && (decide (a0.N < a1))) hS ?_ ?_)
  ·refine .both (y6 && (decide (a0.N ≥ 0))) (fun hb=>?_) (fun hb=>?_)
   ·have hg5:=hb
    exact .g hg5 (.s (fa T.f126_4 z z z) z (.g hg5 (.s (ld T.t3 hS z z z z z) z (.g hg5 (.q z (.g hg5 (.q z (.s (pkt hg5 z z z) z (.nil (ck 5 hS z (and_t hg5) z z)))) z)) z)) z)) z
   exact .xx hb z (.xx hb z (.xx hb z (.xx hb z (.s (pkf hb z z z) z (.nil (ck 5 hS z (and_f hb) z z))))))
  intro W hS
  cases h
  exact .qn z (.ret (fin_ret (vs:=[_]) () (rt z rn) z (hS.to [] z)))
 refine .g (.q z (.q z (.nil ?_)))
 refine .cs z h ?_ ?_ <;> intro h
 ·refine .g (.s (ld T.t126 hS z z z z z) z ?_)
  have ⟨y7,hy7,h⟩:=bnd h
  refine .c (.call0 hS Tryz.func180 (f1n hy7) z z ?_ z z z z)
  intro W hS
  refine .q z (.chunk 4 57 (y7 && (decide (a0.N ≥ 0))) hS ?_ ?_)
  ·refine .both (y7) (fun hb=>?_) (fun hb=>?_)
   ·have hg6:=hb
    exact .g hg6 (.s (fa T.f126_4 z z z) z (.g hg6 (.s (ld T.t3 hS z z z z z) z (.g hg6 (.q z (.s (pkt hg6 z z z) z (.nil (ck 4 hS z (and_t hg6) z z)))) z)) z)) z
   exact .xx hb z (.xx hb z (.xx hb z (.s (pkf hb z z z) z (.nil (ck 4 hS z (and_f hb) z z)))))
  intro W hS
  refine .q z (.chunk 5 63 ((y7 && (decide (a0.N ≥ 0))) && (decide (a0.N < a1))) hS ?_ ?_)
  ·refine .both (y7 && (decide (a0.N ≥ 0))) (fun hb=>?_) (fun hb=>?_)
   ·have hg7:=hb
    exact .g hg7 (.s (fa T.f126_4 z z z) z (.g hg7 (.s (ld T.t3 hS z z z z z) z (.g hg7 (.q z (.g hg7 (.q z (.s (pkt hg7 z z z) z (.nil (ck 5 hS z (and_t hg7) z z)))) z)) z)) z)) z
   exact .xx hb z (.xx hb z (.xx hb z (.xx hb z (.s (pkf hb z z z) z (.nil (ck 5 hS z (and_f hb) z z))))))
  intro W hS
  cases h
  exact .qn z (.ret (fin_ret (vs:=[_]) () (rt z rn) z (hS.to [] z)))
 refine .g (.q z (.q z (.nil ?_)))
 refine .cs z h ?_ ?_ <;> intro h
 ·refine .g (.s (ld T.t126 hS z z z z z) z ?_)
  have ⟨y8,hy8,h⟩:=bnd h
  refine .c (.call0 hS Tryz.func180 (f1n hy8) z z ?_ z z z z)
  intro W hS
  refine .q z ?_
  have ⟨b3,hb3,h⟩:=bnd h
  refine .chunk 4 72 (b3) hS ?_ ?_
  ·refine .both (y8) (fun hb=>?_) (fun hb=>?_)
   ·have hg8:=hb
    have h:=sel_t hb hb3
    refine .g hg8 (.s (fa T.f126_4 z z z) z (.g hg8 (.s (ld T.t3 hS z z z z z) z ?_) z)) z
    have ⟨y9,hy9,h⟩:=bnd h
    refine .g hg8 (.c (.call0 hS Tryz.func48 (f08 hy9) z z ?_ z z z z)) z
    intro W hS
    refine .s (pkt hg8 z z z) z ?_
    cases h
    exact .nil (ck 4 hS z z z z)
   refine .xx hb z (.xx hb z (.xx hb z ?_))
   cases sel_f hb hb3
   exact .s (pkf hb z z z) z (.nil (ck 4 hS z z z z))
  intro W hS
  obtain rfl:=Option.some.inj h
  exact .qn z (.ret (fin_ret (vs:=[_]) () (rt z rn) z (hS.to [] z)))
 refine .g (.q z (.q z (.nil ?_)))
 refine .cs z h ?_ ?_ <;> intro h
 ·refine .g (.s (ld T.t126 hS z z z z z) z ?_)
  have ⟨y10,hy10,h⟩:=bnd h
  refine .c (.call0 hS Tryz.func180 (f1n hy10) z z ?_ z z z z)
  intro W hS
  refine .q z ?_
  have ⟨b4,hb4,h⟩:=bnd h
  refine .chunk 4 81 (b4) hS ?_ ?_
  ·refine .both (y10) (fun hb=>?_) (fun hb=>?_)
   ·have hg9:=hb
    have h:=sel_t hb hb4
    refine .g hg9 (.s (fa T.f126_4 z z z) z (.g hg9 (.s (ld T.t3 hS z z z z z) z ?_) z)) z
    have ⟨y11,hy11,h⟩:=bnd h
    refine .g hg9 (.c (.call0 hS Tryz.func48 (f08 hy11) z z ?_ z z z z)) z
    intro W hS
    refine .s (pkt hg9 z z z) z ?_
    cases h
    exact .nil (ck 4 hS z z z z)
   refine .xx hb z (.xx hb z (.xx hb z ?_))
   cases sel_f hb hb4
   exact .s (pkf hb z z z) z (.nil (ck 4 hS z z z z))
  intro W hS
  obtain rfl:=Option.some.inj h
  exact .qn z (.ret (fin_ret (vs:=[_]) () (rt z rn) z (hS.to [] z)))
 refine .g (.q z (.q z (.nil ?_)))
 refine .cs z h ?_ ?_ <;> intro h
 ·refine .g (.s (ld T.t126 hS z z z z z) z ?_)
  have ⟨y12,hy12,h⟩:=bnd h
  refine .c (.call0 hS Tryz.func180 (f1n hy12) z z ?_ z z z z)
  intro W hS
  refine .q z (.chunk 4 90 (y12 && (a0.N == 0)) hS ?_ ?_)
  ·refine .both (y12) (fun hb=>?_) (fun hb=>?_)
   ·have hg10:=hb
    exact .g hg10 (.s (fa T.f126_4 z z z) z (.g hg10 (.s (ld T.t3 hS z z z z z) z (.g hg10 (.q z (.s (pkt hg10 z z z) z (.nil (ck 4 hS z (and_t hg10) z z)))) z)) z)) z
   exact .xx hb z (.xx hb z (.xx hb z (.s (pkf hb z z z) z (.nil (ck 4 hS z (and_f hb) z z)))))
  intro W hS
  cases h
  exact .qn z (.ret (fin_ret (vs:=[_]) () (rt z rn) z (hS.to [] z)))
 have ⟨y13,hy13,h⟩:=bnd h
 refine .seq (CW.via (R':=fun x E' W'=>x = .normal ∧ SubL E' [(2,.pointer (some ⟨g1,0,none⟩)),(91,.bool y13)] ∧ Sep No w W' [.box g1 126 [.int .i64 a0.Op,.int .i64 a0.Dst,.int .i64 a0.A,.int .i64 a0.B,.int .i64 a0.N]]) ?_ ?_)
 ·have h:=hy13
  refine .g (.q z (.q z (.nil ?_)))
  refine .cs z h ?_ ?_ <;> intro h
  ·refine .skip ?_
   cases h
   exact ⟨z,sb z,hS.to [0] z⟩
  refine .region (.q z (.q z (.nil ?_)))
  cases h
  exact ⟨z,sb z,hS.to [0] z⟩
 intro x E W hJ
 obtain ⟨rfl,hE,hS⟩:=hJ
 refine ⟨_,hE.sub,?_⟩
 refine .cs z h ?_ ?_ <;> intro h
 ·refine .g (.s (ld T.t126 hS z z z z z) z ?_)
  have ⟨y14,hy14,h⟩:=bnd h
  refine .c (.call0 hS Tryz.func180 (f1n hy14) z z ?_ z z z z)
  intro W hS
  refine .q z (.chunk 4 100 (y14 && (a0.N == 0)) hS ?_ ?_)
  ·refine .both (y14) (fun hb=>?_) (fun hb=>?_)
   ·have hg11:=hb
    exact .g hg11 (.s (fa T.f126_4 z z z) z (.g hg11 (.s (ld T.t3 hS z z z z z) z (.g hg11 (.q z (.s (pkt hg11 z z z) z (.nil (ck 4 hS z (and_t hg11) z z)))) z)) z)) z
   exact .xx hb z (.xx hb z (.xx hb z (.s (pkf hb z z z) z (.nil (ck 4 hS z (and_f hb) z z)))))
  intro W hS
  cases h
  exact .qn z (.ret (fin_ret (vs:=[_]) () (rt z rn) z (hS.to [] z)))
 obtain rfl:=Option.some.inj h
 exact .skip (.g (.qn z (.ret (fin_ret (vs:=[_]) () (rt z rn) z (hS.to [] z)))))
def fd2 (w : World) (r : Bool) : Env → World → Prop:=Fin Tryz.prog Tryz.f151 No w (fun s : Unit=>.bool r) (fun s=>[]) .ret
theorem f10 {a0 : List Quad} {v_0 : Hd} {w : World} {r : Bool} (h : f0s a0 = some r) (q_0 : RV w (Old No w) (sv v_0) 126 5 dQuad a0) : Calls Tryz.prog 151 #[(sv v_0)] w (Ret No w (fun s : Unit=>.bool r) (fun s=>[])):=by
 unfold f0s at h
 refine enter Tryz.func151 z z ?_
 have hS:=Sep.start w
 refine .g (.qn z (.g (.q z (.s (lenv (hS.keep q_0) T.u104 z z) z (.qn z (.seq (.g (.q z ?_))))))))
 have ⟨y1,hy1,h⟩:=bnd h
 refine .c (.call0 hS Tryz.func48 (f08 hy1) z z ?_ z z z z)
 intro W hS
 refine .q z (.nil ?_)
 refine .cs z h ?_ ?_ <;> intro h
 ·obtain rfl:=Option.some.inj h
  exact .g (.qn z (.ret (fin_ret (vs:=[_]) () (rt z rn) z (hS.to [] z))))
 refine .skip (.seq (.g (.qn z (.block ?_))))
 have ⟨y2,hy2,h⟩:=bnd h
 refine .via (.iter (fun s1 E' W'=>SubL E' [(0,(sv v_0)),(3,.int .i64 (a0.length : Int)),(4,.int .i64 s1)] ∧ Sep No w W' []) (fun y3 x E' W'=>(match y3 with | .inl o1=>x = .ret ∧ fd2 w o1 E' W' | .inr o2=>x = .exit 0 ∧ SubL E' [(0,(sv v_0)),(3,.int .i64 (a0.length : Int))] ∧ Sep No w W' [])) hy2 ⟨sb rfl,hS.to [] rfl⟩ ?_) ?_
 ·intro s1 y4 E W h hI
  obtain ⟨hE,hS⟩:=hI
  refine CW.sub hE ?_
  unfold f7w at h
  refine .seq (.g (.q z (.q z (.q z (.nil ?_)))))
  refine .cs z h ?_ ?_ <;> intro h
  ·refine .skip (.seq (.block (.g (.q z (.q z ?_)))))
   have ⟨x1,hx1,h⟩:=bnd h
   refine .s (ixv (hS.keep q_0) hx1 T.u104 T.t126 z z z) z (.s (lde (RV.flat (hS.keep q_0) hx1 z) T.t126 z z z z z) z (.q z ?_))
   have ⟨y5,hy5,h⟩:=bnd h
   refine .c (.call0 hS Tryz.func165 (f7v hy5) z z ?_ z z z z)
   intro W hS
   refine .q z (.nil ?_)
   refine .cs z h ?_ ?_ <;> intro h
   ·refine .g (.qn z (.ret ?_))
    cases h
    exact ⟨by simp,z,fin_ret (vs:=[_]) () (rt z rn) z (hS.to [] z)⟩
   refine .skip (.region (.q z (.q z (.q z (.nil ?_)))))
   cases h
   exact ⟨z,sb z,hS.to [] z⟩
  refine .exit ?_
  cases h
  exact ⟨by simp,z,sb z,hS.to [] z⟩
 intro x E W hJ
 rcases y2 with o3 | o4
 ·obtain ⟨rfl,hF⟩:=hJ
  refine ⟨_,fun _ _ h=>h,?_⟩
  cases h
  exact hF
 obtain ⟨rfl,hE,hS⟩:=hJ
 refine ⟨_,hE.sub,?_⟩
 refine .g (.q z (.q z (.q z ?_)))
 have ⟨x2,hx2,h⟩:=bnd h
 refine .s (ixv (hS.keep q_0) hx2 T.u104 T.t126 z z z) z (.s (fe T.f126_0 z z z) z (.s (lde (RV.flat (hS.keep q_0) hx2 z) T.t3 z z z z z) z (.q z (.q z ?_))))
 have ⟨b1,hb1,h⟩:=bnd h
 refine .chunk 8 37 (b1) hS ?_ ?_
 ·refine .both (x2.Op == 10) (fun hb=>?_) (fun hb=>?_)
  ·refine .xx hb z (.xx hb z (.xx hb z (.xx hb z (.xx hb z (.xx hb z (.xx hb z ?_))))))
   cases sel_t hb hb1
   exact .s (pkt hb z z z) z (.nil (ck 8 hS z z z z))
  have hg1:=hb
  have h:=sel_f hb hb1
  refine .g hg1 (.q z (.g hg1 (.q z (.g hg1 (.q z ?_) z)) z)) z
  have ⟨x3,hx3,h⟩:=bnd h
  refine .g hg1 (.s (ixv (hS.keep q_0) hx3 T.u104 T.t126 z z z) z (.g hg1 (.s (fe T.f126_0 z z z) z (.g hg1 (.s (lde (RV.flat (hS.keep q_0) hx3 z) T.t3 z z z z z) z (.g hg1 (.q z (.s (pkf hg1 z z z) z ?_)) z)) z)) z)) z
  cases h
  exact .nil (ck 8 hS z z z z)
 intro W hS
 obtain rfl:=Option.some.inj h
 exact .qn z (.ret (fin_ret (vs:=[_]) () (rt z rn) z (hS.to [] z)))
end Go.Proofs.YtmpplggjpmmhlaaGreatDoor.N
namespace Go.Proofs.YtmpplggjpmmhlaaGreatDoor.N
open Go.Proofs.YtmpplggjpmmhlaaGreatDoor.X
theorem f6s {a0 : List Quad} {a1 : Int} {v_0 : Hd} {w : World} {r : (List Int)} (h : f1w a0 a1 = some r) (q_0 : RV w (Old No w) (sv v_0) 126 5 dQuad a0) : Calls Tryz.prog 206 #[(sv v_0),.int .i64 a1] w (Ret No w (fun s : Hd=>(sv s)) (fun s=>[rowV (sv s) 3 1 (D.int .i64) r])):=by
 unfold f1w at h
 refine enter Tryz.func206 z z ?_
 have hS:=Sep.start w
 refine .g (.qn z (.g (.q z (.q z ?_))))
 have ⟨x1,hx1,h⟩:=bnd h
 refine .s (ixv (hS.keep q_0) hx1 T.u104 T.t126 z z z) z (.s (lde (RV.flat (hS.keep q_0) hx1 z) T.t126 z z z z z) z (.c (.alloc T.t126 hS ?_ z z z)))
 intro g1 W hS
 refine .c (.st T.t126 hS z z z ?_ z z z z z)
 intro W hS
 refine .nil (.seq (.block (.g (.s (fa T.f126_0 z z z) z (.s (ld T.t3 hS z z z z z) z (.q z (.q z (.nil ?_))))))))
 refine .cs z h ?_ ?_ <;> intro h
 ·refine .g (.c (.liv [] (D.int .i64) T.u25 T.t3 hS z z z z ?_ z (fun _=>z) z z z z))
  intro v1 W hS
  cases h
  exact .qn z (.ret (fin_ret (vs:=[_]) v1 (rt z rn) z (hS.to [0] z)))
 refine .g (.s (fa T.f126_0 z z z) z (.s (ld T.t3 hS z z z z z) z (.q z (.q z (.nil ?_)))))
 refine .cs z h ?_ ?_ <;> intro h
 ·refine .g (.s (fa T.f126_4 z z z) z (.s (ld T.t3 hS z z z z z) z (.c (.liv [x1.N] (D.int .i64) T.u25 T.t3 hS z z z z ?_ z (fun _=>z) z z z z))))
  intro v2 W hS
  cases h
  exact .qn z (.ret (fin_ret (vs:=[_]) v2 (rt z rn) z (hS.to [0] z)))
 refine .g (.s (fa T.f126_0 z z z) z (.s (ld T.t3 hS z z z z z) z (.q z (.q z (.chunk 6 32 ((x1.Op == 5) && (decide (x1.N < (w64 (a1 + 1))))) hS ?_ ?_)))))
 ·refine .both (x1.Op == 5) (fun hb=>?_) (fun hb=>?_)
  ·have hg1:=hb
   exact .g hg1 (.s (fa T.f126_4 z z z) z (.g hg1 (.s (ld T.t3 hS z z z z z) z (.g hg1 (.q z (.g hg1 (.q z (.g hg1 (.q z (.s (pkt hg1 z z z) z (.nil (ck 6 hS z (and_t hg1) z z)))) z)) z)) z)) z)) z
  exact .xx hb z (.xx hb z (.xx hb z (.xx hb z (.xx hb z (.s (pkf hb z z z) z (.nil (ck 6 hS z (and_f hb) z z)))))))
 intro W hS
 refine .q z (.nil ?_)
 refine .cs z h ?_ ?_ <;> intro h
 ·refine .g (.s (fa T.f126_4 z z z) z (.s (ld T.t3 hS z z z z z) z (.q z (.q z (.c (.liv [x1.N,w64 (a1 + 1)] (D.int .i64) T.u25 T.t3 hS z z z z ?_ z (fun _=>z) z z z z))))))
  intro v3 W hS
  cases h
  exact .qn z (.ret (fin_ret (vs:=[_]) v3 (rt z rn) z (hS.to [0] z)))
 refine .g (.s (fa T.f126_0 z z z) z (.s (ld T.t3 hS z z z z z) z (.q z (.q z (.chunk 6 48 ((x1.Op == 5) && (decide (x1.N > (w64 (a1 + 1))))) hS ?_ ?_)))))
 ·refine .both (x1.Op == 5) (fun hb=>?_) (fun hb=>?_)
  ·have hg2:=hb
   exact .g hg2 (.s (fa T.f126_4 z z z) z (.g hg2 (.s (ld T.t3 hS z z z z z) z (.g hg2 (.q z (.g hg2 (.q z (.g hg2 (.q z (.s (pkt hg2 z z z) z (.nil (ck 6 hS z (and_t hg2) z z)))) z)) z)) z)) z)) z
  exact .xx hb z (.xx hb z (.xx hb z (.xx hb z (.xx hb z (.s (pkf hb z z z) z (.nil (ck 6 hS z (and_f hb) z z)))))))
 intro W hS
 refine .q z (.nil ?_)
 refine .cs z h ?_ ?_ <;> intro h
 ·refine .g (.q z (.q z (.s (fa T.f126_4 z z z) z (.s (ld T.t3 hS z z z z z) z (.c (.liv [w64 (a1 + 1),x1.N] (D.int .i64) T.u25 T.t3 hS z z z z ?_ z (fun _=>z) z z z z))))))
  intro v4 W hS
  cases h
  exact .qn z (.ret (fin_ret (vs:=[_]) v4 (rt z rn) z (hS.to [0] z)))
 refine .skip (.g (.q z (.q z (.c (.liv [w64 (a1 + 1)] (D.int .i64) T.u25 T.t3 hS z z z z ?_ z (fun _=>z) z z z z)))))
 intro v5 W hS
 cases h
 exact .qn z (.ret (fin_ret (vs:=[_]) v5 (rt z rn) z (hS.to [0] z)))
theorem fcg {a0 : List Quad} {a1 : List Fact} {a2 : Int} {v_0 : Hd} {v_1 : Hd} {w : World} {r : (List Int)} (h : f67 a0 a1 a2 = some r) (q_0 : RV w (Old No w) (sv v_0) 126 5 dQuad a0) (q_1 : RV w (Old No w) (sv v_1) 193 2 dFact a1) : Calls Tryz.prog 210 #[(sv v_0),(sv v_1),.int .i64 a2] w (Ret No w (fun s : Hd=>(sv s)) (fun s=>[rowV (sv s) 3 1 (D.int .i64) r])):=by
 unfold f67 at h
 refine enter Tryz.func210 z z ?_
 have hS:=Sep.start w
 refine .g (.qn z (.g (.q z (.q z ?_))))
 have ⟨x1,hx1,h⟩:=bnd h
 refine .s (ixv (hS.keep q_0) hx1 T.u104 T.t126 z z z) z (.s (lde (RV.flat (hS.keep q_0) hx1 z) T.t126 z z z z z) z (.c (.alloc T.t126 hS ?_ z z z)))
 intro g1 W hS
 refine .c (.st T.t126 hS z z z ?_ z z z z z)
 intro W hS
 refine .nil (.seq (.g (.s (fa T.f126_0 z z z) z (.s (ld T.t3 hS z z z z z) z (.q z (.q z ?_))))))
 have ⟨b1,hb1,h⟩:=bnd h
 refine .chunk 8 23 (b1) hS ?_ ?_
 ·refine .both (x1.Op != 5) (fun hb=>?_) (fun hb=>?_)
  ·refine .xx hb z (.xx hb z (.xx hb z (.xx hb z (.xx hb z (.xx hb z (.xx hb z ?_))))))
   cases sel_t hb hb1
   exact .s (pkt hb z z z) z (.nil (ck 8 hS z z z z))
  have hg1:=hb
  have h:=sel_f hb hb1
  refine .g hg1 (.q z (.g hg1 (.s (fa T.f126_2 z z z) z (.g hg1 (.s (ld T.t3 hS z z z z z) z ?_) z)) z)) z
  have ⟨x2,hx2,h⟩:=bnd h
  refine .g hg1 (.s (ixv (hS.keep q_1) hx2 T.u175 T.t193 z z z) z (.g hg1 (.s (fe T.f193_0 z z z) z (.g hg1 (.s (lde (RV.flat (hS.keep q_1) hx2 z) T.t3 z z z z z) z (.g hg1 (.q z (.s (pkf hg1 z z z) z ?_)) z)) z)) z)) z
  cases h
  exact .nil (ck 8 hS z z z z)
 intro W hS
 refine .nil ?_
 refine .cs z h ?_ ?_ <;> intro h
 ·refine .g (.q z (.q z ?_))
  have ⟨y1,hy1,h⟩:=bnd h
  refine .c (.call1v hS Tryz.func206 (f6s hy1 (hS.keep q_0)) z z ?_ z z z z)
  intro v1 W hS
  obtain rfl:=Option.some.inj h
  exact .qn z (.ret (fin_ret (vs:=[_]) v1 (rt z rn) z (hS.to [0] z)))
 refine .skip (.seq (.g (.q z (.s (fa T.f126_2 z z z) z (.s (ld T.t3 hS z z z z z) z ?_)))))
 have ⟨x3,hx3,h⟩:=bnd h
 refine .s (ixv (hS.keep q_1) hx3 T.u175 T.t193 z z z) z (.s (fe T.f193_1 z z z) z (.s (lde (RV.flat (hS.keep q_1) hx3 z) T.t3 z z z z z) z (.q z (.nil ?_))))
 refine .cs z h ?_ ?_ <;> intro h
 ·refine .g (.s (fa T.f126_4 z z z) z (.s (ld T.t3 hS z z z z z) z (.c (.liv [x1.N] (D.int .i64) T.u25 T.t3 hS z z z z ?_ z (fun _=>z) z z z z))))
  intro v2 W hS
  cases h
  exact .qn z (.ret (fin_ret (vs:=[_]) v2 (rt z rn) z (hS.to [0] z)))
 refine .skip (.g (.q z (.q z (.c (.liv [w64 (a2 + 1)] (D.int .i64) T.u25 T.t3 hS z z z z ?_ z (fun _=>z) z z z z)))))
 intro v3 W hS
 cases h
 exact .qn z (.ret (fin_ret (vs:=[_]) v3 (rt z rn) z (hS.to [0] z)))
theorem fb0 {a0 : Bool} {w : World} {r : Int} (h : f9v a0 = some r) : Calls Tryz.prog 117 #[.bool a0] w (Ret No w (fun s : Unit=>.int .i64 r) (fun s=>[])):=by
 unfold f9v at h
 refine enter Tryz.func117 z z ?_
 have hS:=Sep.start w
 refine .g (.qn z (.seq (.g (.q z (.nil ?_)))))
 refine .cs z h ?_ ?_ <;> intro h
 ·cases h
  exact .g (.qn z (.ret (fin_ret (vs:=[_]) () (rt z rn) z (hS.to [] z))))
 cases h
 exact .skip (.g (.qn z (.ret (fin_ret (vs:=[_]) () (rt z rn) z (hS.to [] z)))))
theorem fat {a0 : Int} {a1 : Int} {a2 : Bool} {w : World} {r : Int} (h : f4x a0 a1 a2 = some r) : Calls Tryz.prog 156 #[.int .i64 a0,.int .i64 a1,.bool a2] w (Ret No w (fun s : Unit=>.int .i64 r) (fun s=>[])):=by
 unfold f4x at h
 refine enter Tryz.func156 z z ?_
 have hS:=Sep.start w
 refine .g (.qn z (.seq (.g (.q z (.nil ?_)))))
 refine .cs z h ?_ ?_ <;> intro h
 ·refine .g (.q z (.q z (.q z ?_)))
  have ⟨d1,hd1,h⟩:=bnd h
  obtain rfl:=Option.some.inj h
  exact .s (shr_run hd1 z z z) z (.qn z (.ret (fin_ret (vs:=[_]) () (rt z rn) z (hS.to [] z))))
 refine .skip (.g (.q z (.q z (.q z ?_))))
 have ⟨d2,hd2,h⟩:=bnd h
 refine .s (shr_run hd2 z z z) z ?_
 have ⟨y1,hy1,h⟩:=bnd h
 refine .c (.call0 hS Tryz.func68 (f39 hy1) z z ?_ z z z z)
 intro W hS
 obtain rfl:=Option.some.inj h
 exact .qn z (.ret (fin_ret (vs:=[_]) () (rt z rn) z (hS.to [] z)))
theorem fci {a0 : Int} {a1 : Int} {w : World} {r : Int} (h : f8f a0 a1 = some r) : Calls Tryz.prog 157 #[.int .i64 a0,.int .i64 a1] w (Ret No w (fun s : Unit=>.int .i64 r) (fun s=>[])):=by
 unfold f8f at h
 refine enter Tryz.func157 z z ?_
 have hS:=Sep.start w
 refine .g (.qn z (.seq (.g (.q z (.q z (.nil ?_))))))
 refine .cs z h ?_ ?_ <;> intro h
 ·cases h
  exact .g (.qn z (.ret (fin_ret (vs:=[_]) () (rt z rn) z (hS.to [] z))))
 refine .skip (.g (.q z (.q z ?_)))
 have ⟨d1,hd1,h⟩:=bnd h
 refine .s (dq hd1 z z z) z ?_
 have ⟨y1,hy1,h⟩:=bnd h
 refine .c (.call0 hS Tryz.func68 (f39 hy1) z z ?_ z z z z)
 intro W hS
 obtain rfl:=Option.some.inj h
 exact .qn z (.ret (fin_ret (vs:=[_]) () (rt z rn) z (hS.to [] z)))
theorem fcw {a0 : Int} {a1 : Int} {w : World} {r : Int} (h : f8c a0 a1 = some r) : Calls Tryz.prog 158 #[.int .i64 a0,.int .i64 a1] w (Ret No w (fun s : Unit=>.int .i64 r) (fun s=>[])):=by
 unfold f8c at h
 refine enter Tryz.func158 z z ?_
 have hS:=Sep.start w
 refine .g (.qn z (.seq (.g (.q z (.q z (.nil ?_))))))
 refine .cs z h ?_ ?_ <;> intro h
 ·obtain rfl:=Option.some.inj h
  exact .g (.q z (.qn z (.ret (fin_ret (vs:=[_]) () (rt z rn) z (hS.to [] z)))))
 refine .skip (.g (.q z (.q z ?_)))
 have ⟨d1,hd1,h⟩:=bnd h
 obtain rfl:=Option.some.inj h
 exact .s (dr hd1 z z z) z (.qn z (.ret (fin_ret (vs:=[_]) () (rt z rn) z (hS.to [] z))))
theorem feh {a0 : Int} {a1 : Int} {a2 : Int} {w : World} {r : Int × Bool} (h : f9f a0 a1 a2 = some r) : Calls Tryz.prog 145 #[.int .i64 a0,.int .i64 a1,.int .i64 a2] w (Ret No w (fun s : Unit=>.tuple #[.int .i64 r.1,.bool r.2]) (fun s=>[])):=by
 unfold f9f at h
 refine enter Tryz.func145 z z ?_
 have hS:=Sep.start w
 refine .g (.q z (.qn z (.seq (.g (.q z ?_)))))
 have ⟨y1,hy1,h⟩:=bnd h
 refine .c (.call0 hS Tryz.func155 (f95 hy1) z z ?_ z z z z)
 intro W hS
 refine .q z (.q z ?_)
 have ⟨b1,hb1,h⟩:=bnd h
 refine .chunk 4 15 (b1) hS ?_ ?_
 ·refine .both (!y1) (fun hb=>?_) (fun hb=>?_)
  ·refine .xx hb z (.xx hb z (.xx hb z ?_))
   cases sel_t hb hb1
   exact .s (pkt hb z z z) z (.nil (ck 4 hS z z z z))
  have hg1:=hb
  have h:=sel_f hb hb1
  refine .g hg1 (.q z ?_) z
  have ⟨y2,hy2,h⟩:=bnd h
  refine .g hg1 (.c (.call0 hS Tryz.func94 (f4w hy2) z z ?_ z z z z)) z
  intro W hS
  refine .g hg1 (.q z (.s (pkf hg1 z z z) z ?_)) z
  cases h
  exact .nil (ck 4 hS z z z z)
 intro W hS
 refine .q z ?_
 have ⟨b2,hb2,h⟩:=bnd h
 refine .chunk 4 20 (b2) hS ?_ ?_
 ·refine .both (b1) (fun hb=>?_) (fun hb=>?_)
  ·refine .xx hb z (.xx hb z (.xx hb z ?_))
   cases sel_t hb hb2
   exact .s (pkt hb z z z) z (.nil (ck 4 hS z z z z))
  have hg2:=hb
  have h:=sel_f hb hb2
  refine .g hg2 (.q z ?_) z
  have ⟨y3,hy3,h⟩:=bnd h
  refine .g hg2 (.c (.call0 hS Tryz.func94 (f4w hy3) z z ?_ z z z z)) z
  intro W hS
  refine .g hg2 (.q z (.s (pkf hg2 z z z) z ?_)) z
  cases h
  exact .nil (ck 4 hS z z z z)
 intro W hS
 refine .nil ?_
 refine .cs z h ?_ ?_ <;> intro h
 ·cases h
  exact .g (.q z (.qn z (.ret (fin_ret (vs:=[_,_]) () (rt z (rt z rn)) z (hS.to [] z)))))
 refine .skip (.seq (.g (.qn z (.block (.g (.q z (.q z (.nil ?_))))))))
 refine .cs z h ?_ ?_ <;> intro h
 ·cases h
  exact .g (.q z (.q z (.q z (.q z (.qn z (.ret (fin_ret (vs:=[_,_]) () (rt z (rt z rn)) z (hS.to [] z))))))))
 refine .g (.q z (.q z (.nil ?_)))
 refine .cs z h ?_ ?_ <;> intro h
 ·cases h
  exact .g (.q z (.q z (.q z (.q z (.qn z (.ret (fin_ret (vs:=[_,_]) () (rt z (rt z rn)) z (hS.to [] z))))))))
 refine .g (.q z (.q z (.nil ?_)))
 refine .cs z h ?_ ?_ <;> intro h
 ·cases h
  exact .g (.q z (.q z (.q z (.q z (.qn z (.ret (fin_ret (vs:=[_,_]) () (rt z (rt z rn)) z (hS.to [] z))))))))
 refine .g (.q z (.q z (.nil ?_)))
 refine .cs z h ?_ ?_ <;> intro h
 ·refine .g (.q z (.q z (.q z ?_)))
  have ⟨y4,hy4,h⟩:=bnd h
  refine .c (.call0 hS Tryz.func117 (fb0 hy4) z z ?_ z z z z)
  intro W hS
  cases h
  exact .q z (.qn z (.ret (fin_ret (vs:=[_,_]) () (rt z (rt z rn)) z (hS.to [] z))))
 refine .g (.q z (.q z (.nil ?_)))
 refine .cs z h ?_ ?_ <;> intro h
 ·refine .g (.q z (.q z (.q z ?_)))
  have ⟨y5,hy5,h⟩:=bnd h
  refine .c (.call0 hS Tryz.func117 (fb0 hy5) z z ?_ z z z z)
  intro W hS
  cases h
  exact .q z (.qn z (.ret (fin_ret (vs:=[_,_]) () (rt z (rt z rn)) z (hS.to [] z))))
 refine .g (.q z (.q z (.nil ?_)))
 refine .cs z h ?_ ?_ <;> intro h
 ·refine .g (.q z (.q z ?_))
  have ⟨y6,hy6,h⟩:=bnd h
  refine .c (.call0 hS Tryz.func156 (fat hy6) z z ?_ z z z z)
  intro W hS
  cases h
  exact .q z (.qn z (.ret (fin_ret (vs:=[_,_]) () (rt z (rt z rn)) z (hS.to [] z))))
 refine .g (.q z (.q z (.nil ?_)))
 refine .cs z h ?_ ?_ <;> intro h
 ·refine .g (.q z (.q z ?_))
  have ⟨y7,hy7,h⟩:=bnd h
  refine .c (.call0 hS Tryz.func156 (fat hy7) z z ?_ z z z z)
  intro W hS
  cases h
  exact .q z (.qn z (.ret (fin_ret (vs:=[_,_]) () (rt z (rt z rn)) z (hS.to [] z))))
 refine .g (.q z (.q z (.nil ?_)))
 refine .cs z h ?_ ?_ <;> intro h
 ·refine .g (.q z (.q z (.q z ?_)))
  have ⟨y8,hy8,h⟩:=bnd h
  refine .c (.call0 hS Tryz.func68 (f39 hy8) z z ?_ z z z z)
  intro W hS
  cases h
  exact .q z (.qn z (.ret (fin_ret (vs:=[_,_]) () (rt z (rt z rn)) z (hS.to [] z))))
 refine .g (.q z (.q z (.nil ?_)))
 refine .cs z h ?_ ?_ <;> intro h
 ·refine .g (.q z (.q z (.q z ?_)))
  have ⟨y9,hy9,h⟩:=bnd h
  refine .c (.call0 hS Tryz.func68 (f39 hy9) z z ?_ z z z z)
  intro W hS
  cases h
  exact .q z (.qn z (.ret (fin_ret (vs:=[_,_]) () (rt z (rt z rn)) z (hS.to [] z))))
 refine .g (.q z (.q z (.nil ?_)))
 refine .cs z h ?_ ?_ <;> intro h
 ·refine .g (.q z (.q z (.q z ?_)))
  have ⟨y10,hy10,h⟩:=bnd h
  refine .c (.call0 hS Tryz.func68 (f39 hy10) z z ?_ z z z z)
  intro W hS
  cases h
  exact .q z (.qn z (.ret (fin_ret (vs:=[_,_]) () (rt z (rt z rn)) z (hS.to [] z))))
 refine .g (.q z (.q z (.nil ?_)))
 refine .cs z h ?_ ?_ <;> intro h
 ·refine .g (.q z (.q z ?_))
  have ⟨y11,hy11,h⟩:=bnd h
  refine .c (.call0 hS Tryz.func157 (fci hy11) z z ?_ z z z z)
  intro W hS
  cases h
  exact .q z (.qn z (.ret (fin_ret (vs:=[_,_]) () (rt z (rt z rn)) z (hS.to [] z))))
 refine .skip (.g (.q z (.q z ?_)))
 have ⟨y12,hy12,h⟩:=bnd h
 refine .c (.call0 hS Tryz.func158 (fcw hy12) z z ?_ z z z z)
 intro W hS
 cases h
 exact .q z (.qn z (.ret (fin_ret (vs:=[_,_]) () (rt z (rt z rn)) z (hS.to [] z))))
theorem fa4 {a0 : Quad} {a1 : Fact} {a2 : Fact} {w : World} {r : Fact} (h : f3x a0 a1 a2 = some r) : Calls Tryz.prog 213 #[.agg #[.int .i64 a0.Op,.int .i64 a0.Dst,.int .i64 a0.A,.int .i64 a0.B,.int .i64 a0.N],.agg #[.int .i64 a1.Kind,.int .i64 a1.N],.agg #[.int .i64 a2.Kind,.int .i64 a2.N]] w (Ret No w (fun s : Unit=>.agg #[.int .i64 r.Kind,.int .i64 r.N]) (fun s=>[])):=by
 unfold f3x at h
 refine enter Tryz.func213 z z ?_
 have hS:=Sep.start w
 refine .g (.c (.box hS z z ?_ z z))
 intro g1 W hS
 refine .c (.box hS z z ?_ z z)
 intro g2 W hS
 refine .c (.box hS z z ?_ z z)
 intro g3 W hS
 refine .c (.alloc T.t193 hS ?_ z z z)
 intro g4 W hS
 refine .nil (.seq (.g (.s (fa T.f193_0 z z z) z (.s (ld T.t3 hS.p2 z z z z z) z (.q z (.q z (.chunk 4 16 ((a1.Kind != 1) || (a2.Kind != 1)) hS ?_ ?_)))))))
 ·refine .both (a1.Kind != 1) (fun hb=>?_) (fun hb=>?_)
  ·exact .xx hb z (.xx hb z (.xx hb z (.s (pkt hb z z z) z (.nil (ck 4 hS z (or_t hb) z z)))))
  have hg1:=hb
  exact .g hg1 (.s (fa T.f193_0 z z z) z (.g hg1 (.s (ld T.t3 hS.p1 z z z z z) z (.g hg1 (.q z (.s (pkf hg1 z z z) z (.nil (ck 4 hS z (or_f hg1) z z)))) z)) z)) z
 intro W hS
 refine .nil ?_
 refine .cs z h ?_ ?_ <;> intro h
 ·refine .g (.s (bs T.s193 z z) z (.c (.st T.t193 hS z z z ?_ z z z z z)))
  intro W hS
  cases h
  exact .nil (.ret (fin_ret (vs:=[_]) () (rc hS T.t193 z rn z z) z (hS.to [] z)))
 refine .skip (.g (.s (fa T.f126_4 z z z) z (.s (ld T.t3 hS.p3 z z z z z) z (.s (fa T.f193_1 z z z) z (.s (ld T.t3 hS.p2 z z z z z) z (.s (fa T.f193_1 z z z) z (.s (ld T.t3 hS.p1 z z z z z) z ?_)))))))
 have ⟨y1,hy1,h⟩:=bnd h
 refine .c (.call0 hS Tryz.func145 (feh hy1) z z ?_ z z z z)
 intro W hS
 refine .q z (.q z (.q z (.q z (.qn z (.g (.q z (.s (bs T.s193 z z) z (.c (.st T.t193 hS z z z ?_ z z z z z)))))))))
 intro W hS
 cases h
 exact .nil (.ret (fin_ret (vs:=[_]) () (rc hS T.t193 z rn z z) z (hS.to [] z)))
theorem fc6 {a0 : Quad} {a1 : List Fact} {v_1 : Hd} {w : World} {r : (List Fact)} (h : f69 a0 a1 = some r) (q_1 : RV w (Old No w) (sv v_1) 193 2 dFact a1) : Calls Tryz.prog 211 #[.agg #[.int .i64 a0.Op,.int .i64 a0.Dst,.int .i64 a0.A,.int .i64 a0.B,.int .i64 a0.N],(sv v_1)] w (Ret No w (fun s : Hd=>(sv s)) (fun s=>[rowV (sv s) 193 2 dFact r])):=by
 unfold f69 at h
 refine enter Tryz.func211 z z ?_
 have hS:=Sep.start w
 refine .g (.c (.box hS z z ?_ z z))
 intro g1 W hS
 refine .qn z (.g (.c (.liv [] dFact T.u175 T.t193 hS z z z z ?_ z (fun _=>z) z z z z)))
 intro v1 W hS
 refine .q z ?_
 have ⟨r1,hr1,h⟩:=bnd h
 refine .c (.apprv hr1 hS (hS.keep q_1) (fun _=>z) T.u175 T.t193 z z z ?_ z z z z z)
 intro v2 W hS
 refine .qn z (.seq (.g (.s (fa T.f126_0 z z z) z (.s (ld T.t3 hS.p1 z z z z z) z (.nil (.block (.g (.q z (.q z (.nil ?_))))))))))
 refine .cs z h ?_ ?_ <;> intro h
 ·refine .region (.q z (.s (fa T.f126_1 z z z) z (.s (ld T.t3 hS.p1 z z z z z) z (.s (fa T.f126_4 z z z) z (.s (ld T.t3 hS.p1 z z z z z) z (.s (bs T.s193 z z) z ?_))))))
  have ⟨x1,hx1,h⟩:=bnd h
  refine .s (ixv hS.lendv hx1 T.u175 T.t193 z z z) z ?_
  have ⟨r2,hr2,h⟩:=bnd h
  refine .c (.sev hr2 hx1 hS T.t193 z z z z z z ?_ z z z z z z)
  intro W hS
  obtain rfl:=Option.some.inj h
  exact .nil (.g (.q z (.qn z (.ret (fin_ret (vs:=[_]) v2 (rt z rn) z (hS.to [0] z))))))
 refine .g (.q z (.q z (.nil ?_)))
 refine .cs z h ?_ ?_ <;> intro h
 ·refine .rk 9 hS [0,0] T.mix ?_
  intro W hS
  have hT:=hS.to [0,0] z
  refine .tp 0 z z hT (by kernel_rfl) (.ts 1 z (fun W hT=>fa T.f126_1 z z z) hT z (by kernel_rfl) (.ts 2 z (fun W hT=>ld T.t3 hT.p1 z z z z z) hT z (by kernel_rfl) (.tp 3 z z hT (by kernel_rfl) (.ts 4 z (fun W hT=>fa T.f126_2 z z z) hT z (by kernel_rfl) (.ts 5 z (fun W hT=>ld T.t3 hT.p1 z z z z z) hT z (by kernel_rfl) ?_)))))
  have ⟨x2,hx2,h⟩:=bnd h
  refine .ts 6 z (fun W hT=>ixv (hS.keep q_1) hx2 T.u175 T.t193 z z z) hT z (by kernel_rfl) (.ts 7 z (fun W hT=>lde (RV.flat (hT.keep q_1) hx2 z) T.t193 z z z z z) hT z (by kernel_rfl) ?_)
  have ⟨x3,hx3,h⟩:=bnd h
  refine .ts 8 z (fun W hT=>ixv hS.lendv hx3 T.u175 T.t193 z z z) hT z (by kernel_rfl) ?_
  have ⟨r3,hr3,h⟩:=bnd h
  refine .by1 9 z (.sev hr3 hx3 hS T.t193 z z z z z z ?_ z z z z z z) (by kernel_rfl)
  intro W hS
  refine ⟨fun h=>absurd z h,?_⟩
  obtain rfl:=Option.some.inj h
  exact .done (.g (.q z (.qn z (.ret (fin_ret (vs:=[_]) v2 (rt z rn) z (hS.to [0] z)))))) (by kernel_rfl)
 refine .g (.q z (.q z (.nil ?_)))
 refine .cs z h ?_ ?_ <;> intro h
 ·refine .region (.q z (.s (fa T.f126_1 z z z) z (.s (ld T.t3 hS.p1 z z z z z) z (.s (bs T.s193 z z) z ?_))))
  have ⟨x4,hx4,h⟩:=bnd h
  refine .s (ixv hS.lendv hx4 T.u175 T.t193 z z z) z ?_
  have ⟨r4,hr4,h⟩:=bnd h
  refine .c (.sev hr4 hx4 hS T.t193 z z z z z z ?_ z z z z z z)
  intro W hS
  obtain rfl:=Option.some.inj h
  exact .nil (.g (.q z (.qn z (.ret (fin_ret (vs:=[_]) v2 (rt z rn) z (hS.to [0] z))))))
 refine .g (.q z (.q z (.nil ?_)))
 refine .cs z h ?_ ?_ <;> intro h
 ·refine .rk 16 hS [0,0] T.mix ?_
  intro W hS
  have hT:=hS.to [0,0] z
  refine .tp 0 z z hT (by kernel_rfl) (.ts 1 z (fun W hT=>fa T.f126_1 z z z) hT z (by kernel_rfl) (.ts 2 z (fun W hT=>ld T.t3 hT.p1 z z z z z) hT z (by kernel_rfl) (.ts 3 z (fun W hT=>ld T.t126 hT.p1 z z z z z) hT z (by kernel_rfl) (.tp 4 z z hT (by kernel_rfl) (.ts 5 z (fun W hT=>fa T.f126_2 z z z) hT z (by kernel_rfl) (.ts 6 z (fun W hT=>ld T.t3 hT.p1 z z z z z) hT z (by kernel_rfl) ?_))))))
  have ⟨x5,hx5,h⟩:=bnd h
  refine .ts 7 z (fun W hT=>ixv (hS.keep q_1) hx5 T.u175 T.t193 z z z) hT z (by kernel_rfl) (.ts 8 z (fun W hT=>lde (RV.flat (hT.keep q_1) hx5 z) T.t193 z z z z z) hT z (by kernel_rfl) (.tp 9 z z hT (by kernel_rfl) (.ts 10 z (fun W hT=>fa T.f126_3 z z z) hT z (by kernel_rfl) (.ts 11 z (fun W hT=>ld T.t3 hT.p1 z z z z z) hT z (by kernel_rfl) ?_))))
  have ⟨x6,hx6,h⟩:=bnd h
  refine .ts 12 z (fun W hT=>ixv (hS.keep q_1) hx6 T.u175 T.t193 z z z) hT z (by kernel_rfl) (.ts 13 z (fun W hT=>lde (RV.flat (hT.keep q_1) hx6 z) T.t193 z z z z z) hT z (by kernel_rfl) ?_)
  have ⟨y1,hy1,h⟩:=bnd h
  refine .by1 14 z (.call0 hS Tryz.func213 (fa4 hy1) z z ?_ z z z z) (by kernel_rfl)
  intro W hS
  have hT:=hS.to [0,0] z
  refine ⟨fun _=>hT,?_⟩
  have ⟨x7,hx7,h⟩:=bnd h
  refine .ts 15 z (fun W hT=>ixv hS.lendv hx7 T.u175 T.t193 z z z) hT z (by kernel_rfl) ?_
  have ⟨r5,hr5,h⟩:=bnd h
  refine .by1 16 z (.sev hr5 hx7 hS T.t193 z z z z z z ?_ z z z z z z) (by kernel_rfl)
  intro W hS
  refine ⟨fun h=>absurd z h,?_⟩
  obtain rfl:=Option.some.inj h
  exact .done (.g (.q z (.qn z (.ret (fin_ret (vs:=[_]) v2 (rt z rn) z (hS.to [0] z)))))) (by kernel_rfl)
 obtain rfl:=Option.some.inj h
 exact .skip (.g (.q z (.qn z (.ret (fin_ret (vs:=[_]) v2 (rt z rn) z (hS.to [0] z))))))
theorem fam {a0 : Fact} {a1 : Fact} {w : World} {r : Fact} (h : f6x a0 a1 = some r) : Calls Tryz.prog 219 #[.agg #[.int .i64 a0.Kind,.int .i64 a0.N],.agg #[.int .i64 a1.Kind,.int .i64 a1.N]] w (Ret No w (fun s : Unit=>.agg #[.int .i64 r.Kind,.int .i64 r.N]) (fun s=>[])):=by
 unfold f6x at h
 refine enter Tryz.func219 z z ?_
 have hS:=Sep.start w
 refine .g (.c (.box hS z z ?_ z z))
 intro g1 W hS
 refine .c (.box hS z z ?_ z z)
 intro g2 W hS
 refine .c (.alloc T.t193 hS ?_ z z z)
 intro g3 W hS
 refine .nil (.seq (.g (.s (fa T.f193_0 z z z) z (.s (ld T.t3 hS.p2 z z z z z) z (.q z (.nil ?_))))))
 refine .cs z h ?_ ?_ <;> intro h
 ·refine .g (.s (ld T.t193 hS.p1 z z z z z) z (.c (.st T.t193 hS z z z ?_ z z z z z)))
  intro W hS
  obtain rfl:=Option.some.inj h
  exact .nil (.ret (fin_ret (vs:=[_]) () (rc hS T.t193 z rn z z) z (hS.to [] z)))
 refine .skip (.seq (.g (.s (fa T.f193_0 z z z) z (.s (ld T.t3 hS.p1 z z z z z) z (.q z (.q z (.chunk 4 16 ((a1.Kind == 0) || ((a0.Kind == a1.Kind) && ((a0.N == a1.N) && true))) hS ?_ ?_)))))))
 ·refine .both (a1.Kind == 0) (fun hb=>?_) (fun hb=>?_)
  ·exact .xx hb z (.xx hb z (.xx hb z (.s (pkt hb z z z) z (.nil (ck 4 hS z (or_t hb) z z)))))
  have hg1:=hb
  exact .g hg1 (.s (ld T.t193 hS.p2 z z z z z) z (.g hg1 (.s (ld T.t193 hS.p1 z z z z z) z (.g hg1 (.s (eqs T.e193 z z z z) z (.s (pkf hg1 z z z) z (.nil (ck 4 hS z (or_f hg1) z z)))) z)) z)) z
 intro W hS
 refine .nil ?_
 refine .cs z h ?_ ?_ <;> intro h
 ·refine .g (.s (ld T.t193 hS.p2 z z z z z) z (.c (.st T.t193 hS z z z ?_ z z z z z)))
  intro W hS
  obtain rfl:=Option.some.inj h
  exact .nil (.ret (fin_ret (vs:=[_]) () (rc hS T.t193 z rn z z) z (hS.to [] z)))
 refine .skip (.g (.s (bs T.s193 z z) z (.c (.st T.t193 hS z z z ?_ z z z z z))))
 intro W hS
 cases h
 exact .nil (.ret (fin_ret (vs:=[_]) () (rc hS T.t193 z rn z z) z (hS.to [] z)))
theorem fch {a0 : List (List Fact)} {a1 : Int} {a2 : List Fact} {v_0 : Hd} {v_2 : Hd} {S : Nat → Prop} {w : World} {r : Bool × (List (List Fact))} (h : f66 a0 a1 a2 = some r) (q_2 : RV w (Old S w) (sv v_2) 193 2 dFact a2) (hO : Owns w [rowV (sv v_0) 175 1 (fun (l : List Fact)=>D.row 193 2 (l.map dFact)) a0] S) (hlt : ∀ b,S b → b < w.heap.size) : Calls Tryz.prog 212 #[(sv v_0),.int .i64 a1,(sv v_2)] w (Ret S w (fun s : Unit=>.bool r.1) (fun s=>[rowV (sv v_0) 175 1 (fun (l : List Fact)=>D.row 193 2 (l.map dFact)) r.2])):=by
 unfold f66 at h
 refine enter Tryz.func212 z z ?_
 have hS:=Sep.startM hO hlt
 refine .g (.qn z (.g (.qn z (.seq (.g (.qn z (.block ?_)))))))
 have ⟨y1,hy1,h⟩:=bnd h
 refine .via (.iter (fun s1 E' W'=>SubL E' [(0,(sv v_0)),(1,.int .i64 a1),(2,(sv v_2)),(7,.bool s1.1),(8,.int .i64 s1.2.1)] ∧ Sep S w W' [rowV (sv v_0) 175 1 (fun (l : List Fact)=>D.row 193 2 (l.map dFact)) s1.2.2]) (fun y2 x E' W'=>x = .exit 0 ∧ SubL E' [(7,.bool y2.1)] ∧ Sep S w W' [rowV (sv v_0) 175 1 (fun (l : List Fact)=>D.row 193 2 (l.map dFact)) y2.2]) hy1 ⟨sb z,hS.to [0] z⟩ ?_) ?_
 ·intro s1 y3 E W h hI
  obtain ⟨hE,hS⟩:=hI
  refine CW.sub hE ?_
  unfold f8l at h
  refine .seq (.g (.q z (.q z (.nil ?_))))
  refine .cs z h ?_ ?_ <;> intro h
  ·refine .skip ?_
   have ⟨y4,hy4,h⟩:=bnd h
   refine .seq (CW.via (R':=fun x E' W'=>x = .normal ∧ SubL E' [(0,(sv v_0)),(1,.int .i64 a1),(2,(sv v_2)),(7,.bool y4.1),(8,.int .i64 s1.2.1)] ∧ Sep S w W' [rowV (sv v_0) 175 1 (fun (l : List Fact)=>D.row 193 2 (l.map dFact)) y4.2]) ?_ ?_)
   ·have h:=hy4
    refine .block (.seq ?_)
    have ⟨x1,hx1,h⟩:=bnd h
    obtain ⟨k1,hS⟩:=Sep.outv hS hx1
    obtain ⟨v1,k1,rfl,hS⟩:=hS.orowv
    obtain ⟨rfl,hS⟩:=hS.onil
    have ⟨x4,hx4,h⟩:=bnd h
    have ⟨x5,hx5,h⟩:=bnd h
    have ⟨y6,hy6,h⟩:=bnd h
    refine .via (R':=fun x E' W'=>x = .normal ∧ ∃ (g2 : Nat),SubL E' [(0,(sv v_0)),(1,.int .i64 a1),(2,(sv v_2)),(7,.bool s1.1),(8,.int .i64 s1.2.1),(9,.pointer (some ⟨g2,0,none⟩))] ∧ Sep S w W' [rowV (sv v_0) 175 1 (fun (l : List Fact)=>D.row 193 2 (l.map dFact)) s1.2.2,.box g2 193 [.int .i64 y6.Kind,.int .i64 y6.N]]) ?_ ?_
    ·refine .rk 13 hS [0,0] T.mix ?_
     intro W hS
     have hT:=hS.to [0,0] z
     refine .tp 0 z z hT (by kernel_rfl) (.tp 1 z z hT (by kernel_rfl) (.ts 2 z (fun W hT=>ixh hT.p1 hx1 T.u172 T.t175 z z z) hT z (by kernel_rfl) (.ts 3 z (fun W hT=>lde (hT.p1.hcellsv) T.t175 z z z z z) hT z (by kernel_rfl) (.tp 4 z z hT (by kernel_rfl) (.ts 5 z (fun W hT=>ixv hS.lendv hx4 T.u175 T.t193 z z z) hT z (by kernel_rfl) (.ts 6 z (fun W hT=>lde (RV.flat hT.lendv hx4 z) T.t193 z z z z z) hT z (by kernel_rfl) (.tp 7 z z hT (by kernel_rfl) (.tp 8 z z hT (by kernel_rfl) (.ts 9 z (fun W hT=>ixv (hS.keep q_2) hx5 T.u175 T.t193 z z z) hT z (by kernel_rfl) (.ts 10 z (fun W hT=>lde (RV.flat (hT.keep q_2) hx5 z) T.t193 z z z z z) hT z (by kernel_rfl) (.by [11,12] ⟨⟨_,z,?_⟩,⟨_,z,?_⟩,trivial⟩ (by kernel_rfl) z)))))))))))
     ·refine (.call0 hS Tryz.func219 (fam hy6) z z ?_ z z z z)
      intro W hS
      have hT:=hS.to [0,0] z
      refine ⟨fun _=>hT,.by1 12 z (.alloc T.t193 hS ?_ z z z) (by kernel_rfl)⟩
      intro g3 W hS
      have hT:=hS.to [1,1] z
      refine ⟨fun _=>hT,.by1 13 z (.st T.t193 hS z z z ?_ z z z z z) (by kernel_rfl)⟩
      intro W hS
      refine ⟨fun h=>absurd z h,?_⟩
      refine .done ?_ (by kernel_rfl)
      have hS:=Sep.gat (ds:=[.row 193 2 (x1.map dFact)]) (cs:=[(sv v1)]) (L1:=[rowV (sv v1) 193 2 dFact x1]) (.row (.nil)) (hS.to [1,1,0] z)
      have hS : Sep _ _ _ [rowV (sv v_0) 175 1 (fun (l : List Fact)=>D.row 193 2 (l.map dFact)) s1.2.2,.box g3 193 [.int .i64 y6.Kind,.int .i64 y6.N]]:=Sep.back0v hx1 hS
      exact ⟨z,g3,sb z,hS.to [0,0] z⟩
     refine (.alloc T.t193 hS ?_ z z z)
     intro g4 W hS
     have hT:=hS.to [1,1] z
     refine ⟨fun _=>hT,.by1 11 z (.call0 hS Tryz.func219 (fam hy6) z z ?_ z z z z) (by kernel_rfl)⟩
     intro W hS
     have hT:=hS.to [1,1] z
     refine ⟨fun _=>hT,.by1 13 z (.st T.t193 hS z z z ?_ z z z z z) (by kernel_rfl)⟩
     intro W hS
     refine ⟨fun h=>absurd z h,?_⟩
     refine .done ?_ (by kernel_rfl)
     have hS:=Sep.gat (ds:=[.row 193 2 (x1.map dFact)]) (cs:=[(sv v1)]) (L1:=[rowV (sv v1) 193 2 dFact x1]) (.row (.nil)) (hS.to [1,1,0] z)
     have hS : Sep _ _ _ [rowV (sv v_0) 175 1 (fun (l : List Fact)=>D.row 193 2 (l.map dFact)) s1.2.2,.box g4 193 [.int .i64 y6.Kind,.int .i64 y6.N]]:=Sep.back0v hx1 hS
     exact ⟨z,g4,sb z,hS.to [0,0] z⟩
    intro x E W hJ
    obtain ⟨rfl,g5,hE,hS⟩:=hJ
    refine ⟨_,hE.sub,?_⟩
    refine .seq ?_
    have ⟨x6,hx6,h⟩:=bnd h
    obtain ⟨k2,hS⟩:=Sep.outv hS hx6
    obtain ⟨v2,k2,rfl,hS⟩:=hS.orowv
    obtain ⟨rfl,hS⟩:=hS.onil
    refine .rk 9 hS [0,0,0] T.mix ?_
    intro W hS
    have hT:=hS.to [0,0,0] z
    refine .ts 0 z (fun W hT=>ld T.t193 hT.p2 z z z z z) hT z (by kernel_rfl) (.tp 1 z z hT (by kernel_rfl) (.tp 2 z z hT (by kernel_rfl) (.ts 3 z (fun W hT=>ixh hT.p1 hx6 T.u172 T.t175 z z z) hT z (by kernel_rfl) (.ts 4 z (fun W hT=>lde (hT.p1.hcellsv) T.t175 z z z z z) hT z (by kernel_rfl) (.tp 5 z z hT (by kernel_rfl) ?_)))))
    have ⟨x8,hx8,h⟩:=bnd h
    refine .ts 6 z (fun W hT=>ixv hS.lendv hx8 T.u175 T.t193 z z z) hT z (by kernel_rfl) (.ts 7 z (fun W hT=>lde (RV.flat hT.lendv hx8 z) T.t193 z z z z z) hT z (by kernel_rfl) (.ts 8 z (fun W hT=>nes T.e193 z z z z) hT z (by kernel_rfl) (.done ?_ (by kernel_rfl))))
    refine .cs z h ?_ ?_ <;> intro h
    ·refine .seq (.rk 7 hS [0,0,0] T.mix ?_)
     intro W hS
     have hT:=hS.to [0,0,0] z
     refine .tp 0 z z hT (by kernel_rfl) (.tp 1 z z hT (by kernel_rfl) (.ts 2 z (fun W hT=>ixh hT.p1 hx6 T.u172 T.t175 z z z) hT z (by kernel_rfl) (.ts 3 z (fun W hT=>lde (hT.p1.hcellsv) T.t175 z z z z z) hT z (by kernel_rfl) (.tp 4 z z hT (by kernel_rfl) (.ts 5 z (fun W hT=>ld T.t193 hT.p2 z z z z z) hT z (by kernel_rfl) ?_)))))
     have ⟨x9,hx9,h⟩:=bnd h
     refine .ts 6 z (fun W hT=>ixv hS.lendv hx9 T.u175 T.t193 z z z) hT z (by kernel_rfl) ?_
     have ⟨r1,hr1,h⟩:=bnd h
     refine .by1 7 z (.sev hr1 hx9 hS T.t193 z z z z z z ?_ z z z z z z) (by kernel_rfl)
     intro W hS
     refine ⟨fun h=>absurd z h,?_⟩
     refine .done (.region (.q z (.nil ?_))) (by kernel_rfl)
     have hS:=Sep.gat (ds:=[.row 193 2 (r1.map dFact)]) (cs:=[(sv v2)]) (L1:=[rowV (sv v2) 193 2 dFact r1]) (.row (.nil)) (hS.to [0,0,0] z)
     have hS : Sep _ _ _ [rowV (sv v_0) 175 1 (fun (l : List Fact)=>D.row 193 2 (l.map dFact)) (s1.2.2.set (Int.toNat a1) r1),.box g5 193 [.int .i64 y6.Kind,.int .i64 y6.N]]:=hS.backv
     cases h
     exact ⟨z,sb z,hS.to [0] z⟩
    refine .skip ?_
    have hS:=Sep.gat (ds:=[.row 193 2 (x6.map dFact)]) (cs:=[(sv v2)]) (L1:=[rowV (sv v2) 193 2 dFact x6]) (.row (.nil)) (hS.to [0,0,0] z)
    have hS : Sep _ _ _ [rowV (sv v_0) 175 1 (fun (l : List Fact)=>D.row 193 2 (l.map dFact)) s1.2.2,.box g5 193 [.int .i64 y6.Kind,.int .i64 y6.N]]:=Sep.back0v hx6 hS
    cases h
    exact ⟨z,sb z,hS.to [0] z⟩
   intro x E W hJ
   obtain ⟨rfl,hE,hS⟩:=hJ
   refine ⟨_,hE.sub,?_⟩
   refine .region (.q z (.q z (.q z (.nil ?_))))
   cases h
   exact ⟨z,sb z,hS.to [0] z⟩
  refine .exit ?_
  cases h
  exact ⟨by simp,z,sb z,hS.to [0] z⟩
 intro x E W hJ
 obtain ⟨rfl,hE,hS⟩:=hJ
 refine ⟨_,hE.sub,?_⟩
 cases h
 exact .g (.q z (.qn z (.ret (fin_ret (vs:=[_]) () (rt z rn) z (hS.to [0] z)))))
theorem fcm {a0 : List Quad} {a1 : List (List Fact)} {v_0 : Hd} {v_1 : Hd} {S : Nat → Prop} {w : World} {r : Bool × (List (List Fact))} (h : f63 a0 a1 = some r) (q_0 : RV w (Old S w) (sv v_0) 126 5 dQuad a0) (hO : Owns w [rowV (sv v_1) 175 1 (fun (l : List Fact)=>D.row 193 2 (l.map dFact)) a1] S) (hlt : ∀ b,S b → b < w.heap.size) : Calls Tryz.prog 200 #[(sv v_0),(sv v_1)] w (Ret S w (fun s : Unit=>.bool r.1) (fun s=>[rowV (sv v_1) 175 1 (fun (l : List Fact)=>D.row 193 2 (l.map dFact)) r.2])):=by
 unfold f63 at h
 refine enter Tryz.func200 z z ?_
 have hS:=Sep.startM hO hlt
 refine .g (.qn z (.g (.qn z (.seq (.g (.qn z (.block ?_)))))))
 have ⟨y1,hy1,h⟩:=bnd h
 refine .via (.iter (fun s1 E' W'=>SubL E' [(0,(sv v_0)),(1,(sv v_1)),(5,.bool s1.1),(6,.int .i64 s1.2.1)] ∧ Sep S w W' [rowV (sv v_1) 175 1 (fun (l : List Fact)=>D.row 193 2 (l.map dFact)) s1.2.2]) (fun y2 x E' W'=>x = .exit 0 ∧ SubL E' [(5,.bool y2.1)] ∧ Sep S w W' [rowV (sv v_1) 175 1 (fun (l : List Fact)=>D.row 193 2 (l.map dFact)) y2.2]) hy1 ⟨sb z,hS.to [0] z⟩ ?_) ?_
 ·intro s1 y3 E W h hI
  obtain ⟨hE,hS⟩:=hI
  refine CW.sub hE ?_
  unfold f8y at h
  refine .seq (.g (.q z (.q z (.s (lenv (hS.keep q_0) T.u104 z z) z (.q z (.nil ?_))))))
  refine .cs z h ?_ ?_ <;> intro h
  ·refine .skip ?_
   have ⟨y4,hy4,h⟩:=bnd h
   refine .seq (CW.via (R':=fun x E' W'=>x = .normal ∧ SubL E' [(0,(sv v_0)),(1,(sv v_1)),(5,.bool y4.1),(6,.int .i64 s1.2.1)] ∧ Sep S w W' [rowV (sv v_1) 175 1 (fun (l : List Fact)=>D.row 193 2 (l.map dFact)) y4.2]) ?_ ?_)
   ·have h:=hy4
    refine .block (.seq (.g (.q z (.q z ?_))))
    have ⟨x1,hx1,h⟩:=bnd h
    refine .s (ixv hS.lendv hx1 T.u172 T.t175 z z z) z ?_
    obtain ⟨k1,hS⟩:=Sep.outv hS hx1
    obtain ⟨v1,k1,rfl,hS⟩:=hS.orowv
    obtain ⟨rfl,hS⟩:=hS.onil
    refine .s (lde (hS.p1.hcellsv) T.t175 z z z z z) z ?_
    have ⟨x2,hx2,h⟩:=bnd h
    refine .s (ixv hS.lendv hx2 T.u175 T.t193 z z z) z (.s (fe T.f193_0 z z z) z (.s (lde (RV.flat hS.lendv hx2 z) T.t3 z z z z z) z (.q z (.nil ?_))))
    refine .cs z h ?_ ?_ <;> intro h
    ·refine .exit ?_
     have hS:=Sep.gat (ds:=[.row 193 2 (x1.map dFact)]) (cs:=[(sv v1)]) (L1:=[rowV (sv v1) 193 2 dFact x1]) (.row (.nil)) (hS.to [0,0] z)
     have hS : Sep _ _ _ [rowV (sv v_1) 175 1 (fun (l : List Fact)=>D.row 193 2 (l.map dFact)) s1.2.2]:=Sep.back0v hx1 hS
     cases h
     exact ⟨z,sb z,hS.to [0] z⟩
    refine .skip (.g (.q z (.q z (.q z (.s (ixh hS.p1 hx1 T.u172 T.t175 z z z) z (.s (lde (hS.p1.hcellsv) T.t175 z z z z z) z (.q z ?_)))))))
    have ⟨y5,hy5,h⟩:=bnd h
    refine .c (.call1v hS Tryz.func210 (fcg hy5 (hS.keep q_0) hS.lendv) z z ?_ z z z z)
    intro v2 W hS
    refine .qn z (.seq (.rk 10 hS [0,0,0] T.mix ?_))
    intro W hS
    have hT:=hS.to [0,0,0] z
    refine .tp 0 z z hT (by kernel_rfl) (.tp 1 z z hT (by kernel_rfl) ?_)
    have ⟨x3,hx3,h⟩:=bnd h
    refine .ts 2 z (fun W hT=>ixv (hS.keep q_0) hx3 T.u104 T.t126 z z z) hT z (by kernel_rfl) (.ts 3 z (fun W hT=>lde (RV.flat (hT.keep q_0) hx3 z) T.t126 z z z z z) hT z (by kernel_rfl) (.tp 4 z z hT (by kernel_rfl) (.tp 5 z z hT (by kernel_rfl) (.ts 6 z (fun W hT=>ixh hT.p2 hx1 T.u172 T.t175 z z z) hT z (by kernel_rfl) (.ts 7 z (fun W hT=>lde (hT.p2.hcellsv) T.t175 z z z z z) hT z (by kernel_rfl) ?_)))))
    have ⟨y6,hy6,h⟩:=bnd h
    refine .by1 8 z (.call1v hS Tryz.func211 (fc6 hy6 hS.p1.lendv) z z ?_ z z z z) (by kernel_rfl)
    intro v3 W hS
    have hT:=hS.to [1,1,1] z
    refine ⟨fun _=>hT,.tp 9 z z hT (by kernel_rfl) (.done (.g (.qn z (.block ?_))) (by kernel_rfl))⟩
    have hS:=Sep.gat (ds:=[.row 193 2 (x1.map dFact)]) (cs:=[(sv v1)]) (L1:=[rowV (sv v1) 193 2 dFact x1]) (.row (.nil)) (hS.to [2,2,0,0] z)
    have hS : Sep _ _ _ [rowV (sv v_1) 175 1 (fun (l : List Fact)=>D.row 193 2 (l.map dFact)) s1.2.2,rowV (sv v3) 193 2 dFact y6,rowV (sv v2) 3 1 (D.int .i64) y5]:=Sep.back0v hx1 hS
    have ⟨y7,hy7,h⟩:=bnd h
    refine .via (.iter (fun s2 E' W'=>SubL E' [(0,(sv v_0)),(1,(sv v_1)),(5,.bool s2.1),(6,.int .i64 s1.2.1),(7,(sv v2)),(8,(sv v3)),(9,.int .i64 s2.2.1)] ∧ Sep S w W' [rowV (sv v_1) 175 1 (fun (l : List Fact)=>D.row 193 2 (l.map dFact)) s2.2.2,rowV (sv v3) 193 2 dFact y6,rowV (sv v2) 3 1 (D.int .i64) y5]) (fun y8 x E' W'=>x = .exit 2 ∧ SubL E' [(0,(sv v_0)),(1,(sv v_1)),(5,.bool y8.1),(6,.int .i64 s1.2.1)] ∧ Sep S w W' [rowV (sv v_1) 175 1 (fun (l : List Fact)=>D.row 193 2 (l.map dFact)) y8.2,rowV (sv v3) 193 2 dFact y6,rowV (sv v2) 3 1 (D.int .i64) y5]) hy7 ⟨sb z,hS.to [0,0,0] z⟩ ?_) ?_
    ·intro s2 y9 E W h hI
     obtain ⟨hE,hS⟩:=hI
     refine CW.sub hE ?_
     unfold f8x at h
     refine .seq (.g (.q z (.q z (.s (lenv hS.p2.lendv T.u25 z z) z (.qn z (.cond z (fun hb=>?_) (fun hb=>?_)))))))
     ·have h:=sel_t hb h
      refine .skip ?_
      have ⟨y10,hy10,h⟩:=bnd h
      refine .seq (CW.via (R':=fun x E' W'=>x = .normal ∧ SubL E' [(0,(sv v_0)),(1,(sv v_1)),(5,.bool y10.1),(6,.int .i64 s1.2.1),(7,(sv v2)),(8,(sv v3)),(9,.int .i64 s2.2.1)] ∧ Sep S w W' [rowV (sv v_1) 175 1 (fun (l : List Fact)=>D.row 193 2 (l.map dFact)) y10.2,rowV (sv v3) 193 2 dFact y6,rowV (sv v2) 3 1 (D.int .i64) y5]) ?_ ?_)
      ·have h:=hy10
       refine .block (.g (.q z (.q z (.q z ?_))))
       have ⟨x4,hx4,h⟩:=bnd h
       refine .s (ixv hS.p2.lendv hx4 T.u25 T.t3 z z z) z (.s (lde (RV.flat hS.p2.lendv hx4 z) T.t3 z z z z z) z (.q z ?_))
       have ⟨y11,hy11,h⟩:=bnd h
       refine .c (.callS2 (L0:=[rowV (sv v_1) 175 1 (fun (l : List Fact)=>D.row 193 2 (l.map dFact)) s2.2.2]) hS Tryz.func212 (fun S h1 h2 h3=>(fch hy11 (h3.rdv (k:=0) z) h2 (zz h1))) z z ?_ z z z z)
       rintro ⟨⟩ W hS
       refine .nil ?_
       refine .cs z h ?_ ?_ <;> intro h
       ·refine .region (.q z (.nil ?_))
        cases h
        exact ⟨z,sb z,hS.to [0,0,0] z⟩
       refine .skip ?_
       cases h
       exact ⟨z,sb z,hS.to [0,0,0] z⟩
      intro x E W hJ
      obtain ⟨rfl,hE,hS⟩:=hJ
      refine ⟨_,hE.sub,?_⟩
      refine .region (.q z (.q z (.q z (.nil ?_))))
      cases h
      exact ⟨z,sb z,hS.to [0,0,0] z⟩
     have h:=sel_f hb h
     refine .exit ?_
     cases h
     exact ⟨by simp,z,sb z,hS.to [0,0,0] z⟩
    intro x E W hJ
    obtain ⟨rfl,hE,hS⟩:=hJ
    refine ⟨_,hE.sub,?_⟩
    cases h
    exact ⟨z,sb z,hS.to [0] z⟩
   intro x E W hJ
   obtain ⟨rfl,hE,hS⟩:=hJ
   refine ⟨_,hE.sub,?_⟩
   refine .region (.q z (.q z (.q z (.nil ?_))))
   cases h
   exact ⟨z,sb z,hS.to [0] z⟩
  refine .exit ?_
  cases h
  exact ⟨by simp,z,sb z,hS.to [0] z⟩
 intro x E W hJ
 obtain ⟨rfl,hE,hS⟩:=hJ
 refine ⟨_,hE.sub,?_⟩
 cases h
 exact .g (.q z (.qn z (.ret (fin_ret (vs:=[_]) () (rt z rn) z (hS.to [0] z)))))
theorem fd3 {a0 : List Quad} {v_0 : Hd} {w : World} {r : (List (List Fact))} (h : f74 a0 = some r) (q_0 : RV w (Old No w) (sv v_0) 126 5 dQuad a0) : Calls Tryz.prog 181 #[(sv v_0)] w (Ret No w (fun s : Hd=>(sv s)) (fun s=>[rowV (sv s) 175 1 (fun (l : List Fact)=>D.row 193 2 (l.map dFact)) r])):=by
 unfold f74 at h
 refine enter Tryz.func181 z z ?_
 have hS:=Sep.start w
 refine .g (.qn z (.g (.c (.ligv (L1:=[]) [] (fun (l : List Fact)=>D.row 193 2 (l.map dFact)) T.u172 T.t175 (hS.to [] z) z z z (.nil) ?_ z (fun _=>z) z z z z z))))
 intro v1 W hS
 refine .qn z (.seq (.g (.q z ?_)))
 have ⟨y1,hy1,h⟩:=bnd h
 refine .c (.call0 hS Tryz.func151 (f10 hy1 (hS.keep q_0)) z z ?_ z z z z)
 intro W hS
 refine .qn z (.cond z (fun hb=>?_) (fun hb=>?_))
 ·have h:=sel_t hb h
  cases h
  exact .g (.q z (.qn z (.ret (fin_ret (vs:=[_]) v1 (rt z rn) z (hS.to [0] z)))))
 have h:=sel_f hb h
 refine .skip (.seq (.g (.qn z (.block ?_))))
 have ⟨y2,hy2,h⟩:=bnd h
 refine .via (.iter (fun s1 E' W'=>∃ (v4 : Hd),SubL E' [(0,(sv v_0)),(3,(sv v4)),(4,.int .i64 s1.2)] ∧ Sep No w W' [rowV (sv v4) 175 1 (fun (l : List Fact)=>D.row 193 2 (l.map dFact)) s1.1]) (fun y3 x E' W'=>x = .exit 0 ∧ ∃ (v5 : Hd),SubL E' [(0,(sv v_0)),(3,(sv v5))] ∧ Sep No w W' [rowV (sv v5) 175 1 (fun (l : List Fact)=>D.row 193 2 (l.map dFact)) y3]) hy2 ⟨v1,sb z,hS.to [0] z⟩ ?_) ?_
 ·intro s1 y4 E W h hI
  obtain ⟨v3,hE,hS⟩:=hI
  refine CW.sub hE ?_
  unfold f9d at h
  refine .seq (.g (.q z (.q z (.s (lenv (hS.keep q_0) T.u104 z z) z (.q z (.nil ?_))))))
  refine .cs z h ?_ ?_ <;> intro h
  ·refine .skip (.seq (.block (.region (.q z ?_))))
   have ⟨r1,hr1,h⟩:=bnd h
   refine .c (.mkv (Fact.mk 0 0) dFact hr1 T.u175 T.t193 hS z z z z z (fun _=>z) ?_ z z z)
   intro v6 W hS
   refine .c (.ligv (L1:=[rowV (sv v6) 193 2 dFact r1]) [r1] (fun (l : List Fact)=>D.row 193 2 (l.map dFact)) T.u172 T.t175 (hS.to [0,0] z) z z z (.row (.nil)) ?_ z (fun _=>z) z z z z z)
   intro v7 W hS
   have ⟨r2,hr2,h⟩:=bnd h
   refine .c (.appv hr2 (hS.to [1,0] z) T.u172 T.t175 z z z ?_ z z z z z)
   intro v8 W hS
   refine .qn z (.region (.q z (.q z (.q z (.nil ?_)))))
   cases h
   exact ⟨z,v8,sb z,hS.to [0] z⟩
  refine .exit ?_
  cases h
  exact ⟨by simp,z,v3,sb z,hS.to [0] z⟩
 intro x E W hJ
 obtain ⟨rfl,v9,hE,hS⟩:=hJ
 refine ⟨_,hE.sub,?_⟩
 refine .seq (.g (.qn z (.block ?_)))
 have ⟨y5,hy5,h⟩:=bnd h
 refine .via (.iter (fun s2 E' W'=>SubL E' [(0,(sv v_0)),(3,(sv v9)),(5,.int .i64 s2.1)] ∧ Sep No w W' [rowV (sv v9) 175 1 (fun (l : List Fact)=>D.row 193 2 (l.map dFact)) s2.2]) (fun y6 x E' W'=>x = .exit 2 ∧ SubL E' [(0,(sv v_0)),(3,(sv v9))] ∧ Sep No w W' [rowV (sv v9) 175 1 (fun (l : List Fact)=>D.row 193 2 (l.map dFact)) y6]) hy5 ⟨sb z,hS.to [0] z⟩ ?_) ?_
 ·intro s2 y7 E W h hI
  obtain ⟨hE,hS⟩:=hI
  refine CW.sub hE ?_
  unfold f9e at h
  refine .seq (.g (.q z (.q z (.nil ?_))))
  refine .cs z h ?_ ?_ <;> intro h
  ·refine .skip (.seq (.block (.region (.q z ?_))))
   have ⟨x1,hx1,h⟩:=bnd h
   refine .s (ixv hS.lendv hx1 T.u172 T.t175 z z z) z ?_
   obtain ⟨k1,hS⟩:=Sep.outv hS hx1
   obtain ⟨v10,k1,rfl,hS⟩:=hS.orowv
   obtain ⟨rfl,hS⟩:=hS.onil
   refine .s (lde (hS.p1.hcellsv) T.t175 z z z z z) z (.q z (.s (bs T.s193 z z) z ?_))
   have ⟨x2,hx2,h⟩:=bnd h
   refine .s (ixv hS.lendv hx2 T.u175 T.t193 z z z) z ?_
   have ⟨r3,hr3,h⟩:=bnd h
   refine .c (.sev hr3 hx2 hS T.t193 z z z z z z ?_ z z z z z z)
   intro W hS
   refine .nil (.region (.q z (.q z (.q z (.nil ?_)))))
   have hS:=Sep.gat (ds:=[.row 193 2 (r3.map dFact)]) (cs:=[(sv v10)]) (L1:=[rowV (sv v10) 193 2 dFact r3]) (.row (.nil)) (hS.to [0,0] z)
   have hS : Sep _ _ _ [rowV (sv v9) 175 1 (fun (l : List Fact)=>D.row 193 2 (l.map dFact)) (s2.2.set (Int.toNat 0) r3)]:=hS.backv
   cases h
   exact ⟨z,sb z,hS.to [0] z⟩
  refine .exit ?_
  cases h
  exact ⟨by simp,z,sb z,hS.to [0] z⟩
 intro x E W hJ
 obtain ⟨rfl,hE,hS⟩:=hJ
 refine ⟨_,hE.sub,?_⟩
 refine .seq (.block ?_)
 have ⟨y8,hy8,h⟩:=bnd h
 refine .via (.iter (fun s3 E' W'=>SubL E' [(0,(sv v_0)),(3,(sv v9))] ∧ Sep No w W' [rowV (sv v9) 175 1 (fun (l : List Fact)=>D.row 193 2 (l.map dFact)) s3]) (fun y9 x E' W'=>x = .exit 4 ∧ SubL E' [(3,(sv v9))] ∧ Sep No w W' [rowV (sv v9) 175 1 (fun (l : List Fact)=>D.row 193 2 (l.map dFact)) y9]) hy8 ⟨sb z,hS.to [0] z⟩ ?_) ?_
 ·intro s3 y10 E W h hI
  obtain ⟨hE,hS⟩:=hI
  refine CW.sub hE ?_
  unfold f9a at h
  refine .seq (.g (.q z (.q z ?_)))
  have ⟨y11,hy11,h⟩:=bnd h
  refine .c (.callS2 (L0:=[rowV (sv v9) 175 1 (fun (l : List Fact)=>D.row 193 2 (l.map dFact)) s3]) hS Tryz.func200 (fun S h1 h2 h3=>(fcm hy11 (hS.keepS q_0 h1) h2 (zz h1))) z z ?_ z z z z)
  rintro ⟨⟩ W hS
  refine .nil ?_
  refine .cs z h ?_ ?_ <;> intro h
  ·refine .skip (.block (.skip ?_))
   cases h
   exact ⟨z,sb z,hS.to [0] z⟩
  refine .exit ?_
  cases h
  exact ⟨by simp,z,sb z,hS.to [0] z⟩
 intro x E W hJ
 obtain ⟨rfl,hE,hS⟩:=hJ
 refine ⟨_,hE.sub,?_⟩
 obtain rfl:=Option.some.inj h
 exact .g (.q z (.qn z (.ret (fin_ret (vs:=[_]) v9 (rt z rn) z (hS.to [0] z)))))
theorem f3i {a0 : Fact} {a1 : Int} {w : World} {r : Bool} (h : f33 a0 a1 = some r) : Calls Tryz.prog 202 #[.agg #[.int .i64 a0.Kind,.int .i64 a0.N],.int .i64 a1] w (Ret No w (fun s : Unit=>.bool r) (fun s=>[])):=by
 unfold f33 at h
 refine enter Tryz.func202 z z ?_
 have hS:=Sep.start w
 refine .g (.c (.box hS z z ?_ z z))
 intro g1 W hS
 refine .qn z (.g (.s (fa T.f193_0 z z z) z (.s (ld T.t3 hS z z z z z) z (.q z (.q z (.chunk 5 13 ((a0.Kind == 1) && (a0.N == a1)) hS ?_ ?_))))))
 ·refine .both (a0.Kind == 1) (fun hb=>?_) (fun hb=>?_)
  ·have hg1:=hb
   exact .g hg1 (.s (fa T.f193_1 z z z) z (.g hg1 (.s (ld T.t3 hS z z z z z) z (.g hg1 (.q z (.g hg1 (.q z (.s (pkt hg1 z z z) z (.nil (ck 5 hS z (and_t hg1) z z)))) z)) z)) z)) z
  exact .xx hb z (.xx hb z (.xx hb z (.xx hb z (.s (pkf hb z z z) z (.nil (ck 5 hS z (and_f hb) z z))))))
 intro W hS
 cases h
 exact .qn z (.ret (fin_ret (vs:=[_]) () (rt z rn) z (hS.to [] z)))
def fef (w : World) (r : Bool) : Env → World → Prop:=Fin Tryz.prog Tryz.f220 No w (fun s : Unit=>.bool r) (fun s=>[]) .ret
theorem feb {a0 : List Int} {a1 : Int} {v_0 : Hd} {w : World} {r : Bool} (h : f86 a0 a1 = some r) (q_0 : RV w (Old No w) (sv v_0) 3 1 (D.int .i64) a0) : Calls Tryz.prog 220 #[(sv v_0),.int .i64 a1] w (Ret No w (fun s : Unit=>.bool r) (fun s=>[])):=by
 unfold f86 at h
 refine enter Tryz.func220 z z ?_
 have hS:=Sep.start w
 refine .g (.qn z (.seq (.g (.qn z (.block ?_)))))
 have ⟨y1,hy1,h⟩:=bnd h
 refine .via (.iter (fun s1 E' W'=>SubL E' [(0,(sv v_0)),(1,.int .i64 a1),(5,.int .i64 s1)] ∧ Sep No w W' []) (fun y2 x E' W'=>(match y2 with | .inl o1=>x = .ret ∧ fef w o1 E' W' | .inr o2=>x = .exit 0 ∧ SubL E' [] ∧ Sep No w W' [])) hy1 ⟨sb rfl,hS.to [] rfl⟩ ?_) ?_
 ·intro s1 y3 E W h hI
  obtain ⟨hE,hS⟩:=hI
  refine CW.sub hE ?_
  unfold f9o at h
  refine .seq (.g (.q z (.q z (.s (lenv (hS.keep q_0) T.u25 z z) z (.q z (.nil ?_))))))
  refine .cs z h ?_ ?_ <;> intro h
  ·refine .skip (.seq (.block (.g (.q z (.q z ?_)))))
   have ⟨x1,hx1,h⟩:=bnd h
   refine .s (ixv (hS.keep q_0) hx1 T.u25 T.t3 z z z) z (.s (lde (RV.flat (hS.keep q_0) hx1 z) T.t3 z z z z z) z (.q z (.q z (.nil ?_))))
   refine .cs z h ?_ ?_ <;> intro h
   ·refine .g (.qn z (.ret ?_))
    cases h
    exact ⟨by simp,z,fin_ret (vs:=[_]) () (rt z rn) z (hS.to [] z)⟩
   refine .skip (.region (.q z (.q z (.q z (.nil ?_)))))
   cases h
   exact ⟨z,sb z,hS.to [] z⟩
  refine .exit ?_
  cases h
  exact ⟨by simp,z,sb z,hS.to [] z⟩
 intro x E W hJ
 rcases y1 with o3 | o4
 ·obtain ⟨rfl,hF⟩:=hJ
  refine ⟨_,fun _ _ h=>h,?_⟩
  cases h
  exact hF
 obtain ⟨rfl,hE,hS⟩:=hJ
 refine ⟨_,hE.sub,?_⟩
 obtain rfl:=Option.some.inj h
 exact .g (.qn z (.ret (fin_ret (vs:=[_]) () (rt z rn) z (hS.to [] z))))
theorem f7q {a0 : Int} {a1 : List Int} {v_1 : Hd} {w : World} {r : Bool} (h : f3q a0 a1 = some r) (q_1 : RV w (Old No w) (sv v_1) 3 1 (D.int .i64) a1) : Calls Tryz.prog 214 #[.int .i64 a0,(sv v_1)] w (Ret No w (fun s : Unit=>.bool r) (fun s=>[])):=by
 unfold f3q at h
 refine enter Tryz.func214 z z ?_
 have hS:=Sep.start w
 refine .g (.qn z (.g (.q z (.q z ?_))))
 have ⟨y1,hy1,h⟩:=bnd h
 refine .c (.call0 hS Tryz.func220 (feb hy1 (hS.keep q_1)) z z ?_ z z z z)
 intro W hS
 obtain rfl:=Option.some.inj h
 exact .qn z (.ret (fin_ret (vs:=[_]) () (rt z rn) z (hS.to [] z)))
theorem fec {a0 : Quad} {a1 : Fact} {a2 : Fact} {w : World} {r : Quad} (h : f89 a0 a1 a2 = some r) : Calls Tryz.prog 201 #[.agg #[.int .i64 a0.Op,.int .i64 a0.Dst,.int .i64 a0.A,.int .i64 a0.B,.int .i64 a0.N],.agg #[.int .i64 a1.Kind,.int .i64 a1.N],.agg #[.int .i64 a2.Kind,.int .i64 a2.N]] w (Ret No w (fun s : Unit=>.agg #[.int .i64 r.Op,.int .i64 r.Dst,.int .i64 r.A,.int .i64 r.B,.int .i64 r.N]) (fun s=>[])):=by
 unfold f89 at h
 refine enter Tryz.func201 z z ?_
 have hS:=Sep.start w
 refine .g (.c (.box hS z z ?_ z z))
 intro g1 W hS
 refine .c (.box hS z z ?_ z z)
 intro g2 W hS
 refine .c (.box hS z z ?_ z z)
 intro g3 W hS
 refine .c (.alloc T.t126 hS ?_ z z z)
 intro g4 W hS
 refine .nil (.g (.s (ld T.t126 hS.p3 z z z z z) z (.s (ld T.t193 hS.p2 z z z z z) z (.s (ld T.t193 hS.p1 z z z z z) z ?_))))
 have ⟨y1,hy1,h⟩:=bnd h
 refine .c (.call0 hS Tryz.func213 (fa4 hy1) z z ?_ z z z z)
 intro W hS
 refine .c (.alloc T.t193 hS ?_ z z z)
 intro g5 W hS
 refine .c (.st T.t193 hS z z z ?_ z z z z z)
 intro W hS
 refine .nil (.seq (.block (.g (.s (fa T.f193_0 z z z) z (.s (ld T.t3 hS z z z z z) z (.q z (.q z (.nil ?_))))))))
 refine .cs z h ?_ ?_ <;> intro h
 ·refine .g (.s (fa T.f126_1 z z z) z (.s (ld T.t3 hS.p4 z z z z z) z (.s (fa T.f193_1 z z z) z (.s (ld T.t3 hS z z z z z) z (.s (bs T.s126 z z) z (.c (.st T.t126 hS.p1 z z z ?_ z z z z z)))))))
  intro W hS
  cases h
  exact .nil (.ret (fin_ret (vs:=[_]) () (rc hS T.t126 z rn z z) z (hS.to [] z)))
 refine .g (.s (ld T.t193 hS.p2 z z z z z) z ?_)
 have ⟨y2,hy2,h⟩:=bnd h
 refine .c (.call0 hS Tryz.func202 (f3i hy2) z z ?_ z z z z)
 intro W hS
 refine .q z ?_
 have ⟨b1,hb1,h⟩:=bnd h
 refine .chunk 5 29 (b1) hS ?_ ?_
 ·refine .both (y2) (fun hb=>?_) (fun hb=>?_)
  ·have hg1:=hb
   have h:=sel_t hb hb1
   refine .g hg1 (.s (fa T.f126_4 z z z) z (.g hg1 (.s (ld T.t3 hS.p4 z z z z z) z (.g hg1 (.c (.liv [1,2,6,7,8,9] (D.int .i64) T.u25 T.t3 hS z z z z ?_ z (fun _=>z) z z z z)) z)) z)) z
   intro v1 W hS
   have ⟨y3,hy3,h⟩:=bnd h
   refine .g hg1 (.c (.call0 hS Tryz.func214 (f7q hy3 hS.lendv) z z ?_ z z z z)) z
   intro W hS
   refine .s (pkt hg1 z z z) z ?_
   cases h
   exact .nil (ck 5 (hS.to [1,1,1,1,1] z) z z z z)
  refine .xx hb z (.xx hb z (.xx hb z (.xx hb z ?_)))
  cases sel_f hb hb1
  exact .s (pkf hb z z z) z (.nil (ck 5 hS z z z z))
 intro W hS
 refine .q z (.nil ?_)
 refine .cs z h ?_ ?_ <;> intro h
 ·refine .g (.s (fa T.f126_1 z z z) z (.s (ld T.t3 hS.p4 z z z z z) z (.s (fa T.f126_2 z z z) z (.s (ld T.t3 hS.p4 z z z z z) z (.s (bs T.s126 z z) z (.c (.st T.t126 hS.p1 z z z ?_ z z z z z)))))))
  intro W hS
  cases h
  exact .nil (.ret (fin_ret (vs:=[_]) () (rc hS T.t126 z rn z z) z (hS.to [] z)))
 refine .g (.s (ld T.t193 hS.p2 z z z z z) z ?_)
 have ⟨y4,hy4,h⟩:=bnd h
 refine .c (.call0 hS Tryz.func202 (f3i hy4) z z ?_ z z z z)
 intro W hS
 refine .q z ?_
 have ⟨b2,hb2,h⟩:=bnd h
 refine .chunk 5 43 (b2) hS ?_ ?_
 ·refine .both (y4) (fun hb=>?_) (fun hb=>?_)
  ·have hg2:=hb
   have h:=sel_t hb hb2
   refine .g hg2 (.s (fa T.f126_4 z z z) z (.g hg2 (.s (ld T.t3 hS.p4 z z z z z) z (.g hg2 (.c (.liv [10,11] (D.int .i64) T.u25 T.t3 hS z z z z ?_ z (fun _=>z) z z z z)) z)) z)) z
   intro v2 W hS
   have ⟨y5,hy5,h⟩:=bnd h
   refine .g hg2 (.c (.call0 hS Tryz.func214 (f7q hy5 hS.lendv) z z ?_ z z z z)) z
   intro W hS
   refine .s (pkt hg2 z z z) z ?_
   cases h
   exact .nil (ck 5 (hS.to [1,1,1,1,1] z) z z z z)
  refine .xx hb z (.xx hb z (.xx hb z (.xx hb z ?_)))
  cases sel_f hb hb2
  exact .s (pkf hb z z z) z (.nil (ck 5 hS z z z z))
 intro W hS
 refine .q z (.nil ?_)
 refine .cs z h ?_ ?_ <;> intro h
 ·refine .g (.s (fa T.f126_1 z z z) z (.s (ld T.t3 hS.p4 z z z z z) z (.s (fa T.f126_2 z z z) z (.s (ld T.t3 hS.p4 z z z z z) z (.s (bs T.s126 z z) z (.c (.st T.t126 hS.p1 z z z ?_ z z z z z)))))))
  intro W hS
  cases h
  exact .nil (.ret (fin_ret (vs:=[_]) () (rc hS T.t126 z rn z z) z (hS.to [] z)))
 refine .g (.s (ld T.t193 hS.p3 z z z z z) z ?_)
 have ⟨y6,hy6,h⟩:=bnd h
 refine .c (.call0 hS Tryz.func202 (f3i hy6) z z ?_ z z z z)
 intro W hS
 refine .q z ?_
 have ⟨b3,hb3,h⟩:=bnd h
 refine .chunk 5 57 (b3) hS ?_ ?_
 ·refine .both (y6) (fun hb=>?_) (fun hb=>?_)
  ·have hg3:=hb
   have h:=sel_t hb hb3
   refine .g hg3 (.s (fa T.f126_4 z z z) z (.g hg3 (.s (ld T.t3 hS.p4 z z z z z) z (.g hg3 (.c (.liv [1,2,8] (D.int .i64) T.u25 T.t3 hS z z z z ?_ z (fun _=>z) z z z z)) z)) z)) z
   intro v3 W hS
   have ⟨y7,hy7,h⟩:=bnd h
   refine .g hg3 (.c (.call0 hS Tryz.func214 (f7q hy7 hS.lendv) z z ?_ z z z z)) z
   intro W hS
   refine .s (pkt hg3 z z z) z ?_
   cases h
   exact .nil (ck 5 (hS.to [1,1,1,1,1] z) z z z z)
  refine .xx hb z (.xx hb z (.xx hb z (.xx hb z ?_)))
  cases sel_f hb hb3
  exact .s (pkf hb z z z) z (.nil (ck 5 hS z z z z))
 intro W hS
 refine .q z (.nil ?_)
 refine .cs z h ?_ ?_ <;> intro h
 ·refine .g (.s (fa T.f126_1 z z z) z (.s (ld T.t3 hS.p4 z z z z z) z (.s (fa T.f126_3 z z z) z (.s (ld T.t3 hS.p4 z z z z z) z (.s (bs T.s126 z z) z (.c (.st T.t126 hS.p1 z z z ?_ z z z z z)))))))
  intro W hS
  cases h
  exact .nil (.ret (fin_ret (vs:=[_]) () (rc hS T.t126 z rn z z) z (hS.to [] z)))
 refine .g (.s (ld T.t193 hS.p3 z z z z z) z ?_)
 have ⟨y8,hy8,h⟩:=bnd h
 refine .c (.call0 hS Tryz.func202 (f3i hy8) z z ?_ z z z z)
 intro W hS
 refine .q z (.chunk 4 70 (y8 && (a0.N == 10)) hS ?_ ?_)
 ·refine .both (y8) (fun hb=>?_) (fun hb=>?_)
  ·have hg4:=hb
   exact .g hg4 (.s (fa T.f126_4 z z z) z (.g hg4 (.s (ld T.t3 hS.p4 z z z z z) z (.g hg4 (.q z (.s (pkt hg4 z z z) z (.nil (ck 4 hS z (and_t hg4) z z)))) z)) z)) z
  exact .xx hb z (.xx hb z (.xx hb z (.s (pkf hb z z z) z (.nil (ck 4 hS z (and_f hb) z z)))))
 intro W hS
 refine .q z (.nil ?_)
 refine .cs z h ?_ ?_ <;> intro h
 ·refine .g (.s (fa T.f126_1 z z z) z (.s (ld T.t3 hS.p4 z z z z z) z (.s (fa T.f126_3 z z z) z (.s (ld T.t3 hS.p4 z z z z z) z (.s (bs T.s126 z z) z (.c (.st T.t126 hS.p1 z z z ?_ z z z z z)))))))
  intro W hS
  cases h
  exact .nil (.ret (fin_ret (vs:=[_]) () (rc hS T.t126 z rn z z) z (hS.to [] z)))
 refine .g (.s (ld T.t193 hS.p3 z z z z z) z ?_)
 have ⟨y9,hy9,h⟩:=bnd h
 refine .c (.call0 hS Tryz.func202 (f3i hy9) z z ?_ z z z z)
 intro W hS
 refine .q z ?_
 have ⟨b4,hb4,h⟩:=bnd h
 refine .chunk 3 82 (b4) hS ?_ ?_
 ·refine .both (y9) (fun hb=>?_) (fun hb=>?_)
  ·refine .xx hb z (.xx hb z ?_)
   cases sel_t hb hb4
   exact .s (pkt hb z z z) z (.nil (ck 3 hS z z z z))
  have hg5:=hb
  have h:=sel_f hb hb4
  refine .g hg5 (.s (ld T.t193 hS.p2 z z z z z) z ?_) z
  have ⟨y10,hy10,h⟩:=bnd h
  refine .g hg5 (.c (.call0 hS Tryz.func202 (f3i hy10) z z ?_ z z z z)) z
  intro W hS
  refine .s (pkf hg5 z z z) z ?_
  cases h
  exact .nil (ck 3 hS z z z z)
 intro W hS
 refine .q z ?_
 have ⟨b5,hb5,h⟩:=bnd h
 refine .chunk 5 88 (b5) hS ?_ ?_
 ·refine .both (b4) (fun hb=>?_) (fun hb=>?_)
  ·have hg6:=hb
   have h:=sel_t hb hb5
   refine .g hg6 (.s (fa T.f126_4 z z z) z (.g hg6 (.s (ld T.t3 hS.p4 z z z z z) z (.g hg6 (.c (.liv [3,10] (D.int .i64) T.u25 T.t3 hS z z z z ?_ z (fun _=>z) z z z z)) z)) z)) z
   intro v4 W hS
   have ⟨y11,hy11,h⟩:=bnd h
   refine .g hg6 (.c (.call0 hS Tryz.func214 (f7q hy11 hS.lendv) z z ?_ z z z z)) z
   intro W hS
   refine .s (pkt hg6 z z z) z ?_
   cases h
   exact .nil (ck 5 (hS.to [1,1,1,1,1] z) z z z z)
  refine .xx hb z (.xx hb z (.xx hb z (.xx hb z ?_)))
  cases sel_f hb hb5
  exact .s (pkf hb z z z) z (.nil (ck 5 hS z z z z))
 intro W hS
 refine .q z (.nil ?_)
 refine .cs z h ?_ ?_ <;> intro h
 ·refine .g (.s (fa T.f126_1 z z z) z (.s (ld T.t3 hS.p4 z z z z z) z (.s (bs T.s126 z z) z (.c (.st T.t126 hS.p1 z z z ?_ z z z z z)))))
  intro W hS
  cases h
  exact .nil (.ret (fin_ret (vs:=[_]) () (rc hS T.t126 z rn z z) z (hS.to [] z)))
 refine .skip (.g (.s (ld T.t126 hS.p4 z z z z z) z (.c (.st T.t126 hS.p1 z z z ?_ z z z z z))))
 intro W hS
 obtain rfl:=Option.some.inj h
 exact .nil (.ret (fin_ret (vs:=[_]) () (rc hS T.t126 z rn z z) z (hS.to [] z)))
theorem fdn {a0 : Quad} {a1 : List Fact} {a2 : Int} {v_1 : Hd} {w : World} {r : Quad} (h : f70 a0 a1 a2 = some r) (q_1 : RV w (Old No w) (sv v_1) 193 2 dFact a1) : Calls Tryz.prog 182 #[.agg #[.int .i64 a0.Op,.int .i64 a0.Dst,.int .i64 a0.A,.int .i64 a0.B,.int .i64 a0.N],(sv v_1),.int .i64 a2] w (Ret No w (fun s : Unit=>.agg #[.int .i64 r.Op,.int .i64 r.Dst,.int .i64 r.A,.int .i64 r.B,.int .i64 r.N]) (fun s=>[])):=by
 unfold f70 at h
 refine enter Tryz.func182 z z ?_
 have hS:=Sep.start w
 refine .g (.c (.box hS z z ?_ z z))
 intro g1 W hS
 refine .c (.alloc T.t126 hS ?_ z z z)
 intro g2 W hS
 refine .nil (.seq (.g (.q z ?_)))
 have ⟨x1,hx1,h⟩:=bnd h
 refine .s (ixv (hS.keep q_1) hx1 T.u175 T.t193 z z z) z (.s (fe T.f193_0 z z z) z (.s (lde (RV.flat (hS.keep q_1) hx1 z) T.t3 z z z z z) z (.q z (.nil ?_))))
 refine .cs z h ?_ ?_ <;> intro h
 ·refine .g (.s (ld T.t126 hS.p1 z z z z z) z (.c (.st T.t126 hS z z z ?_ z z z z z)))
  intro W hS
  obtain rfl:=Option.some.inj h
  exact .nil (.ret (fin_ret (vs:=[_]) () (rc hS T.t126 z rn z z) z (hS.to [] z)))
 refine .skip (.seq (.g (.s (fa T.f126_0 z z z) z (.s (ld T.t3 hS.p1 z z z z z) z (.nil (.block (.g (.q z (.q z (.nil ?_))))))))))
 refine .cs z h ?_ ?_ <;> intro h
 ·refine .g (.q z (.s (fa T.f126_2 z z z) z (.s (ld T.t3 hS.p1 z z z z z) z ?_)))
  have ⟨x2,hx2,h⟩:=bnd h
  refine .s (ixv (hS.keep q_1) hx2 T.u175 T.t193 z z z) z (.s (fe T.f193_0 z z z) z (.s (lde (RV.flat (hS.keep q_1) hx2 z) T.t3 z z z z z) z (.q z (.nil ?_))))
  refine .cs z h ?_ ?_ <;> intro h
  ·refine .seq (.rk 9 hS [0,0] T.mix ?_)
   intro W hS
   have hT:=hS.to [0,0] z
   refine .ts 0 z (fun W hT=>fa T.f126_1 z z z) hT z (by kernel_rfl) (.ts 1 z (fun W hT=>ld T.t3 hT.p1 z z z z z) hT z (by kernel_rfl) (.tp 2 z z hT (by kernel_rfl) (.ts 3 z (fun W hT=>fa T.f126_2 z z z) hT z (by kernel_rfl) (.ts 4 z (fun W hT=>ld T.t3 hT.p1 z z z z z) hT z (by kernel_rfl) ?_))))
   have ⟨x3,hx3,h⟩:=bnd h
   refine .ts 5 z (fun W hT=>ixv (hS.keep q_1) hx3 T.u175 T.t193 z z z) hT z (by kernel_rfl) (.ts 6 z (fun W hT=>fe T.f193_1 z z z) hT z (by kernel_rfl) (.ts 7 z (fun W hT=>lde (RV.flat (hT.keep q_1) hx3 z) T.t3 z z z z z) hT z (by kernel_rfl) (.ts 8 z (fun W hT=>bs T.s126 z z) hT z (by kernel_rfl) (.by1 9 z (.st T.t126 hS z z z ?_ z z z z z) (by kernel_rfl)))))
   intro W hS
   refine ⟨fun h=>absurd z h,?_⟩
   cases h
   exact .done (.ret (fin_ret (vs:=[_]) () (rc hS T.t126 z rn z z) z (hS.to [] z))) (by kernel_rfl)
  refine .skip (.g (.s (ld T.t126 hS.p1 z z z z z) z (.c (.st T.t126 hS z z z ?_ z z z z z))))
  intro W hS
  obtain rfl:=Option.some.inj h
  exact .nil (.ret (fin_ret (vs:=[_]) () (rc hS T.t126 z rn z z) z (hS.to [] z)))
 refine .g (.q z (.q z (.nil ?_)))
 refine .cs z h ?_ ?_ <;> intro h
 ·refine .seq (.rk 12 hS [0,0] T.mix ?_)
  intro W hS
  have hT:=hS.to [0,0] z
  refine .ts 0 z (fun W hT=>ld T.t126 hT.p1 z z z z z) hT z (by kernel_rfl) (.tp 1 z z hT (by kernel_rfl) (.ts 2 z (fun W hT=>fa T.f126_2 z z z) hT z (by kernel_rfl) (.ts 3 z (fun W hT=>ld T.t3 hT.p1 z z z z z) hT z (by kernel_rfl) ?_)))
  have ⟨x4,hx4,h⟩:=bnd h
  refine .ts 4 z (fun W hT=>ixv (hS.keep q_1) hx4 T.u175 T.t193 z z z) hT z (by kernel_rfl) (.ts 5 z (fun W hT=>lde (RV.flat (hT.keep q_1) hx4 z) T.t193 z z z z z) hT z (by kernel_rfl) (.tp 6 z z hT (by kernel_rfl) (.ts 7 z (fun W hT=>fa T.f126_3 z z z) hT z (by kernel_rfl) (.ts 8 z (fun W hT=>ld T.t3 hT.p1 z z z z z) hT z (by kernel_rfl) ?_))))
  have ⟨x5,hx5,h⟩:=bnd h
  refine .ts 9 z (fun W hT=>ixv (hS.keep q_1) hx5 T.u175 T.t193 z z z) hT z (by kernel_rfl) (.ts 10 z (fun W hT=>lde (RV.flat (hT.keep q_1) hx5 z) T.t193 z z z z z) hT z (by kernel_rfl) ?_)
  have ⟨y1,hy1,h⟩:=bnd h
  refine .by1 11 z (.call0 hS Tryz.func201 (fec hy1) z z ?_ z z z z) (by kernel_rfl)
  intro W hS
  have hT:=hS.to [0,0] z
  refine ⟨fun _=>hT,.by1 12 z (.st T.t126 hS z z z ?_ z z z z z) (by kernel_rfl)⟩
  intro W hS
  refine ⟨fun h=>absurd z h,?_⟩
  obtain rfl:=Option.some.inj h
  exact .done (.ret (fin_ret (vs:=[_]) () (rc hS T.t126 z rn z z) z (hS.to [] z))) (by kernel_rfl)
 refine .g (.q z (.q z (.nil ?_)))
 refine .cs z h ?_ ?_ <;> intro h
 ·refine .seq (.g (.q z (.s (fa T.f126_2 z z z) z (.s (ld T.t3 hS.p1 z z z z z) z ?_))))
  have ⟨x6,hx6,h⟩:=bnd h
  refine .s (ixv (hS.keep q_1) hx6 T.u175 T.t193 z z z) z (.s (lde (RV.flat (hS.keep q_1) hx6 z) T.t193 z z z z z) z ?_)
  have ⟨y2,hy2,h⟩:=bnd h
  refine .c (.call0 hS Tryz.func202 (f3i hy2) z z ?_ z z z z)
  intro W hS
  refine .nil ?_
  refine .cs z h ?_ ?_ <;> intro h
  ·refine .g (.s (fa T.f126_4 z z z) z (.s (ld T.t3 hS.p1 z z z z z) z (.s (bs T.s126 z z) z (.c (.st T.t126 hS z z z ?_ z z z z z)))))
   intro W hS
   cases h
   exact .nil (.ret (fin_ret (vs:=[_]) () (rc hS T.t126 z rn z z) z (hS.to [] z)))
  refine .skip (.g (.q z (.s (fa T.f126_2 z z z) z (.s (ld T.t3 hS.p1 z z z z z) z ?_))))
  have ⟨x7,hx7,h⟩:=bnd h
  refine .s (ixv (hS.keep q_1) hx7 T.u175 T.t193 z z z) z (.s (fe T.f193_0 z z z) z (.s (lde (RV.flat (hS.keep q_1) hx7 z) T.t3 z z z z z) z (.q z (.nil ?_))))
  refine .cs z h ?_ ?_ <;> intro h
  ·refine .g (.q z (.q z (.s (bs T.s126 z z) z (.c (.st T.t126 hS z z z ?_ z z z z z)))))
   intro W hS
   cases h
   exact .nil (.ret (fin_ret (vs:=[_]) () (rc hS T.t126 z rn z z) z (hS.to [] z)))
  refine .skip (.g (.s (ld T.t126 hS.p1 z z z z z) z (.c (.st T.t126 hS z z z ?_ z z z z z))))
  intro W hS
  obtain rfl:=Option.some.inj h
  exact .nil (.ret (fin_ret (vs:=[_]) () (rc hS T.t126 z rn z z) z (hS.to [] z)))
 refine .skip (.g (.s (ld T.t126 hS.p1 z z z z z) z (.c (.st T.t126 hS z z z ?_ z z z z z))))
 intro W hS
 obtain rfl:=Option.some.inj h
 exact .nil (.ret (fin_ret (vs:=[_]) () (rc hS T.t126 z rn z z) z (hS.to [] z)))
theorem fcd {a0 : List Quad} {v_0 : Hd} {w : World} {r : (List Quad) × Bool} (h : f68 a0 = some r) (q_0 : RV w (Old No w) (sv v_0) 126 5 dQuad a0) : Calls Tryz.prog 166 #[(sv v_0)] w (Ret No w (fun s : Hd=>.tuple #[(sv s),.bool r.2]) (fun s=>[rowV (sv s) 126 5 dQuad r.1])):=by
 unfold f68 at h
 refine enter Tryz.func166 z z ?_
 have hS:=Sep.start w
 refine .g (.q z (.qn z (.g (.c (.liv [] dQuad T.u104 T.t126 hS z z z z ?_ z (fun _=>z) z z z z)))))
 intro v1 W hS
 refine .qn z (.seq (.g (.q z ?_)))
 have ⟨y1,hy1,h⟩:=bnd h
 refine .c (.call0 hS Tryz.func151 (f10 hy1 (hS.keep q_0)) z z ?_ z z z z)
 intro W hS
 refine .q z (.nil ?_)
 refine .cs z h ?_ ?_ <;> intro h
 ·cases h
  exact .g (.q z (.q z (.qn z (.ret (fin_ret (vs:=[_,_]) v1 (rt z (rt z rn)) z (hS.to [0] z))))))
 refine .skip (.g (.q z ?_))
 have ⟨y2,hy2,h⟩:=bnd h
 refine .c (.call1v hS Tryz.func181 (fd3 hy2 (hS.keep q_0)) z z ?_ z z z z)
 intro v2 W hS
 refine .qn z (.seq (.g (.qn z (.block ?_))))
 have ⟨y3,hy3,h⟩:=bnd h
 refine .via (.iter (fun s1 E' W'=>∃ (v5 : Hd),SubL E' [(0,(sv v_0)),(4,(sv v5)),(5,(sv v2)),(6,.int .i64 s1.2)] ∧ Sep No w W' [rowV (sv v2) 175 1 (fun (l : List Fact)=>D.row 193 2 (l.map dFact)) y2,rowV (sv v5) 126 5 dQuad s1.1]) (fun y4 x E' W'=>x = .exit 0 ∧ ∃ (v6 : Hd),SubL E' [(4,(sv v6))] ∧ Sep No w W' [rowV (sv v2) 175 1 (fun (l : List Fact)=>D.row 193 2 (l.map dFact)) y2,rowV (sv v6) 126 5 dQuad y4]) hy3 ⟨v1,sb z,hS.to [0,0] z⟩ ?_) ?_
 ·intro s1 y5 E W h hI
  obtain ⟨v4,hE,hS⟩:=hI
  refine CW.sub hE ?_
  unfold f5x at h
  refine .seq (.g (.q z (.q z (.s (lenv (hS.keep q_0) T.u104 z z) z (.q z (.nil ?_))))))
  refine .cs z h ?_ ?_ <;> intro h
  ·refine .skip (.seq (.block ?_))
   have ⟨x1,hx1,h⟩:=bnd h
   obtain ⟨k1,hS⟩:=Sep.outv hS hx1
   obtain ⟨v7,k1,rfl,hS⟩:=hS.orowv
   obtain ⟨rfl,hS⟩:=hS.onil
   refine .rk 14 hS [0,0] T.mix ?_
   intro W hS
   have hT:=hS.to [0,0] z
   refine .tp 0 z z hT (by kernel_rfl) (.tp 1 z z hT (by kernel_rfl) (.tp 2 z z hT (by kernel_rfl) ?_))
   have ⟨x3,hx3,h⟩:=bnd h
   refine .ts 3 z (fun W hT=>ixv (hS.keep q_0) hx3 T.u104 T.t126 z z z) hT z (by kernel_rfl) (.ts 4 z (fun W hT=>lde (RV.flat (hT.keep q_0) hx3 z) T.t126 z z z z z) hT z (by kernel_rfl) (.tp 5 z z hT (by kernel_rfl) (.tp 6 z z hT (by kernel_rfl) (.ts 7 z (fun W hT=>ixh hT.p1 hx1 T.u172 T.t175 z z z) hT z (by kernel_rfl) (.ts 8 z (fun W hT=>lde (hT.p1.hcellsv) T.t175 z z z z z) hT z (by kernel_rfl) (.tp 9 z z hT (by kernel_rfl) ?_))))))
   have ⟨y7,hy7,h⟩:=bnd h
   refine .by1 10 z (.call0 hS Tryz.func182 (fdn hy7 hS.lendv) z z ?_ z z z z) (by kernel_rfl)
   intro W hS
   have hT:=hS.to [0,0] z
   refine ⟨fun _=>hT,.by1 11 z (.liv [y7] dQuad T.u104 T.t126 hS z z z z ?_ z (fun _=>z) z z z z) (by kernel_rfl)⟩
   intro v10 W hS
   have hT:=hS.to [1,1] z
   refine ⟨fun _=>hT,?_⟩
   have ⟨r2,hr2,h⟩:=bnd h
   have hT0:=hS.p3
   refine .by1 12 z (.apprv hr2 hT0 hT0.p1.lendv (fun _=>z) T.u104 T.t126 z z z ?_ z z z z z) (by kernel_rfl)
   intro v11 W hS
   have hT:=hS.to [2,2] z
   refine ⟨fun _=>hT,.tp 13 z z hT (by kernel_rfl) (.done (.region (.q z (.q z (.q z (.nil ?_))))) (by kernel_rfl))⟩
   have hS:=Sep.gat (ds:=[.row 193 2 (x1.map dFact)]) (cs:=[(sv v7)]) (L1:=[rowV (sv v7) 193 2 dFact x1]) (.row (.nil)) (hS.to [2,2,0,0] z)
   have hS : Sep _ _ _ [rowV (sv v2) 175 1 (fun (l : List Fact)=>D.row 193 2 (l.map dFact)) y2,rowV (sv v11) 126 5 dQuad r2,rowV (sv v10) 126 5 dQuad [y7]]:=Sep.back0v hx1 hS
   cases h
   exact ⟨z,v11,sb z,hS.to [0,0] z⟩
  refine .exit ?_
  cases h
  exact ⟨by simp,z,v4,sb z,hS.to [0,0] z⟩
 intro x E W hJ
 obtain ⟨rfl,v12,hE,hS⟩:=hJ
 refine ⟨_,hE.sub,?_⟩
 cases h
 exact .g (.q z (.q z (.qn z (.ret (fin_ret (vs:=[_,_]) v12 (rt z (rt z rn)) z (hS.to [1] z))))))
theorem faq {w : World} {r : (List Int)} (h : f58 = some r) : Calls Tryz.prog 203 #[] w (Ret No w (fun s : Hd=>(sv s)) (fun s=>[rowV (sv s) 3 1 (D.int .i64) r])):=by
 unfold f58 at h
 refine enter Tryz.func203 z z ?_
 have hS:=Sep.start w
 refine .g (.qn z (.g (.c (.liv [] (D.int .i64) T.u25 T.t3 hS z z z z ?_ z (fun _=>z) z z z z))))
 intro v1 W hS
 refine .qn z (.seq (.g (.qn z (.block ?_))))
 have ⟨y1,hy1,h⟩:=bnd h
 refine .via (.iter (fun s1 E' W'=>∃ (v4 : Hd),SubL E' [(1,(sv v4)),(2,.int .i64 s1.2)] ∧ Sep No w W' [rowV (sv v4) 3 1 (D.int .i64) s1.1]) (fun y2 x E' W'=>x = .exit 0 ∧ ∃ (v5 : Hd),SubL E' [(1,(sv v5))] ∧ Sep No w W' [rowV (sv v5) 3 1 (D.int .i64) y2]) hy1 ⟨v1,sb z,hS.to [0] z⟩ ?_) ?_
 ·intro s1 y3 E W h hI
  obtain ⟨v3,hE,hS⟩:=hI
  refine CW.sub hE ?_
  unfold f9b at h
  refine .seq (.g (.q z (.q z (.nil ?_))))
  refine .cs z h ?_ ?_ <;> intro h
  ·refine .skip (.seq (.block (.region (.q z (.q z (.c (.liv [s1.2] (D.int .i64) T.u25 T.t3 hS z z z z ?_ z (fun _=>z) z z z z)))))))
   intro v6 W hS
   have ⟨r1,hr1,h⟩:=bnd h
   have hT0:=hS.p1
   refine .c (.apprv hr1 hT0 hT0.p1.lendv (fun _=>z) T.u25 T.t3 z z z ?_ z z z z z)
   intro v7 W hS
   refine .qn z (.region (.q z (.q z (.q z (.nil ?_)))))
   cases h
   exact ⟨z,v7,sb z,hS.to [0] z⟩
  refine .exit ?_
  cases h
  exact ⟨by simp,z,v3,sb z,hS.to [0] z⟩
 intro x E W hJ
 obtain ⟨rfl,v8,hE,hS⟩:=hJ
 refine ⟨_,hE.sub,?_⟩
 obtain rfl:=Option.some.inj h
 exact .g (.q z (.qn z (.ret (fin_ret (vs:=[_]) v8 (rt z rn) z (hS.to [0] z)))))
theorem f8u {a0 : Quad} {w : World} {r : Int} (h : f23 a0 = some r) : Calls Tryz.prog 221 #[.agg #[.int .i64 a0.Op,.int .i64 a0.Dst,.int .i64 a0.A,.int .i64 a0.B,.int .i64 a0.N]] w (Ret No w (fun s : Unit=>.int .i64 r) (fun s=>[])):=by
 unfold f23 at h
 refine enter Tryz.func221 z z ?_
 have hS:=Sep.start w
 refine .g (.c (.box hS z z ?_ z z))
 intro g1 W hS
 refine .qn z (.seq (.g (.s (ld T.t126 hS z z z z z) z ?_)))
 have ⟨y1,hy1,h⟩:=bnd h
 refine .c (.call0 hS Tryz.func165 (f7v hy1) z z ?_ z z z z)
 intro W hS
 refine .q z (.nil ?_)
 refine .cs z h ?_ ?_ <;> intro h
 ·cases h
  exact .g (.qn z (.ret (fin_ret (vs:=[_]) () (rt z rn) z (hS.to [] z))))
 refine .skip (.seq (.g (.s (fa T.f126_0 z z z) z (.s (ld T.t3 hS z z z z z) z (.nil (.block ?_))))))
 have ⟨y2,hy2,h⟩:=bnd h
 refine .seq (CW.via (R':=fun x E' W'=>x = .normal ∧ SubL E' [(1,.pointer (some ⟨g1,0,none⟩)),(8,.bool y2)] ∧ Sep No w W' [.box g1 126 [.int .i64 a0.Op,.int .i64 a0.Dst,.int .i64 a0.A,.int .i64 a0.B,.int .i64 a0.N]]) ?_ ?_)
 ·have h:=hy2
  refine .g (.q z (.q z (.nil ?_)))
  refine .cs z h ?_ ?_ <;> intro h
  ·refine .skip ?_
   cases h
   exact ⟨z,sb z,hS.to [0] z⟩
  refine .g (.q z (.q z (.nil ?_)))
  refine .cs z h ?_ ?_ <;> intro h
  ·refine .skip ?_
   cases h
   exact ⟨z,sb z,hS.to [0] z⟩
  refine .g (.q z (.q z (.nil ?_)))
  refine .cs z h ?_ ?_ <;> intro h
  ·refine .skip ?_
   cases h
   exact ⟨z,sb z,hS.to [0] z⟩
  refine .region (.q z (.q z (.nil ?_)))
  cases h
  exact ⟨z,sb z,hS.to [0] z⟩
 intro x E W hJ
 obtain ⟨rfl,hE,hS⟩:=hJ
 refine ⟨_,hE.sub,?_⟩
 refine .cs z h ?_ ?_ <;> intro h
 ·cases h
  exact .g (.s (fa T.f126_1 z z z) z (.s (ld T.t3 hS z z z z z) z (.qn z (.ret (fin_ret (vs:=[_]) () (rt z rn) z (hS.to [] z))))))
 cases h
 exact .skip (.g (.qn z (.ret (fin_ret (vs:=[_]) () (rt z rn) z (hS.to [] z)))))
theorem fcq {a0 : Quad} {a1 : List Int} {v_1 : Hd} {w : World} {r : (List Int)} (h : f65 a0 a1 = some r) (q_1 : RV w (Old No w) (sv v_1) 3 1 (D.int .i64) a1) : Calls Tryz.prog 215 #[.agg #[.int .i64 a0.Op,.int .i64 a0.Dst,.int .i64 a0.A,.int .i64 a0.B,.int .i64 a0.N],(sv v_1)] w (Ret No w (fun s : Hd=>(sv s)) (fun s=>[rowV (sv s) 3 1 (D.int .i64) r])):=by
 unfold f65 at h
 refine enter Tryz.func215 z z ?_
 have hS:=Sep.start w
 refine .g (.c (.box hS z z ?_ z z))
 intro g1 W hS
 refine .qn z (.g (.c (.liv [] (D.int .i64) T.u25 T.t3 hS z z z z ?_ z (fun _=>z) z z z z)))
 intro v1 W hS
 refine .q z ?_
 have ⟨r1,hr1,h⟩:=bnd h
 refine .c (.apprv hr1 hS (hS.keep q_1) (fun _=>z) T.u25 T.t3 z z z ?_ z z z z z)
 intro v2 W hS
 refine .qn z (.g (.s (ld T.t126 hS.p1 z z z z z) z ?_))
 have ⟨y1,hy1,h⟩:=bnd h
 refine .c (.call0 hS Tryz.func221 (f8u hy1) z z ?_ z z z z)
 intro W hS
 refine .qn z (.seq (.g (.q z (.q z (.nil ?_)))))
 refine .cs z h ?_ ?_ <;> intro h
 ·obtain rfl:=Option.some.inj h
  exact .g (.q z (.qn z (.ret (fin_ret (vs:=[_]) v2 (rt z rn) z (hS.to [0] z)))))
 refine .skip (.seq (.g (.qn z (.block ?_))))
 have ⟨y2,hy2,h⟩:=bnd h
 refine .via (.iter (fun s1 E' W'=>SubL E' [(2,.pointer (some ⟨g1,0,none⟩)),(5,(sv v2)),(6,.int .i64 y1),(7,.int .i64 s1.1)] ∧ Sep No w W' [rowV (sv v2) 3 1 (D.int .i64) s1.2,.box g1 126 [.int .i64 a0.Op,.int .i64 a0.Dst,.int .i64 a0.A,.int .i64 a0.B,.int .i64 a0.N]]) (fun y3 x E' W'=>x = .exit 0 ∧ SubL E' [(2,.pointer (some ⟨g1,0,none⟩)),(5,(sv v2)),(6,.int .i64 y1)] ∧ Sep No w W' [rowV (sv v2) 3 1 (D.int .i64) y3,.box g1 126 [.int .i64 a0.Op,.int .i64 a0.Dst,.int .i64 a0.A,.int .i64 a0.B,.int .i64 a0.N]]) hy2 ⟨sb z,hS.to [0,0] z⟩ ?_) ?_
 ·intro s1 y4 E W h hI
  obtain ⟨hE,hS⟩:=hI
  refine CW.sub hE ?_
  unfold f8g at h
  refine .seq (.g (.q z (.q z (.nil ?_))))
  refine .cs z h ?_ ?_ <;> intro h
  ·refine .skip ?_
   have ⟨y5,hy5,h⟩:=bnd h
   refine .seq (CW.via (R':=fun x E' W'=>x = .normal ∧ SubL E' [(2,.pointer (some ⟨g1,0,none⟩)),(5,(sv v2)),(6,.int .i64 y1),(7,.int .i64 s1.1)] ∧ Sep No w W' [rowV (sv v2) 3 1 (D.int .i64) y5,.box g1 126 [.int .i64 a0.Op,.int .i64 a0.Dst,.int .i64 a0.A,.int .i64 a0.B,.int .i64 a0.N]]) ?_ ?_)
   ·have h:=hy5
    refine .block (.g (.q z (.q z ?_)))
    have ⟨x1,hx1,h⟩:=bnd h
    refine .s (ixv hS.lendv hx1 T.u25 T.t3 z z z) z (.s (lde (RV.flat hS.lendv hx1 z) T.t3 z z z z z) z (.q z (.q z (.nil ?_))))
    refine .cs z h ?_ ?_ <;> intro h
    ·refine .region (.q z (.q z (.q z ?_)))
     have ⟨x2,hx2,h⟩:=bnd h
     refine .s (ixv hS.lendv hx2 T.u25 T.t3 z z z) z ?_
     have ⟨r2,hr2,h⟩:=bnd h
     refine .c (.sev hr2 hx2 hS T.t3 z z z z z z ?_ z z z z z z)
     intro W hS
     refine .nil ?_
     obtain rfl:=Option.some.inj h
     exact ⟨z,sb z,hS.to [0,0] z⟩
    refine .skip ?_
    cases h
    exact ⟨z,sb z,hS.to [0,0] z⟩
   intro x E W hJ
   obtain ⟨rfl,hE,hS⟩:=hJ
   refine ⟨_,hE.sub,?_⟩
   refine .region (.q z (.q z (.q z (.nil ?_))))
   cases h
   exact ⟨z,sb z,hS.to [0,0] z⟩
  refine .exit ?_
  cases h
  exact ⟨by simp,z,sb z,hS.to [0,0] z⟩
 intro x E W hJ
 obtain ⟨rfl,hE,hS⟩:=hJ
 refine ⟨_,hE.sub,?_⟩
 refine .g (.q z (.q z (.q z ?_)))
 have ⟨x3,hx3,h⟩:=bnd h
 refine .s (ixv hS.lendv hx3 T.u25 T.t3 z z z) z ?_
 have ⟨r3,hr3,h⟩:=bnd h
 refine .c (.sev hr3 hx3 hS T.t3 z z z z z z ?_ z z z z z z)
 intro W hS
 refine .nil (.seq (.g (.s (fa T.f126_0 z z z) z (.s (ld T.t3 hS.p1 z z z z z) z (.q z (.nil ?_))))))
 refine .cs z h ?_ ?_ <;> intro h
 ·refine .region (.q z (.q z (.s (fa T.f126_2 z z z) z (.s (ld T.t3 hS.p1 z z z z z) z ?_))))
  have ⟨x4,hx4,h⟩:=bnd h
  refine .s (ixv hS.lendv hx4 T.u25 T.t3 z z z) z ?_
  have ⟨r4,hr4,h⟩:=bnd h
  refine .c (.sev hr4 hx4 hS T.t3 z z z z z z ?_ z z z z z z)
  intro W hS
  obtain rfl:=Option.some.inj h
  exact .nil (.g (.q z (.qn z (.ret (fin_ret (vs:=[_]) v2 (rt z rn) z (hS.to [0] z))))))
 obtain rfl:=Option.some.inj h
 exact .skip (.g (.q z (.qn z (.ret (fin_ret (vs:=[_]) v2 (rt z rn) z (hS.to [0] z))))))
theorem fcj {a0 : List (List Int)} {a1 : Int} {a2 : List Int} {v_0 : Hd} {v_2 : Hd} {S : Nat → Prop} {w : World} {r : Bool × (List (List Int))} (h : f6c a0 a1 a2 = some r) (q_2 : RV w (Old S w) (sv v_2) 3 1 (D.int .i64) a2) (hO : Owns w [rowV (sv v_0) 25 1 (fun (l : List Int)=>D.row 3 1 (l.map (D.int .i64))) a0] S) (hlt : ∀ b,S b → b < w.heap.size) : Calls Tryz.prog 216 #[(sv v_0),.int .i64 a1,(sv v_2)] w (Ret S w (fun s : Unit=>.bool r.1) (fun s=>[rowV (sv v_0) 25 1 (fun (l : List Int)=>D.row 3 1 (l.map (D.int .i64))) r.2])):=by
 unfold f6c at h
 refine enter Tryz.func216 z z ?_
 have hS:=Sep.startM hO hlt
 refine .g (.qn z (.seq (.g (.q z (.q z ?_)))))
 have ⟨x1,hx1,h⟩:=bnd h
 refine .s (ixv hS.lendv hx1 T.u54 T.t25 z z z) z ?_
 obtain ⟨k1,hS⟩:=Sep.outv hS hx1
 obtain ⟨v1,k1,rfl,hS⟩:=hS.orowv
 obtain ⟨rfl,hS⟩:=hS.onil
 refine .s (lde (hS.p1.hcellsv) T.t25 z z z z z) z (.s (lenv hS.lendv T.u25 z z) z (.q z (.nil ?_)))
 refine .cs z h ?_ ?_ <;> intro h
 ·refine .g (.q z (.q z (.c (.liv [] (D.int .i64) T.u25 T.t3 hS z z z z ?_ z (fun _=>z) z z z z))))
  intro v2 W hS
  refine .q z ?_
  have ⟨r1,hr1,h⟩:=bnd h
  refine .c (.apprv hr1 hS (hS.keep q_2) (fun _=>z) T.u25 T.t3 z z z ?_ z z z z z)
  intro v3 W hS
  refine .s (ixh hS.p2 hx1 T.u54 T.t25 z z z) z (.c (.sthv hS.p2 T.t25 z z z ?_ z z z z z z))
  intro W hS
  refine .nil (.g (.qn z (.ret ?_)))
  have hS:=Sep.gat (ds:=[.row 3 1 (r1.map (D.int .i64))]) (cs:=[(sv v3)]) (L1:=[rowV (sv v3) 3 1 (D.int .i64) r1]) (.row (.nil)) (hS.to [1,0,0] z)
  have hS : Sep _ _ _ [rowV (sv v_0) 25 1 (fun (l : List Int)=>D.row 3 1 (l.map (D.int .i64))) (a0.set (Int.toNat a1) r1),rowV (sv v1) 3 1 (D.int .i64) x1]:=hS.backv
  cases h
  exact fin_ret (vs:=[_]) () (rt z rn) z (hS.to [0] z)
 refine .skip (.g (.qn z (.seq (.g (.qn z (.block ?_))))))
 have hS:=Sep.gat (ds:=[.row 3 1 (x1.map (D.int .i64))]) (cs:=[(sv v1)]) (L1:=[rowV (sv v1) 3 1 (D.int .i64) x1]) (.row (.nil)) (hS.to [0,0] z)
 have hS : Sep _ _ _ [rowV (sv v_0) 25 1 (fun (l : List Int)=>D.row 3 1 (l.map (D.int .i64))) a0]:=Sep.back0v hx1 hS
 have ⟨y1,hy1,h⟩:=bnd h
 refine .via (.iter (fun s1 E' W'=>SubL E' [(0,(sv v_0)),(1,.int .i64 a1),(2,(sv v_2)),(7,.bool s1.1),(8,.int .i64 s1.2.1)] ∧ Sep S w W' [rowV (sv v_0) 25 1 (fun (l : List Int)=>D.row 3 1 (l.map (D.int .i64))) s1.2.2]) (fun y2 x E' W'=>x = .exit 0 ∧ SubL E' [(7,.bool y2.1)] ∧ Sep S w W' [rowV (sv v_0) 25 1 (fun (l : List Int)=>D.row 3 1 (l.map (D.int .i64))) y2.2]) hy1 ⟨sb z,hS.to [0] z⟩ ?_) ?_
 ·intro s1 y3 E W h hI
  obtain ⟨hE,hS⟩:=hI
  refine CW.sub hE ?_
  unfold f8q at h
  refine .seq (.g (.q z (.q z (.nil ?_))))
  refine .cs z h ?_ ?_ <;> intro h
  ·refine .skip ?_
   have ⟨y4,hy4,h⟩:=bnd h
   refine .seq (CW.via (R':=fun x E' W'=>x = .normal ∧ SubL E' [(0,(sv v_0)),(1,.int .i64 a1),(2,(sv v_2)),(7,.bool y4.1),(8,.int .i64 s1.2.1)] ∧ Sep S w W' [rowV (sv v_0) 25 1 (fun (l : List Int)=>D.row 3 1 (l.map (D.int .i64))) y4.2]) ?_ ?_)
   ·have h:=hy4
    refine .block (.seq ?_)
    have ⟨x2,hx2,h⟩:=bnd h
    obtain ⟨k2,hS⟩:=Sep.outv hS hx2
    obtain ⟨v4,k2,rfl,hS⟩:=hS.orowv
    obtain ⟨rfl,hS⟩:=hS.onil
    have ⟨x6,hx6,h⟩:=bnd h
    have ⟨b2,hb2,h⟩:=bnd h
    refine .via (R':=fun x E' W'=>x = .normal ∧ SubL E' [(0,(sv v_0)),(1,.int .i64 a1),(2,(sv v_2)),(7,.bool s1.1),(8,.int .i64 s1.2.1),(47,.bool b2)] ∧ Sep S w W' [rowV (sv v_0) 25 1 (fun (l : List Int)=>D.row 3 1 (l.map (D.int .i64))) s1.2.2]) ?_ ?_
    ·refine .rk 23 hS [0,0] T.mix ?_
     intro W hS
     have hT:=hS.to [0,0] z
     refine .tp 0 z z hT (by kernel_rfl) (.tp 1 z z hT (by kernel_rfl) (.ts 2 z (fun W hT=>ixh hT.p1 hx2 T.u54 T.t25 z z z) hT z (by kernel_rfl) (.ts 3 z (fun W hT=>lde (hT.p1.hcellsv) T.t25 z z z z z) hT z (by kernel_rfl) (.tp 4 z z hT (by kernel_rfl) (.ts 5 z (fun W hT=>ixv hS.lendv hx6 T.u25 T.t3 z z z) hT z (by kernel_rfl) (.ts 6 z (fun W hT=>lde (RV.flat hT.lendv hx6 z) T.t3 z z z z z) hT z (by kernel_rfl) (.tp 7 z z hT (by kernel_rfl) (.tp 8 z z hT (by kernel_rfl) (.tp 9 z z hT (by kernel_rfl) (.both (x6 != s1.2.1) (fun hb=>?_) (fun hb=>?_)))))))))))
     ·have hg2:=hb
      have h_b2:=sel_t hb hb2
      refine .t1g 10 z hg2 (fun W hT=>pr z) hT (.t1g 11 z hg2 (fun W hT=>pr z) hT (.t1g 12 z hg2 (fun W hT=>ixh hT.p1 hx2 T.u54 T.t25 z z z) hT (.t1g 13 z hg2 (fun W hT=>lde (hT.p1.hcellsv) T.t25 z z z z z) hT (.t1g 14 z hg2 (fun W hT=>pr z) hT ?_ (by kernel_rfl) z z) (by kernel_rfl) z z) (by kernel_rfl) z z) (by kernel_rfl) z z) (by kernel_rfl) z z
      have ⟨x7,hx7,h_b2⟩:=bnd h_b2
      refine .t1g 15 z hg2 (fun W hT=>ixv hS.lendv hx7 T.u25 T.t3 z z z) hT (.t1g 16 z hg2 (fun W hT=>lde (RV.flat hT.lendv hx7 z) T.t3 z z z z z) hT (.t1g 17 z hg2 (fun W hT=>pr z) hT (.t1g 18 z hg2 (fun W hT=>pr z) hT ?_ (by kernel_rfl) z z) (by kernel_rfl) z z) (by kernel_rfl) z z) (by kernel_rfl) z z
      have ⟨x8,hx8,h_b2⟩:=bnd h_b2
      refine .t1g 19 z hg2 (fun W hT=>ixv (hS.keep q_2) hx8 T.u25 T.t3 z z z) hT (.t1g 20 z hg2 (fun W hT=>lde (RV.flat (hT.keep q_2) hx8 z) T.t3 z z z z z) hT (.t1g 21 z hg2 (fun W hT=>pr z) hT (.ts 22 z (fun W hT=>pkt hg2 z z z) hT z (by kernel_rfl) (.eqv 47 z (bool_eq h_b2) (.done ?_ (by kernel_rfl)))) (by kernel_rfl) z z) (by kernel_rfl) z z) (by kernel_rfl) z z
      have hS:=Sep.gat (ds:=[.row 3 1 (x2.map (D.int .i64))]) (cs:=[(sv v4)]) (L1:=[rowV (sv v4) 3 1 (D.int .i64) x2]) (.row (.nil)) (hS.to [0,0] z)
      have hS : Sep _ _ _ [rowV (sv v_0) 25 1 (fun (l : List Int)=>D.row 3 1 (l.map (D.int .i64))) s1.2.2]:=Sep.back0v hx2 hS
      exact ⟨z,sb z,hS.to [0] z⟩
     refine .off 10 z hb hT (.off 11 z hb hT (.off 12 z hb hT (.off 13 z hb hT (.off 14 z hb hT (.off 15 z hb hT (.off 16 z hb hT (.off 17 z hb hT (.off 18 z hb hT (.off 19 z hb hT (.off 20 z hb hT (.off 21 z hb hT (.ts 22 z (fun W hT=>pkf hb z z z) hT z (by kernel_rfl) (.eqv 47 z (bool_eq (sel_f hb hb2)) (.done ?_ (by kernel_rfl)))) (by kernel_rfl) z z) (by kernel_rfl) z z) (by kernel_rfl) z z) (by kernel_rfl) z z) (by kernel_rfl) z z) (by kernel_rfl) z z) (by kernel_rfl) z z) (by kernel_rfl) z z) (by kernel_rfl) z z) (by kernel_rfl) z z) (by kernel_rfl) z z) (by kernel_rfl) z z
     have hS:=Sep.gat (ds:=[.row 3 1 (x2.map (D.int .i64))]) (cs:=[(sv v4)]) (L1:=[rowV (sv v4) 3 1 (D.int .i64) x2]) (.row (.nil)) (hS.to [0,0] z)
     have hS : Sep _ _ _ [rowV (sv v_0) 25 1 (fun (l : List Int)=>D.row 3 1 (l.map (D.int .i64))) s1.2.2]:=Sep.back0v hx2 hS
     exact ⟨z,sb z,hS.to [0] z⟩
    intro x E W hJ
    obtain ⟨rfl,hE,hS⟩:=hJ
    refine ⟨_,hE.sub,?_⟩
    refine .cs z h ?_ ?_ <;> intro h
    ·refine .g (.q z (.q z ?_))
     have ⟨x9,hx9,h⟩:=bnd h
     refine .s (ixv hS.lendv hx9 T.u54 T.t25 z z z) z ?_
     obtain ⟨k3,hS⟩:=Sep.outv hS hx9
     obtain ⟨v5,k3,rfl,hS⟩:=hS.orowv
     obtain ⟨rfl,hS⟩:=hS.onil
     refine .s (lde (hS.p1.hcellsv) T.t25 z z z z z) z (.q z (.q z ?_))
     have ⟨x10,hx10,h⟩:=bnd h
     refine .s (ixv hS.lendv hx10 T.u25 T.t3 z z z) z ?_
     have ⟨r2,hr2,h⟩:=bnd h
     refine .c (.sev hr2 hx10 hS T.t3 z z z z z z ?_ z z z z z z)
     intro W hS
     refine .nil (.region (.q z (.nil ?_)))
     have hS:=Sep.gat (ds:=[.row 3 1 (r2.map (D.int .i64))]) (cs:=[(sv v5)]) (L1:=[rowV (sv v5) 3 1 (D.int .i64) r2]) (.row (.nil)) (hS.to [0,0] z)
     have hS : Sep _ _ _ [rowV (sv v_0) 25 1 (fun (l : List Int)=>D.row 3 1 (l.map (D.int .i64))) (s1.2.2.set (Int.toNat a1) r2)]:=hS.backv
     cases h
     exact ⟨z,sb z,hS.to [0] z⟩
    refine .skip ?_
    cases h
    exact ⟨z,sb z,hS.to [0] z⟩
   intro x E W hJ
   obtain ⟨rfl,hE,hS⟩:=hJ
   refine ⟨_,hE.sub,?_⟩
   refine .region (.q z (.q z (.q z (.nil ?_))))
   cases h
   exact ⟨z,sb z,hS.to [0] z⟩
  refine .exit ?_
  cases h
  exact ⟨by simp,z,sb z,hS.to [0] z⟩
 intro x E W hJ
 obtain ⟨rfl,hE,hS⟩:=hJ
 refine ⟨_,hE.sub,?_⟩
 cases h
 exact .g (.q z (.qn z (.ret (fin_ret (vs:=[_]) () (rt z rn) z (hS.to [0] z)))))
theorem fc9 {a0 : List Quad} {a1 : List (List Int)} {v_0 : Hd} {v_1 : Hd} {S : Nat → Prop} {w : World} {r : Bool × (List (List Int))} (h : f6h a0 a1 = some r) (q_0 : RV w (Old S w) (sv v_0) 126 5 dQuad a0) (hO : Owns w [rowV (sv v_1) 25 1 (fun (l : List Int)=>D.row 3 1 (l.map (D.int .i64))) a1] S) (hlt : ∀ b,S b → b < w.heap.size) : Calls Tryz.prog 204 #[(sv v_0),(sv v_1)] w (Ret S w (fun s : Unit=>.bool r.1) (fun s=>[rowV (sv v_1) 25 1 (fun (l : List Int)=>D.row 3 1 (l.map (D.int .i64))) r.2])):=by
 unfold f6h at h
 refine enter Tryz.func204 z z ?_
 have hS:=Sep.startM hO hlt
 refine .g (.qn z (.g (.qn z (.seq (.g (.qn z (.block ?_)))))))
 have ⟨y1,hy1,h⟩:=bnd h
 refine .via (.iter (fun s1 E' W'=>SubL E' [(0,(sv v_0)),(1,(sv v_1)),(5,.bool s1.1),(6,.int .i64 s1.2.1)] ∧ Sep S w W' [rowV (sv v_1) 25 1 (fun (l : List Int)=>D.row 3 1 (l.map (D.int .i64))) s1.2.2]) (fun y2 x E' W'=>x = .exit 0 ∧ SubL E' [(5,.bool y2.1)] ∧ Sep S w W' [rowV (sv v_1) 25 1 (fun (l : List Int)=>D.row 3 1 (l.map (D.int .i64))) y2.2]) hy1 ⟨sb z,hS.to [0] z⟩ ?_) ?_
 ·intro s1 y3 E W h hI
  obtain ⟨hE,hS⟩:=hI
  refine CW.sub hE ?_
  unfold f8v at h
  refine .seq (.g (.q z (.q z (.s (lenv (hS.keep q_0) T.u104 z z) z (.q z (.nil ?_))))))
  refine .cs z h ?_ ?_ <;> intro h
  ·refine .skip ?_
   have ⟨y4,hy4,h⟩:=bnd h
   refine .seq (CW.via (R':=fun x E' W'=>x = .normal ∧ SubL E' [(0,(sv v_0)),(1,(sv v_1)),(5,.bool y4.1),(6,.int .i64 s1.2.1)] ∧ Sep S w W' [rowV (sv v_1) 25 1 (fun (l : List Int)=>D.row 3 1 (l.map (D.int .i64))) y4.2]) ?_ ?_)
   ·have h:=hy4
    refine .block (.seq (.g (.q z (.q z ?_))))
    have ⟨x1,hx1,h⟩:=bnd h
    refine .s (ixv hS.lendv hx1 T.u54 T.t25 z z z) z ?_
    obtain ⟨k1,hS⟩:=Sep.outv hS hx1
    obtain ⟨v1,k1,rfl,hS⟩:=hS.orowv
    obtain ⟨rfl,hS⟩:=hS.onil
    refine .s (lde (hS.p1.hcellsv) T.t25 z z z z z) z (.s (lenv hS.lendv T.u25 z z) z (.q z (.nil ?_)))
    refine .cs z h ?_ ?_ <;> intro h
    ·refine .exit ?_
     have hS:=Sep.gat (ds:=[.row 3 1 (x1.map (D.int .i64))]) (cs:=[(sv v1)]) (L1:=[rowV (sv v1) 3 1 (D.int .i64) x1]) (.row (.nil)) (hS.to [0,0] z)
     have hS : Sep _ _ _ [rowV (sv v_1) 25 1 (fun (l : List Int)=>D.row 3 1 (l.map (D.int .i64))) s1.2.2]:=Sep.back0v hx1 hS
     cases h
     exact ⟨z,sb z,hS.to [0] z⟩
    refine .skip (.g (.q z (.q z ?_)))
    have ⟨y5,hy5,h⟩:=bnd h
    refine .c (.call1v hS Tryz.func206 (f6s hy5 (hS.keep q_0)) z z ?_ z z z z)
    intro v2 W hS
    refine .qn z (.seq (.rk 10 hS [0,0,0] T.mix ?_))
    intro W hS
    have hT:=hS.to [0,0,0] z
    refine .tp 0 z z hT (by kernel_rfl) (.tp 1 z z hT (by kernel_rfl) ?_)
    have ⟨x2,hx2,h⟩:=bnd h
    refine .ts 2 z (fun W hT=>ixv (hS.keep q_0) hx2 T.u104 T.t126 z z z) hT z (by kernel_rfl) (.ts 3 z (fun W hT=>lde (RV.flat (hT.keep q_0) hx2 z) T.t126 z z z z z) hT z (by kernel_rfl) (.tp 4 z z hT (by kernel_rfl) (.tp 5 z z hT (by kernel_rfl) (.ts 6 z (fun W hT=>ixh hT.p2 hx1 T.u54 T.t25 z z z) hT z (by kernel_rfl) (.ts 7 z (fun W hT=>lde (hT.p2.hcellsv) T.t25 z z z z z) hT z (by kernel_rfl) ?_)))))
    have ⟨y6,hy6,h⟩:=bnd h
    refine .by1 8 z (.call1v hS Tryz.func215 (fcq hy6 hS.p1.lendv) z z ?_ z z z z) (by kernel_rfl)
    intro v3 W hS
    have hT:=hS.to [1,1,1] z
    refine ⟨fun _=>hT,.tp 9 z z hT (by kernel_rfl) (.done (.g (.qn z (.block ?_))) (by kernel_rfl))⟩
    have hS:=Sep.gat (ds:=[.row 3 1 (x1.map (D.int .i64))]) (cs:=[(sv v1)]) (L1:=[rowV (sv v1) 3 1 (D.int .i64) x1]) (.row (.nil)) (hS.to [2,2,0,0] z)
    have hS : Sep _ _ _ [rowV (sv v_1) 25 1 (fun (l : List Int)=>D.row 3 1 (l.map (D.int .i64))) s1.2.2,rowV (sv v3) 3 1 (D.int .i64) y6,rowV (sv v2) 3 1 (D.int .i64) y5]:=Sep.back0v hx1 hS
    have ⟨y7,hy7,h⟩:=bnd h
    refine .via (.iter (fun s2 E' W'=>SubL E' [(0,(sv v_0)),(1,(sv v_1)),(5,.bool s2.1),(6,.int .i64 s1.2.1),(7,(sv v2)),(8,(sv v3)),(9,.int .i64 s2.2.1)] ∧ Sep S w W' [rowV (sv v_1) 25 1 (fun (l : List Int)=>D.row 3 1 (l.map (D.int .i64))) s2.2.2,rowV (sv v3) 3 1 (D.int .i64) y6,rowV (sv v2) 3 1 (D.int .i64) y5]) (fun y8 x E' W'=>x = .exit 2 ∧ SubL E' [(0,(sv v_0)),(1,(sv v_1)),(5,.bool y8.1),(6,.int .i64 s1.2.1)] ∧ Sep S w W' [rowV (sv v_1) 25 1 (fun (l : List Int)=>D.row 3 1 (l.map (D.int .i64))) y8.2,rowV (sv v3) 3 1 (D.int .i64) y6,rowV (sv v2) 3 1 (D.int .i64) y5]) hy7 ⟨sb z,hS.to [0,0,0] z⟩ ?_) ?_
    ·intro s2 y9 E W h hI
     obtain ⟨hE,hS⟩:=hI
     refine CW.sub hE ?_
     unfold f8t at h
     refine .seq (.g (.q z (.q z (.s (lenv hS.p2.lendv T.u25 z z) z (.qn z (.cond z (fun hb=>?_) (fun hb=>?_)))))))
     ·have h:=sel_t hb h
      refine .skip ?_
      have ⟨y10,hy10,h⟩:=bnd h
      refine .seq (CW.via (R':=fun x E' W'=>x = .normal ∧ SubL E' [(0,(sv v_0)),(1,(sv v_1)),(5,.bool y10.1),(6,.int .i64 s1.2.1),(7,(sv v2)),(8,(sv v3)),(9,.int .i64 s2.2.1)] ∧ Sep S w W' [rowV (sv v_1) 25 1 (fun (l : List Int)=>D.row 3 1 (l.map (D.int .i64))) y10.2,rowV (sv v3) 3 1 (D.int .i64) y6,rowV (sv v2) 3 1 (D.int .i64) y5]) ?_ ?_)
      ·have h:=hy10
       refine .block (.g (.q z (.q z (.q z ?_))))
       have ⟨x3,hx3,h⟩:=bnd h
       refine .s (ixv hS.p2.lendv hx3 T.u25 T.t3 z z z) z (.s (lde (RV.flat hS.p2.lendv hx3 z) T.t3 z z z z z) z (.q z ?_))
       have ⟨y11,hy11,h⟩:=bnd h
       refine .c (.callS2 (L0:=[rowV (sv v_1) 25 1 (fun (l : List Int)=>D.row 3 1 (l.map (D.int .i64))) s2.2.2]) hS Tryz.func216 (fun S h1 h2 h3=>(fcj hy11 (h3.rdv (k:=0) z) h2 (zz h1))) z z ?_ z z z z)
       rintro ⟨⟩ W hS
       refine .nil ?_
       refine .cs z h ?_ ?_ <;> intro h
       ·refine .region (.q z (.nil ?_))
        cases h
        exact ⟨z,sb z,hS.to [0,0,0] z⟩
       refine .skip ?_
       cases h
       exact ⟨z,sb z,hS.to [0,0,0] z⟩
      intro x E W hJ
      obtain ⟨rfl,hE,hS⟩:=hJ
      refine ⟨_,hE.sub,?_⟩
      refine .region (.q z (.q z (.q z (.nil ?_))))
      cases h
      exact ⟨z,sb z,hS.to [0,0,0] z⟩
     have h:=sel_f hb h
     refine .exit ?_
     cases h
     exact ⟨by simp,z,sb z,hS.to [0,0,0] z⟩
    intro x E W hJ
    obtain ⟨rfl,hE,hS⟩:=hJ
    refine ⟨_,hE.sub,?_⟩
    cases h
    exact ⟨z,sb z,hS.to [0] z⟩
   intro x E W hJ
   obtain ⟨rfl,hE,hS⟩:=hJ
   refine ⟨_,hE.sub,?_⟩
   refine .region (.q z (.q z (.q z (.nil ?_))))
   cases h
   exact ⟨z,sb z,hS.to [0] z⟩
  refine .exit ?_
  cases h
  exact ⟨by simp,z,sb z,hS.to [0] z⟩
 intro x E W hJ
 obtain ⟨rfl,hE,hS⟩:=hJ
 refine ⟨_,hE.sub,?_⟩
 cases h
 exact .g (.q z (.qn z (.ret (fin_ret (vs:=[_]) () (rt z rn) z (hS.to [0] z)))))
end Go.Proofs.YtmpplggjpmmhlaaGreatDoor.N
