/- Printed by a program of mine: that the program's functions compute it. -/
import Derived.Test.YtjpbdpfkhdekpaaGreatDoorT11
import Derived.Test.YtjpbdpfkhdekpaaGreatDoorT11a
import Derived.Test.YtjpbdpfkhdekpaaGreatDoorT11b
set_option linter.unusedVariables false
set_option maxRecDepth 100000
set_option maxHeartbeats 4000000
namespace Go.Proofs.YtjpbdpfkhdekpaaGreatDoor.N
open Go.Proofs.YtjpbdpfkhdekpaaGreatDoor.X
theorem spec_l92Loop_s {k : Nat} {F_spec_l92Block : L6Rd → Int → Int → Int → Bool → Option ((List Stmt) × Int)} {F_spec_l92Stmt : L6Rd → Int → Int → Bool → Option ((List Stmt) × Int)} {F_spec_l92If : L6Rd → Int → Int → Bool → Option (Stmt × Int)} {F_spec_l92Loop : L6Rd → Int → Int → Option ((List Stmt) × Int)} (ih_spec_l92Block : spec_l92Block_C F_spec_l92Block) (ih_spec_l92Stmt : spec_l92Stmt_C F_spec_l92Stmt) (ih_spec_l92If : spec_l92If_C F_spec_l92If) (ih_spec_l92Loop : spec_l92Loop_C F_spec_l92Loop) : spec_l92Loop_C (spec_l92Loop_R k F_spec_l92Block F_spec_l92Stmt F_spec_l92If F_spec_l92Loop) := by
 intro a0 a1 a2 v_0_b g_0 S w r h q_0_b hO hlt
 unfold spec_l92Loop_R at h
 refine enter Tryz.func93 rfl rfl ?_
 have hS := Sep.startM hO hlt
 refine .seq (.region (.q rfl (.nil (.seq (.region (.q rfl (.nil (.seq (.region (.q rfl (.q rfl (.q rfl (.q rfl (.q rfl ?_))))))))))))))
 have ⟨y1, hy1, h⟩ := bnd h
 refine .c (.callS2 (L0 := [.box g_0 50 [(sv v_0_b), .int .i64 a0.p]]) hS Tryz.func15 (fun S h1 h2 h3 => (spec_l6Rd_pick_ok hy1 (hS.keepS q_0_b h1) h2 (fun b hb => (h1 b hb).2))) rfl rfl ?_ rfl (by kernel_rfl) rfl rfl)
 rintro ⟨⟩ W hS
 have ⟨y2, hy2, h⟩ := bnd h
 refine .c (.callS2 (L0 := [.box g_0 50 [(sv v_0_b), .int .i64 y1.2]]) hS Tryz.func65 (fun S h1 h2 h3 => (ih_spec_l92Block hy2 (hS.keepS q_0_b h1) h2 (fun b hb => (h1 b hb).2))) rfl rfl ?_ rfl (by kernel_rfl) rfl rfl)
 rintro v1 W hS
 refine .q rfl (.nil (.seq (.region (.q rfl (.q rfl ?_)))))
 have ⟨y3, hy3, h⟩ := bnd h
 refine .c (.call1v hS Tryz.func112 (spec_l4Leaf_ok hy3) rfl rfl ?_ rfl (by kernel_rfl) rfl rfl)
 intro v2 W hS
 have ⟨y4, hy4, h⟩ := bnd h
 refine .c (.call1v hS Tryz.func112 (spec_l4Leaf_ok hy4) rfl rfl ?_ rfl (by kernel_rfl) rfl rfl)
 intro v3 W hS
 have ⟨y5, hy5, h⟩ := bnd h
 have hS := hS.p1
 refine .c (.callS2 (L0 := [rowV (sv v2) 90 3 dExpr y3.Args, rowV (sv v3) 90 3 dExpr y4.Args]) hS Tryz.func111 (fun S h1 h2 h3 => (spec_l4Both_ok hy5 h2 (fun b hb => (h1 b hb).2))) rfl rfl ?_ rfl (by kernel_rfl) rfl rfl)
 rintro v4 W hS
 refine .s (bs T.s92 rfl rfl) rfl (.c (.alloc T.t92 hS ?_ rfl rfl rfl))
 intro g1 W hS
 refine .c (.st T.t92 hS rfl rfl rfl ?_ rfl rfl rfl rfl rfl)
 intro W hS
 refine .nil (.seq ?_)
 have ⟨y6, hy6, h⟩ := bnd h
 have ⟨y7, hy7, h⟩ := bnd h
 have ⟨y8, hy8, h⟩ := bnd h
 have ⟨y9, hy9, h⟩ := bnd h
 have ⟨r1, hr1, h⟩ := bnd h
 refine .via (R' := fun x E' W' => x = .normal ∧ ∃ (g2 : Nat) (v5 : Hd) (v6 : Hd) (v7 : Hd), SubL E' [(7, .int .i64 3), (10, .pointer (some ⟨g2, 0, none⟩))] ∧ Sep S w W' [.box g_0 50 [(sv v_0_b), .int .i64 y7.2], .box g2 92 [.int .i64 3, .int .i64 0, .int .i64 0, .int .i64 y9.Op, .int .i64 y9.N, (sv v5), (sv v6), (sv v7)], rowV (sv v5) 90 3 dExpr y9.Args, rowV (sv v6) 92 8 dStmt r1, rowV (sv v7) 92 8 dStmt []]) ?_ ?_
 ·refine .rk 13 hS [0] T.mix ?_
  intro W hS
  have hT := hS.to [0] rfl
  refine .tp 0 rfl rfl hT (by kernel_rfl) (.tp 2 rfl rfl hT (by kernel_rfl) (.tp 7 rfl rfl hT (by kernel_rfl) (.ts 8 rfl (fun W hT => ld T.t92 hT rfl rfl rfl rfl rfl) hT rfl (by kernel_rfl) (.by [1, 9, 12] ⟨⟨_, rfl, ?_⟩, ⟨_, rfl, ?_⟩, ⟨_, rfl, ?_⟩, trivial⟩ (by kernel_rfl) rfl))))
  ·refine (.call1v hS Tryz.func112 (spec_l4Leaf_ok hy6) rfl rfl ?_ rfl (by kernel_rfl) rfl rfl)
   intro v8 W hS
   have hT := hS.to [1] rfl
   refine ⟨fun _ => hT, ?_⟩
   refine .by [3, 9, 12] ⟨⟨_, rfl, ?_⟩, ⟨_, rfl, ?_⟩, ⟨_, rfl, ?_⟩, trivial⟩ (by kernel_rfl) rfl
   ·have hS := hS.p3
    refine (.callS2 (L0 := [.box g_0 50 [(sv v_0_b), .int .i64 y2.2]]) hS Tryz.func15 (fun S h1 h2 h3 => (spec_l6Rd_pick_ok hy7 (hS.keepS q_0_b h1) h2 (fun b hb => (h1 b hb).2))) rfl rfl ?_ rfl (by kernel_rfl) rfl rfl)
    rintro ⟨⟩ W hS
    have hT := hS.to [2] rfl
    refine ⟨fun _ => hT, ?_⟩
    refine .tp 4 rfl rfl hT (by kernel_rfl) (.by [5, 9, 12] ⟨⟨_, rfl, ?_⟩, ⟨_, rfl, ?_⟩, ⟨_, rfl, ?_⟩, trivial⟩ (by kernel_rfl) rfl)
    ·refine (.call1v hS Tryz.func112 (spec_l4Leaf_ok hy8) rfl rfl ?_ rfl (by kernel_rfl) rfl rfl)
     intro v9 W hS
     have hT := hS.to [3] rfl
     refine ⟨fun _ => hT, ?_⟩
     refine .by [6, 9, 12] ⟨⟨_, rfl, ?_⟩, ⟨_, rfl, ?_⟩, ⟨_, rfl, ?_⟩, trivial⟩ (by kernel_rfl) rfl
     ·have hS := hS.p2
      refine (.callS2 (L0 := [rowV (sv v8) 90 3 dExpr y6.Args, rowV (sv v9) 90 3 dExpr y8.Args]) hS Tryz.func111 (fun S h1 h2 h3 => (spec_l4Both_ok hy9 h2 (fun b hb => (h1 b hb).2))) rfl rfl ?_ rfl (by kernel_rfl) rfl rfl)
      rintro v10 W hS
      have hT := hS.to [2] rfl
      refine ⟨fun _ => hT, ?_⟩
      refine .by [9, 12] ⟨⟨_, rfl, ?_⟩, ⟨_, rfl, ?_⟩, trivial⟩ (by kernel_rfl) rfl
      ·have hS := hS.nilv 92 8 dStmt
       have hS := hS.nilv 92 8 dStmt
       refine (.ligv (L1 := [rowV (sv v4) 90 3 dExpr y5.Args, rowV (sv nilH) 92 8 dStmt [], rowV (sv nilH) 92 8 dStmt []]) [(Stmt.mk 1 3 0 (Expr.mk y5.Op y5.N y5.Args) [] [])] dStmt T.u65 T.t92 (hS.to [5, 1, 0, 0, 0, 0, 0] rfl) rfl rfl rfl (.aggE (eStmt _) (.flat (c1 := [.int .i64 1]) rfl (.flat (c1 := [.int .i64 3]) rfl (.flat (c1 := [.int .i64 0]) rfl (.aggE (eExpr _) (.flat (c1 := [.int .i64 y5.Op]) rfl (.flat (c1 := [.int .i64 y5.N]) rfl (.row (.row (.row .nil)))))))))) ?_ rfl zStmt rfl rfl rfl rfl rfl)
       intro v11 W hS
       have hT := hS.to [3] rfl
       refine ⟨fun _ => hT, ?_⟩
       refine .by [10, 12] ⟨⟨_, rfl, ?_⟩, ⟨_, rfl, ?_⟩, trivial⟩ (by kernel_rfl) rfl
       ·refine (.appv hr1 (hS.to [4, 0, 0, 0, 0] rfl) T.u65 T.t92 rfl rfl rfl ?_ rfl rfl rfl rfl rfl)
        intro v12 W hS
        have hT := hS.to [3] rfl
        refine ⟨fun _ => hT, ?_⟩
        refine .ts 11 rfl (fun W hT => bs T.s92 rfl rfl) hT rfl (by kernel_rfl) (.by1 12 rfl (.alloc T.t92 hS ?_ rfl rfl rfl) (by kernel_rfl))
        intro g3 W hS
        have hT := hS.to [4] rfl
        refine ⟨fun _ => hT, ?_⟩
        refine .by1 13 rfl (.st T.t92 hS rfl rfl rfl ?_ rfl rfl rfl rfl rfl) (by kernel_rfl)
        intro W hS
        refine ⟨fun h => absurd rfl h, ?_⟩
        refine .done ?_ (by kernel_rfl)
        have hS := hS.nilv 92 8 dStmt
        exact ⟨rfl, g3, v10, v12, nilH, sb rfl, hS.to [4, 1, 2, 1, 0] rfl⟩
       refine (.alloc T.t92 hS ?_ rfl rfl rfl)
       intro g4 W hS
       have hT := hS.to [4] rfl
       refine ⟨fun _ => hT, ?_⟩
       refine .by1 10 rfl (.appv hr1 (hS.to [5, 1, 0, 0, 0, 0] rfl) T.u65 T.t92 rfl rfl rfl ?_ rfl rfl rfl rfl rfl) (by kernel_rfl)
       intro v13 W hS
       have hT := hS.to [4] rfl
       refine ⟨fun _ => hT, ?_⟩
       refine .ts 11 rfl (fun W hT => bs T.s92 rfl rfl) hT rfl (by kernel_rfl) (.by1 13 rfl (.st T.t92 hS.p1 rfl rfl rfl ?_ rfl rfl rfl rfl rfl) (by kernel_rfl))
       intro W hS
       refine ⟨fun h => absurd rfl h, ?_⟩
       refine .done ?_ (by kernel_rfl)
       have hS := hS.nilv 92 8 dStmt
       exact ⟨rfl, g4, v10, v13, nilH, sb rfl, hS.to [4, 1, 2, 1, 0] rfl⟩
      refine (.alloc T.t92 hS ?_ rfl rfl rfl)
      intro g5 W hS
      have hT := hS.to [3] rfl
      refine ⟨fun _ => hT, ?_⟩
      have hS := hS.nilv 92 8 dStmt
      have hS := hS.nilv 92 8 dStmt
      refine .by1 9 rfl (.ligv (L1 := [rowV (sv v4) 90 3 dExpr y5.Args, rowV (sv nilH) 92 8 dStmt [], rowV (sv nilH) 92 8 dStmt []]) [(Stmt.mk 1 3 0 (Expr.mk y5.Op y5.N y5.Args) [] [])] dStmt T.u65 T.t92 (hS.to [6, 1, 0, 0, 0, 0, 0, 0] rfl) rfl rfl rfl (.aggE (eStmt _) (.flat (c1 := [.int .i64 1]) rfl (.flat (c1 := [.int .i64 3]) rfl (.flat (c1 := [.int .i64 0]) rfl (.aggE (eExpr _) (.flat (c1 := [.int .i64 y5.Op]) rfl (.flat (c1 := [.int .i64 y5.N]) rfl (.row (.row (.row .nil)))))))))) ?_ rfl zStmt rfl rfl rfl rfl rfl) (by kernel_rfl)
      intro v14 W hS
      have hT := hS.to [4] rfl
      refine ⟨fun _ => hT, ?_⟩
      refine .by1 10 rfl (.appv hr1 (hS.to [5, 0, 0, 0, 0, 0] rfl) T.u65 T.t92 rfl rfl rfl ?_ rfl rfl rfl rfl rfl) (by kernel_rfl)
      intro v15 W hS
      have hT := hS.to [4] rfl
      refine ⟨fun _ => hT, ?_⟩
      refine .ts 11 rfl (fun W hT => bs T.s92 rfl rfl) hT rfl (by kernel_rfl) (.by1 13 rfl (.st T.t92 hS.p1 rfl rfl rfl ?_ rfl rfl rfl rfl rfl) (by kernel_rfl))
      intro W hS
      refine ⟨fun h => absurd rfl h, ?_⟩
      refine .done ?_ (by kernel_rfl)
      have hS := hS.nilv 92 8 dStmt
      exact ⟨rfl, g5, v10, v15, nilH, sb rfl, hS.to [4, 1, 2, 1, 0] rfl⟩
     ·have hS := hS.nilv 92 8 dStmt
      have hS := hS.nilv 92 8 dStmt
      refine (.ligv (L1 := [rowV (sv v4) 90 3 dExpr y5.Args, rowV (sv nilH) 92 8 dStmt [], rowV (sv nilH) 92 8 dStmt []]) [(Stmt.mk 1 3 0 (Expr.mk y5.Op y5.N y5.Args) [] [])] dStmt T.u65 T.t92 (hS.to [6, 1, 0, 0, 0, 0, 0, 0] rfl) rfl rfl rfl (.aggE (eStmt _) (.flat (c1 := [.int .i64 1]) rfl (.flat (c1 := [.int .i64 3]) rfl (.flat (c1 := [.int .i64 0]) rfl (.aggE (eExpr _) (.flat (c1 := [.int .i64 y5.Op]) rfl (.flat (c1 := [.int .i64 y5.N]) rfl (.row (.row (.row .nil)))))))))) ?_ rfl zStmt rfl rfl rfl rfl rfl)
      intro v16 W hS
      have hT := hS.to [4] rfl
      refine ⟨fun _ => hT, ?_⟩
      refine .by [6, 12] ⟨⟨_, rfl, ?_⟩, ⟨_, rfl, ?_⟩, trivial⟩ (by kernel_rfl) rfl
      ·have hS := hS.p1
       have hS := hS.p3
       refine (.callS2 (L0 := [rowV (sv v8) 90 3 dExpr y6.Args, rowV (sv v9) 90 3 dExpr y8.Args]) hS Tryz.func111 (fun S h1 h2 h3 => (spec_l4Both_ok hy9 h2 (fun b hb => (h1 b hb).2))) rfl rfl ?_ rfl (by kernel_rfl) rfl rfl)
       rintro v17 W hS
       have hT := hS.to [3] rfl
       refine ⟨fun _ => hT, ?_⟩
       refine .by [10, 12] ⟨⟨_, rfl, ?_⟩, ⟨_, rfl, ?_⟩, trivial⟩ (by kernel_rfl) rfl
       ·refine (.appv hr1 (hS.to [4, 1, 0, 0, 0] rfl) T.u65 T.t92 rfl rfl rfl ?_ rfl rfl rfl rfl rfl)
        intro v18 W hS
        have hT := hS.to [3] rfl
        refine ⟨fun _ => hT, ?_⟩
        refine .ts 11 rfl (fun W hT => bs T.s92 rfl rfl) hT rfl (by kernel_rfl) (.by1 12 rfl (.alloc T.t92 hS ?_ rfl rfl rfl) (by kernel_rfl))
        intro g6 W hS
        have hT := hS.to [4] rfl
        refine ⟨fun _ => hT, ?_⟩
        refine .by1 13 rfl (.st T.t92 hS rfl rfl rfl ?_ rfl rfl rfl rfl rfl) (by kernel_rfl)
        intro W hS
        refine ⟨fun h => absurd rfl h, ?_⟩
        refine .done ?_ (by kernel_rfl)
        have hS := hS.nilv 92 8 dStmt
        exact ⟨rfl, g6, v17, v18, nilH, sb rfl, hS.to [4, 1, 2, 1, 0] rfl⟩
       refine (.alloc T.t92 hS ?_ rfl rfl rfl)
       intro g7 W hS
       have hT := hS.to [4] rfl
       refine ⟨fun _ => hT, ?_⟩
       refine .by1 10 rfl (.appv hr1 (hS.to [5, 2, 0, 0, 0, 0] rfl) T.u65 T.t92 rfl rfl rfl ?_ rfl rfl rfl rfl rfl) (by kernel_rfl)
       intro v19 W hS
       have hT := hS.to [4] rfl
       refine ⟨fun _ => hT, ?_⟩
       refine .ts 11 rfl (fun W hT => bs T.s92 rfl rfl) hT rfl (by kernel_rfl) (.by1 13 rfl (.st T.t92 hS.p1 rfl rfl rfl ?_ rfl rfl rfl rfl rfl) (by kernel_rfl))
       intro W hS
       refine ⟨fun h => absurd rfl h, ?_⟩
       refine .done ?_ (by kernel_rfl)
       have hS := hS.nilv 92 8 dStmt
       exact ⟨rfl, g7, v17, v19, nilH, sb rfl, hS.to [4, 1, 2, 1, 0] rfl⟩
      refine (.alloc T.t92 hS ?_ rfl rfl rfl)
      intro g8 W hS
      have hT := hS.to [5] rfl
      refine ⟨fun _ => hT, ?_⟩
      have hS := hS.p2
      have hS := hS.p4
      refine .by1 6 rfl (.callS2 (L0 := [rowV (sv v8) 90 3 dExpr y6.Args, rowV (sv v9) 90 3 dExpr y8.Args]) hS Tryz.func111 (fun S h1 h2 h3 => (spec_l4Both_ok hy9 h2 (fun b hb => (h1 b hb).2))) rfl rfl ?_ rfl (by kernel_rfl) rfl rfl) (by kernel_rfl)
      rintro v20 W hS
      have hT := hS.to [4] rfl
      refine ⟨fun _ => hT, ?_⟩
      refine .by1 10 rfl (.appv hr1 (hS.to [5, 2, 0, 0, 0, 0] rfl) T.u65 T.t92 rfl rfl rfl ?_ rfl rfl rfl rfl rfl) (by kernel_rfl)
      intro v21 W hS
      have hT := hS.to [4] rfl
      refine ⟨fun _ => hT, ?_⟩
      refine .ts 11 rfl (fun W hT => bs T.s92 rfl rfl) hT rfl (by kernel_rfl) (.by1 13 rfl (.st T.t92 hS.p2 rfl rfl rfl ?_ rfl rfl rfl rfl rfl) (by kernel_rfl))
      intro W hS
      refine ⟨fun h => absurd rfl h, ?_⟩
      refine .done ?_ (by kernel_rfl)
      have hS := hS.nilv 92 8 dStmt
      exact ⟨rfl, g8, v20, v21, nilH, sb rfl, hS.to [4, 1, 2, 1, 0] rfl⟩
     refine (.alloc T.t92 hS ?_ rfl rfl rfl)
     intro g9 W hS
     have hT := hS.to [4] rfl
     refine ⟨fun _ => hT, ?_⟩
     refine .by [6, 9] ⟨⟨_, rfl, ?_⟩, ⟨_, rfl, ?_⟩, trivial⟩ (by kernel_rfl) rfl
     ·have hS := hS.p1
      have hS := hS.p3
      refine (.callS2 (L0 := [rowV (sv v8) 90 3 dExpr y6.Args, rowV (sv v9) 90 3 dExpr y8.Args]) hS Tryz.func111 (fun S h1 h2 h3 => (spec_l4Both_ok hy9 h2 (fun b hb => (h1 b hb).2))) rfl rfl ?_ rfl (by kernel_rfl) rfl rfl)
      rintro v22 W hS
      have hT := hS.to [3] rfl
      refine ⟨fun _ => hT, ?_⟩
      have hS := hS.nilv 92 8 dStmt
      have hS := hS.nilv 92 8 dStmt
      refine .by1 9 rfl (.ligv (L1 := [rowV (sv v4) 90 3 dExpr y5.Args, rowV (sv nilH) 92 8 dStmt [], rowV (sv nilH) 92 8 dStmt []]) [(Stmt.mk 1 3 0 (Expr.mk y5.Op y5.N y5.Args) [] [])] dStmt T.u65 T.t92 (hS.to [6, 1, 0, 0, 0, 0, 0, 0] rfl) rfl rfl rfl (.aggE (eStmt _) (.flat (c1 := [.int .i64 1]) rfl (.flat (c1 := [.int .i64 3]) rfl (.flat (c1 := [.int .i64 0]) rfl (.aggE (eExpr _) (.flat (c1 := [.int .i64 y5.Op]) rfl (.flat (c1 := [.int .i64 y5.N]) rfl (.row (.row (.row .nil)))))))))) ?_ rfl zStmt rfl rfl rfl rfl rfl) (by kernel_rfl)
      intro v23 W hS
      have hT := hS.to [4] rfl
      refine ⟨fun _ => hT, ?_⟩
      refine .by1 10 rfl (.appv hr1 (hS.to [5, 0, 0, 0, 0, 0] rfl) T.u65 T.t92 rfl rfl rfl ?_ rfl rfl rfl rfl rfl) (by kernel_rfl)
      intro v24 W hS
      have hT := hS.to [4] rfl
      refine ⟨fun _ => hT, ?_⟩
      refine .ts 11 rfl (fun W hT => bs T.s92 rfl rfl) hT rfl (by kernel_rfl) (.by1 13 rfl (.st T.t92 hS.p2 rfl rfl rfl ?_ rfl rfl rfl rfl rfl) (by kernel_rfl))
      intro W hS
      refine ⟨fun h => absurd rfl h, ?_⟩
      refine .done ?_ (by kernel_rfl)
      have hS := hS.nilv 92 8 dStmt
      exact ⟨rfl, g9, v22, v24, nilH, sb rfl, hS.to [4, 1, 2, 1, 0] rfl⟩
     have hS := hS.nilv 92 8 dStmt
     have hS := hS.nilv 92 8 dStmt
     refine (.ligv (L1 := [rowV (sv v4) 90 3 dExpr y5.Args, rowV (sv nilH) 92 8 dStmt [], rowV (sv nilH) 92 8 dStmt []]) [(Stmt.mk 1 3 0 (Expr.mk y5.Op y5.N y5.Args) [] [])] dStmt T.u65 T.t92 (hS.to [7, 1, 0, 0, 0, 0, 0, 0, 0] rfl) rfl rfl rfl (.aggE (eStmt _) (.flat (c1 := [.int .i64 1]) rfl (.flat (c1 := [.int .i64 3]) rfl (.flat (c1 := [.int .i64 0]) rfl (.aggE (eExpr _) (.flat (c1 := [.int .i64 y5.Op]) rfl (.flat (c1 := [.int .i64 y5.N]) rfl (.row (.row (.row .nil)))))))))) ?_ rfl zStmt rfl rfl rfl rfl rfl)
     intro v25 W hS
     have hT := hS.to [5] rfl
     refine ⟨fun _ => hT, ?_⟩
     have hS := hS.p2
     have hS := hS.p4
     refine .by1 6 rfl (.callS2 (L0 := [rowV (sv v8) 90 3 dExpr y6.Args, rowV (sv v9) 90 3 dExpr y8.Args]) hS Tryz.func111 (fun S h1 h2 h3 => (spec_l4Both_ok hy9 h2 (fun b hb => (h1 b hb).2))) rfl rfl ?_ rfl (by kernel_rfl) rfl rfl) (by kernel_rfl)
     rintro v26 W hS
     have hT := hS.to [4] rfl
     refine ⟨fun _ => hT, ?_⟩
     refine .by1 10 rfl (.appv hr1 (hS.to [5, 1, 0, 0, 0, 0] rfl) T.u65 T.t92 rfl rfl rfl ?_ rfl rfl rfl rfl rfl) (by kernel_rfl)
     intro v27 W hS
     have hT := hS.to [4] rfl
     refine ⟨fun _ => hT, ?_⟩
     refine .ts 11 rfl (fun W hT => bs T.s92 rfl rfl) hT rfl (by kernel_rfl) (.by1 13 rfl (.st T.t92 hS.p2 rfl rfl rfl ?_ rfl rfl rfl rfl rfl) (by kernel_rfl))
     intro W hS
     refine ⟨fun h => absurd rfl h, ?_⟩
     refine .done ?_ (by kernel_rfl)
     have hS := hS.nilv 92 8 dStmt
     exact ⟨rfl, g9, v26, v27, nilH, sb rfl, hS.to [4, 1, 2, 1, 0] rfl⟩
    ·have hS := hS.nilv 92 8 dStmt
     have hS := hS.nilv 92 8 dStmt
     refine (.ligv (L1 := [rowV (sv v4) 90 3 dExpr y5.Args, rowV (sv nilH) 92 8 dStmt [], rowV (sv nilH) 92 8 dStmt []]) [(Stmt.mk 1 3 0 (Expr.mk y5.Op y5.N y5.Args) [] [])] dStmt T.u65 T.t92 (hS.to [5, 1, 0, 0, 0, 0, 0] rfl) rfl rfl rfl (.aggE (eStmt _) (.flat (c1 := [.int .i64 1]) rfl (.flat (c1 := [.int .i64 3]) rfl (.flat (c1 := [.int .i64 0]) rfl (.aggE (eExpr _) (.flat (c1 := [.int .i64 y5.Op]) rfl (.flat (c1 := [.int .i64 y5.N]) rfl (.row (.row (.row .nil)))))))))) ?_ rfl zStmt rfl rfl rfl rfl rfl)
     intro v28 W hS
     have hT := hS.to [3] rfl
     refine ⟨fun _ => hT, ?_⟩
     refine .by [5, 12] ⟨⟨_, rfl, ?_⟩, ⟨_, rfl, ?_⟩, trivial⟩ (by kernel_rfl) rfl
     ·refine (.call1v hS Tryz.func112 (spec_l4Leaf_ok hy8) rfl rfl ?_ rfl (by kernel_rfl) rfl rfl)
      intro v29 W hS
      have hT := hS.to [4] rfl
      refine ⟨fun _ => hT, ?_⟩
      refine .by [6, 12] ⟨⟨_, rfl, ?_⟩, ⟨_, rfl, ?_⟩, trivial⟩ (by kernel_rfl) rfl
      ·have hS := hS.p3
       refine (.callS2 (L0 := [rowV (sv v8) 90 3 dExpr y6.Args, rowV (sv v29) 90 3 dExpr y8.Args]) hS Tryz.func111 (fun S h1 h2 h3 => (spec_l4Both_ok hy9 h2 (fun b hb => (h1 b hb).2))) rfl rfl ?_ rfl (by kernel_rfl) rfl rfl)
       rintro v30 W hS
       have hT := hS.to [3] rfl
       refine ⟨fun _ => hT, ?_⟩
       refine .by [10, 12] ⟨⟨_, rfl, ?_⟩, ⟨_, rfl, ?_⟩, trivial⟩ (by kernel_rfl) rfl
       ·refine (.appv hr1 (hS.to [4, 1, 0, 0, 0] rfl) T.u65 T.t92 rfl rfl rfl ?_ rfl rfl rfl rfl rfl)
        intro v31 W hS
        have hT := hS.to [3] rfl
        refine ⟨fun _ => hT, ?_⟩
        refine .ts 11 rfl (fun W hT => bs T.s92 rfl rfl) hT rfl (by kernel_rfl) (.by1 12 rfl (.alloc T.t92 hS ?_ rfl rfl rfl) (by kernel_rfl))
        intro g10 W hS
        have hT := hS.to [4] rfl
        refine ⟨fun _ => hT, ?_⟩
        refine .by1 13 rfl (.st T.t92 hS rfl rfl rfl ?_ rfl rfl rfl rfl rfl) (by kernel_rfl)
        intro W hS
        refine ⟨fun h => absurd rfl h, ?_⟩
        refine .done ?_ (by kernel_rfl)
        have hS := hS.nilv 92 8 dStmt
        exact ⟨rfl, g10, v30, v31, nilH, sb rfl, hS.to [4, 1, 2, 1, 0] rfl⟩
       refine (.alloc T.t92 hS ?_ rfl rfl rfl)
       intro g11 W hS
       have hT := hS.to [4] rfl
       refine ⟨fun _ => hT, ?_⟩
       refine .by1 10 rfl (.appv hr1 (hS.to [5, 2, 0, 0, 0, 0] rfl) T.u65 T.t92 rfl rfl rfl ?_ rfl rfl rfl rfl rfl) (by kernel_rfl)
       intro v32 W hS
       have hT := hS.to [4] rfl
       refine ⟨fun _ => hT, ?_⟩
       refine .ts 11 rfl (fun W hT => bs T.s92 rfl rfl) hT rfl (by kernel_rfl) (.by1 13 rfl (.st T.t92 hS.p1 rfl rfl rfl ?_ rfl rfl rfl rfl rfl) (by kernel_rfl))
       intro W hS
       refine ⟨fun h => absurd rfl h, ?_⟩
       refine .done ?_ (by kernel_rfl)
       have hS := hS.nilv 92 8 dStmt
       exact ⟨rfl, g11, v30, v32, nilH, sb rfl, hS.to [4, 1, 2, 1, 0] rfl⟩
      refine (.alloc T.t92 hS ?_ rfl rfl rfl)
      intro g12 W hS
      have hT := hS.to [5] rfl
      refine ⟨fun _ => hT, ?_⟩
      have hS := hS.p1
      have hS := hS.p4
      refine .by1 6 rfl (.callS2 (L0 := [rowV (sv v8) 90 3 dExpr y6.Args, rowV (sv v29) 90 3 dExpr y8.Args]) hS Tryz.func111 (fun S h1 h2 h3 => (spec_l4Both_ok hy9 h2 (fun b hb => (h1 b hb).2))) rfl rfl ?_ rfl (by kernel_rfl) rfl rfl) (by kernel_rfl)
      rintro v33 W hS
      have hT := hS.to [4] rfl
      refine ⟨fun _ => hT, ?_⟩
      refine .by1 10 rfl (.appv hr1 (hS.to [5, 2, 0, 0, 0, 0] rfl) T.u65 T.t92 rfl rfl rfl ?_ rfl rfl rfl rfl rfl) (by kernel_rfl)
      intro v34 W hS
      have hT := hS.to [4] rfl
      refine ⟨fun _ => hT, ?_⟩
      refine .ts 11 rfl (fun W hT => bs T.s92 rfl rfl) hT rfl (by kernel_rfl) (.by1 13 rfl (.st T.t92 hS.p2 rfl rfl rfl ?_ rfl rfl rfl rfl rfl) (by kernel_rfl))
      intro W hS
      refine ⟨fun h => absurd rfl h, ?_⟩
      refine .done ?_ (by kernel_rfl)
      have hS := hS.nilv 92 8 dStmt
      exact ⟨rfl, g12, v33, v34, nilH, sb rfl, hS.to [4, 1, 2, 1, 0] rfl⟩
     refine (.alloc T.t92 hS ?_ rfl rfl rfl)
     intro g13 W hS
     have hT := hS.to [4] rfl
     refine ⟨fun _ => hT, ?_⟩
     refine .by1 5 rfl (.call1v hS Tryz.func112 (spec_l4Leaf_ok hy8) rfl rfl ?_ rfl (by kernel_rfl) rfl rfl) (by kernel_rfl)
     intro v35 W hS
     have hT := hS.to [5] rfl
     refine ⟨fun _ => hT, ?_⟩
     have hS := hS.p4
     refine .by1 6 rfl (.callS2 (L0 := [rowV (sv v8) 90 3 dExpr y6.Args, rowV (sv v35) 90 3 dExpr y8.Args]) hS Tryz.func111 (fun S h1 h2 h3 => (spec_l4Both_ok hy9 h2 (fun b hb => (h1 b hb).2))) rfl rfl ?_ rfl (by kernel_rfl) rfl rfl) (by kernel_rfl)
     rintro v36 W hS
     have hT := hS.to [4] rfl
     refine ⟨fun _ => hT, ?_⟩
     refine .by1 10 rfl (.appv hr1 (hS.to [5, 2, 0, 0, 0, 0] rfl) T.u65 T.t92 rfl rfl rfl ?_ rfl rfl rfl rfl rfl) (by kernel_rfl)
     intro v37 W hS
     have hT := hS.to [4] rfl
     refine ⟨fun _ => hT, ?_⟩
     refine .ts 11 rfl (fun W hT => bs T.s92 rfl rfl) hT rfl (by kernel_rfl) (.by1 13 rfl (.st T.t92 hS.p2 rfl rfl rfl ?_ rfl rfl rfl rfl rfl) (by kernel_rfl))
     intro W hS
     refine ⟨fun h => absurd rfl h, ?_⟩
     refine .done ?_ (by kernel_rfl)
     have hS := hS.nilv 92 8 dStmt
     exact ⟨rfl, g13, v36, v37, nilH, sb rfl, hS.to [4, 1, 2, 1, 0] rfl⟩
    refine (.alloc T.t92 hS ?_ rfl rfl rfl)
    intro g14 W hS
    have hT := hS.to [3] rfl
    refine ⟨fun _ => hT, ?_⟩
    refine .by [5, 9] ⟨⟨_, rfl, ?_⟩, ⟨_, rfl, ?_⟩, trivial⟩ (by kernel_rfl) rfl
    ·refine (.call1v hS Tryz.func112 (spec_l4Leaf_ok hy8) rfl rfl ?_ rfl (by kernel_rfl) rfl rfl)
     intro v38 W hS
     have hT := hS.to [4] rfl
     refine ⟨fun _ => hT, ?_⟩
     refine .by [6, 9] ⟨⟨_, rfl, ?_⟩, ⟨_, rfl, ?_⟩, trivial⟩ (by kernel_rfl) rfl
     ·have hS := hS.p3
      refine (.callS2 (L0 := [rowV (sv v8) 90 3 dExpr y6.Args, rowV (sv v38) 90 3 dExpr y8.Args]) hS Tryz.func111 (fun S h1 h2 h3 => (spec_l4Both_ok hy9 h2 (fun b hb => (h1 b hb).2))) rfl rfl ?_ rfl (by kernel_rfl) rfl rfl)
      rintro v39 W hS
      have hT := hS.to [3] rfl
      refine ⟨fun _ => hT, ?_⟩
      have hS := hS.nilv 92 8 dStmt
      have hS := hS.nilv 92 8 dStmt
      refine .by1 9 rfl (.ligv (L1 := [rowV (sv v4) 90 3 dExpr y5.Args, rowV (sv nilH) 92 8 dStmt [], rowV (sv nilH) 92 8 dStmt []]) [(Stmt.mk 1 3 0 (Expr.mk y5.Op y5.N y5.Args) [] [])] dStmt T.u65 T.t92 (hS.to [6, 1, 0, 0, 0, 0, 0, 0] rfl) rfl rfl rfl (.aggE (eStmt _) (.flat (c1 := [.int .i64 1]) rfl (.flat (c1 := [.int .i64 3]) rfl (.flat (c1 := [.int .i64 0]) rfl (.aggE (eExpr _) (.flat (c1 := [.int .i64 y5.Op]) rfl (.flat (c1 := [.int .i64 y5.N]) rfl (.row (.row (.row .nil)))))))))) ?_ rfl zStmt rfl rfl rfl rfl rfl) (by kernel_rfl)
      intro v40 W hS
      have hT := hS.to [4] rfl
      refine ⟨fun _ => hT, ?_⟩
      refine .by1 10 rfl (.appv hr1 (hS.to [5, 0, 0, 0, 0, 0] rfl) T.u65 T.t92 rfl rfl rfl ?_ rfl rfl rfl rfl rfl) (by kernel_rfl)
      intro v41 W hS
      have hT := hS.to [4] rfl
      refine ⟨fun _ => hT, ?_⟩
      refine .ts 11 rfl (fun W hT => bs T.s92 rfl rfl) hT rfl (by kernel_rfl) (.by1 13 rfl (.st T.t92 hS.p2 rfl rfl rfl ?_ rfl rfl rfl rfl rfl) (by kernel_rfl))
      intro W hS
      refine ⟨fun h => absurd rfl h, ?_⟩
      refine .done ?_ (by kernel_rfl)
      have hS := hS.nilv 92 8 dStmt
      exact ⟨rfl, g14, v39, v41, nilH, sb rfl, hS.to [4, 1, 2, 1, 0] rfl⟩
     have hS := hS.nilv 92 8 dStmt
     have hS := hS.nilv 92 8 dStmt
     refine (.ligv (L1 := [rowV (sv v4) 90 3 dExpr y5.Args, rowV (sv nilH) 92 8 dStmt [], rowV (sv nilH) 92 8 dStmt []]) [(Stmt.mk 1 3 0 (Expr.mk y5.Op y5.N y5.Args) [] [])] dStmt T.u65 T.t92 (hS.to [7, 1, 0, 0, 0, 0, 0, 0, 0] rfl) rfl rfl rfl (.aggE (eStmt _) (.flat (c1 := [.int .i64 1]) rfl (.flat (c1 := [.int .i64 3]) rfl (.flat (c1 := [.int .i64 0]) rfl (.aggE (eExpr _) (.flat (c1 := [.int .i64 y5.Op]) rfl (.flat (c1 := [.int .i64 y5.N]) rfl (.row (.row (.row .nil)))))))))) ?_ rfl zStmt rfl rfl rfl rfl rfl)
     intro v42 W hS
     have hT := hS.to [5] rfl
     refine ⟨fun _ => hT, ?_⟩
     have hS := hS.p1
     have hS := hS.p4
     refine .by1 6 rfl (.callS2 (L0 := [rowV (sv v8) 90 3 dExpr y6.Args, rowV (sv v38) 90 3 dExpr y8.Args]) hS Tryz.func111 (fun S h1 h2 h3 => (spec_l4Both_ok hy9 h2 (fun b hb => (h1 b hb).2))) rfl rfl ?_ rfl (by kernel_rfl) rfl rfl) (by kernel_rfl)
     rintro v43 W hS
     have hT := hS.to [4] rfl
     refine ⟨fun _ => hT, ?_⟩
     refine .by1 10 rfl (.appv hr1 (hS.to [5, 1, 0, 0, 0, 0] rfl) T.u65 T.t92 rfl rfl rfl ?_ rfl rfl rfl rfl rfl) (by kernel_rfl)
     intro v44 W hS
     have hT := hS.to [4] rfl
     refine ⟨fun _ => hT, ?_⟩
     refine .ts 11 rfl (fun W hT => bs T.s92 rfl rfl) hT rfl (by kernel_rfl) (.by1 13 rfl (.st T.t92 hS.p2 rfl rfl rfl ?_ rfl rfl rfl rfl rfl) (by kernel_rfl))
     intro W hS
     refine ⟨fun h => absurd rfl h, ?_⟩
     refine .done ?_ (by kernel_rfl)
     have hS := hS.nilv 92 8 dStmt
     exact ⟨rfl, g14, v43, v44, nilH, sb rfl, hS.to [4, 1, 2, 1, 0] rfl⟩
    have hS := hS.nilv 92 8 dStmt
    have hS := hS.nilv 92 8 dStmt
    refine (.ligv (L1 := [rowV (sv v4) 90 3 dExpr y5.Args, rowV (sv nilH) 92 8 dStmt [], rowV (sv nilH) 92 8 dStmt []]) [(Stmt.mk 1 3 0 (Expr.mk y5.Op y5.N y5.Args) [] [])] dStmt T.u65 T.t92 (hS.to [6, 1, 0, 0, 0, 0, 0, 0] rfl) rfl rfl rfl (.aggE (eStmt _) (.flat (c1 := [.int .i64 1]) rfl (.flat (c1 := [.int .i64 3]) rfl (.flat (c1 := [.int .i64 0]) rfl (.aggE (eExpr _) (.flat (c1 := [.int .i64 y5.Op]) rfl (.flat (c1 := [.int .i64 y5.N]) rfl (.row (.row (.row .nil)))))))))) ?_ rfl zStmt rfl rfl rfl rfl rfl)
    intro v45 W hS
    have hT := hS.to [4] rfl
    refine ⟨fun _ => hT, ?_⟩
    refine .by1 5 rfl (.call1v hS Tryz.func112 (spec_l4Leaf_ok hy8) rfl rfl ?_ rfl (by kernel_rfl) rfl rfl) (by kernel_rfl)
    intro v46 W hS
    have hT := hS.to [5] rfl
    refine ⟨fun _ => hT, ?_⟩
    have hS := hS.p4
    refine .by1 6 rfl (.callS2 (L0 := [rowV (sv v8) 90 3 dExpr y6.Args, rowV (sv v46) 90 3 dExpr y8.Args]) hS Tryz.func111 (fun S h1 h2 h3 => (spec_l4Both_ok hy9 h2 (fun b hb => (h1 b hb).2))) rfl rfl ?_ rfl (by kernel_rfl) rfl rfl) (by kernel_rfl)
    rintro v47 W hS
    have hT := hS.to [4] rfl
    refine ⟨fun _ => hT, ?_⟩
    refine .by1 10 rfl (.appv hr1 (hS.to [5, 1, 0, 0, 0, 0] rfl) T.u65 T.t92 rfl rfl rfl ?_ rfl rfl rfl rfl rfl) (by kernel_rfl)
    intro v48 W hS
    have hT := hS.to [4] rfl
    refine ⟨fun _ => hT, ?_⟩
    refine .ts 11 rfl (fun W hT => bs T.s92 rfl rfl) hT rfl (by kernel_rfl) (.by1 13 rfl (.st T.t92 hS.p2 rfl rfl rfl ?_ rfl rfl rfl rfl rfl) (by kernel_rfl))
    intro W hS
    refine ⟨fun h => absurd rfl h, ?_⟩
    refine .done ?_ (by kernel_rfl)
    have hS := hS.nilv 92 8 dStmt
    exact ⟨rfl, g14, v47, v48, nilH, sb rfl, hS.to [4, 1, 2, 1, 0] rfl⟩
   ·have hS := hS.nilv 92 8 dStmt
    have hS := hS.nilv 92 8 dStmt
    refine (.ligv (L1 := [rowV (sv v4) 90 3 dExpr y5.Args, rowV (sv nilH) 92 8 dStmt [], rowV (sv nilH) 92 8 dStmt []]) [(Stmt.mk 1 3 0 (Expr.mk y5.Op y5.N y5.Args) [] [])] dStmt T.u65 T.t92 (hS.to [4, 1, 0, 0, 0, 0, 0] rfl) rfl rfl rfl (.aggE (eStmt _) (.flat (c1 := [.int .i64 1]) rfl (.flat (c1 := [.int .i64 3]) rfl (.flat (c1 := [.int .i64 0]) rfl (.aggE (eExpr _) (.flat (c1 := [.int .i64 y5.Op]) rfl (.flat (c1 := [.int .i64 y5.N]) rfl (.row (.row (.row .nil)))))))))) ?_ rfl zStmt rfl rfl rfl rfl rfl)
    intro v49 W hS
    have hT := hS.to [2] rfl
    refine ⟨fun _ => hT, ?_⟩
    refine .by [3, 12] ⟨⟨_, rfl, ?_⟩, ⟨_, rfl, ?_⟩, trivial⟩ (by kernel_rfl) rfl
    ·have hS := hS.p3
     refine (.callS2 (L0 := [.box g_0 50 [(sv v_0_b), .int .i64 y2.2]]) hS Tryz.func15 (fun S h1 h2 h3 => (spec_l6Rd_pick_ok hy7 (hS.keepS q_0_b h1) h2 (fun b hb => (h1 b hb).2))) rfl rfl ?_ rfl (by kernel_rfl) rfl rfl)
     rintro ⟨⟩ W hS
     have hT := hS.to [3] rfl
     refine ⟨fun _ => hT, ?_⟩
     refine .tp 4 rfl rfl hT (by kernel_rfl) (.by [5, 12] ⟨⟨_, rfl, ?_⟩, ⟨_, rfl, ?_⟩, trivial⟩ (by kernel_rfl) rfl)
     ·refine (.call1v hS Tryz.func112 (spec_l4Leaf_ok hy8) rfl rfl ?_ rfl (by kernel_rfl) rfl rfl)
      intro v50 W hS
      have hT := hS.to [4] rfl
      refine ⟨fun _ => hT, ?_⟩
      refine .by [6, 12] ⟨⟨_, rfl, ?_⟩, ⟨_, rfl, ?_⟩, trivial⟩ (by kernel_rfl) rfl
      ·have hS := hS.p3
       refine (.callS2 (L0 := [rowV (sv v8) 90 3 dExpr y6.Args, rowV (sv v50) 90 3 dExpr y8.Args]) hS Tryz.func111 (fun S h1 h2 h3 => (spec_l4Both_ok hy9 h2 (fun b hb => (h1 b hb).2))) rfl rfl ?_ rfl (by kernel_rfl) rfl rfl)
       rintro v51 W hS
       have hT := hS.to [3] rfl
       refine ⟨fun _ => hT, ?_⟩
       refine .by [10, 12] ⟨⟨_, rfl, ?_⟩, ⟨_, rfl, ?_⟩, trivial⟩ (by kernel_rfl) rfl
       ·refine (.appv hr1 (hS.to [4, 2, 0, 0, 0] rfl) T.u65 T.t92 rfl rfl rfl ?_ rfl rfl rfl rfl rfl)
        intro v52 W hS
        have hT := hS.to [3] rfl
        refine ⟨fun _ => hT, ?_⟩
        refine .ts 11 rfl (fun W hT => bs T.s92 rfl rfl) hT rfl (by kernel_rfl) (.by1 12 rfl (.alloc T.t92 hS ?_ rfl rfl rfl) (by kernel_rfl))
        intro g15 W hS
        have hT := hS.to [4] rfl
        refine ⟨fun _ => hT, ?_⟩
        refine .by1 13 rfl (.st T.t92 hS rfl rfl rfl ?_ rfl rfl rfl rfl rfl) (by kernel_rfl)
        intro W hS
        refine ⟨fun h => absurd rfl h, ?_⟩
        refine .done ?_ (by kernel_rfl)
        have hS := hS.nilv 92 8 dStmt
        exact ⟨rfl, g15, v51, v52, nilH, sb rfl, hS.to [4, 1, 2, 1, 0] rfl⟩
       refine (.alloc T.t92 hS ?_ rfl rfl rfl)
       intro g16 W hS
       have hT := hS.to [4] rfl
       refine ⟨fun _ => hT, ?_⟩
       refine .by1 10 rfl (.appv hr1 (hS.to [5, 3, 0, 0, 0, 0] rfl) T.u65 T.t92 rfl rfl rfl ?_ rfl rfl rfl rfl rfl) (by kernel_rfl)
       intro v53 W hS
       have hT := hS.to [4] rfl
       refine ⟨fun _ => hT, ?_⟩
       refine .ts 11 rfl (fun W hT => bs T.s92 rfl rfl) hT rfl (by kernel_rfl) (.by1 13 rfl (.st T.t92 hS.p1 rfl rfl rfl ?_ rfl rfl rfl rfl rfl) (by kernel_rfl))
       intro W hS
       refine ⟨fun h => absurd rfl h, ?_⟩
       refine .done ?_ (by kernel_rfl)
       have hS := hS.nilv 92 8 dStmt
       exact ⟨rfl, g16, v51, v53, nilH, sb rfl, hS.to [4, 1, 2, 1, 0] rfl⟩
      refine (.alloc T.t92 hS ?_ rfl rfl rfl)
      intro g17 W hS
      have hT := hS.to [5] rfl
      refine ⟨fun _ => hT, ?_⟩
      have hS := hS.p1
      have hS := hS.p4
      refine .by1 6 rfl (.callS2 (L0 := [rowV (sv v8) 90 3 dExpr y6.Args, rowV (sv v50) 90 3 dExpr y8.Args]) hS Tryz.func111 (fun S h1 h2 h3 => (spec_l4Both_ok hy9 h2 (fun b hb => (h1 b hb).2))) rfl rfl ?_ rfl (by kernel_rfl) rfl rfl) (by kernel_rfl)
      rintro v54 W hS
      have hT := hS.to [4] rfl
      refine ⟨fun _ => hT, ?_⟩
      refine .by1 10 rfl (.appv hr1 (hS.to [5, 3, 0, 0, 0, 0] rfl) T.u65 T.t92 rfl rfl rfl ?_ rfl rfl rfl rfl rfl) (by kernel_rfl)
      intro v55 W hS
      have hT := hS.to [4] rfl
      refine ⟨fun _ => hT, ?_⟩
      refine .ts 11 rfl (fun W hT => bs T.s92 rfl rfl) hT rfl (by kernel_rfl) (.by1 13 rfl (.st T.t92 hS.p2 rfl rfl rfl ?_ rfl rfl rfl rfl rfl) (by kernel_rfl))
      intro W hS
      refine ⟨fun h => absurd rfl h, ?_⟩
      refine .done ?_ (by kernel_rfl)
      have hS := hS.nilv 92 8 dStmt
      exact ⟨rfl, g17, v54, v55, nilH, sb rfl, hS.to [4, 1, 2, 1, 0] rfl⟩
     refine (.alloc T.t92 hS ?_ rfl rfl rfl)
     intro g18 W hS
     have hT := hS.to [4] rfl
     refine ⟨fun _ => hT, ?_⟩
     refine .by1 5 rfl (.call1v hS Tryz.func112 (spec_l4Leaf_ok hy8) rfl rfl ?_ rfl (by kernel_rfl) rfl rfl) (by kernel_rfl)
     intro v56 W hS
     have hT := hS.to [5] rfl
     refine ⟨fun _ => hT, ?_⟩
     have hS := hS.p4
     refine .by1 6 rfl (.callS2 (L0 := [rowV (sv v8) 90 3 dExpr y6.Args, rowV (sv v56) 90 3 dExpr y8.Args]) hS Tryz.func111 (fun S h1 h2 h3 => (spec_l4Both_ok hy9 h2 (fun b hb => (h1 b hb).2))) rfl rfl ?_ rfl (by kernel_rfl) rfl rfl) (by kernel_rfl)
     rintro v57 W hS
     have hT := hS.to [4] rfl
     refine ⟨fun _ => hT, ?_⟩
     refine .by1 10 rfl (.appv hr1 (hS.to [5, 3, 0, 0, 0, 0] rfl) T.u65 T.t92 rfl rfl rfl ?_ rfl rfl rfl rfl rfl) (by kernel_rfl)
     intro v58 W hS
     have hT := hS.to [4] rfl
     refine ⟨fun _ => hT, ?_⟩
     refine .ts 11 rfl (fun W hT => bs T.s92 rfl rfl) hT rfl (by kernel_rfl) (.by1 13 rfl (.st T.t92 hS.p2 rfl rfl rfl ?_ rfl rfl rfl rfl rfl) (by kernel_rfl))
     intro W hS
     refine ⟨fun h => absurd rfl h, ?_⟩
     refine .done ?_ (by kernel_rfl)
     have hS := hS.nilv 92 8 dStmt
     exact ⟨rfl, g18, v57, v58, nilH, sb rfl, hS.to [4, 1, 2, 1, 0] rfl⟩
    refine (.alloc T.t92 hS ?_ rfl rfl rfl)
    intro g19 W hS
    have hT := hS.to [3] rfl
    refine ⟨fun _ => hT, ?_⟩
    have hS := hS.p4
    refine .by1 3 rfl (.callS2 (L0 := [.box g_0 50 [(sv v_0_b), .int .i64 y2.2]]) hS Tryz.func15 (fun S h1 h2 h3 => (spec_l6Rd_pick_ok hy7 (hS.keepS q_0_b h1) h2 (fun b hb => (h1 b hb).2))) rfl rfl ?_ rfl (by kernel_rfl) rfl rfl) (by kernel_rfl)
    rintro ⟨⟩ W hS
    have hT := hS.to [4] rfl
    refine ⟨fun _ => hT, ?_⟩
    refine .tp 4 rfl rfl hT (by kernel_rfl) (.by1 5 rfl (.call1v hS Tryz.func112 (spec_l4Leaf_ok hy8) rfl rfl ?_ rfl (by kernel_rfl) rfl rfl) (by kernel_rfl))
    intro v59 W hS
    have hT := hS.to [5] rfl
    refine ⟨fun _ => hT, ?_⟩
    have hS := hS.p4
    refine .by1 6 rfl (.callS2 (L0 := [rowV (sv v8) 90 3 dExpr y6.Args, rowV (sv v59) 90 3 dExpr y8.Args]) hS Tryz.func111 (fun S h1 h2 h3 => (spec_l4Both_ok hy9 h2 (fun b hb => (h1 b hb).2))) rfl rfl ?_ rfl (by kernel_rfl) rfl rfl) (by kernel_rfl)
    rintro v60 W hS
    have hT := hS.to [4] rfl
    refine ⟨fun _ => hT, ?_⟩
    refine .by1 10 rfl (.appv hr1 (hS.to [5, 3, 0, 0, 0, 0] rfl) T.u65 T.t92 rfl rfl rfl ?_ rfl rfl rfl rfl rfl) (by kernel_rfl)
    intro v61 W hS
    have hT := hS.to [4] rfl
    refine ⟨fun _ => hT, ?_⟩
    refine .ts 11 rfl (fun W hT => bs T.s92 rfl rfl) hT rfl (by kernel_rfl) (.by1 13 rfl (.st T.t92 hS.p3 rfl rfl rfl ?_ rfl rfl rfl rfl rfl) (by kernel_rfl))
    intro W hS
    refine ⟨fun h => absurd rfl h, ?_⟩
    refine .done ?_ (by kernel_rfl)
    have hS := hS.nilv 92 8 dStmt
    exact ⟨rfl, g19, v60, v61, nilH, sb rfl, hS.to [4, 1, 2, 1, 0] rfl⟩
   refine (.alloc T.t92 hS ?_ rfl rfl rfl)
   intro g20 W hS
   have hT := hS.to [2] rfl
   refine ⟨fun _ => hT, ?_⟩
   refine .by [3, 9] ⟨⟨_, rfl, ?_⟩, ⟨_, rfl, ?_⟩, trivial⟩ (by kernel_rfl) rfl
   ·have hS := hS.p4
    refine (.callS2 (L0 := [.box g_0 50 [(sv v_0_b), .int .i64 y2.2]]) hS Tryz.func15 (fun S h1 h2 h3 => (spec_l6Rd_pick_ok hy7 (hS.keepS q_0_b h1) h2 (fun b hb => (h1 b hb).2))) rfl rfl ?_ rfl (by kernel_rfl) rfl rfl)
    rintro ⟨⟩ W hS
    have hT := hS.to [3] rfl
    refine ⟨fun _ => hT, ?_⟩
    refine .tp 4 rfl rfl hT (by kernel_rfl) (.by [5, 9] ⟨⟨_, rfl, ?_⟩, ⟨_, rfl, ?_⟩, trivial⟩ (by kernel_rfl) rfl)
    ·refine (.call1v hS Tryz.func112 (spec_l4Leaf_ok hy8) rfl rfl ?_ rfl (by kernel_rfl) rfl rfl)
     intro v62 W hS
     have hT := hS.to [4] rfl
     refine ⟨fun _ => hT, ?_⟩
     refine .by [6, 9] ⟨⟨_, rfl, ?_⟩, ⟨_, rfl, ?_⟩, trivial⟩ (by kernel_rfl) rfl
     ·have hS := hS.p3
      refine (.callS2 (L0 := [rowV (sv v8) 90 3 dExpr y6.Args, rowV (sv v62) 90 3 dExpr y8.Args]) hS Tryz.func111 (fun S h1 h2 h3 => (spec_l4Both_ok hy9 h2 (fun b hb => (h1 b hb).2))) rfl rfl ?_ rfl (by kernel_rfl) rfl rfl)
      rintro v63 W hS
      have hT := hS.to [3] rfl
      refine ⟨fun _ => hT, ?_⟩
      have hS := hS.nilv 92 8 dStmt
      have hS := hS.nilv 92 8 dStmt
      refine .by1 9 rfl (.ligv (L1 := [rowV (sv v4) 90 3 dExpr y5.Args, rowV (sv nilH) 92 8 dStmt [], rowV (sv nilH) 92 8 dStmt []]) [(Stmt.mk 1 3 0 (Expr.mk y5.Op y5.N y5.Args) [] [])] dStmt T.u65 T.t92 (hS.to [6, 1, 0, 0, 0, 0, 0, 0] rfl) rfl rfl rfl (.aggE (eStmt _) (.flat (c1 := [.int .i64 1]) rfl (.flat (c1 := [.int .i64 3]) rfl (.flat (c1 := [.int .i64 0]) rfl (.aggE (eExpr _) (.flat (c1 := [.int .i64 y5.Op]) rfl (.flat (c1 := [.int .i64 y5.N]) rfl (.row (.row (.row .nil)))))))))) ?_ rfl zStmt rfl rfl rfl rfl rfl) (by kernel_rfl)
      intro v64 W hS
      have hT := hS.to [4] rfl
      refine ⟨fun _ => hT, ?_⟩
      refine .by1 10 rfl (.appv hr1 (hS.to [5, 0, 0, 0, 0, 0] rfl) T.u65 T.t92 rfl rfl rfl ?_ rfl rfl rfl rfl rfl) (by kernel_rfl)
      intro v65 W hS
      have hT := hS.to [4] rfl
      refine ⟨fun _ => hT, ?_⟩
      refine .ts 11 rfl (fun W hT => bs T.s92 rfl rfl) hT rfl (by kernel_rfl) (.by1 13 rfl (.st T.t92 hS.p3 rfl rfl rfl ?_ rfl rfl rfl rfl rfl) (by kernel_rfl))
      intro W hS
      refine ⟨fun h => absurd rfl h, ?_⟩
      refine .done ?_ (by kernel_rfl)
      have hS := hS.nilv 92 8 dStmt
      exact ⟨rfl, g20, v63, v65, nilH, sb rfl, hS.to [4, 1, 2, 1, 0] rfl⟩
     have hS := hS.nilv 92 8 dStmt
     have hS := hS.nilv 92 8 dStmt
     refine (.ligv (L1 := [rowV (sv v4) 90 3 dExpr y5.Args, rowV (sv nilH) 92 8 dStmt [], rowV (sv nilH) 92 8 dStmt []]) [(Stmt.mk 1 3 0 (Expr.mk y5.Op y5.N y5.Args) [] [])] dStmt T.u65 T.t92 (hS.to [7, 1, 0, 0, 0, 0, 0, 0, 0] rfl) rfl rfl rfl (.aggE (eStmt _) (.flat (c1 := [.int .i64 1]) rfl (.flat (c1 := [.int .i64 3]) rfl (.flat (c1 := [.int .i64 0]) rfl (.aggE (eExpr _) (.flat (c1 := [.int .i64 y5.Op]) rfl (.flat (c1 := [.int .i64 y5.N]) rfl (.row (.row (.row .nil)))))))))) ?_ rfl zStmt rfl rfl rfl rfl rfl)
     intro v66 W hS
     have hT := hS.to [5] rfl
     refine ⟨fun _ => hT, ?_⟩
     have hS := hS.p1
     have hS := hS.p4
     refine .by1 6 rfl (.callS2 (L0 := [rowV (sv v8) 90 3 dExpr y6.Args, rowV (sv v62) 90 3 dExpr y8.Args]) hS Tryz.func111 (fun S h1 h2 h3 => (spec_l4Both_ok hy9 h2 (fun b hb => (h1 b hb).2))) rfl rfl ?_ rfl (by kernel_rfl) rfl rfl) (by kernel_rfl)
     rintro v67 W hS
     have hT := hS.to [4] rfl
     refine ⟨fun _ => hT, ?_⟩
     refine .by1 10 rfl (.appv hr1 (hS.to [5, 1, 0, 0, 0, 0] rfl) T.u65 T.t92 rfl rfl rfl ?_ rfl rfl rfl rfl rfl) (by kernel_rfl)
     intro v68 W hS
     have hT := hS.to [4] rfl
     refine ⟨fun _ => hT, ?_⟩
     refine .ts 11 rfl (fun W hT => bs T.s92 rfl rfl) hT rfl (by kernel_rfl) (.by1 13 rfl (.st T.t92 hS.p3 rfl rfl rfl ?_ rfl rfl rfl rfl rfl) (by kernel_rfl))
     intro W hS
     refine ⟨fun h => absurd rfl h, ?_⟩
     refine .done ?_ (by kernel_rfl)
     have hS := hS.nilv 92 8 dStmt
     exact ⟨rfl, g20, v67, v68, nilH, sb rfl, hS.to [4, 1, 2, 1, 0] rfl⟩
    have hS := hS.nilv 92 8 dStmt
    have hS := hS.nilv 92 8 dStmt
    refine (.ligv (L1 := [rowV (sv v4) 90 3 dExpr y5.Args, rowV (sv nilH) 92 8 dStmt [], rowV (sv nilH) 92 8 dStmt []]) [(Stmt.mk 1 3 0 (Expr.mk y5.Op y5.N y5.Args) [] [])] dStmt T.u65 T.t92 (hS.to [6, 1, 0, 0, 0, 0, 0, 0] rfl) rfl rfl rfl (.aggE (eStmt _) (.flat (c1 := [.int .i64 1]) rfl (.flat (c1 := [.int .i64 3]) rfl (.flat (c1 := [.int .i64 0]) rfl (.aggE (eExpr _) (.flat (c1 := [.int .i64 y5.Op]) rfl (.flat (c1 := [.int .i64 y5.N]) rfl (.row (.row (.row .nil)))))))))) ?_ rfl zStmt rfl rfl rfl rfl rfl)
    intro v69 W hS
    have hT := hS.to [4] rfl
    refine ⟨fun _ => hT, ?_⟩
    refine .by1 5 rfl (.call1v hS Tryz.func112 (spec_l4Leaf_ok hy8) rfl rfl ?_ rfl (by kernel_rfl) rfl rfl) (by kernel_rfl)
    intro v70 W hS
    have hT := hS.to [5] rfl
    refine ⟨fun _ => hT, ?_⟩
    have hS := hS.p4
    refine .by1 6 rfl (.callS2 (L0 := [rowV (sv v8) 90 3 dExpr y6.Args, rowV (sv v70) 90 3 dExpr y8.Args]) hS Tryz.func111 (fun S h1 h2 h3 => (spec_l4Both_ok hy9 h2 (fun b hb => (h1 b hb).2))) rfl rfl ?_ rfl (by kernel_rfl) rfl rfl) (by kernel_rfl)
    rintro v71 W hS
    have hT := hS.to [4] rfl
    refine ⟨fun _ => hT, ?_⟩
    refine .by1 10 rfl (.appv hr1 (hS.to [5, 1, 0, 0, 0, 0] rfl) T.u65 T.t92 rfl rfl rfl ?_ rfl rfl rfl rfl rfl) (by kernel_rfl)
    intro v72 W hS
    have hT := hS.to [4] rfl
    refine ⟨fun _ => hT, ?_⟩
    refine .ts 11 rfl (fun W hT => bs T.s92 rfl rfl) hT rfl (by kernel_rfl) (.by1 13 rfl (.st T.t92 hS.p3 rfl rfl rfl ?_ rfl rfl rfl rfl rfl) (by kernel_rfl))
    intro W hS
    refine ⟨fun h => absurd rfl h, ?_⟩
    refine .done ?_ (by kernel_rfl)
    have hS := hS.nilv 92 8 dStmt
    exact ⟨rfl, g20, v71, v72, nilH, sb rfl, hS.to [4, 1, 2, 1, 0] rfl⟩
   have hS := hS.nilv 92 8 dStmt
   have hS := hS.nilv 92 8 dStmt
   refine (.ligv (L1 := [rowV (sv v4) 90 3 dExpr y5.Args, rowV (sv nilH) 92 8 dStmt [], rowV (sv nilH) 92 8 dStmt []]) [(Stmt.mk 1 3 0 (Expr.mk y5.Op y5.N y5.Args) [] [])] dStmt T.u65 T.t92 (hS.to [5, 1, 0, 0, 0, 0, 0, 0] rfl) rfl rfl rfl (.aggE (eStmt _) (.flat (c1 := [.int .i64 1]) rfl (.flat (c1 := [.int .i64 3]) rfl (.flat (c1 := [.int .i64 0]) rfl (.aggE (eExpr _) (.flat (c1 := [.int .i64 y5.Op]) rfl (.flat (c1 := [.int .i64 y5.N]) rfl (.row (.row (.row .nil)))))))))) ?_ rfl zStmt rfl rfl rfl rfl rfl)
   intro v73 W hS
   have hT := hS.to [3] rfl
   refine ⟨fun _ => hT, ?_⟩
   have hS := hS.p4
   refine .by1 3 rfl (.callS2 (L0 := [.box g_0 50 [(sv v_0_b), .int .i64 y2.2]]) hS Tryz.func15 (fun S h1 h2 h3 => (spec_l6Rd_pick_ok hy7 (hS.keepS q_0_b h1) h2 (fun b hb => (h1 b hb).2))) rfl rfl ?_ rfl (by kernel_rfl) rfl rfl) (by kernel_rfl)
   rintro ⟨⟩ W hS
   have hT := hS.to [4] rfl
   refine ⟨fun _ => hT, ?_⟩
   refine .tp 4 rfl rfl hT (by kernel_rfl) (.by1 5 rfl (.call1v hS Tryz.func112 (spec_l4Leaf_ok hy8) rfl rfl ?_ rfl (by kernel_rfl) rfl rfl) (by kernel_rfl))
   intro v74 W hS
   have hT := hS.to [5] rfl
   refine ⟨fun _ => hT, ?_⟩
   have hS := hS.p4
   refine .by1 6 rfl (.callS2 (L0 := [rowV (sv v8) 90 3 dExpr y6.Args, rowV (sv v74) 90 3 dExpr y8.Args]) hS Tryz.func111 (fun S h1 h2 h3 => (spec_l4Both_ok hy9 h2 (fun b hb => (h1 b hb).2))) rfl rfl ?_ rfl (by kernel_rfl) rfl rfl) (by kernel_rfl)
   rintro v75 W hS
   have hT := hS.to [4] rfl
   refine ⟨fun _ => hT, ?_⟩
   refine .by1 10 rfl (.appv hr1 (hS.to [5, 2, 0, 0, 0, 0] rfl) T.u65 T.t92 rfl rfl rfl ?_ rfl rfl rfl rfl rfl) (by kernel_rfl)
   intro v76 W hS
   have hT := hS.to [4] rfl
   refine ⟨fun _ => hT, ?_⟩
   refine .ts 11 rfl (fun W hT => bs T.s92 rfl rfl) hT rfl (by kernel_rfl) (.by1 13 rfl (.st T.t92 hS.p3 rfl rfl rfl ?_ rfl rfl rfl rfl rfl) (by kernel_rfl))
   intro W hS
   refine ⟨fun h => absurd rfl h, ?_⟩
   refine .done ?_ (by kernel_rfl)
   have hS := hS.nilv 92 8 dStmt
   exact ⟨rfl, g20, v75, v76, nilH, sb rfl, hS.to [4, 1, 2, 1, 0] rfl⟩
  ·have hS := hS.nilv 92 8 dStmt
   have hS := hS.nilv 92 8 dStmt
   refine (.ligv (L1 := [rowV (sv v4) 90 3 dExpr y5.Args, rowV (sv nilH) 92 8 dStmt [], rowV (sv nilH) 92 8 dStmt []]) [(Stmt.mk 1 3 0 (Expr.mk y5.Op y5.N y5.Args) [] [])] dStmt T.u65 T.t92 (hS.to [3, 1, 0, 0, 0, 0] rfl) rfl rfl rfl (.aggE (eStmt _) (.flat (c1 := [.int .i64 1]) rfl (.flat (c1 := [.int .i64 3]) rfl (.flat (c1 := [.int .i64 0]) rfl (.aggE (eExpr _) (.flat (c1 := [.int .i64 y5.Op]) rfl (.flat (c1 := [.int .i64 y5.N]) rfl (.row (.row (.row .nil)))))))))) ?_ rfl zStmt rfl rfl rfl rfl rfl)
   intro v77 W hS
   have hT := hS.to [1] rfl
   refine ⟨fun _ => hT, ?_⟩
   refine .by [1, 12] ⟨⟨_, rfl, ?_⟩, ⟨_, rfl, ?_⟩, trivial⟩ (by kernel_rfl) rfl
   ·refine (.call1v hS Tryz.func112 (spec_l4Leaf_ok hy6) rfl rfl ?_ rfl (by kernel_rfl) rfl rfl)
    intro v78 W hS
    have hT := hS.to [2] rfl
    refine ⟨fun _ => hT, ?_⟩
    refine .by [3, 12] ⟨⟨_, rfl, ?_⟩, ⟨_, rfl, ?_⟩, trivial⟩ (by kernel_rfl) rfl
    ·have hS := hS.p3
     refine (.callS2 (L0 := [.box g_0 50 [(sv v_0_b), .int .i64 y2.2]]) hS Tryz.func15 (fun S h1 h2 h3 => (spec_l6Rd_pick_ok hy7 (hS.keepS q_0_b h1) h2 (fun b hb => (h1 b hb).2))) rfl rfl ?_ rfl (by kernel_rfl) rfl rfl)
     rintro ⟨⟩ W hS
     have hT := hS.to [3] rfl
     refine ⟨fun _ => hT, ?_⟩
     refine .tp 4 rfl rfl hT (by kernel_rfl) (.by [5, 12] ⟨⟨_, rfl, ?_⟩, ⟨_, rfl, ?_⟩, trivial⟩ (by kernel_rfl) rfl)
     ·refine (.call1v hS Tryz.func112 (spec_l4Leaf_ok hy8) rfl rfl ?_ rfl (by kernel_rfl) rfl rfl)
      intro v79 W hS
      have hT := hS.to [4] rfl
      refine ⟨fun _ => hT, ?_⟩
      refine .by [6, 12] ⟨⟨_, rfl, ?_⟩, ⟨_, rfl, ?_⟩, trivial⟩ (by kernel_rfl) rfl
      ·have hS := hS.p2
       refine (.callS2 (L0 := [rowV (sv v78) 90 3 dExpr y6.Args, rowV (sv v79) 90 3 dExpr y8.Args]) hS Tryz.func111 (fun S h1 h2 h3 => (spec_l4Both_ok hy9 h2 (fun b hb => (h1 b hb).2))) rfl rfl ?_ rfl (by kernel_rfl) rfl rfl)
       rintro v80 W hS
       have hT := hS.to [3] rfl
       refine ⟨fun _ => hT, ?_⟩
       refine .by [10, 12] ⟨⟨_, rfl, ?_⟩, ⟨_, rfl, ?_⟩, trivial⟩ (by kernel_rfl) rfl
       ·refine (.appv hr1 (hS.to [4, 2, 0, 0, 0] rfl) T.u65 T.t92 rfl rfl rfl ?_ rfl rfl rfl rfl rfl)
        intro v81 W hS
        have hT := hS.to [3] rfl
        refine ⟨fun _ => hT, ?_⟩
        refine .ts 11 rfl (fun W hT => bs T.s92 rfl rfl) hT rfl (by kernel_rfl) (.by1 12 rfl (.alloc T.t92 hS ?_ rfl rfl rfl) (by kernel_rfl))
        intro g21 W hS
        have hT := hS.to [4] rfl
        refine ⟨fun _ => hT, ?_⟩
        refine .by1 13 rfl (.st T.t92 hS rfl rfl rfl ?_ rfl rfl rfl rfl rfl) (by kernel_rfl)
        intro W hS
        refine ⟨fun h => absurd rfl h, ?_⟩
        refine .done ?_ (by kernel_rfl)
        have hS := hS.nilv 92 8 dStmt
        exact ⟨rfl, g21, v80, v81, nilH, sb rfl, hS.to [4, 1, 2, 1, 0] rfl⟩
       refine (.alloc T.t92 hS ?_ rfl rfl rfl)
       intro g22 W hS
       have hT := hS.to [4] rfl
       refine ⟨fun _ => hT, ?_⟩
       refine .by1 10 rfl (.appv hr1 (hS.to [5, 3, 0, 0, 0, 0] rfl) T.u65 T.t92 rfl rfl rfl ?_ rfl rfl rfl rfl rfl) (by kernel_rfl)
       intro v82 W hS
       have hT := hS.to [4] rfl
       refine ⟨fun _ => hT, ?_⟩
       refine .ts 11 rfl (fun W hT => bs T.s92 rfl rfl) hT rfl (by kernel_rfl) (.by1 13 rfl (.st T.t92 hS.p1 rfl rfl rfl ?_ rfl rfl rfl rfl rfl) (by kernel_rfl))
       intro W hS
       refine ⟨fun h => absurd rfl h, ?_⟩
       refine .done ?_ (by kernel_rfl)
       have hS := hS.nilv 92 8 dStmt
       exact ⟨rfl, g22, v80, v82, nilH, sb rfl, hS.to [4, 1, 2, 1, 0] rfl⟩
      refine (.alloc T.t92 hS ?_ rfl rfl rfl)
      intro g23 W hS
      have hT := hS.to [5] rfl
      refine ⟨fun _ => hT, ?_⟩
      have hS := hS.p1
      have hS := hS.p3
      refine .by1 6 rfl (.callS2 (L0 := [rowV (sv v78) 90 3 dExpr y6.Args, rowV (sv v79) 90 3 dExpr y8.Args]) hS Tryz.func111 (fun S h1 h2 h3 => (spec_l4Both_ok hy9 h2 (fun b hb => (h1 b hb).2))) rfl rfl ?_ rfl (by kernel_rfl) rfl rfl) (by kernel_rfl)
      rintro v83 W hS
      have hT := hS.to [4] rfl
      refine ⟨fun _ => hT, ?_⟩
      refine .by1 10 rfl (.appv hr1 (hS.to [5, 3, 0, 0, 0, 0] rfl) T.u65 T.t92 rfl rfl rfl ?_ rfl rfl rfl rfl rfl) (by kernel_rfl)
      intro v84 W hS
      have hT := hS.to [4] rfl
      refine ⟨fun _ => hT, ?_⟩
      refine .ts 11 rfl (fun W hT => bs T.s92 rfl rfl) hT rfl (by kernel_rfl) (.by1 13 rfl (.st T.t92 hS.p2 rfl rfl rfl ?_ rfl rfl rfl rfl rfl) (by kernel_rfl))
      intro W hS
      refine ⟨fun h => absurd rfl h, ?_⟩
      refine .done ?_ (by kernel_rfl)
      have hS := hS.nilv 92 8 dStmt
      exact ⟨rfl, g23, v83, v84, nilH, sb rfl, hS.to [4, 1, 2, 1, 0] rfl⟩
     refine (.alloc T.t92 hS ?_ rfl rfl rfl)
     intro g24 W hS
     have hT := hS.to [4] rfl
     refine ⟨fun _ => hT, ?_⟩
     refine .by1 5 rfl (.call1v hS Tryz.func112 (spec_l4Leaf_ok hy8) rfl rfl ?_ rfl (by kernel_rfl) rfl rfl) (by kernel_rfl)
     intro v85 W hS
     have hT := hS.to [5] rfl
     refine ⟨fun _ => hT, ?_⟩
     have hS := hS.p3
     refine .by1 6 rfl (.callS2 (L0 := [rowV (sv v78) 90 3 dExpr y6.Args, rowV (sv v85) 90 3 dExpr y8.Args]) hS Tryz.func111 (fun S h1 h2 h3 => (spec_l4Both_ok hy9 h2 (fun b hb => (h1 b hb).2))) rfl rfl ?_ rfl (by kernel_rfl) rfl rfl) (by kernel_rfl)
     rintro v86 W hS
     have hT := hS.to [4] rfl
     refine ⟨fun _ => hT, ?_⟩
     refine .by1 10 rfl (.appv hr1 (hS.to [5, 3, 0, 0, 0, 0] rfl) T.u65 T.t92 rfl rfl rfl ?_ rfl rfl rfl rfl rfl) (by kernel_rfl)
     intro v87 W hS
     have hT := hS.to [4] rfl
     refine ⟨fun _ => hT, ?_⟩
     refine .ts 11 rfl (fun W hT => bs T.s92 rfl rfl) hT rfl (by kernel_rfl) (.by1 13 rfl (.st T.t92 hS.p2 rfl rfl rfl ?_ rfl rfl rfl rfl rfl) (by kernel_rfl))
     intro W hS
     refine ⟨fun h => absurd rfl h, ?_⟩
     refine .done ?_ (by kernel_rfl)
     have hS := hS.nilv 92 8 dStmt
     exact ⟨rfl, g24, v86, v87, nilH, sb rfl, hS.to [4, 1, 2, 1, 0] rfl⟩
    refine (.alloc T.t92 hS ?_ rfl rfl rfl)
    intro g25 W hS
    have hT := hS.to [3] rfl
    refine ⟨fun _ => hT, ?_⟩
    have hS := hS.p4
    refine .by1 3 rfl (.callS2 (L0 := [.box g_0 50 [(sv v_0_b), .int .i64 y2.2]]) hS Tryz.func15 (fun S h1 h2 h3 => (spec_l6Rd_pick_ok hy7 (hS.keepS q_0_b h1) h2 (fun b hb => (h1 b hb).2))) rfl rfl ?_ rfl (by kernel_rfl) rfl rfl) (by kernel_rfl)
    rintro ⟨⟩ W hS
    have hT := hS.to [4] rfl
    refine ⟨fun _ => hT, ?_⟩
    refine .tp 4 rfl rfl hT (by kernel_rfl) (.by1 5 rfl (.call1v hS Tryz.func112 (spec_l4Leaf_ok hy8) rfl rfl ?_ rfl (by kernel_rfl) rfl rfl) (by kernel_rfl))
    intro v88 W hS
    have hT := hS.to [5] rfl
    refine ⟨fun _ => hT, ?_⟩
    have hS := hS.p3
    refine .by1 6 rfl (.callS2 (L0 := [rowV (sv v78) 90 3 dExpr y6.Args, rowV (sv v88) 90 3 dExpr y8.Args]) hS Tryz.func111 (fun S h1 h2 h3 => (spec_l4Both_ok hy9 h2 (fun b hb => (h1 b hb).2))) rfl rfl ?_ rfl (by kernel_rfl) rfl rfl) (by kernel_rfl)
    rintro v89 W hS
    have hT := hS.to [4] rfl
    refine ⟨fun _ => hT, ?_⟩
    refine .by1 10 rfl (.appv hr1 (hS.to [5, 3, 0, 0, 0, 0] rfl) T.u65 T.t92 rfl rfl rfl ?_ rfl rfl rfl rfl rfl) (by kernel_rfl)
    intro v90 W hS
    have hT := hS.to [4] rfl
    refine ⟨fun _ => hT, ?_⟩
    refine .ts 11 rfl (fun W hT => bs T.s92 rfl rfl) hT rfl (by kernel_rfl) (.by1 13 rfl (.st T.t92 hS.p3 rfl rfl rfl ?_ rfl rfl rfl rfl rfl) (by kernel_rfl))
    intro W hS
    refine ⟨fun h => absurd rfl h, ?_⟩
    refine .done ?_ (by kernel_rfl)
    have hS := hS.nilv 92 8 dStmt
    exact ⟨rfl, g25, v89, v90, nilH, sb rfl, hS.to [4, 1, 2, 1, 0] rfl⟩
   refine (.alloc T.t92 hS ?_ rfl rfl rfl)
   intro g26 W hS
   have hT := hS.to [2] rfl
   refine ⟨fun _ => hT, ?_⟩
   refine .by1 1 rfl (.call1v hS Tryz.func112 (spec_l4Leaf_ok hy6) rfl rfl ?_ rfl (by kernel_rfl) rfl rfl) (by kernel_rfl)
   intro v91 W hS
   have hT := hS.to [3] rfl
   refine ⟨fun _ => hT, ?_⟩
   have hS := hS.p4
   refine .by1 3 rfl (.callS2 (L0 := [.box g_0 50 [(sv v_0_b), .int .i64 y2.2]]) hS Tryz.func15 (fun S h1 h2 h3 => (spec_l6Rd_pick_ok hy7 (hS.keepS q_0_b h1) h2 (fun b hb => (h1 b hb).2))) rfl rfl ?_ rfl (by kernel_rfl) rfl rfl) (by kernel_rfl)
   rintro ⟨⟩ W hS
   have hT := hS.to [4] rfl
   refine ⟨fun _ => hT, ?_⟩
   refine .tp 4 rfl rfl hT (by kernel_rfl) (.by1 5 rfl (.call1v hS Tryz.func112 (spec_l4Leaf_ok hy8) rfl rfl ?_ rfl (by kernel_rfl) rfl rfl) (by kernel_rfl))
   intro v92 W hS
   have hT := hS.to [5] rfl
   refine ⟨fun _ => hT, ?_⟩
   have hS := hS.p2
   refine .by1 6 rfl (.callS2 (L0 := [rowV (sv v91) 90 3 dExpr y6.Args, rowV (sv v92) 90 3 dExpr y8.Args]) hS Tryz.func111 (fun S h1 h2 h3 => (spec_l4Both_ok hy9 h2 (fun b hb => (h1 b hb).2))) rfl rfl ?_ rfl (by kernel_rfl) rfl rfl) (by kernel_rfl)
   rintro v93 W hS
   have hT := hS.to [4] rfl
   refine ⟨fun _ => hT, ?_⟩
   refine .by1 10 rfl (.appv hr1 (hS.to [5, 3, 0, 0, 0, 0] rfl) T.u65 T.t92 rfl rfl rfl ?_ rfl rfl rfl rfl rfl) (by kernel_rfl)
   intro v94 W hS
   have hT := hS.to [4] rfl
   refine ⟨fun _ => hT, ?_⟩
   refine .ts 11 rfl (fun W hT => bs T.s92 rfl rfl) hT rfl (by kernel_rfl) (.by1 13 rfl (.st T.t92 hS.p3 rfl rfl rfl ?_ rfl rfl rfl rfl rfl) (by kernel_rfl))
   intro W hS
   refine ⟨fun h => absurd rfl h, ?_⟩
   refine .done ?_ (by kernel_rfl)
   have hS := hS.nilv 92 8 dStmt
   exact ⟨rfl, g26, v93, v94, nilH, sb rfl, hS.to [4, 1, 2, 1, 0] rfl⟩
  refine (.alloc T.t92 hS ?_ rfl rfl rfl)
  intro g27 W hS
  have hT := hS.to [1] rfl
  refine ⟨fun _ => hT, ?_⟩
  refine .by [1, 9] ⟨⟨_, rfl, ?_⟩, ⟨_, rfl, ?_⟩, trivial⟩ (by kernel_rfl) rfl
  ·refine (.call1v hS Tryz.func112 (spec_l4Leaf_ok hy6) rfl rfl ?_ rfl (by kernel_rfl) rfl rfl)
   intro v95 W hS
   have hT := hS.to [2] rfl
   refine ⟨fun _ => hT, ?_⟩
   refine .by [3, 9] ⟨⟨_, rfl, ?_⟩, ⟨_, rfl, ?_⟩, trivial⟩ (by kernel_rfl) rfl
   ·have hS := hS.p4
    refine (.callS2 (L0 := [.box g_0 50 [(sv v_0_b), .int .i64 y2.2]]) hS Tryz.func15 (fun S h1 h2 h3 => (spec_l6Rd_pick_ok hy7 (hS.keepS q_0_b h1) h2 (fun b hb => (h1 b hb).2))) rfl rfl ?_ rfl (by kernel_rfl) rfl rfl)
    rintro ⟨⟩ W hS
    have hT := hS.to [3] rfl
    refine ⟨fun _ => hT, ?_⟩
    refine .tp 4 rfl rfl hT (by kernel_rfl) (.by [5, 9] ⟨⟨_, rfl, ?_⟩, ⟨_, rfl, ?_⟩, trivial⟩ (by kernel_rfl) rfl)
    ·refine (.call1v hS Tryz.func112 (spec_l4Leaf_ok hy8) rfl rfl ?_ rfl (by kernel_rfl) rfl rfl)
     intro v96 W hS
     have hT := hS.to [4] rfl
     refine ⟨fun _ => hT, ?_⟩
     refine .by [6, 9] ⟨⟨_, rfl, ?_⟩, ⟨_, rfl, ?_⟩, trivial⟩ (by kernel_rfl) rfl
     ·have hS := hS.p2
      refine (.callS2 (L0 := [rowV (sv v95) 90 3 dExpr y6.Args, rowV (sv v96) 90 3 dExpr y8.Args]) hS Tryz.func111 (fun S h1 h2 h3 => (spec_l4Both_ok hy9 h2 (fun b hb => (h1 b hb).2))) rfl rfl ?_ rfl (by kernel_rfl) rfl rfl)
      rintro v97 W hS
      have hT := hS.to [3] rfl
      refine ⟨fun _ => hT, ?_⟩
      have hS := hS.nilv 92 8 dStmt
      have hS := hS.nilv 92 8 dStmt
      refine .by1 9 rfl (.ligv (L1 := [rowV (sv v4) 90 3 dExpr y5.Args, rowV (sv nilH) 92 8 dStmt [], rowV (sv nilH) 92 8 dStmt []]) [(Stmt.mk 1 3 0 (Expr.mk y5.Op y5.N y5.Args) [] [])] dStmt T.u65 T.t92 (hS.to [6, 1, 0, 0, 0, 0, 0, 0] rfl) rfl rfl rfl (.aggE (eStmt _) (.flat (c1 := [.int .i64 1]) rfl (.flat (c1 := [.int .i64 3]) rfl (.flat (c1 := [.int .i64 0]) rfl (.aggE (eExpr _) (.flat (c1 := [.int .i64 y5.Op]) rfl (.flat (c1 := [.int .i64 y5.N]) rfl (.row (.row (.row .nil)))))))))) ?_ rfl zStmt rfl rfl rfl rfl rfl) (by kernel_rfl)
      intro v98 W hS
      have hT := hS.to [4] rfl
      refine ⟨fun _ => hT, ?_⟩
      refine .by1 10 rfl (.appv hr1 (hS.to [5, 0, 0, 0, 0, 0] rfl) T.u65 T.t92 rfl rfl rfl ?_ rfl rfl rfl rfl rfl) (by kernel_rfl)
      intro v99 W hS
      have hT := hS.to [4] rfl
      refine ⟨fun _ => hT, ?_⟩
      refine .ts 11 rfl (fun W hT => bs T.s92 rfl rfl) hT rfl (by kernel_rfl) (.by1 13 rfl (.st T.t92 hS.p3 rfl rfl rfl ?_ rfl rfl rfl rfl rfl) (by kernel_rfl))
      intro W hS
      refine ⟨fun h => absurd rfl h, ?_⟩
      refine .done ?_ (by kernel_rfl)
      have hS := hS.nilv 92 8 dStmt
      exact ⟨rfl, g27, v97, v99, nilH, sb rfl, hS.to [4, 1, 2, 1, 0] rfl⟩
     have hS := hS.nilv 92 8 dStmt
     have hS := hS.nilv 92 8 dStmt
     refine (.ligv (L1 := [rowV (sv v4) 90 3 dExpr y5.Args, rowV (sv nilH) 92 8 dStmt [], rowV (sv nilH) 92 8 dStmt []]) [(Stmt.mk 1 3 0 (Expr.mk y5.Op y5.N y5.Args) [] [])] dStmt T.u65 T.t92 (hS.to [7, 1, 0, 0, 0, 0, 0, 0, 0] rfl) rfl rfl rfl (.aggE (eStmt _) (.flat (c1 := [.int .i64 1]) rfl (.flat (c1 := [.int .i64 3]) rfl (.flat (c1 := [.int .i64 0]) rfl (.aggE (eExpr _) (.flat (c1 := [.int .i64 y5.Op]) rfl (.flat (c1 := [.int .i64 y5.N]) rfl (.row (.row (.row .nil)))))))))) ?_ rfl zStmt rfl rfl rfl rfl rfl)
     intro v100 W hS
     have hT := hS.to [5] rfl
     refine ⟨fun _ => hT, ?_⟩
     have hS := hS.p1
     have hS := hS.p3
     refine .by1 6 rfl (.callS2 (L0 := [rowV (sv v95) 90 3 dExpr y6.Args, rowV (sv v96) 90 3 dExpr y8.Args]) hS Tryz.func111 (fun S h1 h2 h3 => (spec_l4Both_ok hy9 h2 (fun b hb => (h1 b hb).2))) rfl rfl ?_ rfl (by kernel_rfl) rfl rfl) (by kernel_rfl)
     rintro v101 W hS
     have hT := hS.to [4] rfl
     refine ⟨fun _ => hT, ?_⟩
     refine .by1 10 rfl (.appv hr1 (hS.to [5, 1, 0, 0, 0, 0] rfl) T.u65 T.t92 rfl rfl rfl ?_ rfl rfl rfl rfl rfl) (by kernel_rfl)
     intro v102 W hS
     have hT := hS.to [4] rfl
     refine ⟨fun _ => hT, ?_⟩
     refine .ts 11 rfl (fun W hT => bs T.s92 rfl rfl) hT rfl (by kernel_rfl) (.by1 13 rfl (.st T.t92 hS.p3 rfl rfl rfl ?_ rfl rfl rfl rfl rfl) (by kernel_rfl))
     intro W hS
     refine ⟨fun h => absurd rfl h, ?_⟩
     refine .done ?_ (by kernel_rfl)
     have hS := hS.nilv 92 8 dStmt
     exact ⟨rfl, g27, v101, v102, nilH, sb rfl, hS.to [4, 1, 2, 1, 0] rfl⟩
    have hS := hS.nilv 92 8 dStmt
    have hS := hS.nilv 92 8 dStmt
    refine (.ligv (L1 := [rowV (sv v4) 90 3 dExpr y5.Args, rowV (sv nilH) 92 8 dStmt [], rowV (sv nilH) 92 8 dStmt []]) [(Stmt.mk 1 3 0 (Expr.mk y5.Op y5.N y5.Args) [] [])] dStmt T.u65 T.t92 (hS.to [6, 1, 0, 0, 0, 0, 0, 0] rfl) rfl rfl rfl (.aggE (eStmt _) (.flat (c1 := [.int .i64 1]) rfl (.flat (c1 := [.int .i64 3]) rfl (.flat (c1 := [.int .i64 0]) rfl (.aggE (eExpr _) (.flat (c1 := [.int .i64 y5.Op]) rfl (.flat (c1 := [.int .i64 y5.N]) rfl (.row (.row (.row .nil)))))))))) ?_ rfl zStmt rfl rfl rfl rfl rfl)
    intro v103 W hS
    have hT := hS.to [4] rfl
    refine ⟨fun _ => hT, ?_⟩
    refine .by1 5 rfl (.call1v hS Tryz.func112 (spec_l4Leaf_ok hy8) rfl rfl ?_ rfl (by kernel_rfl) rfl rfl) (by kernel_rfl)
    intro v104 W hS
    have hT := hS.to [5] rfl
    refine ⟨fun _ => hT, ?_⟩
    have hS := hS.p3
    refine .by1 6 rfl (.callS2 (L0 := [rowV (sv v95) 90 3 dExpr y6.Args, rowV (sv v104) 90 3 dExpr y8.Args]) hS Tryz.func111 (fun S h1 h2 h3 => (spec_l4Both_ok hy9 h2 (fun b hb => (h1 b hb).2))) rfl rfl ?_ rfl (by kernel_rfl) rfl rfl) (by kernel_rfl)
    rintro v105 W hS
    have hT := hS.to [4] rfl
    refine ⟨fun _ => hT, ?_⟩
    refine .by1 10 rfl (.appv hr1 (hS.to [5, 1, 0, 0, 0, 0] rfl) T.u65 T.t92 rfl rfl rfl ?_ rfl rfl rfl rfl rfl) (by kernel_rfl)
    intro v106 W hS
    have hT := hS.to [4] rfl
    refine ⟨fun _ => hT, ?_⟩
    refine .ts 11 rfl (fun W hT => bs T.s92 rfl rfl) hT rfl (by kernel_rfl) (.by1 13 rfl (.st T.t92 hS.p3 rfl rfl rfl ?_ rfl rfl rfl rfl rfl) (by kernel_rfl))
    intro W hS
    refine ⟨fun h => absurd rfl h, ?_⟩
    refine .done ?_ (by kernel_rfl)
    have hS := hS.nilv 92 8 dStmt
    exact ⟨rfl, g27, v105, v106, nilH, sb rfl, hS.to [4, 1, 2, 1, 0] rfl⟩
   have hS := hS.nilv 92 8 dStmt
   have hS := hS.nilv 92 8 dStmt
   refine (.ligv (L1 := [rowV (sv v4) 90 3 dExpr y5.Args, rowV (sv nilH) 92 8 dStmt [], rowV (sv nilH) 92 8 dStmt []]) [(Stmt.mk 1 3 0 (Expr.mk y5.Op y5.N y5.Args) [] [])] dStmt T.u65 T.t92 (hS.to [5, 1, 0, 0, 0, 0, 0, 0] rfl) rfl rfl rfl (.aggE (eStmt _) (.flat (c1 := [.int .i64 1]) rfl (.flat (c1 := [.int .i64 3]) rfl (.flat (c1 := [.int .i64 0]) rfl (.aggE (eExpr _) (.flat (c1 := [.int .i64 y5.Op]) rfl (.flat (c1 := [.int .i64 y5.N]) rfl (.row (.row (.row .nil)))))))))) ?_ rfl zStmt rfl rfl rfl rfl rfl)
   intro v107 W hS
   have hT := hS.to [3] rfl
   refine ⟨fun _ => hT, ?_⟩
   have hS := hS.p4
   refine .by1 3 rfl (.callS2 (L0 := [.box g_0 50 [(sv v_0_b), .int .i64 y2.2]]) hS Tryz.func15 (fun S h1 h2 h3 => (spec_l6Rd_pick_ok hy7 (hS.keepS q_0_b h1) h2 (fun b hb => (h1 b hb).2))) rfl rfl ?_ rfl (by kernel_rfl) rfl rfl) (by kernel_rfl)
   rintro ⟨⟩ W hS
   have hT := hS.to [4] rfl
   refine ⟨fun _ => hT, ?_⟩
   refine .tp 4 rfl rfl hT (by kernel_rfl) (.by1 5 rfl (.call1v hS Tryz.func112 (spec_l4Leaf_ok hy8) rfl rfl ?_ rfl (by kernel_rfl) rfl rfl) (by kernel_rfl))
   intro v108 W hS
   have hT := hS.to [5] rfl
   refine ⟨fun _ => hT, ?_⟩
   have hS := hS.p3
   refine .by1 6 rfl (.callS2 (L0 := [rowV (sv v95) 90 3 dExpr y6.Args, rowV (sv v108) 90 3 dExpr y8.Args]) hS Tryz.func111 (fun S h1 h2 h3 => (spec_l4Both_ok hy9 h2 (fun b hb => (h1 b hb).2))) rfl rfl ?_ rfl (by kernel_rfl) rfl rfl) (by kernel_rfl)
   rintro v109 W hS
   have hT := hS.to [4] rfl
   refine ⟨fun _ => hT, ?_⟩
   refine .by1 10 rfl (.appv hr1 (hS.to [5, 2, 0, 0, 0, 0] rfl) T.u65 T.t92 rfl rfl rfl ?_ rfl rfl rfl rfl rfl) (by kernel_rfl)
   intro v110 W hS
   have hT := hS.to [4] rfl
   refine ⟨fun _ => hT, ?_⟩
   refine .ts 11 rfl (fun W hT => bs T.s92 rfl rfl) hT rfl (by kernel_rfl) (.by1 13 rfl (.st T.t92 hS.p3 rfl rfl rfl ?_ rfl rfl rfl rfl rfl) (by kernel_rfl))
   intro W hS
   refine ⟨fun h => absurd rfl h, ?_⟩
   refine .done ?_ (by kernel_rfl)
   have hS := hS.nilv 92 8 dStmt
   exact ⟨rfl, g27, v109, v110, nilH, sb rfl, hS.to [4, 1, 2, 1, 0] rfl⟩
  have hS := hS.nilv 92 8 dStmt
  have hS := hS.nilv 92 8 dStmt
  refine (.ligv (L1 := [rowV (sv v4) 90 3 dExpr y5.Args, rowV (sv nilH) 92 8 dStmt [], rowV (sv nilH) 92 8 dStmt []]) [(Stmt.mk 1 3 0 (Expr.mk y5.Op y5.N y5.Args) [] [])] dStmt T.u65 T.t92 (hS.to [4, 1, 0, 0, 0, 0, 0] rfl) rfl rfl rfl (.aggE (eStmt _) (.flat (c1 := [.int .i64 1]) rfl (.flat (c1 := [.int .i64 3]) rfl (.flat (c1 := [.int .i64 0]) rfl (.aggE (eExpr _) (.flat (c1 := [.int .i64 y5.Op]) rfl (.flat (c1 := [.int .i64 y5.N]) rfl (.row (.row (.row .nil)))))))))) ?_ rfl zStmt rfl rfl rfl rfl rfl)
  intro v111 W hS
  have hT := hS.to [2] rfl
  refine ⟨fun _ => hT, ?_⟩
  refine .by1 1 rfl (.call1v hS Tryz.func112 (spec_l4Leaf_ok hy6) rfl rfl ?_ rfl (by kernel_rfl) rfl rfl) (by kernel_rfl)
  intro v112 W hS
  have hT := hS.to [3] rfl
  refine ⟨fun _ => hT, ?_⟩
  have hS := hS.p4
  refine .by1 3 rfl (.callS2 (L0 := [.box g_0 50 [(sv v_0_b), .int .i64 y2.2]]) hS Tryz.func15 (fun S h1 h2 h3 => (spec_l6Rd_pick_ok hy7 (hS.keepS q_0_b h1) h2 (fun b hb => (h1 b hb).2))) rfl rfl ?_ rfl (by kernel_rfl) rfl rfl) (by kernel_rfl)
  rintro ⟨⟩ W hS
  have hT := hS.to [4] rfl
  refine ⟨fun _ => hT, ?_⟩
  refine .tp 4 rfl rfl hT (by kernel_rfl) (.by1 5 rfl (.call1v hS Tryz.func112 (spec_l4Leaf_ok hy8) rfl rfl ?_ rfl (by kernel_rfl) rfl rfl) (by kernel_rfl))
  intro v113 W hS
  have hT := hS.to [5] rfl
  refine ⟨fun _ => hT, ?_⟩
  have hS := hS.p2
  refine .by1 6 rfl (.callS2 (L0 := [rowV (sv v112) 90 3 dExpr y6.Args, rowV (sv v113) 90 3 dExpr y8.Args]) hS Tryz.func111 (fun S h1 h2 h3 => (spec_l4Both_ok hy9 h2 (fun b hb => (h1 b hb).2))) rfl rfl ?_ rfl (by kernel_rfl) rfl rfl) (by kernel_rfl)
  rintro v114 W hS
  have hT := hS.to [4] rfl
  refine ⟨fun _ => hT, ?_⟩
  refine .by1 10 rfl (.appv hr1 (hS.to [5, 2, 0, 0, 0, 0] rfl) T.u65 T.t92 rfl rfl rfl ?_ rfl rfl rfl rfl rfl) (by kernel_rfl)
  intro v115 W hS
  have hT := hS.to [4] rfl
  refine ⟨fun _ => hT, ?_⟩
  refine .ts 11 rfl (fun W hT => bs T.s92 rfl rfl) hT rfl (by kernel_rfl) (.by1 13 rfl (.st T.t92 hS.p3 rfl rfl rfl ?_ rfl rfl rfl rfl rfl) (by kernel_rfl))
  intro W hS
  refine ⟨fun h => absurd rfl h, ?_⟩
  refine .done ?_ (by kernel_rfl)
  have hS := hS.nilv 92 8 dStmt
  exact ⟨rfl, g27, v114, v115, nilH, sb rfl, hS.to [4, 1, 2, 1, 0] rfl⟩
 intro x E W hJ
 obtain ⟨rfl, g28, v116, v117, v118, hE, hS⟩ := hJ
 refine ⟨_, hE.sub, ?_⟩
 refine .seq (.rk 6 hS [0, 0] T.mix ?_)
 intro W hS
 have hT := hS.to [0, 0] rfl
 refine .tp 0 rfl rfl hT (by kernel_rfl) (.ts 3 rfl (fun W hT => ld T.t92 hT.p1 rfl rfl rfl rfl rfl) hT rfl (by kernel_rfl) ?_)
 have ⟨y10, hy10, h⟩ := bnd h
 refine .by1 1 rfl (.call1v hS Tryz.func112 (spec_l4Leaf_ok hy10) rfl rfl ?_ rfl (by kernel_rfl) rfl rfl) (by kernel_rfl)
 intro v119 W hS
 have hT := hS.to [1, 1] rfl
 refine ⟨fun _ => hT, ?_⟩
 refine .ts 2 rfl (fun W hT => bs T.s92 rfl rfl) hT rfl (by kernel_rfl) ?_
 have hS := hS.nilv 92 8 dStmt
 have hS := hS.nilv 92 8 dStmt
 refine .by1 4 rfl (.ligv (L1 := [rowV (sv v119) 90 3 dExpr y10.Args, rowV (sv nilH) 92 8 dStmt [], rowV (sv nilH) 92 8 dStmt [], rowV (sv v116) 90 3 dExpr y9.Args, rowV (sv v117) 92 8 dStmt r1, rowV (sv v118) 92 8 dStmt []]) [(Stmt.mk 1 3 0 (Expr.mk y10.Op y10.N y10.Args) [] []), (Stmt.mk 3 0 0 (Expr.mk y9.Op y9.N y9.Args) r1 [])] dStmt T.u65 T.t92 (hS.to [2, 1, 0, 2, 2, 2, 0, 0] rfl) rfl rfl rfl (.aggE (eStmt _) (.flat (c1 := [.int .i64 1]) rfl (.flat (c1 := [.int .i64 3]) rfl (.flat (c1 := [.int .i64 0]) rfl (.aggE (eExpr _) (.flat (c1 := [.int .i64 y10.Op]) rfl (.flat (c1 := [.int .i64 y10.N]) rfl (.row (.row (.row (.aggE (eStmt _) (.flat (c1 := [.int .i64 3]) rfl (.flat (c1 := [.int .i64 0]) rfl (.flat (c1 := [.int .i64 0]) rfl (.aggE (eExpr _) (.flat (c1 := [.int .i64 y9.Op]) rfl (.flat (c1 := [.int .i64 y9.N]) rfl (.row (.row (.row .nil)))))))))))))))))))) ?_ rfl zStmt rfl rfl rfl rfl rfl) (by kernel_rfl)
 intro v120 W hS
 have hT := hS.to [1, 1] rfl
 refine ⟨fun _ => hT, ?_⟩
 cases h
 exact .tp 5 rfl rfl hT (by kernel_rfl) (.done (.ret (fin_ret (vs := [_]) v120 (rt rfl rn) rfl (hS.to [1, 0] rfl))) (by kernel_rfl))
theorem scc_spec_l92Block_ok (k : Nat) : spec_l92Block_C (spec_l92Block k) ∧ spec_l92Stmt_C (spec_l92Stmt k) ∧ spec_l92If_C (spec_l92If k) ∧ spec_l92Loop_C (spec_l92Loop k) := by
  induction k with
  | zero => exact ⟨by intro a0 a1 a2 a3 a4 v_0_b g_0 S w r h q_0_b hO hlt; exact no h, by intro a0 a1 a2 a3 v_0_b g_0 S w r h q_0_b hO hlt; exact no h, by intro a0 a1 a2 a3 v_0_b g_0 S w r h q_0_b hO hlt; exact no h, by intro a0 a1 a2 v_0_b g_0 S w r h q_0_b hO hlt; exact no h⟩
  | succ k ih => exact ⟨spec_l92Block_s (k := k) ih.1 ih.2.1 ih.2.2.1 ih.2.2.2, spec_l92Stmt_s (k := k) ih.1 ih.2.1 ih.2.2.1 ih.2.2.2, spec_l92If_s (k := k) ih.1 ih.2.1 ih.2.2.1 ih.2.2.2, spec_l92Loop_s (k := k) ih.1 ih.2.1 ih.2.2.1 ih.2.2.2⟩
theorem spec_l92Block_ok {k : Nat} : spec_l92Block_C (spec_l92Block k) := (scc_spec_l92Block_ok k).1
theorem spec_l92Stmt_ok {k : Nat} : spec_l92Stmt_C (spec_l92Stmt k) := (scc_spec_l92Block_ok k).2.1
theorem spec_l92If_ok {k : Nat} : spec_l92If_C (spec_l92If k) := (scc_spec_l92Block_ok k).2.2.1
theorem spec_l92Loop_ok {k : Nat} : spec_l92Loop_C (spec_l92Loop k) := (scc_spec_l92Block_ok k).2.2.2
theorem spec_l92Stmts_ok {k : Nat} {a0 : L6Rd} {a1 : Int} {v_0_b : Hd} {g_0 : Nat} {S : Nat → Prop} {w : World} {r : (List Stmt) × Int} (h : spec_l92Stmts k a0 a1 = some r) (q_0_b : RV w (Old S w) (sv v_0_b) 5 1 (D.int .u8) a0.b) (hO : Owns w [.box g_0 50 [(sv v_0_b), .int .i64 a0.p]] S) (hlt : ∀ b, S b → b < w.heap.size) : Calls Tryz.prog 43 #[.pointer (some ⟨g_0, 0, none⟩), .int .i64 a1] w (Ret S w (fun s : Hd => (sv s)) (fun s => [.box g_0 50 [(sv v_0_b), .int .i64 r.2], rowV (sv s) 92 8 dStmt r.1])) := by
 unfold spec_l92Stmts at h
 refine enter Tryz.func43 rfl rfl ?_
 have hS := Sep.startM hO hlt
 refine .seq (.region (.q rfl (.nil (.seq (.region (.q rfl (.q rfl (.q rfl ?_))))))))
 have ⟨y1, hy1, h⟩ := bnd h
 refine .c (.callS2 (L0 := [.box g_0 50 [(sv v_0_b), .int .i64 a0.p]]) hS Tryz.func15 (fun S h1 h2 h3 => (spec_l6Rd_pick_ok hy1 (hS.keepS q_0_b h1) h2 (fun b hb => (h1 b hb).2))) rfl rfl ?_ rfl (by kernel_rfl) rfl rfl)
 rintro ⟨⟩ W hS
 refine .q rfl ?_
 have ⟨y2, hy2, h⟩ := bnd h
 refine .c (.callS2 (L0 := [.box g_0 50 [(sv v_0_b), .int .i64 y1.2]]) hS Tryz.func65 (fun S h1 h2 h3 => (spec_l92Block_ok hy2 (hS.keepS q_0_b h1) h2 (fun b hb => (h1 b hb).2))) rfl rfl ?_ rfl (by kernel_rfl) rfl rfl)
 rintro v1 W hS
 refine .q rfl (.nil (.seq (.block ?_)))
 have ⟨y3, hy3, h⟩ := bnd h
 refine .via (.iter (fun s1 E' W' => ∃ (v4 : Hd), SubL E' [(5, (sv v4))] ∧ Sep S w W' [.box g_0 50 [(sv v_0_b), .int .i64 y2.2], rowV (sv v4) 92 8 dStmt s1]) (fun y4 x E' W' => x = .exit 0 ∧ ∃ (v5 : Hd), SubL E' [(5, (sv v5))] ∧ Sep S w W' [.box g_0 50 [(sv v_0_b), .int .i64 y2.2], rowV (sv v5) 92 8 dStmt y4]) hy3 ⟨v1, sb rfl, hS.to [0, 0] rfl⟩ ?_) ?_
 ·intro s1 y5 E W h hI
  obtain ⟨v3, hE, hS⟩ := hI
  refine CW.sub hE ?_
  unfold spec_l92Stmts_b1 at h
  refine .seq (.seq (.region (.q rfl ?_)))
  have ⟨y6, hy6, h⟩ := bnd h
  refine .c (.call0 hS Tryz.func66 (spec_l11Count_ok hy6 hS.p1.lendv) rfl rfl ?_ rfl (by kernel_rfl) rfl rfl)
  intro W hS
  refine .q rfl (.nil ?_)
  refine .cs rfl h ?_ ?_ <;> intro h
  ·refine .skip (.block (.region (.q rfl (.q rfl (.s (lenv hS.p1.lendv T.u65 rfl rfl) rfl (.q rfl ?_))))))
   have ⟨r1, hr1, h⟩ := bnd h
   refine .c (.cuto hr1 hS.p1 T.u65 T.t92 rfl rfl rfl rfl ?_ rfl rfl)
   intro v6 hS
   refine .q rfl (.nil ?_)
   cases h
   exact ⟨rfl, v6, sb rfl, hS.to [1, 0] rfl⟩
  refine .exit ?_
  cases h
  exact ⟨by simp, rfl, v3, sb rfl, hS.to [0, 0] rfl⟩
 intro x E W hJ
 obtain ⟨rfl, v7, hE, hS⟩ := hJ
 refine ⟨_, hE.sub, ?_⟩
 cases h
 exact .seq (.region (.q rfl (.q rfl (.nil (.ret (fin_ret (vs := [_]) v7 (rt rfl rn) rfl (hS.to [0, 0] rfl)))))))
theorem spec_l21Reg_ok {a0 : Int} {a1 : Bool} {w : World} {r : Bool} (h : spec_l21Reg a0 a1 = some r) : Calls Tryz.prog 69 #[.int .i64 a0, .bool a1] w (Ret No w (fun s : Unit => .bool r) (fun s => [])) := by
 unfold spec_l21Reg at h
 refine enter Tryz.func69 rfl rfl ?_
 have hS := Sep.start w
 refine .seq (.region (.q rfl (.nil (.seq (.seq (.region (.q rfl (.nil ?_))))))))
 refine .cs rfl h ?_ ?_ <;> intro h
 ·refine .seq (.region (.q rfl ?_))
  have ⟨y1, hy1, h⟩ := bnd h
  refine .c (.call0 hS Tryz.func19 (spec_l6In_ok hy1) rfl rfl ?_ rfl (by kernel_rfl) rfl rfl)
  intro W hS
  obtain rfl := Option.some.inj h
  exact .q rfl (.nil (.ret (fin_ret (vs := [_]) () (rt rfl rn) rfl (hS.to [] rfl))))
 cases h
 exact .skip (.seq (.region (.q rfl (.q rfl (.q rfl (.nil (.ret (fin_ret (vs := [_]) () (rt rfl rn) rfl (hS.to [] rfl)))))))))
theorem spec_l21Regs_ok {a0 : Quad} {a1 : Bool} {a2 : Bool} {a3 : Bool} {w : World} {r : Bool} (h : spec_l21Regs a0 a1 a2 a3 = some r) : Calls Tryz.prog 49 #[.agg #[.int .i64 a0.Op, .int .i64 a0.Dst, .int .i64 a0.A, .int .i64 a0.B, .int .i64 a0.N], .bool a1, .bool a2, .bool a3] w (Ret No w (fun s : Unit => .bool r) (fun s => [])) := by
 unfold spec_l21Regs at h
 refine enter Tryz.func49 rfl rfl ?_
 have hS := Sep.start w
 refine .seq (.region (.c (.box hS rfl rfl ?_ rfl rfl)))
 intro g1 W hS
 refine .q rfl (.nil (.seq (.region (.s (fa T.f34_1 rfl rfl rfl) rfl (.s (ld T.t3 hS rfl rfl rfl rfl rfl) rfl (.q rfl ?_))))))
 have ⟨y1, hy1, h⟩ := bnd h
 refine .c (.call0 hS Tryz.func69 (spec_l21Reg_ok hy1) rfl rfl ?_ rfl (by kernel_rfl) rfl rfl)
 intro W hS
 refine .q rfl ?_
 have ⟨b1, hb1, h⟩ := bnd h
 refine .chunk 5 18 (b1) hS ?_ ?_
 ·refine .both (y1) (fun hb => ?_) (fun hb => ?_)
  ·have hg1 := hb
   have h := sel_t hb hb1
   refine .g hg1 (.s (fa T.f34_2 rfl rfl rfl) rfl (.g hg1 (.s (ld T.t3 hS rfl rfl rfl rfl rfl) rfl (.g hg1 (.q rfl ?_) rfl)) rfl)) rfl
   have ⟨y2, hy2, h⟩ := bnd h
   refine .g hg1 (.c (.call0 hS Tryz.func69 (spec_l21Reg_ok hy2) rfl rfl ?_ rfl (by kernel_rfl) rfl rfl)) rfl
   intro W hS
   refine .s (pkt hg1 rfl rfl rfl) rfl ?_
   cases h
   exact .nil (ck 5 hS rfl rfl rfl rfl)
  refine .xx hb rfl (.xx hb rfl (.xx hb rfl (.xx hb rfl ?_)))
  cases sel_f hb hb1
  exact .s (pkf hb rfl rfl rfl) rfl (.nil (ck 5 hS rfl rfl rfl rfl))
 intro W hS
 refine .q rfl ?_
 have ⟨b2, hb2, h⟩ := bnd h
 refine .chunk 5 24 (b2) hS ?_ ?_
 ·refine .both (b1) (fun hb => ?_) (fun hb => ?_)
  ·have hg2 := hb
   have h := sel_t hb hb2
   refine .g hg2 (.s (fa T.f34_3 rfl rfl rfl) rfl (.g hg2 (.s (ld T.t3 hS rfl rfl rfl rfl rfl) rfl (.g hg2 (.q rfl ?_) rfl)) rfl)) rfl
   have ⟨y3, hy3, h⟩ := bnd h
   refine .g hg2 (.c (.call0 hS Tryz.func69 (spec_l21Reg_ok hy3) rfl rfl ?_ rfl (by kernel_rfl) rfl rfl)) rfl
   intro W hS
   refine .s (pkt hg2 rfl rfl rfl) rfl ?_
   cases h
   exact .nil (ck 5 hS rfl rfl rfl rfl)
  refine .xx hb rfl (.xx hb rfl (.xx hb rfl (.xx hb rfl ?_)))
  cases sel_f hb hb2
  exact .s (pkf hb rfl rfl rfl) rfl (.nil (ck 5 hS rfl rfl rfl rfl))
 intro W hS
 obtain rfl := Option.some.inj h
 exact .q rfl (.nil (.ret (fin_ret (vs := [_]) () (rt rfl rn) rfl (hS.to [] rfl))))
theorem spec_WordValid_ok {a0 : Int} {w : World} {r : Bool} (h : spec_WordValid a0 = some r) : Calls Tryz.prog 50 #[.int .i64 a0] w (Ret No w (fun s : Unit => .bool r) (fun s => [])) := by
 unfold spec_WordValid at h
 refine enter Tryz.func50 rfl rfl ?_
 have hS := Sep.start w
 refine .seq (.region (.q rfl (.nil (.seq (.region (.q rfl ?_))))))
 have ⟨y1, hy1, h⟩ := bnd h
 refine .c (.call0 hS Tryz.func19 (spec_l6In_ok hy1) rfl rfl ?_ rfl (by kernel_rfl) rfl rfl)
 intro W hS
 obtain rfl := Option.some.inj h
 exact .q rfl (.nil (.ret (fin_ret (vs := [_]) () (rt rfl rn) rfl (hS.to [] rfl))))
theorem spec_QuadValid_ok {a0 : Quad} {a1 : Int} {w : World} {r : Bool} (h : spec_QuadValid a0 a1 = some r) : Calls Tryz.prog 35 #[.agg #[.int .i64 a0.Op, .int .i64 a0.Dst, .int .i64 a0.A, .int .i64 a0.B, .int .i64 a0.N], .int .i64 a1] w (Ret No w (fun s : Unit => .bool r) (fun s => [])) := by
 unfold spec_QuadValid at h
 refine enter Tryz.func35 rfl rfl ?_
 have hS := Sep.start w
 refine .seq (.region (.c (.box hS rfl rfl ?_ rfl rfl)))
 intro g1 W hS
 refine .q rfl (.nil (.seq (.seq (.region (.s (fa T.f34_0 rfl rfl rfl) rfl (.s (ld T.t3 hS rfl rfl rfl rfl rfl) rfl (.nil (.block (.seq (.region (.q rfl (.q rfl (.nil ?_)))))))))))))
 refine .cs rfl h ?_ ?_ <;> intro h
 ·refine .seq (.region (.s (ld T.t34 hS rfl rfl rfl rfl rfl) rfl ?_))
  have ⟨y1, hy1, h⟩ := bnd h
  refine .c (.call0 hS Tryz.func49 (spec_l21Regs_ok hy1) rfl rfl ?_ rfl (by kernel_rfl) rfl rfl)
  intro W hS
  refine .q rfl ?_
  have ⟨b1, hb1, h⟩ := bnd h
  refine .chunk 4 15 (b1) hS ?_ ?_
  ·refine .both (y1) (fun hb => ?_) (fun hb => ?_)
   ·have hg1 := hb
    have h := sel_t hb hb1
    refine .g hg1 (.s (fa T.f34_4 rfl rfl rfl) rfl (.g hg1 (.s (ld T.t3 hS rfl rfl rfl rfl rfl) rfl ?_) rfl)) rfl
    have ⟨y2, hy2, h⟩ := bnd h
    refine .g hg1 (.c (.call0 hS Tryz.func50 (spec_WordValid_ok hy2) rfl rfl ?_ rfl (by kernel_rfl) rfl rfl)) rfl
    intro W hS
    refine .s (pkt hg1 rfl rfl rfl) rfl ?_
    cases h
    exact .nil (ck 4 hS rfl rfl rfl rfl)
   refine .xx hb rfl (.xx hb rfl (.xx hb rfl ?_))
   cases sel_f hb hb1
   exact .s (pkf hb rfl rfl rfl) rfl (.nil (ck 4 hS rfl rfl rfl rfl))
  intro W hS
  obtain rfl := Option.some.inj h
  exact .q rfl (.nil (.ret (fin_ret (vs := [_]) () (rt rfl rn) rfl (hS.to [] rfl))))
 refine .seq (.region (.q rfl (.q rfl (.nil ?_))))
 refine .cs rfl h ?_ ?_ <;> intro h
 ·refine .seq (.region (.s (ld T.t34 hS rfl rfl rfl rfl rfl) rfl ?_))
  have ⟨y3, hy3, h⟩ := bnd h
  refine .c (.call0 hS Tryz.func49 (spec_l21Regs_ok hy3) rfl rfl ?_ rfl (by kernel_rfl) rfl rfl)
  intro W hS
  refine .q rfl (.chunk 4 24 (y3 && (a0.N == 0)) hS ?_ ?_)
  ·refine .both (y3) (fun hb => ?_) (fun hb => ?_)
   ·have hg2 := hb
    exact .g hg2 (.s (fa T.f34_4 rfl rfl rfl) rfl (.g hg2 (.s (ld T.t3 hS rfl rfl rfl rfl rfl) rfl (.g hg2 (.q rfl (.s (pkt hg2 rfl rfl rfl) rfl (.nil (ck 4 hS rfl (and_t hg2) rfl rfl)))) rfl)) rfl)) rfl
   exact .xx hb rfl (.xx hb rfl (.xx hb rfl (.s (pkf hb rfl rfl rfl) rfl (.nil (ck 4 hS rfl (and_f hb) rfl rfl)))))
  intro W hS
  cases h
  exact .q rfl (.nil (.ret (fin_ret (vs := [_]) () (rt rfl rn) rfl (hS.to [] rfl))))
 refine .seq (.region (.q rfl (.q rfl (.nil ?_))))
 refine .cs rfl h ?_ ?_ <;> intro h
 ·refine .seq (.region (.s (ld T.t34 hS rfl rfl rfl rfl rfl) rfl ?_))
  have ⟨y4, hy4, h⟩ := bnd h
  refine .c (.call0 hS Tryz.func49 (spec_l21Regs_ok hy4) rfl rfl ?_ rfl (by kernel_rfl) rfl rfl)
  intro W hS
  refine .q rfl ?_
  have ⟨b2, hb2, h⟩ := bnd h
  refine .chunk 4 33 (b2) hS ?_ ?_
  ·refine .both (y4) (fun hb => ?_) (fun hb => ?_)
   ·have hg3 := hb
    have h := sel_t hb hb2
    refine .g hg3 (.s (fa T.f34_4 rfl rfl rfl) rfl (.g hg3 (.s (ld T.t3 hS rfl rfl rfl rfl rfl) rfl ?_) rfl)) rfl
    have ⟨y5, hy5, h⟩ := bnd h
    refine .g hg3 (.c (.call0 hS Tryz.func51 (spec_OpValid_ok hy5) rfl rfl ?_ rfl (by kernel_rfl) rfl rfl)) rfl
    intro W hS
    refine .s (pkt hg3 rfl rfl rfl) rfl ?_
    cases h
    exact .nil (ck 4 hS rfl rfl rfl rfl)
   refine .xx hb rfl (.xx hb rfl (.xx hb rfl ?_))
   cases sel_f hb hb2
   exact .s (pkf hb rfl rfl rfl) rfl (.nil (ck 4 hS rfl rfl rfl rfl))
  intro W hS
  obtain rfl := Option.some.inj h
  exact .q rfl (.nil (.ret (fin_ret (vs := [_]) () (rt rfl rn) rfl (hS.to [] rfl))))
 refine .seq (.region (.q rfl (.q rfl (.nil ?_))))
 refine .cs rfl h ?_ ?_ <;> intro h
 ·refine .seq (.region (.s (ld T.t34 hS rfl rfl rfl rfl rfl) rfl ?_))
  have ⟨y6, hy6, h⟩ := bnd h
  refine .c (.call0 hS Tryz.func49 (spec_l21Regs_ok hy6) rfl rfl ?_ rfl (by kernel_rfl) rfl rfl)
  intro W hS
  refine .q rfl (.chunk 4 42 (y6 && (decide (a0.N ≥ 0))) hS ?_ ?_)
  ·refine .both (y6) (fun hb => ?_) (fun hb => ?_)
   ·have hg4 := hb
    exact .g hg4 (.s (fa T.f34_4 rfl rfl rfl) rfl (.g hg4 (.s (ld T.t3 hS rfl rfl rfl rfl rfl) rfl (.g hg4 (.q rfl (.s (pkt hg4 rfl rfl rfl) rfl (.nil (ck 4 hS rfl (and_t hg4) rfl rfl)))) rfl)) rfl)) rfl
   exact .xx hb rfl (.xx hb rfl (.xx hb rfl (.s (pkf hb rfl rfl rfl) rfl (.nil (ck 4 hS rfl (and_f hb) rfl rfl)))))
  intro W hS
  refine .q rfl (.chunk 5 48 ((y6 && (decide (a0.N ≥ 0))) && (decide (a0.N < a1))) hS ?_ ?_)
  ·refine .both (y6 && (decide (a0.N ≥ 0))) (fun hb => ?_) (fun hb => ?_)
   ·have hg5 := hb
    exact .g hg5 (.s (fa T.f34_4 rfl rfl rfl) rfl (.g hg5 (.s (ld T.t3 hS rfl rfl rfl rfl rfl) rfl (.g hg5 (.q rfl (.g hg5 (.q rfl (.s (pkt hg5 rfl rfl rfl) rfl (.nil (ck 5 hS rfl (and_t hg5) rfl rfl)))) rfl)) rfl)) rfl)) rfl
   exact .xx hb rfl (.xx hb rfl (.xx hb rfl (.xx hb rfl (.s (pkf hb rfl rfl rfl) rfl (.nil (ck 5 hS rfl (and_f hb) rfl rfl))))))
  intro W hS
  cases h
  exact .q rfl (.nil (.ret (fin_ret (vs := [_]) () (rt rfl rn) rfl (hS.to [] rfl))))
 refine .seq (.region (.q rfl (.q rfl (.nil ?_))))
 refine .cs rfl h ?_ ?_ <;> intro h
 ·refine .seq (.region (.s (ld T.t34 hS rfl rfl rfl rfl rfl) rfl ?_))
  have ⟨y7, hy7, h⟩ := bnd h
  refine .c (.call0 hS Tryz.func49 (spec_l21Regs_ok hy7) rfl rfl ?_ rfl (by kernel_rfl) rfl rfl)
  intro W hS
  refine .q rfl (.chunk 4 57 (y7 && (decide (a0.N ≥ 0))) hS ?_ ?_)
  ·refine .both (y7) (fun hb => ?_) (fun hb => ?_)
   ·have hg6 := hb
    exact .g hg6 (.s (fa T.f34_4 rfl rfl rfl) rfl (.g hg6 (.s (ld T.t3 hS rfl rfl rfl rfl rfl) rfl (.g hg6 (.q rfl (.s (pkt hg6 rfl rfl rfl) rfl (.nil (ck 4 hS rfl (and_t hg6) rfl rfl)))) rfl)) rfl)) rfl
   exact .xx hb rfl (.xx hb rfl (.xx hb rfl (.s (pkf hb rfl rfl rfl) rfl (.nil (ck 4 hS rfl (and_f hb) rfl rfl)))))
  intro W hS
  refine .q rfl (.chunk 5 63 ((y7 && (decide (a0.N ≥ 0))) && (decide (a0.N < a1))) hS ?_ ?_)
  ·refine .both (y7 && (decide (a0.N ≥ 0))) (fun hb => ?_) (fun hb => ?_)
   ·have hg7 := hb
    exact .g hg7 (.s (fa T.f34_4 rfl rfl rfl) rfl (.g hg7 (.s (ld T.t3 hS rfl rfl rfl rfl rfl) rfl (.g hg7 (.q rfl (.g hg7 (.q rfl (.s (pkt hg7 rfl rfl rfl) rfl (.nil (ck 5 hS rfl (and_t hg7) rfl rfl)))) rfl)) rfl)) rfl)) rfl
   exact .xx hb rfl (.xx hb rfl (.xx hb rfl (.xx hb rfl (.s (pkf hb rfl rfl rfl) rfl (.nil (ck 5 hS rfl (and_f hb) rfl rfl))))))
  intro W hS
  cases h
  exact .q rfl (.nil (.ret (fin_ret (vs := [_]) () (rt rfl rn) rfl (hS.to [] rfl))))
 refine .seq (.region (.q rfl (.q rfl (.nil ?_))))
 refine .cs rfl h ?_ ?_ <;> intro h
 ·refine .seq (.region (.s (ld T.t34 hS rfl rfl rfl rfl rfl) rfl ?_))
  have ⟨y8, hy8, h⟩ := bnd h
  refine .c (.call0 hS Tryz.func49 (spec_l21Regs_ok hy8) rfl rfl ?_ rfl (by kernel_rfl) rfl rfl)
  intro W hS
  refine .q rfl ?_
  have ⟨b3, hb3, h⟩ := bnd h
  refine .chunk 4 72 (b3) hS ?_ ?_
  ·refine .both (y8) (fun hb => ?_) (fun hb => ?_)
   ·have hg8 := hb
    have h := sel_t hb hb3
    refine .g hg8 (.s (fa T.f34_4 rfl rfl rfl) rfl (.g hg8 (.s (ld T.t3 hS rfl rfl rfl rfl rfl) rfl ?_) rfl)) rfl
    have ⟨y9, hy9, h⟩ := bnd h
    refine .g hg8 (.c (.call0 hS Tryz.func19 (spec_l6In_ok hy9) rfl rfl ?_ rfl (by kernel_rfl) rfl rfl)) rfl
    intro W hS
    refine .s (pkt hg8 rfl rfl rfl) rfl ?_
    cases h
    exact .nil (ck 4 hS rfl rfl rfl rfl)
   refine .xx hb rfl (.xx hb rfl (.xx hb rfl ?_))
   cases sel_f hb hb3
   exact .s (pkf hb rfl rfl rfl) rfl (.nil (ck 4 hS rfl rfl rfl rfl))
  intro W hS
  obtain rfl := Option.some.inj h
  exact .q rfl (.nil (.ret (fin_ret (vs := [_]) () (rt rfl rn) rfl (hS.to [] rfl))))
 refine .seq (.region (.q rfl (.q rfl (.nil ?_))))
 refine .cs rfl h ?_ ?_ <;> intro h
 ·refine .seq (.region (.s (ld T.t34 hS rfl rfl rfl rfl rfl) rfl ?_))
  have ⟨y10, hy10, h⟩ := bnd h
  refine .c (.call0 hS Tryz.func49 (spec_l21Regs_ok hy10) rfl rfl ?_ rfl (by kernel_rfl) rfl rfl)
  intro W hS
  refine .q rfl ?_
  have ⟨b4, hb4, h⟩ := bnd h
  refine .chunk 4 81 (b4) hS ?_ ?_
  ·refine .both (y10) (fun hb => ?_) (fun hb => ?_)
   ·have hg9 := hb
    have h := sel_t hb hb4
    refine .g hg9 (.s (fa T.f34_4 rfl rfl rfl) rfl (.g hg9 (.s (ld T.t3 hS rfl rfl rfl rfl rfl) rfl ?_) rfl)) rfl
    have ⟨y11, hy11, h⟩ := bnd h
    refine .g hg9 (.c (.call0 hS Tryz.func19 (spec_l6In_ok hy11) rfl rfl ?_ rfl (by kernel_rfl) rfl rfl)) rfl
    intro W hS
    refine .s (pkt hg9 rfl rfl rfl) rfl ?_
    cases h
    exact .nil (ck 4 hS rfl rfl rfl rfl)
   refine .xx hb rfl (.xx hb rfl (.xx hb rfl ?_))
   cases sel_f hb hb4
   exact .s (pkf hb rfl rfl rfl) rfl (.nil (ck 4 hS rfl rfl rfl rfl))
  intro W hS
  obtain rfl := Option.some.inj h
  exact .q rfl (.nil (.ret (fin_ret (vs := [_]) () (rt rfl rn) rfl (hS.to [] rfl))))
 refine .seq (.region (.q rfl (.q rfl (.nil ?_))))
 refine .cs rfl h ?_ ?_ <;> intro h
 ·refine .seq (.region (.s (ld T.t34 hS rfl rfl rfl rfl rfl) rfl ?_))
  have ⟨y12, hy12, h⟩ := bnd h
  refine .c (.call0 hS Tryz.func49 (spec_l21Regs_ok hy12) rfl rfl ?_ rfl (by kernel_rfl) rfl rfl)
  intro W hS
  refine .q rfl (.chunk 4 90 (y12 && (a0.N == 0)) hS ?_ ?_)
  ·refine .both (y12) (fun hb => ?_) (fun hb => ?_)
   ·have hg10 := hb
    exact .g hg10 (.s (fa T.f34_4 rfl rfl rfl) rfl (.g hg10 (.s (ld T.t3 hS rfl rfl rfl rfl rfl) rfl (.g hg10 (.q rfl (.s (pkt hg10 rfl rfl rfl) rfl (.nil (ck 4 hS rfl (and_t hg10) rfl rfl)))) rfl)) rfl)) rfl
   exact .xx hb rfl (.xx hb rfl (.xx hb rfl (.s (pkf hb rfl rfl rfl) rfl (.nil (ck 4 hS rfl (and_f hb) rfl rfl)))))
  intro W hS
  cases h
  exact .q rfl (.nil (.ret (fin_ret (vs := [_]) () (rt rfl rn) rfl (hS.to [] rfl))))
 have ⟨y13, hy13, h⟩ := bnd h
 refine .seq (CW.via (R' := fun x E' W' => x = .normal ∧ SubL E' [(2, .pointer (some ⟨g1, 0, none⟩)), (91, .bool y13)] ∧ Sep No w W' [.box g1 34 [.int .i64 a0.Op, .int .i64 a0.Dst, .int .i64 a0.A, .int .i64 a0.B, .int .i64 a0.N]]) ?_ ?_)
 ·have h := hy13
  refine .seq (.region (.q rfl (.q rfl (.nil ?_))))
  refine .cs rfl h ?_ ?_ <;> intro h
  ·refine .skip ?_
   cases h
   exact ⟨rfl, sb rfl, hS.to [0] rfl⟩
  refine .region (.q rfl (.q rfl (.nil ?_)))
  cases h
  exact ⟨rfl, sb rfl, hS.to [0] rfl⟩
 intro x E W hJ
 obtain ⟨rfl, hE, hS⟩ := hJ
 refine ⟨_, hE.sub, ?_⟩
 refine .cs rfl h ?_ ?_ <;> intro h
 ·refine .seq (.region (.s (ld T.t34 hS rfl rfl rfl rfl rfl) rfl ?_))
  have ⟨y14, hy14, h⟩ := bnd h
  refine .c (.call0 hS Tryz.func49 (spec_l21Regs_ok hy14) rfl rfl ?_ rfl (by kernel_rfl) rfl rfl)
  intro W hS
  refine .q rfl (.chunk 4 100 (y14 && (a0.N == 0)) hS ?_ ?_)
  ·refine .both (y14) (fun hb => ?_) (fun hb => ?_)
   ·have hg11 := hb
    exact .g hg11 (.s (fa T.f34_4 rfl rfl rfl) rfl (.g hg11 (.s (ld T.t3 hS rfl rfl rfl rfl rfl) rfl (.g hg11 (.q rfl (.s (pkt hg11 rfl rfl rfl) rfl (.nil (ck 4 hS rfl (and_t hg11) rfl rfl)))) rfl)) rfl)) rfl
   exact .xx hb rfl (.xx hb rfl (.xx hb rfl (.s (pkf hb rfl rfl rfl) rfl (.nil (ck 4 hS rfl (and_f hb) rfl rfl)))))
  intro W hS
  cases h
  exact .q rfl (.nil (.ret (fin_ret (vs := [_]) () (rt rfl rn) rfl (hS.to [] rfl))))
 obtain rfl := Option.some.inj h
 exact .skip (.seq (.region (.q rfl (.nil (.ret (fin_ret (vs := [_]) () (rt rfl rn) rfl (hS.to [] rfl)))))))
def spec_CodeValid_F (w : World) (r : Bool) : Env → World → Prop := Fin Tryz.prog Tryz.f18 No w (fun s : Unit => .bool r) (fun s => []) .ret
theorem spec_CodeValid_ok {a0 : List Quad} {v_0 : Hd} {w : World} {r : Bool} (h : spec_CodeValid a0 = some r) (q_0 : RV w (Old No w) (sv v_0) 34 5 dQuad a0) : Calls Tryz.prog 18 #[(sv v_0)] w (Ret No w (fun s : Unit => .bool r) (fun s => [])) := by
 unfold spec_CodeValid at h
 refine enter Tryz.func18 rfl rfl ?_
 have hS := Sep.start w
 refine .seq (.region (.q rfl (.nil (.seq (.region (.q rfl (.s (lenv (hS.keep q_0) T.u23 rfl rfl) rfl (.q rfl (.nil (.seq (.seq (.region (.q rfl ?_)))))))))))))
 have ⟨y1, hy1, h⟩ := bnd h
 refine .c (.call0 hS Tryz.func19 (spec_l6In_ok hy1) rfl rfl ?_ rfl (by kernel_rfl) rfl rfl)
 intro W hS
 refine .q rfl (.nil ?_)
 refine .cs rfl h ?_ ?_ <;> intro h
 ·obtain rfl := Option.some.inj h
  exact .seq (.region (.q rfl (.nil (.ret (fin_ret (vs := [_]) () (rt rfl rn) rfl (hS.to [] rfl))))))
 refine .skip (.seq (.seq (.region (.q rfl (.nil (.block ?_))))))
 have ⟨y2, hy2, h⟩ := bnd h
 refine .via (.iter (fun s1 E' W' => SubL E' [(0, (sv v_0)), (3, .int .i64 (a0.length : Int)), (4, .int .i64 s1)] ∧ Sep No w W' []) (fun y3 x E' W' => (match y3 with | .inl o1 => x = .ret ∧ spec_CodeValid_F w o1 E' W' | .inr o2 => x = .exit 0 ∧ SubL E' [(0, (sv v_0)), (3, .int .i64 (a0.length : Int))] ∧ Sep No w W' [])) hy2 ⟨sb rfl, hS.to [] rfl⟩ ?_) ?_
 ·intro s1 y4 E W h hI
  obtain ⟨hE, hS⟩ := hI
  refine CW.sub hE ?_
  unfold spec_CodeValid_b1 at h
  refine .seq (.seq (.region (.q rfl (.q rfl (.q rfl (.nil ?_))))))
  refine .cs rfl h ?_ ?_ <;> intro h
  ·refine .skip (.seq (.block (.seq (.region (.q rfl (.q rfl ?_))))))
   have ⟨x1, hx1, h⟩ := bnd h
   refine .s (ixv (hS.keep q_0) hx1 T.u23 T.t34 rfl rfl rfl) rfl (.s (lde (RV.flat (hS.keep q_0) hx1 rfl) T.t34 rfl rfl rfl rfl rfl) rfl (.q rfl ?_))
   have ⟨y5, hy5, h⟩ := bnd h
   refine .c (.call0 hS Tryz.func35 (spec_QuadValid_ok hy5) rfl rfl ?_ rfl (by kernel_rfl) rfl rfl)
   intro W hS
   refine .q rfl (.nil ?_)
   refine .cs rfl h ?_ ?_ <;> intro h
   ·refine .seq (.region (.q rfl (.nil (.ret ?_))))
    cases h
    exact ⟨by simp, rfl, fin_ret (vs := [_]) () (rt rfl rn) rfl (hS.to [] rfl)⟩
   refine .skip (.region (.q rfl (.q rfl (.q rfl (.nil ?_)))))
   cases h
   exact ⟨rfl, sb rfl, hS.to [] rfl⟩
  refine .exit ?_
  cases h
  exact ⟨by simp, rfl, sb rfl, hS.to [] rfl⟩
 intro x E W hJ
 rcases y2 with o3 | o4
 ·obtain ⟨rfl, hF⟩ := hJ
  refine ⟨_, fun _ _ h => h, ?_⟩
  cases h
  exact hF
 obtain ⟨rfl, hE, hS⟩ := hJ
 refine ⟨_, hE.sub, ?_⟩
 refine .seq (.region (.q rfl (.q rfl (.q rfl ?_))))
 have ⟨x2, hx2, h⟩ := bnd h
 refine .s (ixv (hS.keep q_0) hx2 T.u23 T.t34 rfl rfl rfl) rfl (.s (fe T.f34_0 rfl rfl rfl) rfl (.s (lde (RV.flat (hS.keep q_0) hx2 rfl) T.t3 rfl rfl rfl rfl rfl) rfl (.q rfl (.q rfl ?_))))
 have ⟨b1, hb1, h⟩ := bnd h
 refine .chunk 8 37 (b1) hS ?_ ?_
 ·refine .both (x2.Op == 10) (fun hb => ?_) (fun hb => ?_)
  ·refine .xx hb rfl (.xx hb rfl (.xx hb rfl (.xx hb rfl (.xx hb rfl (.xx hb rfl (.xx hb rfl ?_))))))
   cases sel_t hb hb1
   exact .s (pkt hb rfl rfl rfl) rfl (.nil (ck 8 hS rfl rfl rfl rfl))
  have hg1 := hb
  have h := sel_f hb hb1
  refine .g hg1 (.q rfl (.g hg1 (.q rfl (.g hg1 (.q rfl ?_) rfl)) rfl)) rfl
  have ⟨x3, hx3, h⟩ := bnd h
  refine .g hg1 (.s (ixv (hS.keep q_0) hx3 T.u23 T.t34 rfl rfl rfl) rfl (.g hg1 (.s (fe T.f34_0 rfl rfl rfl) rfl (.g hg1 (.s (lde (RV.flat (hS.keep q_0) hx3 rfl) T.t3 rfl rfl rfl rfl rfl) rfl (.g hg1 (.q rfl (.s (pkf hg1 rfl rfl rfl) rfl ?_)) rfl)) rfl)) rfl)) rfl
  cases h
  exact .nil (ck 8 hS rfl rfl rfl rfl)
 intro W hS
 obtain rfl := Option.some.inj h
 exact .q rfl (.nil (.ret (fin_ret (vs := [_]) () (rt rfl rn) rfl (hS.to [] rfl))))
theorem spec_l31Next_ok {a0 : List Quad} {a1 : Int} {v_0 : Hd} {w : World} {r : (List Int)} (h : spec_l31Next a0 a1 = some r) (q_0 : RV w (Old No w) (sv v_0) 34 5 dQuad a0) : Calls Tryz.prog 120 #[(sv v_0), .int .i64 a1] w (Ret No w (fun s : Hd => (sv s)) (fun s => [rowV (sv s) 3 1 (D.int .i64) r])) := by
 unfold spec_l31Next at h
 refine enter Tryz.func120 rfl rfl ?_
 have hS := Sep.start w
 refine .seq (.region (.q rfl (.nil (.seq (.region (.q rfl (.q rfl ?_)))))))
 have ⟨x1, hx1, h⟩ := bnd h
 refine .s (ixv (hS.keep q_0) hx1 T.u23 T.t34 rfl rfl rfl) rfl (.s (lde (RV.flat (hS.keep q_0) hx1 rfl) T.t34 rfl rfl rfl rfl rfl) rfl (.c (.alloc T.t34 hS ?_ rfl rfl rfl)))
 intro g1 W hS
 refine .c (.st T.t34 hS rfl rfl rfl ?_ rfl rfl rfl rfl rfl)
 intro W hS
 refine .nil (.seq (.block (.seq (.region (.s (fa T.f34_0 rfl rfl rfl) rfl (.s (ld T.t3 hS rfl rfl rfl rfl rfl) rfl (.q rfl (.q rfl (.nil ?_)))))))))
 refine .cs rfl h ?_ ?_ <;> intro h
 ·refine .seq (.region (.c (.liv [] (D.int .i64) T.u31 T.t3 hS rfl rfl rfl rfl ?_ rfl (fun _ => rfl) rfl rfl rfl rfl)))
  intro v1 W hS
  cases h
  exact .q rfl (.nil (.ret (fin_ret (vs := [_]) v1 (rt rfl rn) rfl (hS.to [0] rfl))))
 refine .seq (.region (.s (fa T.f34_0 rfl rfl rfl) rfl (.s (ld T.t3 hS rfl rfl rfl rfl rfl) rfl (.q rfl (.q rfl (.nil ?_))))))
 refine .cs rfl h ?_ ?_ <;> intro h
 ·refine .seq (.region (.s (fa T.f34_4 rfl rfl rfl) rfl (.s (ld T.t3 hS rfl rfl rfl rfl rfl) rfl (.c (.liv [x1.N] (D.int .i64) T.u31 T.t3 hS rfl rfl rfl rfl ?_ rfl (fun _ => rfl) rfl rfl rfl rfl)))))
  intro v2 W hS
  cases h
  exact .q rfl (.nil (.ret (fin_ret (vs := [_]) v2 (rt rfl rn) rfl (hS.to [0] rfl))))
 refine .seq (.region (.s (fa T.f34_0 rfl rfl rfl) rfl (.s (ld T.t3 hS rfl rfl rfl rfl rfl) rfl (.q rfl (.q rfl (.chunk 6 32 ((x1.Op == 5) && (decide (x1.N < (w64 (a1 + 1))))) hS ?_ ?_))))))
 ·refine .both (x1.Op == 5) (fun hb => ?_) (fun hb => ?_)
  ·have hg1 := hb
   exact .g hg1 (.s (fa T.f34_4 rfl rfl rfl) rfl (.g hg1 (.s (ld T.t3 hS rfl rfl rfl rfl rfl) rfl (.g hg1 (.q rfl (.g hg1 (.q rfl (.g hg1 (.q rfl (.s (pkt hg1 rfl rfl rfl) rfl (.nil (ck 6 hS rfl (and_t hg1) rfl rfl)))) rfl)) rfl)) rfl)) rfl)) rfl
  exact .xx hb rfl (.xx hb rfl (.xx hb rfl (.xx hb rfl (.xx hb rfl (.s (pkf hb rfl rfl rfl) rfl (.nil (ck 6 hS rfl (and_f hb) rfl rfl)))))))
 intro W hS
 refine .q rfl (.nil ?_)
 refine .cs rfl h ?_ ?_ <;> intro h
 ·refine .seq (.region (.s (fa T.f34_4 rfl rfl rfl) rfl (.s (ld T.t3 hS rfl rfl rfl rfl rfl) rfl (.q rfl (.q rfl (.c (.liv [x1.N, w64 (a1 + 1)] (D.int .i64) T.u31 T.t3 hS rfl rfl rfl rfl ?_ rfl (fun _ => rfl) rfl rfl rfl rfl)))))))
  intro v3 W hS
  cases h
  exact .q rfl (.nil (.ret (fin_ret (vs := [_]) v3 (rt rfl rn) rfl (hS.to [0] rfl))))
 refine .seq (.region (.s (fa T.f34_0 rfl rfl rfl) rfl (.s (ld T.t3 hS rfl rfl rfl rfl rfl) rfl (.q rfl (.q rfl (.chunk 6 48 ((x1.Op == 5) && (decide (x1.N > (w64 (a1 + 1))))) hS ?_ ?_))))))
 ·refine .both (x1.Op == 5) (fun hb => ?_) (fun hb => ?_)
  ·have hg2 := hb
   exact .g hg2 (.s (fa T.f34_4 rfl rfl rfl) rfl (.g hg2 (.s (ld T.t3 hS rfl rfl rfl rfl rfl) rfl (.g hg2 (.q rfl (.g hg2 (.q rfl (.g hg2 (.q rfl (.s (pkt hg2 rfl rfl rfl) rfl (.nil (ck 6 hS rfl (and_t hg2) rfl rfl)))) rfl)) rfl)) rfl)) rfl)) rfl
  exact .xx hb rfl (.xx hb rfl (.xx hb rfl (.xx hb rfl (.xx hb rfl (.s (pkf hb rfl rfl rfl) rfl (.nil (ck 6 hS rfl (and_f hb) rfl rfl)))))))
 intro W hS
 refine .q rfl (.nil ?_)
 refine .cs rfl h ?_ ?_ <;> intro h
 ·refine .seq (.region (.q rfl (.q rfl (.s (fa T.f34_4 rfl rfl rfl) rfl (.s (ld T.t3 hS rfl rfl rfl rfl rfl) rfl (.c (.liv [w64 (a1 + 1), x1.N] (D.int .i64) T.u31 T.t3 hS rfl rfl rfl rfl ?_ rfl (fun _ => rfl) rfl rfl rfl rfl)))))))
  intro v4 W hS
  cases h
  exact .q rfl (.nil (.ret (fin_ret (vs := [_]) v4 (rt rfl rn) rfl (hS.to [0] rfl))))
 refine .skip (.seq (.region (.q rfl (.q rfl (.c (.liv [w64 (a1 + 1)] (D.int .i64) T.u31 T.t3 hS rfl rfl rfl rfl ?_ rfl (fun _ => rfl) rfl rfl rfl rfl))))))
 intro v5 W hS
 cases h
 exact .q rfl (.nil (.ret (fin_ret (vs := [_]) v5 (rt rfl rn) rfl (hS.to [0] rfl))))
end Go.Proofs.YtjpbdpfkhdekpaaGreatDoor.N
