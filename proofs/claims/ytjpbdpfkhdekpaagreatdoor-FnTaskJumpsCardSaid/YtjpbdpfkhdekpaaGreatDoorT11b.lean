/- Printed by a program of mine: that the program's functions compute it. -/
import Derived.Test.YtjpbdpfkhdekpaaGreatDoorT11
import Derived.Test.YtjpbdpfkhdekpaaGreatDoorT11a
set_option linter.unusedVariables false
set_option maxRecDepth 100000
set_option maxHeartbeats 4000000
namespace Go.Proofs.YtjpbdpfkhdekpaaGreatDoor.N
open Go.Proofs.YtjpbdpfkhdekpaaGreatDoor.X
theorem spec_l91Expr_s {k : Nat} {F_spec_l91Expr : L6Rd → Int → Option (Expr × Int)} (ih_spec_l91Expr : spec_l91Expr_C F_spec_l91Expr) : spec_l91Expr_C (spec_l91Expr_R k F_spec_l91Expr) := by
 intro a0 a1 v_0_b g_0 S w r h q_0_b hO hlt
 unfold spec_l91Expr_R at h
 refine enter Tryz.func95 rfl rfl ?_
 have hS := Sep.startM hO hlt
 refine .seq (.region (.c (.alloc T.t90 hS ?_ rfl rfl rfl)))
 intro g1 W hS
 refine .nil (.seq (.seq (.region (.q rfl (.q rfl (.q rfl ?_))))))
 have ⟨b1, hb1, h⟩ := bnd h
 refine .chunkL 4 13 (b1.1) (M := S) (w0 := w) (L := [.box g1 90 [.int .i64 0, .int .i64 0, (sv nilH)], .box g_0 50 [(sv v_0_b), .int .i64 b1.2]]) ?_ ?_
 ·refine .both (decide (a1 < 2)) (fun hb => ?_) (fun hb => ?_)
  ·refine .xx hb rfl (.xx hb rfl (.xx hb rfl ?_))
   cases sel_t hb hb1
   exact .s (pkt hb rfl rfl rfl) rfl (.nil (ck 4 (hS.to [0, 0] rfl) rfl rfl rfl rfl))
  have hg1 := hb
  have h := sel_f hb hb1
  refine .g hg1 (.q rfl ?_) rfl
  have ⟨y1, hy1, h⟩ := bnd h
  have hS := hS.p1
  refine .g hg1 (.c (.callS2 (L0 := [.box g_0 50 [(sv v_0_b), .int .i64 a0.p]]) hS Tryz.func15 (fun S h1 h2 h3 => (spec_l6Rd_pick_ok hy1 (hS.keepS q_0_b h1) h2 (fun b hb => (h1 b hb).2))) rfl rfl ?_ rfl (by kernel_rfl) rfl rfl)) rfl
  rintro ⟨⟩ W hS
  refine .g hg1 (.q rfl (.s (pkf hg1 rfl rfl rfl) rfl ?_)) rfl
  cases h
  exact .nil (ck 4 (hS.to [1, 0] rfl) rfl rfl rfl rfl)
 intro W hS
 refine .nil (.cond rfl (fun hb => ?_) (fun hb => ?_))
 ·have h := sel_t hb h
  refine .seq (.region (.q rfl ?_))
  have ⟨y2, hy2, h⟩ := bnd h
  have hS := hS.p1
  refine .c (.callS2 (L0 := [.box g_0 50 [(sv v_0_b), .int .i64 b1.2]]) hS Tryz.func113 (fun S h1 h2 h3 => (spec_l91Leaf_ok hy2 (hS.keepS q_0_b h1) h2 (fun b hb => (h1 b hb).2))) rfl rfl ?_ rfl (by kernel_rfl) rfl rfl)
  rintro v1 W hS
  refine .c (.st T.t90 hS.p2 rfl rfl rfl ?_ rfl rfl rfl rfl rfl)
  intro W hS
  cases h
  exact .nil (.ret (fin_ret (vs := [_]) v1 (rc hS T.t90 rfl rn rfl rfl) rfl (hS.to [1, 1] rfl)))
 have h := sel_f hb h
 refine .skip (.seq (.region (.q rfl ?_)))
 have ⟨y3, hy3, h⟩ := bnd h
 have hS := hS.p1
 refine .c (.callS2 (L0 := [.box g_0 50 [(sv v_0_b), .int .i64 b1.2]]) hS Tryz.func77 (fun S h1 h2 h3 => (spec_l91Op_ok hy3 (hS.keepS q_0_b h1) h2 (fun b hb => (h1 b hb).2))) rfl rfl ?_ rfl (by kernel_rfl) rfl rfl)
 rintro ⟨⟩ W hS
 refine .q rfl (.nil (.seq (.region (.q rfl (.q rfl (.q rfl ?_))))))
 have ⟨y4, hy4, h⟩ := bnd h
 refine .c (.callS2 (L0 := [.box g_0 50 [(sv v_0_b), .int .i64 y3.2]]) hS Tryz.func95 (fun S h1 h2 h3 => (ih_spec_l91Expr hy4 (hS.keepS q_0_b h1) h2 (fun b hb => (h1 b hb).2))) rfl rfl ?_ rfl (by kernel_rfl) rfl rfl)
 rintro v2 W hS
 refine .c (.alloc T.t90 hS ?_ rfl rfl rfl)
 intro g2 W hS
 refine .c (.st T.t90 hS rfl rfl rfl ?_ rfl rfl rfl rfl rfl)
 intro W hS
 refine .nil (.seq (.rk 7 hS [0, 2] T.mix ?_))
 intro W hS
 have hT := hS.to [0, 2] rfl
 refine .tp 0 rfl rfl hT (by kernel_rfl) (.ts 1 rfl (fun W hT => ld T.t90 hT rfl rfl rfl rfl rfl) hT rfl (by kernel_rfl) (.tp 2 rfl rfl hT (by kernel_rfl) (.tp 3 rfl rfl hT (by kernel_rfl) (.tp 4 rfl rfl hT (by kernel_rfl) ?_))))
 have ⟨y5, hy5, h⟩ := bnd h
 have hS := hS.p1
 refine .by1 5 rfl (.callS2 (L0 := [.box g_0 50 [(sv v_0_b), .int .i64 y4.2]]) hS Tryz.func95 (fun S h1 h2 h3 => (ih_spec_l91Expr hy5 (hS.keepS q_0_b h1) h2 (fun b hb => (h1 b hb).2))) rfl rfl ?_ rfl (by kernel_rfl) rfl rfl) (by kernel_rfl)
 rintro v3 W hS
 have hT := hS.to [2, 3] rfl
 refine ⟨fun _ => hT, ?_⟩
 have ⟨y6, hy6, h⟩ := bnd h
 have hS := hS.p1
 have hS := hS.p3
 refine .by1 6 rfl (.callS2 (L0 := [rowV (sv v2) 90 3 dExpr y4.1.Args, rowV (sv v3) 90 3 dExpr y5.1.Args]) hS Tryz.func111 (fun S h1 h2 h3 => (spec_l4Both_ok hy6 h2 (fun b hb => (h1 b hb).2))) rfl rfl ?_ rfl (by kernel_rfl) rfl rfl) (by kernel_rfl)
 rintro v4 W hS
 have hT := hS.to [2, 2] rfl
 refine ⟨fun _ => hT, ?_⟩
 refine .by1 7 rfl (.st T.t90 hS.p3 rfl rfl rfl ?_ rfl rfl rfl rfl rfl) (by kernel_rfl)
 intro W hS
 refine ⟨fun h => absurd rfl h, ?_⟩
 cases h
 exact .done (.ret (fin_ret (vs := [_]) v4 (rc hS T.t90 rfl rn rfl rfl) rfl (hS.to [2, 1] rfl))) (by kernel_rfl)
theorem scc_spec_l91Expr_ok (k : Nat) : spec_l91Expr_C (spec_l91Expr k) := by
  induction k with
  | zero => exact by intro a0 a1 v_0_b g_0 S w r h q_0_b hO hlt; exact no h
  | succ k ih => exact spec_l91Expr_s (k := k) ih
theorem spec_l91Expr_ok {k : Nat} : spec_l91Expr_C (spec_l91Expr k) := (scc_spec_l91Expr_ok k)
theorem spec_l92Set_ok {k : Nat} {a0 : L6Rd} {v_0_b : Hd} {g_0 : Nat} {S : Nat → Prop} {w : World} {r : Stmt × Int} (h : spec_l92Set k a0 = some r) (q_0_b : RV w (Old S w) (sv v_0_b) 5 1 (D.int .u8) a0.b) (hO : Owns w [.box g_0 50 [(sv v_0_b), .int .i64 a0.p]] S) (hlt : ∀ b, S b → b < w.heap.size) : Calls Tryz.prog 91 #[.pointer (some ⟨g_0, 0, none⟩)] w (Ret S w (fun s : Hd × Hd × Hd => .agg #[.int .i64 r.1.Kind, .int .i64 r.1.Var, .int .i64 r.1.Box, .int .i64 r.1.Expr.Op, .int .i64 r.1.Expr.N, (sv s.1), (sv s.2.1), (sv s.2.2)]) (fun s => [.box g_0 50 [(sv v_0_b), .int .i64 r.2], rowV (sv s.1) 90 3 dExpr r.1.Expr.Args, rowV (sv s.2.1) 92 8 dStmt r.1.Body, rowV (sv s.2.2) 92 8 dStmt r.1.Else])) := by
 unfold spec_l92Set at h
 refine enter Tryz.func91 rfl rfl ?_
 have hS := Sep.startM hO hlt
 refine .seq (.region (.c (.alloc T.t92 hS ?_ rfl rfl rfl)))
 intro g1 W hS
 refine .nil (.seq (.region (.q rfl ?_)))
 have ⟨y1, hy1, h⟩ := bnd h
 have hS := hS.p1
 refine .c (.callS2 (L0 := [.box g_0 50 [(sv v_0_b), .int .i64 a0.p]]) hS Tryz.func15 (fun S h1 h2 h3 => (spec_l6Rd_pick_ok hy1 (hS.keepS q_0_b h1) h2 (fun b hb => (h1 b hb).2))) rfl rfl ?_ rfl (by kernel_rfl) rfl rfl)
 rintro ⟨⟩ W hS
 refine .q rfl (.nil (.seq (.region (.q rfl (.q rfl (.q rfl ?_))))))
 have ⟨y2, hy2, h⟩ := bnd h
 refine .c (.callS2 (L0 := [.box g_0 50 [(sv v_0_b), .int .i64 y1.2]]) hS Tryz.func15 (fun S h1 h2 h3 => (spec_l6Rd_pick_ok hy2 (hS.keepS q_0_b h1) h2 (fun b hb => (h1 b hb).2))) rfl rfl ?_ rfl (by kernel_rfl) rfl rfl)
 rintro ⟨⟩ W hS
 refine .q rfl ?_
 have ⟨y3, hy3, h⟩ := bnd h
 refine .c (.callS2 (L0 := [.box g_0 50 [(sv v_0_b), .int .i64 y2.2]]) hS Tryz.func95 (fun S h1 h2 h3 => (spec_l91Expr_ok hy3 (hS.keepS q_0_b h1) h2 (fun b hb => (h1 b hb).2))) rfl rfl ?_ rfl (by kernel_rfl) rfl rfl)
 rintro v1 W hS
 refine .s (bs T.s92 rfl rfl) rfl (.c (.st T.t92 hS.p2 rfl rfl rfl ?_ rfl rfl rfl rfl rfl))
 intro W hS
 refine .nil (.ret ?_)
 have hS := hS.nilv 92 8 dStmt
 have hS := hS.nilv 92 8 dStmt
 cases h
 exact fin_ret (vs := [_]) (v1, nilH, nilH) (rc hS.p2 T.t92 rfl rn rfl rfl) rfl (hS.to [3, 3, 1, 0] rfl)
theorem spec_l92Talk_ok {k : Nat} {a0 : L6Rd} {a1 : Int} {v_0_b : Hd} {g_0 : Nat} {S : Nat → Prop} {w : World} {r : Stmt × Int} (h : spec_l92Talk k a0 a1 = some r) (q_0_b : RV w (Old S w) (sv v_0_b) 5 1 (D.int .u8) a0.b) (hO : Owns w [.box g_0 50 [(sv v_0_b), .int .i64 a0.p]] S) (hlt : ∀ b, S b → b < w.heap.size) : Calls Tryz.prog 94 #[.pointer (some ⟨g_0, 0, none⟩), .int .i64 a1] w (Ret S w (fun s : Hd × Hd × Hd => .agg #[.int .i64 r.1.Kind, .int .i64 r.1.Var, .int .i64 r.1.Box, .int .i64 r.1.Expr.Op, .int .i64 r.1.Expr.N, (sv s.1), (sv s.2.1), (sv s.2.2)]) (fun s => [.box g_0 50 [(sv v_0_b), .int .i64 r.2], rowV (sv s.1) 90 3 dExpr r.1.Expr.Args, rowV (sv s.2.1) 92 8 dStmt r.1.Body, rowV (sv s.2.2) 92 8 dStmt r.1.Else])) := by
 unfold spec_l92Talk at h
 refine enter Tryz.func94 rfl rfl ?_
 have hS := Sep.startM hO hlt
 refine .seq (.region (.c (.alloc T.t92 hS ?_ rfl rfl rfl)))
 intro g1 W hS
 refine .nil (.seq (.seq (.region (.q rfl (.q rfl (.nil (.cond rfl (fun hb => ?_) (fun hb => ?_))))))))
 ·have h := sel_t hb h
  refine .seq (.region (.q rfl ?_))
  have ⟨y1, hy1, h⟩ := bnd h
  have hS := hS.p1
  refine .c (.callS2 (L0 := [.box g_0 50 [(sv v_0_b), .int .i64 a0.p]]) hS Tryz.func91 (fun S h1 h2 h3 => (spec_l92Set_ok hy1 (hS.keepS q_0_b h1) h2 (fun b hb => (h1 b hb).2))) rfl rfl ?_ rfl (by kernel_rfl) rfl rfl)
  rintro ⟨v1, v2, v3⟩ W hS
  refine .c (.st T.t92 hS.p4 rfl rfl rfl ?_ rfl rfl rfl rfl rfl)
  intro W hS
  cases h
  exact .nil (.ret (fin_ret (vs := [_]) (v1, v2, v3) (rc hS T.t92 rfl rn rfl rfl) rfl (hS.to [1, 1, 1, 1] rfl)))
 have h := sel_f hb h
 refine .skip (.seq (.region (.q rfl (.q rfl ?_))))
 have ⟨y2, hy2, h⟩ := bnd h
 have hS := hS.p1
 refine .c (.callS2 (L0 := [.box g_0 50 [(sv v_0_b), .int .i64 a0.p]]) hS Tryz.func15 (fun S h1 h2 h3 => (spec_l6Rd_pick_ok hy2 (hS.keepS q_0_b h1) h2 (fun b hb => (h1 b hb).2))) rfl rfl ?_ rfl (by kernel_rfl) rfl rfl)
 rintro ⟨⟩ W hS
 refine .q rfl (.nil (.seq (.seq (.region (.q rfl ?_)))))
 have ⟨y3, hy3, h⟩ := bnd h
 refine .c (.callS2 (L0 := [.box g_0 50 [(sv v_0_b), .int .i64 y2.2]]) hS Tryz.func15 (fun S h1 h2 h3 => (spec_l6Rd_pick_ok hy3 (hS.keepS q_0_b h1) h2 (fun b hb => (h1 b hb).2))) rfl rfl ?_ rfl (by kernel_rfl) rfl rfl)
 rintro ⟨⟩ W hS
 refine .q rfl (.nil (.cond rfl (fun hb => ?_) (fun hb => ?_)))
 ·have h := sel_t hb h
  refine .seq (.region (.q rfl (.q rfl (.q rfl ?_))))
  have ⟨y4, hy4, h⟩ := bnd h
  refine .c (.callS2 (L0 := [.box g_0 50 [(sv v_0_b), .int .i64 y3.2]]) hS Tryz.func15 (fun S h1 h2 h3 => (spec_l6Rd_pick_ok hy4 (hS.keepS q_0_b h1) h2 (fun b hb => (h1 b hb).2))) rfl rfl ?_ rfl (by kernel_rfl) rfl rfl)
  rintro ⟨⟩ W hS
  refine .q rfl ?_
  have ⟨y5, hy5, h⟩ := bnd h
  refine .c (.callS2 (L0 := [.box g_0 50 [(sv v_0_b), .int .i64 y4.2]]) hS Tryz.func95 (fun S h1 h2 h3 => (spec_l91Expr_ok hy5 (hS.keepS q_0_b h1) h2 (fun b hb => (h1 b hb).2))) rfl rfl ?_ rfl (by kernel_rfl) rfl rfl)
  rintro v4 W hS
  refine .s (bs T.s92 rfl rfl) rfl (.c (.st T.t92 hS.p2 rfl rfl rfl ?_ rfl rfl rfl rfl rfl))
  intro W hS
  refine .nil (.ret ?_)
  have hS := hS.nilv 92 8 dStmt
  have hS := hS.nilv 92 8 dStmt
  cases h
  exact fin_ret (vs := [_]) (v4, nilH, nilH) (rc hS.p2 T.t92 rfl rn rfl rfl) rfl (hS.to [3, 3, 1, 0] rfl)
 have h := sel_f hb h
 refine .skip (.seq (.region (.q rfl (.q rfl ?_))))
 have ⟨y6, hy6, h⟩ := bnd h
 refine .c (.callS2 (L0 := [.box g_0 50 [(sv v_0_b), .int .i64 y3.2]]) hS Tryz.func15 (fun S h1 h2 h3 => (spec_l6Rd_pick_ok hy6 (hS.keepS q_0_b h1) h2 (fun b hb => (h1 b hb).2))) rfl rfl ?_ rfl (by kernel_rfl) rfl rfl)
 rintro ⟨⟩ W hS
 refine .s (bs T.s92 rfl rfl) rfl (.c (.st T.t92 hS.p1 rfl rfl rfl ?_ rfl rfl rfl rfl rfl))
 intro W hS
 refine .nil (.ret ?_)
 have hS := hS.nilv 90 3 dExpr
 have hS := hS.nilv 92 8 dStmt
 have hS := hS.nilv 92 8 dStmt
 cases h
 exact fin_ret (vs := [_]) (nilH, nilH, nilH) (rc hS.p3 T.t92 rfl rn rfl rfl) rfl (hS.to [4, 2, 1, 0] rfl)
def spec_l92Block_C (F : L6Rd → Int → Int → Int → Bool → Option ((List Stmt) × Int)) : Prop := ∀ {a0 : L6Rd} {a1 : Int} {a2 : Int} {a3 : Int} {a4 : Bool} {v_0_b : Hd} {g_0 : Nat} {S : Nat → Prop} {w : World} {r : (List Stmt) × Int} (h : F a0 a1 a2 a3 a4 = some r) (q_0_b : RV w (Old S w) (sv v_0_b) 5 1 (D.int .u8) a0.b) (hO : Owns w [.box g_0 50 [(sv v_0_b), .int .i64 a0.p]] S) (hlt : ∀ b, S b → b < w.heap.size) , Calls Tryz.prog 65 #[.pointer (some ⟨g_0, 0, none⟩), .int .i64 a1, .int .i64 a2, .int .i64 a3, .bool a4] w (Ret S w (fun s : Hd => (sv s)) (fun s => [.box g_0 50 [(sv v_0_b), .int .i64 r.2], rowV (sv s) 92 8 dStmt r.1]))
def spec_l92Stmt_C (F : L6Rd → Int → Int → Bool → Option ((List Stmt) × Int)) : Prop := ∀ {a0 : L6Rd} {a1 : Int} {a2 : Int} {a3 : Bool} {v_0_b : Hd} {g_0 : Nat} {S : Nat → Prop} {w : World} {r : (List Stmt) × Int} (h : F a0 a1 a2 a3 = some r) (q_0_b : RV w (Old S w) (sv v_0_b) 5 1 (D.int .u8) a0.b) (hO : Owns w [.box g_0 50 [(sv v_0_b), .int .i64 a0.p]] S) (hlt : ∀ b, S b → b < w.heap.size) , Calls Tryz.prog 80 #[.pointer (some ⟨g_0, 0, none⟩), .int .i64 a1, .int .i64 a2, .bool a3] w (Ret S w (fun s : Hd => (sv s)) (fun s => [.box g_0 50 [(sv v_0_b), .int .i64 r.2], rowV (sv s) 92 8 dStmt r.1]))
def spec_l92If_C (F : L6Rd → Int → Int → Bool → Option (Stmt × Int)) : Prop := ∀ {a0 : L6Rd} {a1 : Int} {a2 : Int} {a3 : Bool} {v_0_b : Hd} {g_0 : Nat} {S : Nat → Prop} {w : World} {r : Stmt × Int} (h : F a0 a1 a2 a3 = some r) (q_0_b : RV w (Old S w) (sv v_0_b) 5 1 (D.int .u8) a0.b) (hO : Owns w [.box g_0 50 [(sv v_0_b), .int .i64 a0.p]] S) (hlt : ∀ b, S b → b < w.heap.size) , Calls Tryz.prog 92 #[.pointer (some ⟨g_0, 0, none⟩), .int .i64 a1, .int .i64 a2, .bool a3] w (Ret S w (fun s : Hd × Hd × Hd => .agg #[.int .i64 r.1.Kind, .int .i64 r.1.Var, .int .i64 r.1.Box, .int .i64 r.1.Expr.Op, .int .i64 r.1.Expr.N, (sv s.1), (sv s.2.1), (sv s.2.2)]) (fun s => [.box g_0 50 [(sv v_0_b), .int .i64 r.2], rowV (sv s.1) 90 3 dExpr r.1.Expr.Args, rowV (sv s.2.1) 92 8 dStmt r.1.Body, rowV (sv s.2.2) 92 8 dStmt r.1.Else]))
def spec_l92Loop_C (F : L6Rd → Int → Int → Option ((List Stmt) × Int)) : Prop := ∀ {a0 : L6Rd} {a1 : Int} {a2 : Int} {v_0_b : Hd} {g_0 : Nat} {S : Nat → Prop} {w : World} {r : (List Stmt) × Int} (h : F a0 a1 a2 = some r) (q_0_b : RV w (Old S w) (sv v_0_b) 5 1 (D.int .u8) a0.b) (hO : Owns w [.box g_0 50 [(sv v_0_b), .int .i64 a0.p]] S) (hlt : ∀ b, S b → b < w.heap.size) , Calls Tryz.prog 93 #[.pointer (some ⟨g_0, 0, none⟩), .int .i64 a1, .int .i64 a2] w (Ret S w (fun s : Hd => (sv s)) (fun s => [.box g_0 50 [(sv v_0_b), .int .i64 r.2], rowV (sv s) 92 8 dStmt r.1]))
theorem spec_l92Block_s {k : Nat} {F_spec_l92Block : L6Rd → Int → Int → Int → Bool → Option ((List Stmt) × Int)} {F_spec_l92Stmt : L6Rd → Int → Int → Bool → Option ((List Stmt) × Int)} {F_spec_l92If : L6Rd → Int → Int → Bool → Option (Stmt × Int)} {F_spec_l92Loop : L6Rd → Int → Int → Option ((List Stmt) × Int)} (ih_spec_l92Block : spec_l92Block_C F_spec_l92Block) (ih_spec_l92Stmt : spec_l92Stmt_C F_spec_l92Stmt) (ih_spec_l92If : spec_l92If_C F_spec_l92If) (ih_spec_l92Loop : spec_l92Loop_C F_spec_l92Loop) : spec_l92Block_C (spec_l92Block_R k F_spec_l92Block F_spec_l92Stmt F_spec_l92If F_spec_l92Loop) := by
 intro a0 a1 a2 a3 a4 v_0_b g_0 S w r h q_0_b hO hlt
 unfold spec_l92Block_R at h
 refine enter Tryz.func65 rfl rfl ?_
 have hS := Sep.startM hO hlt
 refine .seq (.region (.q rfl (.nil (.seq (.region (.c (.ligv (L1 := []) [] dStmt T.u65 T.t92 (hS.to [0] rfl) rfl rfl rfl (.nil) ?_ rfl zStmt rfl rfl rfl rfl rfl)))))))
 intro v1 W hS
 refine .q rfl (.nil (.seq (.seq (.region (.q rfl (.nil (.block ?_)))))))
 have ⟨y1, hy1, h⟩ := bnd h
 refine .via (.iter (fun s1 E' W' => ∃ (v4 : Hd), SubL E' [(0, .pointer (some ⟨g_0, 0, none⟩)), (1, .int .i64 a1), (2, .int .i64 a2), (3, .int .i64 a3), (4, .bool a4), (11, (sv v4)), (12, .int .i64 s1.2.1)] ∧ Sep S w W' [.box g_0 50 [(sv v_0_b), .int .i64 s1.2.2], rowV (sv v4) 92 8 dStmt s1.1]) (fun y2 x E' W' => x = .exit 0 ∧ ∃ (v5 : Hd), SubL E' [(11, (sv v5))] ∧ Sep S w W' [.box g_0 50 [(sv v_0_b), .int .i64 y2.2], rowV (sv v5) 92 8 dStmt y2.1]) hy1 ⟨v1, sb rfl, hS.to [1, 0] rfl⟩ ?_) ?_
 ·intro s1 y3 E W h hI
  obtain ⟨v3, hE, hS⟩ := hI
  refine CW.sub hE ?_
  unfold spec_l92Block_b1 at h
  refine .seq (.seq (.region (.q rfl (.q rfl (.q rfl (.nil (.cond rfl (fun hb => ?_) (fun hb => ?_))))))))
  ·have h := sel_t hb h
   refine .skip (.seq (.block (.region (.q rfl (.q rfl (.q rfl (.q rfl (.q rfl ?_))))))))
   have ⟨y4, hy4, h⟩ := bnd h
   refine .c (.callS2 (L0 := [.box g_0 50 [(sv v_0_b), .int .i64 s1.2.2]]) hS Tryz.func80 (fun S h1 h2 h3 => (ih_spec_l92Stmt hy4 (hS.keepS q_0_b h1) h2 (fun b hb => (h1 b hb).2))) rfl rfl ?_ rfl (by kernel_rfl) rfl rfl)
   rintro v6 W hS
   have ⟨r1, hr1, h⟩ := bnd h
   refine .c (.appv hr1 (hS.to [2, 1, 0] rfl) T.u65 T.t92 rfl rfl rfl ?_ rfl rfl rfl rfl rfl)
   intro v7 W hS
   refine .q rfl (.nil (.region (.q rfl (.q rfl (.q rfl (.nil ?_))))))
   cases h
   exact ⟨rfl, v7, sb rfl, hS.to [1, 0] rfl⟩
  have h := sel_f hb h
  refine .exit ?_
  cases h
  exact ⟨by simp, rfl, v3, sb rfl, hS.to [0, 0] rfl⟩
 intro x E W hJ
 obtain ⟨rfl, v8, hE, hS⟩ := hJ
 refine ⟨_, hE.sub, ?_⟩
 cases h
 exact .seq (.region (.q rfl (.q rfl (.nil (.ret (fin_ret (vs := [_]) v8 (rt rfl rn) rfl (hS.to [0, 0] rfl)))))))
def spec_l92Stmt_F (w : World) (S : Nat → Prop) (v_0_b : Hd) (g_0 : Nat) (a0 : L6Rd) (a1 : Int) (a2 : Int) (a3 : Bool) (r : (List Stmt) × Int) : Env → World → Prop := Fin Tryz.prog Tryz.f80 S w (fun s : Hd => (sv s)) (fun s => [.box g_0 50 [(sv v_0_b), .int .i64 r.2], rowV (sv s) 92 8 dStmt r.1]) .ret
theorem spec_l92Stmt_s {k : Nat} {F_spec_l92Block : L6Rd → Int → Int → Int → Bool → Option ((List Stmt) × Int)} {F_spec_l92Stmt : L6Rd → Int → Int → Bool → Option ((List Stmt) × Int)} {F_spec_l92If : L6Rd → Int → Int → Bool → Option (Stmt × Int)} {F_spec_l92Loop : L6Rd → Int → Int → Option ((List Stmt) × Int)} (ih_spec_l92Block : spec_l92Block_C F_spec_l92Block) (ih_spec_l92Stmt : spec_l92Stmt_C F_spec_l92Stmt) (ih_spec_l92If : spec_l92If_C F_spec_l92If) (ih_spec_l92Loop : spec_l92Loop_C F_spec_l92Loop) : spec_l92Stmt_C (spec_l92Stmt_R k F_spec_l92Block F_spec_l92Stmt F_spec_l92If F_spec_l92Loop) := by
 intro a0 a1 a2 a3 v_0_b g_0 S w r h q_0_b hO hlt
 unfold spec_l92Stmt_R at h
 refine enter Tryz.func80 rfl rfl ?_
 have hS := Sep.startM hO hlt
 refine .seq (.region (.q rfl (.nil ?_)))
 have ⟨y1, hy1, h⟩ := bnd h
 refine .seq (CW.via (R' := fun x E' W' => (match y1 with | .inl o1 => x = .normal ∧ SubL E' [(0, .pointer (some ⟨g_0, 0, none⟩))] ∧ Sep S w W' [.box g_0 50 [(sv v_0_b), .int .i64 o1]] | .inr o2 => x = .ret ∧ spec_l92Stmt_F w S v_0_b g_0 a0 a1 a2 a3 o2 E' W')) ?_ ?_)
 ·have h := hy1
  refine .seq (.region (.q rfl ?_))
  have ⟨y2, hy2, h⟩ := bnd h
  refine .c (.callS2 (L0 := [.box g_0 50 [(sv v_0_b), .int .i64 a0.p]]) hS Tryz.func15 (fun S h1 h2 h3 => (spec_l6Rd_pick_ok hy2 (hS.keepS q_0_b h1) h2 (fun b hb => (h1 b hb).2))) rfl rfl ?_ rfl (by kernel_rfl) rfl rfl)
  rintro ⟨⟩ W hS
  refine .nil (.block ?_)
  have ⟨y3, hy3, h⟩ := bnd h
  refine .seq (CW.via (R' := fun x E' W' => x = .normal ∧ SubL E' [(0, .pointer (some ⟨g_0, 0, none⟩)), (1, .int .i64 a1), (2, .int .i64 a2), (3, .bool a3), (10, .int .i64 y2.1), (11, .bool y3)] ∧ Sep S w W' [.box g_0 50 [(sv v_0_b), .int .i64 y2.2]]) ?_ ?_)
  ·have h := hy3
   refine .seq (.region (.q rfl (.q rfl (.nil ?_))))
   refine .cs rfl h ?_ ?_ <;> intro h
   ·refine .skip ?_
    cases h
    exact ⟨rfl, sb rfl, hS.to [0] rfl⟩
   refine .region (.q rfl (.q rfl (.nil ?_)))
   cases h
   exact ⟨rfl, sb rfl, hS.to [0] rfl⟩
  intro x E W hJ
  obtain ⟨rfl, hE, hS⟩ := hJ
  refine ⟨_, hE.sub, ?_⟩
  refine .cond rfl (fun hb => ?_) (fun hb => ?_)
  ·have h := sel_t hb h
   refine .seq (.region (.q rfl ?_))
   have ⟨y4, hy4, h⟩ := bnd h
   refine .c (.callS2 (L0 := [.box g_0 50 [(sv v_0_b), .int .i64 y2.2]]) hS Tryz.func91 (fun S h1 h2 h3 => (spec_l92Set_ok hy4 (hS.keepS q_0_b h1) h2 (fun b hb => (h1 b hb).2))) rfl rfl ?_ rfl (by kernel_rfl) rfl rfl)
   rintro ⟨v1, v2, v3⟩ W hS
   refine .c (.ligv (L1 := [rowV (sv v1) 90 3 dExpr y4.1.Expr.Args, rowV (sv v2) 92 8 dStmt y4.1.Body, rowV (sv v3) 92 8 dStmt y4.1.Else]) [(Stmt.mk y4.1.Kind y4.1.Var y4.1.Box (Expr.mk y4.1.Expr.Op y4.1.Expr.N y4.1.Expr.Args) y4.1.Body y4.1.Else)] dStmt T.u65 T.t92 (hS.to [1, 1, 1, 0] rfl) rfl rfl rfl (.aggE (eStmt _) (.flat (c1 := [.int .i64 y4.1.Kind]) rfl (.flat (c1 := [.int .i64 y4.1.Var]) rfl (.flat (c1 := [.int .i64 y4.1.Box]) rfl (.aggE (eExpr _) (.flat (c1 := [.int .i64 y4.1.Expr.Op]) rfl (.flat (c1 := [.int .i64 y4.1.Expr.N]) rfl (.row (.row (.row .nil)))))))))) ?_ rfl zStmt rfl rfl rfl rfl rfl)
   intro v4 W hS
   refine .q rfl (.nil (.ret ?_))
   cases h
   exact ⟨rfl, fin_ret (vs := [_]) v4 (rt rfl rn) rfl (hS.to [1, 0] rfl)⟩
  have h := sel_f hb h
  refine .seq (.region (.q rfl (.q rfl (.nil ?_))))
  refine .cs rfl h ?_ ?_ <;> intro h
  ·refine .seq (.region (.q rfl (.q rfl (.nil (.cond rfl (fun hb => ?_) (fun hb => ?_))))))
   ·have h := sel_t hb h
    refine .seq (.region (.q rfl (.q rfl (.q rfl (.q rfl ?_)))))
    have ⟨y5, hy5, h⟩ := bnd h
    refine .c (.callS2 (L0 := [.box g_0 50 [(sv v_0_b), .int .i64 y2.2]]) hS Tryz.func92 (fun S h1 h2 h3 => (ih_spec_l92If hy5 (hS.keepS q_0_b h1) h2 (fun b hb => (h1 b hb).2))) rfl rfl ?_ rfl (by kernel_rfl) rfl rfl)
    rintro ⟨v5, v6, v7⟩ W hS
    refine .c (.ligv (L1 := [rowV (sv v5) 90 3 dExpr y5.1.Expr.Args, rowV (sv v6) 92 8 dStmt y5.1.Body, rowV (sv v7) 92 8 dStmt y5.1.Else]) [(Stmt.mk y5.1.Kind y5.1.Var y5.1.Box (Expr.mk y5.1.Expr.Op y5.1.Expr.N y5.1.Expr.Args) y5.1.Body y5.1.Else)] dStmt T.u65 T.t92 (hS.to [1, 1, 1, 0] rfl) rfl rfl rfl (.aggE (eStmt _) (.flat (c1 := [.int .i64 y5.1.Kind]) rfl (.flat (c1 := [.int .i64 y5.1.Var]) rfl (.flat (c1 := [.int .i64 y5.1.Box]) rfl (.aggE (eExpr _) (.flat (c1 := [.int .i64 y5.1.Expr.Op]) rfl (.flat (c1 := [.int .i64 y5.1.Expr.N]) rfl (.row (.row (.row .nil)))))))))) ?_ rfl zStmt rfl rfl rfl rfl rfl)
    intro v8 W hS
    refine .q rfl (.nil (.ret ?_))
    cases h
    exact ⟨rfl, fin_ret (vs := [_]) v8 (rt rfl rn) rfl (hS.to [1, 0] rfl)⟩
   have h := sel_f hb h
   refine .skip ?_
   cases h
   exact ⟨rfl, sb rfl, hS.to [0] rfl⟩
  refine .seq (.region (.q rfl (.q rfl (.nil ?_))))
  refine .cs rfl h ?_ ?_ <;> intro h
  ·refine .seq (.region (.q rfl (.q rfl (.q rfl (.chunk 2 33 ((decide (a2 > 0)) && a3) hS ?_ ?_)))))
   ·refine .both (decide (a2 > 0)) (fun hb => ?_) (fun hb => ?_)
    ·have hg1 := hb
     exact .g hg1 (.q rfl (.s (pkt hg1 rfl rfl rfl) rfl (.nil (ck 2 hS rfl (and_t hg1) rfl rfl)))) rfl
    exact .xx hb rfl (.s (pkf hb rfl rfl rfl) rfl (.nil (ck 2 hS rfl (and_f hb) rfl rfl)))
   intro W hS
   refine .nil (.cond rfl (fun hb => ?_) (fun hb => ?_))
   ·have h := sel_t hb h
    refine .seq (.region (.q rfl (.q rfl (.q rfl ?_))))
    have ⟨y6, hy6, h⟩ := bnd h
    refine .c (.callS2 (L0 := [.box g_0 50 [(sv v_0_b), .int .i64 y2.2]]) hS Tryz.func93 (fun S h1 h2 h3 => (ih_spec_l92Loop hy6 (hS.keepS q_0_b h1) h2 (fun b hb => (h1 b hb).2))) rfl rfl ?_ rfl (by kernel_rfl) rfl rfl)
    rintro v9 W hS
    refine .q rfl (.nil (.ret ?_))
    cases h
    exact ⟨rfl, fin_ret (vs := [_]) v9 (rt rfl rn) rfl (hS.to [0, 0] rfl)⟩
   have h := sel_f hb h
   refine .skip ?_
   cases h
   exact ⟨rfl, sb rfl, hS.to [0] rfl⟩
  have ⟨y7, hy7, h⟩ := bnd h
  refine .seq (CW.via (R' := fun x E' W' => x = .normal ∧ SubL E' [(0, .pointer (some ⟨g_0, 0, none⟩)), (1, .int .i64 a1), (10, .int .i64 y2.1), (38, .bool y7)] ∧ Sep S w W' [.box g_0 50 [(sv v_0_b), .int .i64 y2.2]]) ?_ ?_)
  ·have h := hy7
   refine .seq (.region (.q rfl (.q rfl (.nil ?_))))
   refine .cs rfl h ?_ ?_ <;> intro h
   ·refine .skip ?_
    cases h
    exact ⟨rfl, sb rfl, hS.to [0] rfl⟩
   refine .seq (.region (.q rfl (.q rfl (.nil ?_))))
   refine .cs rfl h ?_ ?_ <;> intro h
   ·refine .skip ?_
    cases h
    exact ⟨rfl, sb rfl, hS.to [0] rfl⟩
   refine .region (.q rfl (.q rfl (.nil ?_)))
   cases h
   exact ⟨rfl, sb rfl, hS.to [0] rfl⟩
  intro x E W hJ
  obtain ⟨rfl, hE, hS⟩ := hJ
  refine ⟨_, hE.sub, ?_⟩
  refine .cond rfl (fun hb => ?_) (fun hb => ?_)
  ·have h := sel_t hb h
   refine .seq (.region (.q rfl (.q rfl ?_)))
   have ⟨y8, hy8, h⟩ := bnd h
   refine .c (.callS2 (L0 := [.box g_0 50 [(sv v_0_b), .int .i64 y2.2]]) hS Tryz.func94 (fun S h1 h2 h3 => (spec_l92Talk_ok hy8 (hS.keepS q_0_b h1) h2 (fun b hb => (h1 b hb).2))) rfl rfl ?_ rfl (by kernel_rfl) rfl rfl)
   rintro ⟨v10, v11, v12⟩ W hS
   refine .c (.ligv (L1 := [rowV (sv v10) 90 3 dExpr y8.1.Expr.Args, rowV (sv v11) 92 8 dStmt y8.1.Body, rowV (sv v12) 92 8 dStmt y8.1.Else]) [(Stmt.mk y8.1.Kind y8.1.Var y8.1.Box (Expr.mk y8.1.Expr.Op y8.1.Expr.N y8.1.Expr.Args) y8.1.Body y8.1.Else)] dStmt T.u65 T.t92 (hS.to [1, 1, 1, 0] rfl) rfl rfl rfl (.aggE (eStmt _) (.flat (c1 := [.int .i64 y8.1.Kind]) rfl (.flat (c1 := [.int .i64 y8.1.Var]) rfl (.flat (c1 := [.int .i64 y8.1.Box]) rfl (.aggE (eExpr _) (.flat (c1 := [.int .i64 y8.1.Expr.Op]) rfl (.flat (c1 := [.int .i64 y8.1.Expr.N]) rfl (.row (.row (.row .nil)))))))))) ?_ rfl zStmt rfl rfl rfl rfl rfl)
   intro v13 W hS
   refine .q rfl (.nil (.ret ?_))
   cases h
   exact ⟨rfl, fin_ret (vs := [_]) v13 (rt rfl rn) rfl (hS.to [1, 0] rfl)⟩
  have h := sel_f hb h
  refine .seq (.region (.q rfl (.q rfl (.nil ?_))))
  refine .cs rfl h ?_ ?_ <;> intro h
  ·refine .seq (.region (.s (bs T.s92 rfl rfl) rfl ?_))
   have hS := hS.nilv 90 3 dExpr
   have hS := hS.nilv 92 8 dStmt
   have hS := hS.nilv 92 8 dStmt
   refine .c (.ligv (L1 := [rowV (sv nilH) 90 3 dExpr [], rowV (sv nilH) 92 8 dStmt [], rowV (sv nilH) 92 8 dStmt []]) [(Stmt.mk 6 0 0 (Expr.mk 0 0 []) [] [])] dStmt T.u65 T.t92 (hS.to [2, 1, 0, 0] rfl) rfl rfl rfl (.aggE (eStmt _) (.flat (c1 := [.int .i64 6]) rfl (.flat (c1 := [.int .i64 0]) rfl (.flat (c1 := [.int .i64 0]) rfl (.aggE (eExpr _) (.flat (c1 := [.int .i64 0]) rfl (.flat (c1 := [.int .i64 0]) rfl (.row (.row (.row .nil)))))))))) ?_ rfl zStmt rfl rfl rfl rfl rfl)
   intro v14 W hS
   refine .q rfl (.nil (.ret ?_))
   cases h
   exact ⟨rfl, fin_ret (vs := [_]) v14 (rt rfl rn) rfl (hS.to [1, 0] rfl)⟩
  refine .skip ?_
  cases h
  exact ⟨rfl, sb rfl, hS.to [0] rfl⟩
 intro x E W hJ
 rcases y1 with o3 | o4
 ·obtain ⟨rfl, hE, hS⟩ := hJ
  refine ⟨_, hE.sub, ?_⟩
  refine .seq (.region (.q rfl (.q rfl ?_)))
  have ⟨y9, hy9, h⟩ := bnd h
  refine .c (.callS2 (L0 := [.box g_0 50 [(sv v_0_b), .int .i64 o3]]) hS Tryz.func15 (fun S h1 h2 h3 => (spec_l6Rd_pick_ok hy9 (hS.keepS q_0_b h1) h2 (fun b hb => (h1 b hb).2))) rfl rfl ?_ rfl (by kernel_rfl) rfl rfl)
  rintro ⟨⟩ W hS
  refine .q rfl ?_
  have ⟨y10, hy10, h⟩ := bnd h
  refine .c (.callS2 (L0 := [.box g_0 50 [(sv v_0_b), .int .i64 y9.2]]) hS Tryz.func95 (fun S h1 h2 h3 => (spec_l91Expr_ok hy10 (hS.keepS q_0_b h1) h2 (fun b hb => (h1 b hb).2))) rfl rfl ?_ rfl (by kernel_rfl) rfl rfl)
  rintro v15 W hS
  refine .s (bs T.s92 rfl rfl) rfl ?_
  have hS := hS.nilv 92 8 dStmt
  have hS := hS.nilv 92 8 dStmt
  refine .c (.ligv (L1 := [rowV (sv v15) 90 3 dExpr y10.1.Args, rowV (sv nilH) 92 8 dStmt [], rowV (sv nilH) 92 8 dStmt []]) [(Stmt.mk 7 0 0 (Expr.mk y10.1.Op y10.1.N y10.1.Args) [] [])] dStmt T.u65 T.t92 (hS.to [3, 1, 0, 0] rfl) rfl rfl rfl (.aggE (eStmt _) (.flat (c1 := [.int .i64 7]) rfl (.flat (c1 := [.int .i64 0]) rfl (.flat (c1 := [.int .i64 0]) rfl (.aggE (eExpr _) (.flat (c1 := [.int .i64 y10.1.Op]) rfl (.flat (c1 := [.int .i64 y10.1.N]) rfl (.row (.row (.row .nil)))))))))) ?_ rfl zStmt rfl rfl rfl rfl rfl)
  intro v16 W hS
  cases h
  exact .q rfl (.nil (.ret (fin_ret (vs := [_]) v16 (rt rfl rn) rfl (hS.to [1, 0] rfl))))
 obtain ⟨rfl, hF⟩ := hJ
 refine ⟨_, fun _ _ h => h, ?_⟩
 cases h
 exact hF
theorem spec_l92If_s {k : Nat} {F_spec_l92Block : L6Rd → Int → Int → Int → Bool → Option ((List Stmt) × Int)} {F_spec_l92Stmt : L6Rd → Int → Int → Bool → Option ((List Stmt) × Int)} {F_spec_l92If : L6Rd → Int → Int → Bool → Option (Stmt × Int)} {F_spec_l92Loop : L6Rd → Int → Int → Option ((List Stmt) × Int)} (ih_spec_l92Block : spec_l92Block_C F_spec_l92Block) (ih_spec_l92Stmt : spec_l92Stmt_C F_spec_l92Stmt) (ih_spec_l92If : spec_l92If_C F_spec_l92If) (ih_spec_l92Loop : spec_l92Loop_C F_spec_l92Loop) : spec_l92If_C (spec_l92If_R k F_spec_l92Block F_spec_l92Stmt F_spec_l92If F_spec_l92Loop) := by
 intro a0 a1 a2 a3 v_0_b g_0 S w r h q_0_b hO hlt
 unfold spec_l92If_R at h
 refine enter Tryz.func92 rfl rfl ?_
 have hS := Sep.startM hO hlt
 refine .seq (.region (.c (.alloc T.t92 hS ?_ rfl rfl rfl)))
 intro g1 W hS
 refine .nil (.seq (.region (.q rfl (.q rfl ?_))))
 have ⟨y1, hy1, h⟩ := bnd h
 have hS := hS.p1
 refine .c (.callS2 (L0 := [.box g_0 50 [(sv v_0_b), .int .i64 a0.p]]) hS Tryz.func15 (fun S h1 h2 h3 => (spec_l6Rd_pick_ok hy1 (hS.keepS q_0_b h1) h2 (fun b hb => (h1 b hb).2))) rfl rfl ?_ rfl (by kernel_rfl) rfl rfl)
 rintro ⟨⟩ W hS
 refine .q rfl ?_
 have ⟨y2, hy2, h⟩ := bnd h
 refine .c (.callS2 (L0 := [.box g_0 50 [(sv v_0_b), .int .i64 y1.2]]) hS Tryz.func95 (fun S h1 h2 h3 => (spec_l91Expr_ok hy2 (hS.keepS q_0_b h1) h2 (fun b hb => (h1 b hb).2))) rfl rfl ?_ rfl (by kernel_rfl) rfl rfl)
 rintro v1 W hS
 refine .c (.alloc T.t90 hS ?_ rfl rfl rfl)
 intro g2 W hS
 refine .c (.st T.t90 hS rfl rfl rfl ?_ rfl rfl rfl rfl rfl)
 intro W hS
 refine .nil (.seq (.region (.q rfl (.q rfl (.q rfl (.q rfl (.q rfl ?_)))))))
 have ⟨y3, hy3, h⟩ := bnd h
 have hS := hS.p1
 refine .c (.callS2 (L0 := [.box g_0 50 [(sv v_0_b), .int .i64 y2.2]]) hS Tryz.func15 (fun S h1 h2 h3 => (spec_l6Rd_pick_ok hy3 (hS.keepS q_0_b h1) h2 (fun b hb => (h1 b hb).2))) rfl rfl ?_ rfl (by kernel_rfl) rfl rfl)
 rintro ⟨⟩ W hS
 refine .q rfl ?_
 have ⟨y4, hy4, h⟩ := bnd h
 refine .c (.callS2 (L0 := [.box g_0 50 [(sv v_0_b), .int .i64 y3.2]]) hS Tryz.func65 (fun S h1 h2 h3 => (ih_spec_l92Block hy4 (hS.keepS q_0_b h1) h2 (fun b hb => (h1 b hb).2))) rfl rfl ?_ rfl (by kernel_rfl) rfl rfl)
 rintro v2 W hS
 refine .q rfl (.nil (.seq (.rk 11 hS [1, 1, 1, 1] T.mix ?_)))
 intro W hS
 have hT := hS.to [1, 1, 1, 1] rfl
 refine .ts 0 rfl (fun W hT => ld T.t90 hT.p1 rfl rfl rfl rfl rfl) hT rfl (by kernel_rfl) (.tp 1 rfl rfl hT (by kernel_rfl) (.tp 2 rfl rfl hT (by kernel_rfl) (.tp 3 rfl rfl hT (by kernel_rfl) (.tp 4 rfl rfl hT (by kernel_rfl) (.tp 5 rfl rfl hT (by kernel_rfl) (.tp 6 rfl rfl hT (by kernel_rfl) (.tp 8 rfl rfl hT (by kernel_rfl) ?_)))))))
 have ⟨y5, hy5, h⟩ := bnd h
 refine .by1 7 rfl (.callS2 (L0 := [.box g_0 50 [(sv v_0_b), .int .i64 y4.2]]) hS Tryz.func15 (fun S h1 h2 h3 => (spec_l6Rd_pick_ok hy5 (hS.keepS q_0_b h1) h2 (fun b hb => (h1 b hb).2))) rfl rfl ?_ rfl (by kernel_rfl) rfl rfl) (by kernel_rfl)
 rintro ⟨⟩ W hS
 have hT := hS.to [1, 1, 1, 1] rfl
 refine ⟨fun _ => hT, ?_⟩
 have ⟨y6, hy6, h⟩ := bnd h
 refine .by1 9 rfl (.callS2 (L0 := [.box g_0 50 [(sv v_0_b), .int .i64 y5.2]]) hS Tryz.func65 (fun S h1 h2 h3 => (ih_spec_l92Block hy6 (hS.keepS q_0_b h1) h2 (fun b hb => (h1 b hb).2))) rfl rfl ?_ rfl (by kernel_rfl) rfl rfl) (by kernel_rfl)
 rintro v3 W hS
 have hT := hS.to [2, 2, 2, 2] rfl
 refine ⟨fun _ => hT, ?_⟩
 refine .ts 10 rfl (fun W hT => bs T.s92 rfl rfl) hT rfl (by kernel_rfl) (.by1 11 rfl (.st T.t92 hS.p5 rfl rfl rfl ?_ rfl rfl rfl rfl rfl) (by kernel_rfl))
 intro W hS
 refine ⟨fun h => absurd rfl h, ?_⟩
 cases h
 exact .done (.ret (fin_ret (vs := [_]) (v1, v2, v3) (rc hS T.t92 rfl rn rfl rfl) rfl (hS.to [1, 4, 2, 1] rfl))) (by kernel_rfl)
end Go.Proofs.YtjpbdpfkhdekpaaGreatDoor.N
