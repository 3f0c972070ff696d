/- Printed by a program of mine: that the program's functions compute it. -/
import Derived.Test.YtcljimkjmklkmaaGreatK4
set_option linter.unusedVariables false
set_option linter.unusedSimpArgs false
set_option maxRecDepth 100000
set_option maxHeartbeats 4000000
namespace Go.Proofs.YtcljimkjmklkmaaGreat.N
open Go.Proofs.YtcljimkjmklkmaaGreat.X
theorem ffb {k : Nat} {f5r : L6Rd → Int → Option (Expr × Int)} (fb8 : f8g f5r) : f8g (f5w k f5r):=by
 intro a0 a1 v_0_b g_0 S w r h q_0_b hO hlt
 unfold f5w at h
 refine enter Tryz.func128 z z ?_
 have hS:=Sep.startM hO hlt
 refine .g (.c (.alloc T.t138 hS ?_ z z z))
 intro g1 W hS
 refine .nil (.seq (.g (.q z (.q z (.q z ?_)))))
 have ⟨b1,hb1,h⟩:=bnd h
 refine .chunkL 4 13 (b1.1) (M:=S) (w0:=w) (L:=[.box g1 138 [.int .i64 0,.int .i64 0,(sv nilH)],.box g_0 54 [(sv v_0_b),.int .i64 b1.2]]) ?_ ?_
 ·refine .both (decide (a1 < 2)) (fun hb=>?_) (fun hb=>?_)
  ·refine .xx hb z (.xx hb z (.xx hb z ?_))
   cases sel_t hb hb1
   exact .s (pkt hb z z z) z (.nil (ck 4 (hS.to [0,0] z) z z z z))
  have hg1:=hb
  have h:=sel_f hb hb1
  refine .g hg1 (.q z ?_) z
  have ⟨y1,hy1,h⟩:=bnd h
  have hS:=hS.p1
  refine .g hg1 (.c (.callS2 (L0:=[.box g_0 54 [(sv v_0_b),.int .i64 a0.p]]) hS Tryz.func19 (fun S h1 h2 h3=>(f00 hy1 (hS.keepS q_0_b h1) h2 (zz h1))) z z ?_ z z z z)) z
  rintro ⟨⟩ W hS
  refine .g hg1 (.q z (.s (pkf hg1 z z z) z ?_)) z
  cases h
  exact .nil (ck 4 (hS.to [1,0] z) z z z z)
 intro W hS
 refine .nil (.cond z (fun hb=>?_) (fun hb=>?_))
 ·have h:=sel_t hb h
  refine .g (.q z ?_)
  have ⟨y2,hy2,h⟩:=bnd h
  have hS:=hS.p1
  refine .c (.callS2 (L0:=[.box g_0 54 [(sv v_0_b),.int .i64 b1.2]]) hS Tryz.func151 (fun S h1 h2 h3=>(fes hy2 (hS.keepS q_0_b h1) h2 (zz h1))) z z ?_ z z z z)
  rintro v1 W hS
  refine .c (.st T.t138 hS.p2 z z z ?_ z z z z z)
  intro W hS
  cases h
  exact .nil (.ret (fin_ret (vs:=[_]) v1 (rc hS T.t138 z rn z z) z (hS.to [1,1] z)))
 have h:=sel_f hb h
 refine .skip (.g (.q z ?_))
 have ⟨y3,hy3,h⟩:=bnd h
 have hS:=hS.p1
 refine .c (.callS2 (L0:=[.box g_0 54 [(sv v_0_b),.int .i64 b1.2]]) hS Tryz.func98 (fun S h1 h2 h3=>(fbz hy3 (hS.keepS q_0_b h1) h2 (zz h1))) z z ?_ z z z z)
 rintro ⟨⟩ W hS
 refine .qn z (.g (.q z (.q z (.q z ?_))))
 have ⟨y4,hy4,h⟩:=bnd h
 refine .c (.callS2 (L0:=[.box g_0 54 [(sv v_0_b),.int .i64 y3.2]]) hS Tryz.func128 (fun S h1 h2 h3=>(fb8 hy4 (hS.keepS q_0_b h1) h2 (zz h1))) z z ?_ z z z z)
 rintro v2 W hS
 refine .c (.alloc T.t138 hS ?_ z z z)
 intro g2 W hS
 refine .c (.st T.t138 hS z z z ?_ z z z z z)
 intro W hS
 refine .nil (.seq (.rk 7 hS [0,2] T.mix ?_))
 intro W hS
 have hT:=hS.to [0,2] z
 refine .tp 0 z z hT (by kernel_rfl) (.ts 1 z (fun W hT=>ld T.t138 hT z z z z z) hT z (by kernel_rfl) (.tp 2 z z hT (by kernel_rfl) (.tp 3 z z hT (by kernel_rfl) (.tp 4 z z hT (by kernel_rfl) ?_))))
 have ⟨y5,hy5,h⟩:=bnd h
 have hS:=hS.p1
 refine .by1 5 z (.callS2 (L0:=[.box g_0 54 [(sv v_0_b),.int .i64 y4.2]]) hS Tryz.func128 (fun S h1 h2 h3=>(fb8 hy5 (hS.keepS q_0_b h1) h2 (zz h1))) z z ?_ z z z z) (by kernel_rfl)
 rintro v3 W hS
 have hT:=hS.to [2,3] z
 refine ⟨fun _=>hT,?_⟩
 have ⟨y6,hy6,h⟩:=bnd h
 have hS:=hS.p1
 have hS:=hS.p3
 refine .by1 6 z (.callS2 (L0:=[rowV (sv v2) 138 3 dExpr y4.1.Args,rowV (sv v3) 138 3 dExpr y5.1.Args]) hS Tryz.func149 (fun S h1 h2 h3=>(f05 hy6 h2 (zz h1))) z z ?_ z z z z) (by kernel_rfl)
 rintro v4 W hS
 have hT:=hS.to [2,2] z
 refine ⟨fun _=>hT,.by1 7 z (.st T.t138 hS.p3 z z z ?_ z z z z z) (by kernel_rfl)⟩
 intro W hS
 refine ⟨fun h=>absurd z h,?_⟩
 cases h
 exact .done (.ret (fin_ret (vs:=[_]) v4 (rc hS T.t138 z rn z z) z (hS.to [2,1] z))) (by kernel_rfl)
theorem fc0 (k : Nat) : f8g (f2j k):=by
  induction k with
  | zero=>exact by intro a0 a1 v_0_b g_0 S w r h q_0_b hO hlt; exact no h
  | succ k ih=>exact ffb (k:=k) ih
theorem f7j {k : Nat} : f8g (f2j k):=(fc0 k)
theorem fbh {k : Nat} {a0 : L6Rd} {v_0_b : Hd} {g_0 : Nat} {S : Nat → Prop} {w : World} {r : Stmt × Int} (h : f7d k a0 = some r) (q_0_b : RV w (Old S w) (sv v_0_b) 5 1 (D.int .u8) a0.b) (hO : Owns w [.box g_0 54 [(sv v_0_b),.int .i64 a0.p]] S) (hlt : ∀ b,S b → b < w.heap.size) : Calls Tryz.prog 124 #[.pointer (some ⟨g_0,0,none⟩)] w (Ret S w (fun s : Hd × Hd × Hd=>.agg #[.int .i64 r.1.Kind,.int .i64 r.1.Var,.int .i64 r.1.Box,.int .i64 r.1.Expr.Op,.int .i64 r.1.Expr.N,(sv s.1),(sv s.2.1),(sv s.2.2)]) (fun s=>[.box g_0 54 [(sv v_0_b),.int .i64 r.2],rowV (sv s.1) 138 3 dExpr r.1.Expr.Args,rowV (sv s.2.1) 140 8 dStmt r.1.Body,rowV (sv s.2.2) 140 8 dStmt r.1.Else])):=by
 unfold f7d at h
 refine enter Tryz.func124 z z ?_
 have hS:=Sep.startM hO hlt
 refine .g (.c (.alloc T.t140 hS ?_ z z z))
 intro g1 W hS
 refine .nil (.g (.q z ?_))
 have ⟨y1,hy1,h⟩:=bnd h
 have hS:=hS.p1
 refine .c (.callS2 (L0:=[.box g_0 54 [(sv v_0_b),.int .i64 a0.p]]) hS Tryz.func19 (fun S h1 h2 h3=>(f00 hy1 (hS.keepS q_0_b h1) h2 (zz h1))) z z ?_ z z z z)
 rintro ⟨⟩ W hS
 refine .qn z (.g (.q z (.q z (.q z ?_))))
 have ⟨y2,hy2,h⟩:=bnd h
 refine .c (.callS2 (L0:=[.box g_0 54 [(sv v_0_b),.int .i64 y1.2]]) hS Tryz.func19 (fun S h1 h2 h3=>(f00 hy2 (hS.keepS q_0_b h1) h2 (zz h1))) z z ?_ z z z z)
 rintro ⟨⟩ W hS
 refine .q z ?_
 have ⟨y3,hy3,h⟩:=bnd h
 refine .c (.callS2 (L0:=[.box g_0 54 [(sv v_0_b),.int .i64 y2.2]]) hS Tryz.func128 (fun S h1 h2 h3=>(f7j hy3 (hS.keepS q_0_b h1) h2 (zz h1))) z z ?_ z z z z)
 rintro v1 W hS
 refine .s (bs T.s140 z z) z (.c (.st T.t140 hS.p2 z z z ?_ z z z z z))
 intro W hS
 refine .nil (.ret ?_)
 have hS:=hS.nilv 140 8 dStmt
 have hS:=hS.nilv 140 8 dStmt
 cases h
 exact fin_ret (vs:=[_]) (v1,nilH,nilH) (rc hS.p2 T.t140 z rn z z) z (hS.to [3,3,1,0] z)
theorem fek {k : Nat} {a0 : L6Rd} {a1 : Int} {v_0_b : Hd} {g_0 : Nat} {S : Nat → Prop} {w : World} {r : Stmt × Int} (h : f82 k a0 a1 = some r) (q_0_b : RV w (Old S w) (sv v_0_b) 5 1 (D.int .u8) a0.b) (hO : Owns w [.box g_0 54 [(sv v_0_b),.int .i64 a0.p]] S) (hlt : ∀ b,S b → b < w.heap.size) : Calls Tryz.prog 127 #[.pointer (some ⟨g_0,0,none⟩),.int .i64 a1] w (Ret S w (fun s : Hd × Hd × Hd=>.agg #[.int .i64 r.1.Kind,.int .i64 r.1.Var,.int .i64 r.1.Box,.int .i64 r.1.Expr.Op,.int .i64 r.1.Expr.N,(sv s.1),(sv s.2.1),(sv s.2.2)]) (fun s=>[.box g_0 54 [(sv v_0_b),.int .i64 r.2],rowV (sv s.1) 138 3 dExpr r.1.Expr.Args,rowV (sv s.2.1) 140 8 dStmt r.1.Body,rowV (sv s.2.2) 140 8 dStmt r.1.Else])):=by
 unfold f82 at h
 refine enter Tryz.func127 z z ?_
 have hS:=Sep.startM hO hlt
 refine .g (.c (.alloc T.t140 hS ?_ z z z))
 intro g1 W hS
 refine .nil (.seq (.g (.q z (.qn z (.cond z (fun hb=>?_) (fun hb=>?_))))))
 ·have h:=sel_t hb h
  refine .g (.q z ?_)
  have ⟨y1,hy1,h⟩:=bnd h
  have hS:=hS.p1
  refine .c (.callS2 (L0:=[.box g_0 54 [(sv v_0_b),.int .i64 a0.p]]) hS Tryz.func124 (fun S h1 h2 h3=>(fbh hy1 (hS.keepS q_0_b h1) h2 (zz h1))) z z ?_ z z z z)
  rintro ⟨v1,v2,v3⟩ W hS
  refine .c (.st T.t140 hS.p4 z z z ?_ z z z z z)
  intro W hS
  cases h
  exact .nil (.ret (fin_ret (vs:=[_]) (v1,v2,v3) (rc hS T.t140 z rn z z) z (hS.to [1,1,1,1] z)))
 have h:=sel_f hb h
 refine .skip (.g (.q z (.q z ?_)))
 have ⟨y2,hy2,h⟩:=bnd h
 have hS:=hS.p1
 refine .c (.callS2 (L0:=[.box g_0 54 [(sv v_0_b),.int .i64 a0.p]]) hS Tryz.func19 (fun S h1 h2 h3=>(f00 hy2 (hS.keepS q_0_b h1) h2 (zz h1))) z z ?_ z z z z)
 rintro ⟨⟩ W hS
 refine .qn z (.seq (.g (.q z ?_)))
 have ⟨y3,hy3,h⟩:=bnd h
 refine .c (.callS2 (L0:=[.box g_0 54 [(sv v_0_b),.int .i64 y2.2]]) hS Tryz.func19 (fun S h1 h2 h3=>(f00 hy3 (hS.keepS q_0_b h1) h2 (zz h1))) z z ?_ z z z z)
 rintro ⟨⟩ W hS
 refine .qn z (.cond z (fun hb=>?_) (fun hb=>?_))
 ·have h:=sel_t hb h
  refine .g (.q z (.q z (.q z ?_)))
  have ⟨y4,hy4,h⟩:=bnd h
  refine .c (.callS2 (L0:=[.box g_0 54 [(sv v_0_b),.int .i64 y3.2]]) hS Tryz.func19 (fun S h1 h2 h3=>(f00 hy4 (hS.keepS q_0_b h1) h2 (zz h1))) z z ?_ z z z z)
  rintro ⟨⟩ W hS
  refine .q z ?_
  have ⟨y5,hy5,h⟩:=bnd h
  refine .c (.callS2 (L0:=[.box g_0 54 [(sv v_0_b),.int .i64 y4.2]]) hS Tryz.func128 (fun S h1 h2 h3=>(f7j hy5 (hS.keepS q_0_b h1) h2 (zz h1))) z z ?_ z z z z)
  rintro v4 W hS
  refine .s (bs T.s140 z z) z (.c (.st T.t140 hS.p2 z z z ?_ z z z z z))
  intro W hS
  refine .nil (.ret ?_)
  have hS:=hS.nilv 140 8 dStmt
  have hS:=hS.nilv 140 8 dStmt
  cases h
  exact fin_ret (vs:=[_]) (v4,nilH,nilH) (rc hS.p2 T.t140 z rn z z) z (hS.to [3,3,1,0] z)
 have h:=sel_f hb h
 refine .skip (.g (.q z (.q z ?_)))
 have ⟨y6,hy6,h⟩:=bnd h
 refine .c (.callS2 (L0:=[.box g_0 54 [(sv v_0_b),.int .i64 y3.2]]) hS Tryz.func19 (fun S h1 h2 h3=>(f00 hy6 (hS.keepS q_0_b h1) h2 (zz h1))) z z ?_ z z z z)
 rintro ⟨⟩ W hS
 refine .s (bs T.s140 z z) z (.c (.st T.t140 hS.p1 z z z ?_ z z z z z))
 intro W hS
 refine .nil (.ret ?_)
 have hS:=hS.nilv 138 3 dExpr
 have hS:=hS.nilv 140 8 dStmt
 have hS:=hS.nilv 140 8 dStmt
 cases h
 exact fin_ret (vs:=[_]) (nilH,nilH,nilH) (rc hS.p3 T.t140 z rn z z) z (hS.to [4,2,1,0] z)
def f2h (F : L6Rd → Int → Int → Int → Bool → Option ((List Stmt) × Int)) : Prop:=∀ {a0 : L6Rd} {a1 : Int} {a2 : Int} {a3 : Int} {a4 : Bool} {v_0_b : Hd} {g_0 : Nat} {S : Nat → Prop} {w : World} {r : (List Stmt) × Int} (h : F a0 a1 a2 a3 a4 = some r) (q_0_b : RV w (Old S w) (sv v_0_b) 5 1 (D.int .u8) a0.b) (hO : Owns w [.box g_0 54 [(sv v_0_b),.int .i64 a0.p]] S) (hlt : ∀ b,S b → b < w.heap.size) , Calls Tryz.prog 78 #[.pointer (some ⟨g_0,0,none⟩),.int .i64 a1,.int .i64 a2,.int .i64 a3,.bool a4] w (Ret S w (fun s : Hd=>(sv s)) (fun s=>[.box g_0 54 [(sv v_0_b),.int .i64 r.2],rowV (sv s) 140 8 dStmt r.1]))
def f48 (F : L6Rd → Int → Int → Bool → Option ((List Stmt) × Int)) : Prop:=∀ {a0 : L6Rd} {a1 : Int} {a2 : Int} {a3 : Bool} {v_0_b : Hd} {g_0 : Nat} {S : Nat → Prop} {w : World} {r : (List Stmt) × Int} (h : F a0 a1 a2 a3 = some r) (q_0_b : RV w (Old S w) (sv v_0_b) 5 1 (D.int .u8) a0.b) (hO : Owns w [.box g_0 54 [(sv v_0_b),.int .i64 a0.p]] S) (hlt : ∀ b,S b → b < w.heap.size) , Calls Tryz.prog 101 #[.pointer (some ⟨g_0,0,none⟩),.int .i64 a1,.int .i64 a2,.bool a3] w (Ret S w (fun s : Hd=>(sv s)) (fun s=>[.box g_0 54 [(sv v_0_b),.int .i64 r.2],rowV (sv s) 140 8 dStmt r.1]))
def f5p (F : L6Rd → Int → Int → Bool → Option (Stmt × Int)) : Prop:=∀ {a0 : L6Rd} {a1 : Int} {a2 : Int} {a3 : Bool} {v_0_b : Hd} {g_0 : Nat} {S : Nat → Prop} {w : World} {r : Stmt × Int} (h : F a0 a1 a2 a3 = some r) (q_0_b : RV w (Old S w) (sv v_0_b) 5 1 (D.int .u8) a0.b) (hO : Owns w [.box g_0 54 [(sv v_0_b),.int .i64 a0.p]] S) (hlt : ∀ b,S b → b < w.heap.size) , Calls Tryz.prog 125 #[.pointer (some ⟨g_0,0,none⟩),.int .i64 a1,.int .i64 a2,.bool a3] w (Ret S w (fun s : Hd × Hd × Hd=>.agg #[.int .i64 r.1.Kind,.int .i64 r.1.Var,.int .i64 r.1.Box,.int .i64 r.1.Expr.Op,.int .i64 r.1.Expr.N,(sv s.1),(sv s.2.1),(sv s.2.2)]) (fun s=>[.box g_0 54 [(sv v_0_b),.int .i64 r.2],rowV (sv s.1) 138 3 dExpr r.1.Expr.Args,rowV (sv s.2.1) 140 8 dStmt r.1.Body,rowV (sv s.2.2) 140 8 dStmt r.1.Else]))
def f49 (F : L6Rd → Int → Int → Option ((List Stmt) × Int)) : Prop:=∀ {a0 : L6Rd} {a1 : Int} {a2 : Int} {v_0_b : Hd} {g_0 : Nat} {S : Nat → Prop} {w : World} {r : (List Stmt) × Int} (h : F a0 a1 a2 = some r) (q_0_b : RV w (Old S w) (sv v_0_b) 5 1 (D.int .u8) a0.b) (hO : Owns w [.box g_0 54 [(sv v_0_b),.int .i64 a0.p]] S) (hlt : ∀ b,S b → b < w.heap.size) , Calls Tryz.prog 126 #[.pointer (some ⟨g_0,0,none⟩),.int .i64 a1,.int .i64 a2] w (Ret S w (fun s : Hd=>(sv s)) (fun s=>[.box g_0 54 [(sv v_0_b),.int .i64 r.2],rowV (sv s) 140 8 dStmt r.1]))
theorem feg {k : Nat} {f0i : L6Rd → Int → Int → Int → Bool → Option ((List Stmt) × Int)} {f0k : L6Rd → Int → Int → Bool → Option ((List Stmt) × Int)} {f0x : L6Rd → Int → Int → Bool → Option (Stmt × Int)} {f0s : L6Rd → Int → Int → Option ((List Stmt) × Int)} (f2z : f2h f0i) (f7m : f48 f0k) (f93 : f5p f0x) (f7q : f49 f0s) : f2h (f5a k f0i f0k f0x f0s):=by
 intro a0 a1 a2 a3 a4 v_0_b g_0 S w r h q_0_b hO hlt
 unfold f5a at h
 refine enter Tryz.func78 z z ?_
 have hS:=Sep.startM hO hlt
 refine .g (.qn z (.g (.c (.ligv (L1:=[]) [] dStmt T.u97 T.t140 (hS.to [0] z) z z z (.nil) ?_ z zStmt z z z z z))))
 intro v1 W hS
 refine .qn z (.seq (.g (.qn z (.block ?_))))
 have ⟨y1,hy1,h⟩:=bnd h
 refine .via (.iter (fun s1 E' W'=>∃ (v4 : Hd),SubL E' [(0,.pointer (some ⟨g_0,0,none⟩)),(1,.int .i64 a1),(2,.int .i64 a2),(3,.int .i64 a3),(4,.bool a4),(11,(sv v4)),(12,.int .i64 s1.2.1)] ∧ Sep S w W' [.box g_0 54 [(sv v_0_b),.int .i64 s1.2.2],rowV (sv v4) 140 8 dStmt s1.1]) (fun y2 x E' W'=>x = .exit 0 ∧ ∃ (v5 : Hd),SubL E' [(11,(sv v5))] ∧ Sep S w W' [.box g_0 54 [(sv v_0_b),.int .i64 y2.2],rowV (sv v5) 140 8 dStmt y2.1]) hy1 ⟨v1,sb z,hS.to [1,0] z⟩ ?_) ?_
 ·intro s1 y3 E W h hI
  obtain ⟨v3,hE,hS⟩:=hI
  refine CW.sub hE ?_
  unfold f97 at h
  refine .seq (.g (.q z (.q z (.qn z (.cond z (fun hb=>?_) (fun hb=>?_))))))
  ·have h:=sel_t hb h
   refine .skip (.seq (.block (.region (.q z (.q z (.q z (.q z (.q z ?_))))))))
   have ⟨y4,hy4,h⟩:=bnd h
   refine .c (.callS2 (L0:=[.box g_0 54 [(sv v_0_b),.int .i64 s1.2.2]]) hS Tryz.func101 (fun S h1 h2 h3=>(f7m hy4 (hS.keepS q_0_b h1) h2 (zz h1))) z z ?_ z z z z)
   rintro v6 W hS
   have ⟨r1,hr1,h⟩:=bnd h
   refine .c (.appv hr1 (hS.to [2,1,0] z) T.u97 T.t140 z z z ?_ z z z z z)
   intro v7 W hS
   refine .qn z (.region (.q z (.q z (.q z (.nil ?_)))))
   cases h
   exact ⟨z,v7,sb z,hS.to [1,0] z⟩
  have h:=sel_f hb h
  refine .exit ?_
  cases h
  exact ⟨by simp,z,v3,sb z,hS.to [0,0] z⟩
 intro x E W hJ
 obtain ⟨rfl,v8,hE,hS⟩:=hJ
 refine ⟨_,hE.sub,?_⟩
 cases h
 exact .g (.q z (.qn z (.ret (fin_ret (vs:=[_]) v8 (rt z rn) z (hS.to [0,0] z)))))
def ff2 (w : World) (S : Nat → Prop) (v_0_b : Hd) (g_0 : Nat) (a0 : L6Rd) (a1 : Int) (a2 : Int) (a3 : Bool) (r : (List Stmt) × Int) : Env → World → Prop:=Fin Tryz.prog Tryz.f101 S w (fun s : Hd=>(sv s)) (fun s=>[.box g_0 54 [(sv v_0_b),.int .i64 r.2],rowV (sv s) 140 8 dStmt r.1]) .ret
theorem fex {k : Nat} {f0i : L6Rd → Int → Int → Int → Bool → Option ((List Stmt) × Int)} {f0k : L6Rd → Int → Int → Bool → Option ((List Stmt) × Int)} {f0x : L6Rd → Int → Int → Bool → Option (Stmt × Int)} {f0s : L6Rd → Int → Int → Option ((List Stmt) × Int)} (f2z : f2h f0i) (f7m : f48 f0k) (f93 : f5p f0x) (f7q : f49 f0s) : f48 (f60 k f0i f0k f0x f0s):=by
 intro a0 a1 a2 a3 v_0_b g_0 S w r h q_0_b hO hlt
 unfold f60 at h
 refine enter Tryz.func101 z z ?_
 have hS:=Sep.startM hO hlt
 refine .g (.q z (.nil ?_))
 have ⟨y1,hy1,h⟩:=bnd h
 refine .seq (CW.via (R':=fun x E' W'=>(match y1 with | .inl o1=>x = .normal ∧ SubL E' [(0,.pointer (some ⟨g_0,0,none⟩))] ∧ Sep S w W' [.box g_0 54 [(sv v_0_b),.int .i64 o1]] | .inr o2=>x = .ret ∧ ff2 w S v_0_b g_0 a0 a1 a2 a3 o2 E' W')) ?_ ?_)
 ·have h:=hy1
  refine .g (.q z ?_)
  have ⟨y2,hy2,h⟩:=bnd h
  refine .c (.callS2 (L0:=[.box g_0 54 [(sv v_0_b),.int .i64 a0.p]]) hS Tryz.func19 (fun S h1 h2 h3=>(f00 hy2 (hS.keepS q_0_b h1) h2 (zz h1))) z z ?_ z z z z)
  rintro ⟨⟩ W hS
  refine .nil (.block ?_)
  have ⟨y3,hy3,h⟩:=bnd h
  refine .seq (CW.via (R':=fun x E' W'=>x = .normal ∧ SubL E' [(0,.pointer (some ⟨g_0,0,none⟩)),(1,.int .i64 a1),(2,.int .i64 a2),(3,.bool a3),(10,.int .i64 y2.1),(11,.bool y3)] ∧ Sep S w W' [.box g_0 54 [(sv v_0_b),.int .i64 y2.2]]) ?_ ?_)
  ·have h:=hy3
   refine .g (.q z (.q z (.nil ?_)))
   refine .cs z h ?_ ?_ <;> intro h
   ·refine .skip ?_
    cases h
    exact ⟨z,sb z,hS.to [0] z⟩
   refine .region (.q z (.q z (.nil ?_)))
   cases h
   exact ⟨z,sb z,hS.to [0] z⟩
  intro x E W hJ
  obtain ⟨rfl,hE,hS⟩:=hJ
  refine ⟨_,hE.sub,?_⟩
  refine .cond z (fun hb=>?_) (fun hb=>?_)
  ·have h:=sel_t hb h
   refine .g (.q z ?_)
   have ⟨y4,hy4,h⟩:=bnd h
   refine .c (.callS2 (L0:=[.box g_0 54 [(sv v_0_b),.int .i64 y2.2]]) hS Tryz.func124 (fun S h1 h2 h3=>(fbh hy4 (hS.keepS q_0_b h1) h2 (zz h1))) z z ?_ z z z z)
   rintro ⟨v1,v2,v3⟩ W hS
   refine .c (.ligv (L1:=[rowV (sv v1) 138 3 dExpr y4.1.Expr.Args,rowV (sv v2) 140 8 dStmt y4.1.Body,rowV (sv v3) 140 8 dStmt y4.1.Else]) [(Stmt.mk y4.1.Kind y4.1.Var y4.1.Box (Expr.mk y4.1.Expr.Op y4.1.Expr.N y4.1.Expr.Args) y4.1.Body y4.1.Else)] dStmt T.u97 T.t140 (hS.to [1,1,1,0] z) z z z (.aggE (eStmt _) (.flat (c1:=[.int .i64 y4.1.Kind]) z (.flat (c1:=[.int .i64 y4.1.Var]) z (.flat (c1:=[.int .i64 y4.1.Box]) z (.aggE (eExpr _) (.flat (c1:=[.int .i64 y4.1.Expr.Op]) z (.flat (c1:=[.int .i64 y4.1.Expr.N]) z (.row (.row (.row .nil)))))))))) ?_ z zStmt z z z z z)
   intro v4 W hS
   refine .qn z (.ret ?_)
   cases h
   exact ⟨z,fin_ret (vs:=[_]) v4 (rt z rn) z (hS.to [1,0] z)⟩
  have h:=sel_f hb h
  refine .g (.q z (.q z (.nil ?_)))
  refine .cs z h ?_ ?_ <;> intro h
  ·refine .g (.q z (.qn z (.cond z (fun hb=>?_) (fun hb=>?_))))
   ·have h:=sel_t hb h
    refine .g (.q z (.q z (.q z (.q z ?_))))
    have ⟨y5,hy5,h⟩:=bnd h
    refine .c (.callS2 (L0:=[.box g_0 54 [(sv v_0_b),.int .i64 y2.2]]) hS Tryz.func125 (fun S h1 h2 h3=>(f93 hy5 (hS.keepS q_0_b h1) h2 (zz h1))) z z ?_ z z z z)
    rintro ⟨v5,v6,v7⟩ W hS
    refine .c (.ligv (L1:=[rowV (sv v5) 138 3 dExpr y5.1.Expr.Args,rowV (sv v6) 140 8 dStmt y5.1.Body,rowV (sv v7) 140 8 dStmt y5.1.Else]) [(Stmt.mk y5.1.Kind y5.1.Var y5.1.Box (Expr.mk y5.1.Expr.Op y5.1.Expr.N y5.1.Expr.Args) y5.1.Body y5.1.Else)] dStmt T.u97 T.t140 (hS.to [1,1,1,0] z) z z z (.aggE (eStmt _) (.flat (c1:=[.int .i64 y5.1.Kind]) z (.flat (c1:=[.int .i64 y5.1.Var]) z (.flat (c1:=[.int .i64 y5.1.Box]) z (.aggE (eExpr _) (.flat (c1:=[.int .i64 y5.1.Expr.Op]) z (.flat (c1:=[.int .i64 y5.1.Expr.N]) z (.row (.row (.row .nil)))))))))) ?_ z zStmt z z z z z)
    intro v8 W hS
    refine .qn z (.ret ?_)
    cases h
    exact ⟨z,fin_ret (vs:=[_]) v8 (rt z rn) z (hS.to [1,0] z)⟩
   have h:=sel_f hb h
   refine .skip ?_
   cases h
   exact ⟨z,sb z,hS.to [0] z⟩
  refine .g (.q z (.q z (.nil ?_)))
  refine .cs z h ?_ ?_ <;> intro h
  ·refine .g (.q z (.q z (.q z (.chunk 2 33 ((decide (a2 > 0)) && a3) hS ?_ ?_))))
   ·refine .both (decide (a2 > 0)) (fun hb=>?_) (fun hb=>?_)
    ·have hg1:=hb
     exact .g hg1 (.q z (.s (pkt hg1 z z z) z (.nil (ck 2 hS z (and_t hg1) z z)))) z
    exact .xx hb z (.s (pkf hb z z z) z (.nil (ck 2 hS z (and_f hb) z z)))
   intro W hS
   refine .nil (.cond z (fun hb=>?_) (fun hb=>?_))
   ·have h:=sel_t hb h
    refine .g (.q z (.q z (.q z ?_)))
    have ⟨y6,hy6,h⟩:=bnd h
    refine .c (.callS2 (L0:=[.box g_0 54 [(sv v_0_b),.int .i64 y2.2]]) hS Tryz.func126 (fun S h1 h2 h3=>(f7q hy6 (hS.keepS q_0_b h1) h2 (zz h1))) z z ?_ z z z z)
    rintro v9 W hS
    refine .qn z (.ret ?_)
    cases h
    exact ⟨z,fin_ret (vs:=[_]) v9 (rt z rn) z (hS.to [0,0] z)⟩
   have h:=sel_f hb h
   refine .skip ?_
   cases h
   exact ⟨z,sb z,hS.to [0] z⟩
  have ⟨y7,hy7,h⟩:=bnd h
  refine .seq (CW.via (R':=fun x E' W'=>x = .normal ∧ SubL E' [(0,.pointer (some ⟨g_0,0,none⟩)),(1,.int .i64 a1),(10,.int .i64 y2.1),(38,.bool y7)] ∧ Sep S w W' [.box g_0 54 [(sv v_0_b),.int .i64 y2.2]]) ?_ ?_)
  ·have h:=hy7
   refine .g (.q z (.q z (.nil ?_)))
   refine .cs z h ?_ ?_ <;> intro h
   ·refine .skip ?_
    cases h
    exact ⟨z,sb z,hS.to [0] z⟩
   refine .g (.q z (.q z (.nil ?_)))
   refine .cs z h ?_ ?_ <;> intro h
   ·refine .skip ?_
    cases h
    exact ⟨z,sb z,hS.to [0] z⟩
   refine .region (.q z (.q z (.nil ?_)))
   cases h
   exact ⟨z,sb z,hS.to [0] z⟩
  intro x E W hJ
  obtain ⟨rfl,hE,hS⟩:=hJ
  refine ⟨_,hE.sub,?_⟩
  refine .cond z (fun hb=>?_) (fun hb=>?_)
  ·have h:=sel_t hb h
   refine .g (.q z (.q z ?_))
   have ⟨y8,hy8,h⟩:=bnd h
   refine .c (.callS2 (L0:=[.box g_0 54 [(sv v_0_b),.int .i64 y2.2]]) hS Tryz.func127 (fun S h1 h2 h3=>(fek hy8 (hS.keepS q_0_b h1) h2 (zz h1))) z z ?_ z z z z)
   rintro ⟨v10,v11,v12⟩ W hS
   refine .c (.ligv (L1:=[rowV (sv v10) 138 3 dExpr y8.1.Expr.Args,rowV (sv v11) 140 8 dStmt y8.1.Body,rowV (sv v12) 140 8 dStmt y8.1.Else]) [(Stmt.mk y8.1.Kind y8.1.Var y8.1.Box (Expr.mk y8.1.Expr.Op y8.1.Expr.N y8.1.Expr.Args) y8.1.Body y8.1.Else)] dStmt T.u97 T.t140 (hS.to [1,1,1,0] z) z z z (.aggE (eStmt _) (.flat (c1:=[.int .i64 y8.1.Kind]) z (.flat (c1:=[.int .i64 y8.1.Var]) z (.flat (c1:=[.int .i64 y8.1.Box]) z (.aggE (eExpr _) (.flat (c1:=[.int .i64 y8.1.Expr.Op]) z (.flat (c1:=[.int .i64 y8.1.Expr.N]) z (.row (.row (.row .nil)))))))))) ?_ z zStmt z z z z z)
   intro v13 W hS
   refine .qn z (.ret ?_)
   cases h
   exact ⟨z,fin_ret (vs:=[_]) v13 (rt z rn) z (hS.to [1,0] z)⟩
  have h:=sel_f hb h
  refine .g (.q z (.q z (.nil ?_)))
  refine .cs z h ?_ ?_ <;> intro h
  ·refine .g (.s (bs T.s140 z z) z ?_)
   have hS:=hS.nilv 138 3 dExpr
   have hS:=hS.nilv 140 8 dStmt
   have hS:=hS.nilv 140 8 dStmt
   refine .c (.ligv (L1:=[rowV (sv nilH) 138 3 dExpr [],rowV (sv nilH) 140 8 dStmt [],rowV (sv nilH) 140 8 dStmt []]) [(Stmt.mk 6 0 0 (Expr.mk 0 0 []) [] [])] dStmt T.u97 T.t140 (hS.to [2,1,0,0] z) z z z (.aggE (eStmt _) (.flat (c1:=[.int .i64 6]) z (.flat (c1:=[.int .i64 0]) z (.flat (c1:=[.int .i64 0]) z (.aggE (eExpr _) (.flat (c1:=[.int .i64 0]) z (.flat (c1:=[.int .i64 0]) z (.row (.row (.row .nil)))))))))) ?_ z zStmt z z z z z)
   intro v14 W hS
   refine .qn z (.ret ?_)
   cases h
   exact ⟨z,fin_ret (vs:=[_]) v14 (rt z rn) z (hS.to [1,0] z)⟩
  refine .skip ?_
  cases h
  exact ⟨z,sb z,hS.to [0] z⟩
 intro x E W hJ
 rcases y1 with o3 | o4
 ·obtain ⟨rfl,hE,hS⟩:=hJ
  refine ⟨_,hE.sub,?_⟩
  refine .g (.q z (.q z ?_))
  have ⟨y9,hy9,h⟩:=bnd h
  refine .c (.callS2 (L0:=[.box g_0 54 [(sv v_0_b),.int .i64 o3]]) hS Tryz.func19 (fun S h1 h2 h3=>(f00 hy9 (hS.keepS q_0_b h1) h2 (zz h1))) z z ?_ z z z z)
  rintro ⟨⟩ W hS
  refine .q z ?_
  have ⟨y10,hy10,h⟩:=bnd h
  refine .c (.callS2 (L0:=[.box g_0 54 [(sv v_0_b),.int .i64 y9.2]]) hS Tryz.func128 (fun S h1 h2 h3=>(f7j hy10 (hS.keepS q_0_b h1) h2 (zz h1))) z z ?_ z z z z)
  rintro v15 W hS
  refine .s (bs T.s140 z z) z ?_
  have hS:=hS.nilv 140 8 dStmt
  have hS:=hS.nilv 140 8 dStmt
  refine .c (.ligv (L1:=[rowV (sv v15) 138 3 dExpr y10.1.Args,rowV (sv nilH) 140 8 dStmt [],rowV (sv nilH) 140 8 dStmt []]) [(Stmt.mk 7 0 0 (Expr.mk y10.1.Op y10.1.N y10.1.Args) [] [])] dStmt T.u97 T.t140 (hS.to [3,1,0,0] z) z z z (.aggE (eStmt _) (.flat (c1:=[.int .i64 7]) z (.flat (c1:=[.int .i64 0]) z (.flat (c1:=[.int .i64 0]) z (.aggE (eExpr _) (.flat (c1:=[.int .i64 y10.1.Op]) z (.flat (c1:=[.int .i64 y10.1.N]) z (.row (.row (.row .nil)))))))))) ?_ z zStmt z z z z z)
  intro v16 W hS
  cases h
  exact .qn z (.ret (fin_ret (vs:=[_]) v16 (rt z rn) z (hS.to [1,0] z)))
 obtain ⟨rfl,hF⟩:=hJ
 refine ⟨_,fun _ _ h=>h,?_⟩
 cases h
 exact hF
theorem ffj {k : Nat} {f0i : L6Rd → Int → Int → Int → Bool → Option ((List Stmt) × Int)} {f0k : L6Rd → Int → Int → Bool → Option ((List Stmt) × Int)} {f0x : L6Rd → Int → Int → Bool → Option (Stmt × Int)} {f0s : L6Rd → Int → Int → Option ((List Stmt) × Int)} (f2z : f2h f0i) (f7m : f48 f0k) (f93 : f5p f0x) (f7q : f49 f0s) : f5p (f7s k f0i f0k f0x f0s):=by
 intro a0 a1 a2 a3 v_0_b g_0 S w r h q_0_b hO hlt
 unfold f7s at h
 refine enter Tryz.func125 z z ?_
 have hS:=Sep.startM hO hlt
 refine .g (.c (.alloc T.t140 hS ?_ z z z))
 intro g1 W hS
 refine .nil (.g (.q z (.q z ?_)))
 have ⟨y1,hy1,h⟩:=bnd h
 have hS:=hS.p1
 refine .c (.callS2 (L0:=[.box g_0 54 [(sv v_0_b),.int .i64 a0.p]]) hS Tryz.func19 (fun S h1 h2 h3=>(f00 hy1 (hS.keepS q_0_b h1) h2 (zz h1))) z z ?_ z z z z)
 rintro ⟨⟩ W hS
 refine .q z ?_
 have ⟨y2,hy2,h⟩:=bnd h
 refine .c (.callS2 (L0:=[.box g_0 54 [(sv v_0_b),.int .i64 y1.2]]) hS Tryz.func128 (fun S h1 h2 h3=>(f7j hy2 (hS.keepS q_0_b h1) h2 (zz h1))) z z ?_ z z z z)
 rintro v1 W hS
 refine .c (.alloc T.t138 hS ?_ z z z)
 intro g2 W hS
 refine .c (.st T.t138 hS z z z ?_ z z z z z)
 intro W hS
 refine .nil (.g (.q z (.q z (.q z (.q z (.q z ?_))))))
 have ⟨y3,hy3,h⟩:=bnd h
 have hS:=hS.p1
 refine .c (.callS2 (L0:=[.box g_0 54 [(sv v_0_b),.int .i64 y2.2]]) hS Tryz.func19 (fun S h1 h2 h3=>(f00 hy3 (hS.keepS q_0_b h1) h2 (zz h1))) z z ?_ z z z z)
 rintro ⟨⟩ W hS
 refine .q z ?_
 have ⟨y4,hy4,h⟩:=bnd h
 refine .c (.callS2 (L0:=[.box g_0 54 [(sv v_0_b),.int .i64 y3.2]]) hS Tryz.func78 (fun S h1 h2 h3=>(f2z hy4 (hS.keepS q_0_b h1) h2 (zz h1))) z z ?_ z z z z)
 rintro v2 W hS
 refine .qn z (.seq (.rk 11 hS [1,1,1,1] T.mix ?_))
 intro W hS
 have hT:=hS.to [1,1,1,1] z
 refine .ts 0 z (fun W hT=>ld T.t138 hT.p1 z z z z z) hT z (by kernel_rfl) (.tp 1 z z hT (by kernel_rfl) (.tp 2 z z hT (by kernel_rfl) (.tp 3 z z hT (by kernel_rfl) (.tp 4 z z hT (by kernel_rfl) (.tp 5 z z hT (by kernel_rfl) (.tp 6 z z hT (by kernel_rfl) (.tp 8 z z hT (by kernel_rfl) ?_)))))))
 have ⟨y5,hy5,h⟩:=bnd h
 refine .by1 7 z (.callS2 (L0:=[.box g_0 54 [(sv v_0_b),.int .i64 y4.2]]) hS Tryz.func19 (fun S h1 h2 h3=>(f00 hy5 (hS.keepS q_0_b h1) h2 (zz h1))) z z ?_ z z z z) (by kernel_rfl)
 rintro ⟨⟩ W hS
 have hT:=hS.to [1,1,1,1] z
 refine ⟨fun _=>hT,?_⟩
 have ⟨y6,hy6,h⟩:=bnd h
 refine .by1 9 z (.callS2 (L0:=[.box g_0 54 [(sv v_0_b),.int .i64 y5.2]]) hS Tryz.func78 (fun S h1 h2 h3=>(f2z hy6 (hS.keepS q_0_b h1) h2 (zz h1))) z z ?_ z z z z) (by kernel_rfl)
 rintro v3 W hS
 have hT:=hS.to [2,2,2,2] z
 refine ⟨fun _=>hT,.ts 10 z (fun W hT=>bs T.s140 z z) hT z (by kernel_rfl) (.by1 11 z (.st T.t140 hS.p5 z z z ?_ z z z z z) (by kernel_rfl))⟩
 intro W hS
 refine ⟨fun h=>absurd z h,?_⟩
 cases h
 exact .done (.ret (fin_ret (vs:=[_]) (v1,v2,v3) (rc hS T.t140 z rn z z) z (hS.to [1,4,2,1] z))) (by kernel_rfl)
end Go.Proofs.YtcljimkjmklkmaaGreat.N
namespace Go.Proofs.YtcljimkjmklkmaaGreat.N
open Go.Proofs.YtcljimkjmklkmaaGreat.X
theorem ff4 {k : Nat} {f0i : L6Rd → Int → Int → Int → Bool → Option ((List Stmt) × Int)} {f0k : L6Rd → Int → Int → Bool → Option ((List Stmt) × Int)} {f0x : L6Rd → Int → Int → Bool → Option (Stmt × Int)} {f0s : L6Rd → Int → Int → Option ((List Stmt) × Int)} (f2z : f2h f0i) (f7m : f48 f0k) (f93 : f5p f0x) (f7q : f49 f0s) : f49 (f5m k f0i f0k f0x f0s):=by
 intro a0 a1 a2 v_0_b g_0 S w r h q_0_b hO hlt
 unfold f5m at h
 refine enter Tryz.func126 z z ?_
 have hS:=Sep.startM hO hlt
 refine .g (.qn z (.g (.qn z (.g (.q z (.q z (.q z (.q z (.q z ?_)))))))))
 have ⟨y1,hy1,h⟩:=bnd h
 refine .c (.callS2 (L0:=[.box g_0 54 [(sv v_0_b),.int .i64 a0.p]]) hS Tryz.func19 (fun S h1 h2 h3=>(f00 hy1 (hS.keepS q_0_b h1) h2 (zz h1))) z z ?_ z z z z)
 rintro ⟨⟩ W hS
 have ⟨y2,hy2,h⟩:=bnd h
 refine .c (.callS2 (L0:=[.box g_0 54 [(sv v_0_b),.int .i64 y1.2]]) hS Tryz.func78 (fun S h1 h2 h3=>(f2z hy2 (hS.keepS q_0_b h1) h2 (zz h1))) z z ?_ z z z z)
 rintro v1 W hS
 refine .qn z (.g (.q z (.q z ?_)))
 have ⟨y3,hy3,h⟩:=bnd h
 refine .c (.call1v hS Tryz.func150 (f06 hy3) z z ?_ z z z z)
 intro v2 W hS
 have ⟨y4,hy4,h⟩:=bnd h
 refine .c (.call1v hS Tryz.func150 (f06 hy4) z z ?_ z z z z)
 intro v3 W hS
 have ⟨y5,hy5,h⟩:=bnd h
 have hS:=hS.p1
 refine .c (.callS2 (L0:=[rowV (sv v2) 138 3 dExpr y3.Args,rowV (sv v3) 138 3 dExpr y4.Args]) hS Tryz.func149 (fun S h1 h2 h3=>(f05 hy5 h2 (zz h1))) z z ?_ z z z z)
 rintro v4 W hS
 refine .s (bs T.s140 z z) z (.c (.alloc T.t140 hS ?_ z z z))
 intro g1 W hS
 refine .c (.st T.t140 hS z z z ?_ z z z z z)
 intro W hS
 refine .nil (.seq ?_)
 have ⟨y6,hy6,h⟩:=bnd h
 have ⟨y7,hy7,h⟩:=bnd h
 have ⟨y8,hy8,h⟩:=bnd h
 have ⟨y9,hy9,h⟩:=bnd h
 have ⟨r1,hr1,h⟩:=bnd h
 refine .via (R':=fun x E' W'=>x = .normal ∧ ∃ (g2 : Nat) (v5 : Hd) (v6 : Hd) (v7 : Hd),SubL E' [(7,.int .i64 3),(10,.pointer (some ⟨g2,0,none⟩))] ∧ Sep S w W' [.box g_0 54 [(sv v_0_b),.int .i64 y7.2],.box g2 140 [.int .i64 3,.int .i64 0,.int .i64 0,.int .i64 y9.Op,.int .i64 y9.N,(sv v5),(sv v6),(sv v7)],rowV (sv v5) 138 3 dExpr y9.Args,rowV (sv v6) 140 8 dStmt r1,rowV (sv v7) 140 8 dStmt []]) ?_ ?_
 ·refine .rk 13 hS [0] T.mix ?_
  intro W hS
  have hT:=hS.to [0] z
  refine .tp 0 z z hT (by kernel_rfl) (.tp 2 z z hT (by kernel_rfl) (.tp 7 z z hT (by kernel_rfl) (.ts 8 z (fun W hT=>ld T.t140 hT z z z z z) hT z (by kernel_rfl) (.by [1,9,12] ⟨⟨_,z,?_⟩,⟨_,z,?_⟩,⟨_,z,?_⟩,trivial⟩ (by kernel_rfl) z))))
  ·refine (.call1v hS Tryz.func150 (f06 hy6) z z ?_ z z z z)
   intro v8 W hS
   have hT:=hS.to [1] z
   refine ⟨fun _=>hT,.by [3,9,12] ⟨⟨_,z,?_⟩,⟨_,z,?_⟩,⟨_,z,?_⟩,trivial⟩ (by kernel_rfl) z⟩
   ·have hS:=hS.p3
    refine (.callS2 (L0:=[.box g_0 54 [(sv v_0_b),.int .i64 y2.2]]) hS Tryz.func19 (fun S h1 h2 h3=>(f00 hy7 (hS.keepS q_0_b h1) h2 (zz h1))) z z ?_ z z z z)
    rintro ⟨⟩ W hS
    have hT:=hS.to [2] z
    refine ⟨fun _=>hT,.tp 4 z z hT (by kernel_rfl) (.by [5,9,12] ⟨⟨_,z,?_⟩,⟨_,z,?_⟩,⟨_,z,?_⟩,trivial⟩ (by kernel_rfl) z)⟩
    ·refine (.call1v hS Tryz.func150 (f06 hy8) z z ?_ z z z z)
     intro v9 W hS
     have hT:=hS.to [3] z
     refine ⟨fun _=>hT,.by [6,9,12] ⟨⟨_,z,?_⟩,⟨_,z,?_⟩,⟨_,z,?_⟩,trivial⟩ (by kernel_rfl) z⟩
     ·have hS:=hS.p2
      refine (.callS2 (L0:=[rowV (sv v8) 138 3 dExpr y6.Args,rowV (sv v9) 138 3 dExpr y8.Args]) hS Tryz.func149 (fun S h1 h2 h3=>(f05 hy9 h2 (zz h1))) z z ?_ z z z z)
      rintro v10 W hS
      have hT:=hS.to [2] z
      refine ⟨fun _=>hT,.by [9,12] ⟨⟨_,z,?_⟩,⟨_,z,?_⟩,trivial⟩ (by kernel_rfl) z⟩
      ·have hS:=hS.nilv 140 8 dStmt
       have hS:=hS.nilv 140 8 dStmt
       refine (.ligv (L1:=[rowV (sv v4) 138 3 dExpr y5.Args,rowV (sv nilH) 140 8 dStmt [],rowV (sv nilH) 140 8 dStmt []]) [(Stmt.mk 1 3 0 (Expr.mk y5.Op y5.N y5.Args) [] [])] dStmt T.u97 T.t140 (hS.to [5,1,0,0,0,0,0] z) z z z (.aggE (eStmt _) (.flat (c1:=[.int .i64 1]) z (.flat (c1:=[.int .i64 3]) z (.flat (c1:=[.int .i64 0]) z (.aggE (eExpr _) (.flat (c1:=[.int .i64 y5.Op]) z (.flat (c1:=[.int .i64 y5.N]) z (.row (.row (.row .nil)))))))))) ?_ z zStmt z z z z z)
       intro v11 W hS
       have hT:=hS.to [3] z
       refine ⟨fun _=>hT,.by [10,12] ⟨⟨_,z,?_⟩,⟨_,z,?_⟩,trivial⟩ (by kernel_rfl) z⟩
       ·refine (.appv hr1 (hS.to [4,0,0,0,0] z) T.u97 T.t140 z z z ?_ z z z z z)
        intro v12 W hS
        have hT:=hS.to [3] z
        refine ⟨fun _=>hT,.ts 11 z (fun W hT=>bs T.s140 z z) hT z (by kernel_rfl) (.by1 12 z (.alloc T.t140 hS ?_ z z z) (by kernel_rfl))⟩
        intro g3 W hS
        have hT:=hS.to [4] z
        refine ⟨fun _=>hT,.by1 13 z (.st T.t140 hS z z z ?_ z z z z z) (by kernel_rfl)⟩
        intro W hS
        refine ⟨fun h=>absurd z h,?_⟩
        refine .done ?_ (by kernel_rfl)
        have hS:=hS.nilv 140 8 dStmt
        exact ⟨z,g3,v10,v12,nilH,sb z,hS.to [4,1,2,1,0] z⟩
       refine (.alloc T.t140 hS ?_ z z z)
       intro g4 W hS
       have hT:=hS.to [4] z
       refine ⟨fun _=>hT,.by1 10 z (.appv hr1 (hS.to [5,1,0,0,0,0] z) T.u97 T.t140 z z z ?_ z z z z z) (by kernel_rfl)⟩
       intro v13 W hS
       have hT:=hS.to [4] z
       refine ⟨fun _=>hT,.ts 11 z (fun W hT=>bs T.s140 z z) hT z (by kernel_rfl) (.by1 13 z (.st T.t140 hS.p1 z z z ?_ z z z z z) (by kernel_rfl))⟩
       intro W hS
       refine ⟨fun h=>absurd z h,?_⟩
       refine .done ?_ (by kernel_rfl)
       have hS:=hS.nilv 140 8 dStmt
       exact ⟨z,g4,v10,v13,nilH,sb z,hS.to [4,1,2,1,0] z⟩
      refine (.alloc T.t140 hS ?_ z z z)
      intro g5 W hS
      have hT:=hS.to [3] z
      refine ⟨fun _=>hT,?_⟩
      have hS:=hS.nilv 140 8 dStmt
      have hS:=hS.nilv 140 8 dStmt
      refine .by1 9 z (.ligv (L1:=[rowV (sv v4) 138 3 dExpr y5.Args,rowV (sv nilH) 140 8 dStmt [],rowV (sv nilH) 140 8 dStmt []]) [(Stmt.mk 1 3 0 (Expr.mk y5.Op y5.N y5.Args) [] [])] dStmt T.u97 T.t140 (hS.to [6,1,0,0,0,0,0,0] z) z z z (.aggE (eStmt _) (.flat (c1:=[.int .i64 1]) z (.flat (c1:=[.int .i64 3]) z (.flat (c1:=[.int .i64 0]) z (.aggE (eExpr _) (.flat (c1:=[.int .i64 y5.Op]) z (.flat (c1:=[.int .i64 y5.N]) z (.row (.row (.row .nil)))))))))) ?_ z zStmt z z z z z) (by kernel_rfl)
      intro v14 W hS
      have hT:=hS.to [4] z
      refine ⟨fun _=>hT,.by1 10 z (.appv hr1 (hS.to [5,0,0,0,0,0] z) T.u97 T.t140 z z z ?_ z z z z z) (by kernel_rfl)⟩
      intro v15 W hS
      have hT:=hS.to [4] z
      refine ⟨fun _=>hT,.ts 11 z (fun W hT=>bs T.s140 z z) hT z (by kernel_rfl) (.by1 13 z (.st T.t140 hS.p1 z z z ?_ z z z z z) (by kernel_rfl))⟩
      intro W hS
      refine ⟨fun h=>absurd z h,?_⟩
      refine .done ?_ (by kernel_rfl)
      have hS:=hS.nilv 140 8 dStmt
      exact ⟨z,g5,v10,v15,nilH,sb z,hS.to [4,1,2,1,0] z⟩
     ·have hS:=hS.nilv 140 8 dStmt
      have hS:=hS.nilv 140 8 dStmt
      refine (.ligv (L1:=[rowV (sv v4) 138 3 dExpr y5.Args,rowV (sv nilH) 140 8 dStmt [],rowV (sv nilH) 140 8 dStmt []]) [(Stmt.mk 1 3 0 (Expr.mk y5.Op y5.N y5.Args) [] [])] dStmt T.u97 T.t140 (hS.to [6,1,0,0,0,0,0,0] z) z z z (.aggE (eStmt _) (.flat (c1:=[.int .i64 1]) z (.flat (c1:=[.int .i64 3]) z (.flat (c1:=[.int .i64 0]) z (.aggE (eExpr _) (.flat (c1:=[.int .i64 y5.Op]) z (.flat (c1:=[.int .i64 y5.N]) z (.row (.row (.row .nil)))))))))) ?_ z zStmt z z z z z)
      intro v16 W hS
      have hT:=hS.to [4] z
      refine ⟨fun _=>hT,.by [6,12] ⟨⟨_,z,?_⟩,⟨_,z,?_⟩,trivial⟩ (by kernel_rfl) z⟩
      ·have hS:=hS.p1
       have hS:=hS.p3
       refine (.callS2 (L0:=[rowV (sv v8) 138 3 dExpr y6.Args,rowV (sv v9) 138 3 dExpr y8.Args]) hS Tryz.func149 (fun S h1 h2 h3=>(f05 hy9 h2 (zz h1))) z z ?_ z z z z)
       rintro v17 W hS
       have hT:=hS.to [3] z
       refine ⟨fun _=>hT,.by [10,12] ⟨⟨_,z,?_⟩,⟨_,z,?_⟩,trivial⟩ (by kernel_rfl) z⟩
       ·refine (.appv hr1 (hS.to [4,1,0,0,0] z) T.u97 T.t140 z z z ?_ z z z z z)
        intro v18 W hS
        have hT:=hS.to [3] z
        refine ⟨fun _=>hT,.ts 11 z (fun W hT=>bs T.s140 z z) hT z (by kernel_rfl) (.by1 12 z (.alloc T.t140 hS ?_ z z z) (by kernel_rfl))⟩
        intro g6 W hS
        have hT:=hS.to [4] z
        refine ⟨fun _=>hT,.by1 13 z (.st T.t140 hS z z z ?_ z z z z z) (by kernel_rfl)⟩
        intro W hS
        refine ⟨fun h=>absurd z h,?_⟩
        refine .done ?_ (by kernel_rfl)
        have hS:=hS.nilv 140 8 dStmt
        exact ⟨z,g6,v17,v18,nilH,sb z,hS.to [4,1,2,1,0] z⟩
       refine (.alloc T.t140 hS ?_ z z z)
       intro g7 W hS
       have hT:=hS.to [4] z
       refine ⟨fun _=>hT,.by1 10 z (.appv hr1 (hS.to [5,2,0,0,0,0] z) T.u97 T.t140 z z z ?_ z z z z z) (by kernel_rfl)⟩
       intro v19 W hS
       have hT:=hS.to [4] z
       refine ⟨fun _=>hT,.ts 11 z (fun W hT=>bs T.s140 z z) hT z (by kernel_rfl) (.by1 13 z (.st T.t140 hS.p1 z z z ?_ z z z z z) (by kernel_rfl))⟩
       intro W hS
       refine ⟨fun h=>absurd z h,?_⟩
       refine .done ?_ (by kernel_rfl)
       have hS:=hS.nilv 140 8 dStmt
       exact ⟨z,g7,v17,v19,nilH,sb z,hS.to [4,1,2,1,0] z⟩
      refine (.alloc T.t140 hS ?_ z z z)
      intro g8 W hS
      have hT:=hS.to [5] z
      refine ⟨fun _=>hT,?_⟩
      have hS:=hS.p2
      have hS:=hS.p4
      refine .by1 6 z (.callS2 (L0:=[rowV (sv v8) 138 3 dExpr y6.Args,rowV (sv v9) 138 3 dExpr y8.Args]) hS Tryz.func149 (fun S h1 h2 h3=>(f05 hy9 h2 (zz h1))) z z ?_ z z z z) (by kernel_rfl)
      rintro v20 W hS
      have hT:=hS.to [4] z
      refine ⟨fun _=>hT,.by1 10 z (.appv hr1 (hS.to [5,2,0,0,0,0] z) T.u97 T.t140 z z z ?_ z z z z z) (by kernel_rfl)⟩
      intro v21 W hS
      have hT:=hS.to [4] z
      refine ⟨fun _=>hT,.ts 11 z (fun W hT=>bs T.s140 z z) hT z (by kernel_rfl) (.by1 13 z (.st T.t140 hS.p2 z z z ?_ z z z z z) (by kernel_rfl))⟩
      intro W hS
      refine ⟨fun h=>absurd z h,?_⟩
      refine .done ?_ (by kernel_rfl)
      have hS:=hS.nilv 140 8 dStmt
      exact ⟨z,g8,v20,v21,nilH,sb z,hS.to [4,1,2,1,0] z⟩
     refine (.alloc T.t140 hS ?_ z z z)
     intro g9 W hS
     have hT:=hS.to [4] z
     refine ⟨fun _=>hT,.by [6,9] ⟨⟨_,z,?_⟩,⟨_,z,?_⟩,trivial⟩ (by kernel_rfl) z⟩
     ·have hS:=hS.p1
      have hS:=hS.p3
      refine (.callS2 (L0:=[rowV (sv v8) 138 3 dExpr y6.Args,rowV (sv v9) 138 3 dExpr y8.Args]) hS Tryz.func149 (fun S h1 h2 h3=>(f05 hy9 h2 (zz h1))) z z ?_ z z z z)
      rintro v22 W hS
      have hT:=hS.to [3] z
      refine ⟨fun _=>hT,?_⟩
      have hS:=hS.nilv 140 8 dStmt
      have hS:=hS.nilv 140 8 dStmt
      refine .by1 9 z (.ligv (L1:=[rowV (sv v4) 138 3 dExpr y5.Args,rowV (sv nilH) 140 8 dStmt [],rowV (sv nilH) 140 8 dStmt []]) [(Stmt.mk 1 3 0 (Expr.mk y5.Op y5.N y5.Args) [] [])] dStmt T.u97 T.t140 (hS.to [6,1,0,0,0,0,0,0] z) z z z (.aggE (eStmt _) (.flat (c1:=[.int .i64 1]) z (.flat (c1:=[.int .i64 3]) z (.flat (c1:=[.int .i64 0]) z (.aggE (eExpr _) (.flat (c1:=[.int .i64 y5.Op]) z (.flat (c1:=[.int .i64 y5.N]) z (.row (.row (.row .nil)))))))))) ?_ z zStmt z z z z z) (by kernel_rfl)
      intro v23 W hS
      have hT:=hS.to [4] z
      refine ⟨fun _=>hT,.by1 10 z (.appv hr1 (hS.to [5,0,0,0,0,0] z) T.u97 T.t140 z z z ?_ z z z z z) (by kernel_rfl)⟩
      intro v24 W hS
      have hT:=hS.to [4] z
      refine ⟨fun _=>hT,.ts 11 z (fun W hT=>bs T.s140 z z) hT z (by kernel_rfl) (.by1 13 z (.st T.t140 hS.p2 z z z ?_ z z z z z) (by kernel_rfl))⟩
      intro W hS
      refine ⟨fun h=>absurd z h,?_⟩
      refine .done ?_ (by kernel_rfl)
      have hS:=hS.nilv 140 8 dStmt
      exact ⟨z,g9,v22,v24,nilH,sb z,hS.to [4,1,2,1,0] z⟩
     have hS:=hS.nilv 140 8 dStmt
     have hS:=hS.nilv 140 8 dStmt
     refine (.ligv (L1:=[rowV (sv v4) 138 3 dExpr y5.Args,rowV (sv nilH) 140 8 dStmt [],rowV (sv nilH) 140 8 dStmt []]) [(Stmt.mk 1 3 0 (Expr.mk y5.Op y5.N y5.Args) [] [])] dStmt T.u97 T.t140 (hS.to [7,1,0,0,0,0,0,0,0] z) z z z (.aggE (eStmt _) (.flat (c1:=[.int .i64 1]) z (.flat (c1:=[.int .i64 3]) z (.flat (c1:=[.int .i64 0]) z (.aggE (eExpr _) (.flat (c1:=[.int .i64 y5.Op]) z (.flat (c1:=[.int .i64 y5.N]) z (.row (.row (.row .nil)))))))))) ?_ z zStmt z z z z z)
     intro v25 W hS
     have hT:=hS.to [5] z
     refine ⟨fun _=>hT,?_⟩
     have hS:=hS.p2
     have hS:=hS.p4
     refine .by1 6 z (.callS2 (L0:=[rowV (sv v8) 138 3 dExpr y6.Args,rowV (sv v9) 138 3 dExpr y8.Args]) hS Tryz.func149 (fun S h1 h2 h3=>(f05 hy9 h2 (zz h1))) z z ?_ z z z z) (by kernel_rfl)
     rintro v26 W hS
     have hT:=hS.to [4] z
     refine ⟨fun _=>hT,.by1 10 z (.appv hr1 (hS.to [5,1,0,0,0,0] z) T.u97 T.t140 z z z ?_ z z z z z) (by kernel_rfl)⟩
     intro v27 W hS
     have hT:=hS.to [4] z
     refine ⟨fun _=>hT,.ts 11 z (fun W hT=>bs T.s140 z z) hT z (by kernel_rfl) (.by1 13 z (.st T.t140 hS.p2 z z z ?_ z z z z z) (by kernel_rfl))⟩
     intro W hS
     refine ⟨fun h=>absurd z h,?_⟩
     refine .done ?_ (by kernel_rfl)
     have hS:=hS.nilv 140 8 dStmt
     exact ⟨z,g9,v26,v27,nilH,sb z,hS.to [4,1,2,1,0] z⟩
    ·have hS:=hS.nilv 140 8 dStmt
     have hS:=hS.nilv 140 8 dStmt
     refine (.ligv (L1:=[rowV (sv v4) 138 3 dExpr y5.Args,rowV (sv nilH) 140 8 dStmt [],rowV (sv nilH) 140 8 dStmt []]) [(Stmt.mk 1 3 0 (Expr.mk y5.Op y5.N y5.Args) [] [])] dStmt T.u97 T.t140 (hS.to [5,1,0,0,0,0,0] z) z z z (.aggE (eStmt _) (.flat (c1:=[.int .i64 1]) z (.flat (c1:=[.int .i64 3]) z (.flat (c1:=[.int .i64 0]) z (.aggE (eExpr _) (.flat (c1:=[.int .i64 y5.Op]) z (.flat (c1:=[.int .i64 y5.N]) z (.row (.row (.row .nil)))))))))) ?_ z zStmt z z z z z)
     intro v28 W hS
     have hT:=hS.to [3] z
     refine ⟨fun _=>hT,.by [5,12] ⟨⟨_,z,?_⟩,⟨_,z,?_⟩,trivial⟩ (by kernel_rfl) z⟩
     ·refine (.call1v hS Tryz.func150 (f06 hy8) z z ?_ z z z z)
      intro v29 W hS
      have hT:=hS.to [4] z
      refine ⟨fun _=>hT,.by [6,12] ⟨⟨_,z,?_⟩,⟨_,z,?_⟩,trivial⟩ (by kernel_rfl) z⟩
      ·have hS:=hS.p3
       refine (.callS2 (L0:=[rowV (sv v8) 138 3 dExpr y6.Args,rowV (sv v29) 138 3 dExpr y8.Args]) hS Tryz.func149 (fun S h1 h2 h3=>(f05 hy9 h2 (zz h1))) z z ?_ z z z z)
       rintro v30 W hS
       have hT:=hS.to [3] z
       refine ⟨fun _=>hT,.by [10,12] ⟨⟨_,z,?_⟩,⟨_,z,?_⟩,trivial⟩ (by kernel_rfl) z⟩
       ·refine (.appv hr1 (hS.to [4,1,0,0,0] z) T.u97 T.t140 z z z ?_ z z z z z)
        intro v31 W hS
        have hT:=hS.to [3] z
        refine ⟨fun _=>hT,.ts 11 z (fun W hT=>bs T.s140 z z) hT z (by kernel_rfl) (.by1 12 z (.alloc T.t140 hS ?_ z z z) (by kernel_rfl))⟩
        intro g10 W hS
        have hT:=hS.to [4] z
        refine ⟨fun _=>hT,.by1 13 z (.st T.t140 hS z z z ?_ z z z z z) (by kernel_rfl)⟩
        intro W hS
        refine ⟨fun h=>absurd z h,?_⟩
        refine .done ?_ (by kernel_rfl)
        have hS:=hS.nilv 140 8 dStmt
        exact ⟨z,g10,v30,v31,nilH,sb z,hS.to [4,1,2,1,0] z⟩
       refine (.alloc T.t140 hS ?_ z z z)
       intro g11 W hS
       have hT:=hS.to [4] z
       refine ⟨fun _=>hT,.by1 10 z (.appv hr1 (hS.to [5,2,0,0,0,0] z) T.u97 T.t140 z z z ?_ z z z z z) (by kernel_rfl)⟩
       intro v32 W hS
       have hT:=hS.to [4] z
       refine ⟨fun _=>hT,.ts 11 z (fun W hT=>bs T.s140 z z) hT z (by kernel_rfl) (.by1 13 z (.st T.t140 hS.p1 z z z ?_ z z z z z) (by kernel_rfl))⟩
       intro W hS
       refine ⟨fun h=>absurd z h,?_⟩
       refine .done ?_ (by kernel_rfl)
       have hS:=hS.nilv 140 8 dStmt
       exact ⟨z,g11,v30,v32,nilH,sb z,hS.to [4,1,2,1,0] z⟩
      refine (.alloc T.t140 hS ?_ z z z)
      intro g12 W hS
      have hT:=hS.to [5] z
      refine ⟨fun _=>hT,?_⟩
      have hS:=hS.p1
      have hS:=hS.p4
      refine .by1 6 z (.callS2 (L0:=[rowV (sv v8) 138 3 dExpr y6.Args,rowV (sv v29) 138 3 dExpr y8.Args]) hS Tryz.func149 (fun S h1 h2 h3=>(f05 hy9 h2 (zz h1))) z z ?_ z z z z) (by kernel_rfl)
      rintro v33 W hS
      have hT:=hS.to [4] z
      refine ⟨fun _=>hT,.by1 10 z (.appv hr1 (hS.to [5,2,0,0,0,0] z) T.u97 T.t140 z z z ?_ z z z z z) (by kernel_rfl)⟩
      intro v34 W hS
      have hT:=hS.to [4] z
      refine ⟨fun _=>hT,.ts 11 z (fun W hT=>bs T.s140 z z) hT z (by kernel_rfl) (.by1 13 z (.st T.t140 hS.p2 z z z ?_ z z z z z) (by kernel_rfl))⟩
      intro W hS
      refine ⟨fun h=>absurd z h,?_⟩
      refine .done ?_ (by kernel_rfl)
      have hS:=hS.nilv 140 8 dStmt
      exact ⟨z,g12,v33,v34,nilH,sb z,hS.to [4,1,2,1,0] z⟩
     refine (.alloc T.t140 hS ?_ z z z)
     intro g13 W hS
     have hT:=hS.to [4] z
     refine ⟨fun _=>hT,.by1 5 z (.call1v hS Tryz.func150 (f06 hy8) z z ?_ z z z z) (by kernel_rfl)⟩
     intro v35 W hS
     have hT:=hS.to [5] z
     refine ⟨fun _=>hT,?_⟩
     have hS:=hS.p4
     refine .by1 6 z (.callS2 (L0:=[rowV (sv v8) 138 3 dExpr y6.Args,rowV (sv v35) 138 3 dExpr y8.Args]) hS Tryz.func149 (fun S h1 h2 h3=>(f05 hy9 h2 (zz h1))) z z ?_ z z z z) (by kernel_rfl)
     rintro v36 W hS
     have hT:=hS.to [4] z
     refine ⟨fun _=>hT,.by1 10 z (.appv hr1 (hS.to [5,2,0,0,0,0] z) T.u97 T.t140 z z z ?_ z z z z z) (by kernel_rfl)⟩
     intro v37 W hS
     have hT:=hS.to [4] z
     refine ⟨fun _=>hT,.ts 11 z (fun W hT=>bs T.s140 z z) hT z (by kernel_rfl) (.by1 13 z (.st T.t140 hS.p2 z z z ?_ z z z z z) (by kernel_rfl))⟩
     intro W hS
     refine ⟨fun h=>absurd z h,?_⟩
     refine .done ?_ (by kernel_rfl)
     have hS:=hS.nilv 140 8 dStmt
     exact ⟨z,g13,v36,v37,nilH,sb z,hS.to [4,1,2,1,0] z⟩
    refine (.alloc T.t140 hS ?_ z z z)
    intro g14 W hS
    have hT:=hS.to [3] z
    refine ⟨fun _=>hT,.by [5,9] ⟨⟨_,z,?_⟩,⟨_,z,?_⟩,trivial⟩ (by kernel_rfl) z⟩
    ·refine (.call1v hS Tryz.func150 (f06 hy8) z z ?_ z z z z)
     intro v38 W hS
     have hT:=hS.to [4] z
     refine ⟨fun _=>hT,.by [6,9] ⟨⟨_,z,?_⟩,⟨_,z,?_⟩,trivial⟩ (by kernel_rfl) z⟩
     ·have hS:=hS.p3
      refine (.callS2 (L0:=[rowV (sv v8) 138 3 dExpr y6.Args,rowV (sv v38) 138 3 dExpr y8.Args]) hS Tryz.func149 (fun S h1 h2 h3=>(f05 hy9 h2 (zz h1))) z z ?_ z z z z)
      rintro v39 W hS
      have hT:=hS.to [3] z
      refine ⟨fun _=>hT,?_⟩
      have hS:=hS.nilv 140 8 dStmt
      have hS:=hS.nilv 140 8 dStmt
      refine .by1 9 z (.ligv (L1:=[rowV (sv v4) 138 3 dExpr y5.Args,rowV (sv nilH) 140 8 dStmt [],rowV (sv nilH) 140 8 dStmt []]) [(Stmt.mk 1 3 0 (Expr.mk y5.Op y5.N y5.Args) [] [])] dStmt T.u97 T.t140 (hS.to [6,1,0,0,0,0,0,0] z) z z z (.aggE (eStmt _) (.flat (c1:=[.int .i64 1]) z (.flat (c1:=[.int .i64 3]) z (.flat (c1:=[.int .i64 0]) z (.aggE (eExpr _) (.flat (c1:=[.int .i64 y5.Op]) z (.flat (c1:=[.int .i64 y5.N]) z (.row (.row (.row .nil)))))))))) ?_ z zStmt z z z z z) (by kernel_rfl)
      intro v40 W hS
      have hT:=hS.to [4] z
      refine ⟨fun _=>hT,.by1 10 z (.appv hr1 (hS.to [5,0,0,0,0,0] z) T.u97 T.t140 z z z ?_ z z z z z) (by kernel_rfl)⟩
      intro v41 W hS
      have hT:=hS.to [4] z
      refine ⟨fun _=>hT,.ts 11 z (fun W hT=>bs T.s140 z z) hT z (by kernel_rfl) (.by1 13 z (.st T.t140 hS.p2 z z z ?_ z z z z z) (by kernel_rfl))⟩
      intro W hS
      refine ⟨fun h=>absurd z h,?_⟩
      refine .done ?_ (by kernel_rfl)
      have hS:=hS.nilv 140 8 dStmt
      exact ⟨z,g14,v39,v41,nilH,sb z,hS.to [4,1,2,1,0] z⟩
     have hS:=hS.nilv 140 8 dStmt
     have hS:=hS.nilv 140 8 dStmt
     refine (.ligv (L1:=[rowV (sv v4) 138 3 dExpr y5.Args,rowV (sv nilH) 140 8 dStmt [],rowV (sv nilH) 140 8 dStmt []]) [(Stmt.mk 1 3 0 (Expr.mk y5.Op y5.N y5.Args) [] [])] dStmt T.u97 T.t140 (hS.to [7,1,0,0,0,0,0,0,0] z) z z z (.aggE (eStmt _) (.flat (c1:=[.int .i64 1]) z (.flat (c1:=[.int .i64 3]) z (.flat (c1:=[.int .i64 0]) z (.aggE (eExpr _) (.flat (c1:=[.int .i64 y5.Op]) z (.flat (c1:=[.int .i64 y5.N]) z (.row (.row (.row .nil)))))))))) ?_ z zStmt z z z z z)
     intro v42 W hS
     have hT:=hS.to [5] z
     refine ⟨fun _=>hT,?_⟩
     have hS:=hS.p1
     have hS:=hS.p4
     refine .by1 6 z (.callS2 (L0:=[rowV (sv v8) 138 3 dExpr y6.Args,rowV (sv v38) 138 3 dExpr y8.Args]) hS Tryz.func149 (fun S h1 h2 h3=>(f05 hy9 h2 (zz h1))) z z ?_ z z z z) (by kernel_rfl)
     rintro v43 W hS
     have hT:=hS.to [4] z
     refine ⟨fun _=>hT,.by1 10 z (.appv hr1 (hS.to [5,1,0,0,0,0] z) T.u97 T.t140 z z z ?_ z z z z z) (by kernel_rfl)⟩
     intro v44 W hS
     have hT:=hS.to [4] z
     refine ⟨fun _=>hT,.ts 11 z (fun W hT=>bs T.s140 z z) hT z (by kernel_rfl) (.by1 13 z (.st T.t140 hS.p2 z z z ?_ z z z z z) (by kernel_rfl))⟩
     intro W hS
     refine ⟨fun h=>absurd z h,?_⟩
     refine .done ?_ (by kernel_rfl)
     have hS:=hS.nilv 140 8 dStmt
     exact ⟨z,g14,v43,v44,nilH,sb z,hS.to [4,1,2,1,0] z⟩
    have hS:=hS.nilv 140 8 dStmt
    have hS:=hS.nilv 140 8 dStmt
    refine (.ligv (L1:=[rowV (sv v4) 138 3 dExpr y5.Args,rowV (sv nilH) 140 8 dStmt [],rowV (sv nilH) 140 8 dStmt []]) [(Stmt.mk 1 3 0 (Expr.mk y5.Op y5.N y5.Args) [] [])] dStmt T.u97 T.t140 (hS.to [6,1,0,0,0,0,0,0] z) z z z (.aggE (eStmt _) (.flat (c1:=[.int .i64 1]) z (.flat (c1:=[.int .i64 3]) z (.flat (c1:=[.int .i64 0]) z (.aggE (eExpr _) (.flat (c1:=[.int .i64 y5.Op]) z (.flat (c1:=[.int .i64 y5.N]) z (.row (.row (.row .nil)))))))))) ?_ z zStmt z z z z z)
    intro v45 W hS
    have hT:=hS.to [4] z
    refine ⟨fun _=>hT,.by1 5 z (.call1v hS Tryz.func150 (f06 hy8) z z ?_ z z z z) (by kernel_rfl)⟩
    intro v46 W hS
    have hT:=hS.to [5] z
    refine ⟨fun _=>hT,?_⟩
    have hS:=hS.p4
    refine .by1 6 z (.callS2 (L0:=[rowV (sv v8) 138 3 dExpr y6.Args,rowV (sv v46) 138 3 dExpr y8.Args]) hS Tryz.func149 (fun S h1 h2 h3=>(f05 hy9 h2 (zz h1))) z z ?_ z z z z) (by kernel_rfl)
    rintro v47 W hS
    have hT:=hS.to [4] z
    refine ⟨fun _=>hT,.by1 10 z (.appv hr1 (hS.to [5,1,0,0,0,0] z) T.u97 T.t140 z z z ?_ z z z z z) (by kernel_rfl)⟩
    intro v48 W hS
    have hT:=hS.to [4] z
    refine ⟨fun _=>hT,.ts 11 z (fun W hT=>bs T.s140 z z) hT z (by kernel_rfl) (.by1 13 z (.st T.t140 hS.p2 z z z ?_ z z z z z) (by kernel_rfl))⟩
    intro W hS
    refine ⟨fun h=>absurd z h,?_⟩
    refine .done ?_ (by kernel_rfl)
    have hS:=hS.nilv 140 8 dStmt
    exact ⟨z,g14,v47,v48,nilH,sb z,hS.to [4,1,2,1,0] z⟩
   ·have hS:=hS.nilv 140 8 dStmt
    have hS:=hS.nilv 140 8 dStmt
    refine (.ligv (L1:=[rowV (sv v4) 138 3 dExpr y5.Args,rowV (sv nilH) 140 8 dStmt [],rowV (sv nilH) 140 8 dStmt []]) [(Stmt.mk 1 3 0 (Expr.mk y5.Op y5.N y5.Args) [] [])] dStmt T.u97 T.t140 (hS.to [4,1,0,0,0,0,0] z) z z z (.aggE (eStmt _) (.flat (c1:=[.int .i64 1]) z (.flat (c1:=[.int .i64 3]) z (.flat (c1:=[.int .i64 0]) z (.aggE (eExpr _) (.flat (c1:=[.int .i64 y5.Op]) z (.flat (c1:=[.int .i64 y5.N]) z (.row (.row (.row .nil)))))))))) ?_ z zStmt z z z z z)
    intro v49 W hS
    have hT:=hS.to [2] z
    refine ⟨fun _=>hT,.by [3,12] ⟨⟨_,z,?_⟩,⟨_,z,?_⟩,trivial⟩ (by kernel_rfl) z⟩
    ·have hS:=hS.p3
     refine (.callS2 (L0:=[.box g_0 54 [(sv v_0_b),.int .i64 y2.2]]) hS Tryz.func19 (fun S h1 h2 h3=>(f00 hy7 (hS.keepS q_0_b h1) h2 (zz h1))) z z ?_ z z z z)
     rintro ⟨⟩ W hS
     have hT:=hS.to [3] z
     refine ⟨fun _=>hT,.tp 4 z z hT (by kernel_rfl) (.by [5,12] ⟨⟨_,z,?_⟩,⟨_,z,?_⟩,trivial⟩ (by kernel_rfl) z)⟩
     ·refine (.call1v hS Tryz.func150 (f06 hy8) z z ?_ z z z z)
      intro v50 W hS
      have hT:=hS.to [4] z
      refine ⟨fun _=>hT,.by [6,12] ⟨⟨_,z,?_⟩,⟨_,z,?_⟩,trivial⟩ (by kernel_rfl) z⟩
      ·have hS:=hS.p3
       refine (.callS2 (L0:=[rowV (sv v8) 138 3 dExpr y6.Args,rowV (sv v50) 138 3 dExpr y8.Args]) hS Tryz.func149 (fun S h1 h2 h3=>(f05 hy9 h2 (zz h1))) z z ?_ z z z z)
       rintro v51 W hS
       have hT:=hS.to [3] z
       refine ⟨fun _=>hT,.by [10,12] ⟨⟨_,z,?_⟩,⟨_,z,?_⟩,trivial⟩ (by kernel_rfl) z⟩
       ·refine (.appv hr1 (hS.to [4,2,0,0,0] z) T.u97 T.t140 z z z ?_ z z z z z)
        intro v52 W hS
        have hT:=hS.to [3] z
        refine ⟨fun _=>hT,.ts 11 z (fun W hT=>bs T.s140 z z) hT z (by kernel_rfl) (.by1 12 z (.alloc T.t140 hS ?_ z z z) (by kernel_rfl))⟩
        intro g15 W hS
        have hT:=hS.to [4] z
        refine ⟨fun _=>hT,.by1 13 z (.st T.t140 hS z z z ?_ z z z z z) (by kernel_rfl)⟩
        intro W hS
        refine ⟨fun h=>absurd z h,?_⟩
        refine .done ?_ (by kernel_rfl)
        have hS:=hS.nilv 140 8 dStmt
        exact ⟨z,g15,v51,v52,nilH,sb z,hS.to [4,1,2,1,0] z⟩
       refine (.alloc T.t140 hS ?_ z z z)
       intro g16 W hS
       have hT:=hS.to [4] z
       refine ⟨fun _=>hT,.by1 10 z (.appv hr1 (hS.to [5,3,0,0,0,0] z) T.u97 T.t140 z z z ?_ z z z z z) (by kernel_rfl)⟩
       intro v53 W hS
       have hT:=hS.to [4] z
       refine ⟨fun _=>hT,.ts 11 z (fun W hT=>bs T.s140 z z) hT z (by kernel_rfl) (.by1 13 z (.st T.t140 hS.p1 z z z ?_ z z z z z) (by kernel_rfl))⟩
       intro W hS
       refine ⟨fun h=>absurd z h,?_⟩
       refine .done ?_ (by kernel_rfl)
       have hS:=hS.nilv 140 8 dStmt
       exact ⟨z,g16,v51,v53,nilH,sb z,hS.to [4,1,2,1,0] z⟩
      refine (.alloc T.t140 hS ?_ z z z)
      intro g17 W hS
      have hT:=hS.to [5] z
      refine ⟨fun _=>hT,?_⟩
      have hS:=hS.p1
      have hS:=hS.p4
      refine .by1 6 z (.callS2 (L0:=[rowV (sv v8) 138 3 dExpr y6.Args,rowV (sv v50) 138 3 dExpr y8.Args]) hS Tryz.func149 (fun S h1 h2 h3=>(f05 hy9 h2 (zz h1))) z z ?_ z z z z) (by kernel_rfl)
      rintro v54 W hS
      have hT:=hS.to [4] z
      refine ⟨fun _=>hT,.by1 10 z (.appv hr1 (hS.to [5,3,0,0,0,0] z) T.u97 T.t140 z z z ?_ z z z z z) (by kernel_rfl)⟩
      intro v55 W hS
      have hT:=hS.to [4] z
      refine ⟨fun _=>hT,.ts 11 z (fun W hT=>bs T.s140 z z) hT z (by kernel_rfl) (.by1 13 z (.st T.t140 hS.p2 z z z ?_ z z z z z) (by kernel_rfl))⟩
      intro W hS
      refine ⟨fun h=>absurd z h,?_⟩
      refine .done ?_ (by kernel_rfl)
      have hS:=hS.nilv 140 8 dStmt
      exact ⟨z,g17,v54,v55,nilH,sb z,hS.to [4,1,2,1,0] z⟩
     refine (.alloc T.t140 hS ?_ z z z)
     intro g18 W hS
     have hT:=hS.to [4] z
     refine ⟨fun _=>hT,.by1 5 z (.call1v hS Tryz.func150 (f06 hy8) z z ?_ z z z z) (by kernel_rfl)⟩
     intro v56 W hS
     have hT:=hS.to [5] z
     refine ⟨fun _=>hT,?_⟩
     have hS:=hS.p4
     refine .by1 6 z (.callS2 (L0:=[rowV (sv v8) 138 3 dExpr y6.Args,rowV (sv v56) 138 3 dExpr y8.Args]) hS Tryz.func149 (fun S h1 h2 h3=>(f05 hy9 h2 (zz h1))) z z ?_ z z z z) (by kernel_rfl)
     rintro v57 W hS
     have hT:=hS.to [4] z
     refine ⟨fun _=>hT,.by1 10 z (.appv hr1 (hS.to [5,3,0,0,0,0] z) T.u97 T.t140 z z z ?_ z z z z z) (by kernel_rfl)⟩
     intro v58 W hS
     have hT:=hS.to [4] z
     refine ⟨fun _=>hT,.ts 11 z (fun W hT=>bs T.s140 z z) hT z (by kernel_rfl) (.by1 13 z (.st T.t140 hS.p2 z z z ?_ z z z z z) (by kernel_rfl))⟩
     intro W hS
     refine ⟨fun h=>absurd z h,?_⟩
     refine .done ?_ (by kernel_rfl)
     have hS:=hS.nilv 140 8 dStmt
     exact ⟨z,g18,v57,v58,nilH,sb z,hS.to [4,1,2,1,0] z⟩
    refine (.alloc T.t140 hS ?_ z z z)
    intro g19 W hS
    have hT:=hS.to [3] z
    refine ⟨fun _=>hT,?_⟩
    have hS:=hS.p4
    refine .by1 3 z (.callS2 (L0:=[.box g_0 54 [(sv v_0_b),.int .i64 y2.2]]) hS Tryz.func19 (fun S h1 h2 h3=>(f00 hy7 (hS.keepS q_0_b h1) h2 (zz h1))) z z ?_ z z z z) (by kernel_rfl)
    rintro ⟨⟩ W hS
    have hT:=hS.to [4] z
    refine ⟨fun _=>hT,.tp 4 z z hT (by kernel_rfl) (.by1 5 z (.call1v hS Tryz.func150 (f06 hy8) z z ?_ z z z z) (by kernel_rfl))⟩
    intro v59 W hS
    have hT:=hS.to [5] z
    refine ⟨fun _=>hT,?_⟩
    have hS:=hS.p4
    refine .by1 6 z (.callS2 (L0:=[rowV (sv v8) 138 3 dExpr y6.Args,rowV (sv v59) 138 3 dExpr y8.Args]) hS Tryz.func149 (fun S h1 h2 h3=>(f05 hy9 h2 (zz h1))) z z ?_ z z z z) (by kernel_rfl)
    rintro v60 W hS
    have hT:=hS.to [4] z
    refine ⟨fun _=>hT,.by1 10 z (.appv hr1 (hS.to [5,3,0,0,0,0] z) T.u97 T.t140 z z z ?_ z z z z z) (by kernel_rfl)⟩
    intro v61 W hS
    have hT:=hS.to [4] z
    refine ⟨fun _=>hT,.ts 11 z (fun W hT=>bs T.s140 z z) hT z (by kernel_rfl) (.by1 13 z (.st T.t140 hS.p3 z z z ?_ z z z z z) (by kernel_rfl))⟩
    intro W hS
    refine ⟨fun h=>absurd z h,?_⟩
    refine .done ?_ (by kernel_rfl)
    have hS:=hS.nilv 140 8 dStmt
    exact ⟨z,g19,v60,v61,nilH,sb z,hS.to [4,1,2,1,0] z⟩
   refine (.alloc T.t140 hS ?_ z z z)
   intro g20 W hS
   have hT:=hS.to [2] z
   refine ⟨fun _=>hT,.by [3,9] ⟨⟨_,z,?_⟩,⟨_,z,?_⟩,trivial⟩ (by kernel_rfl) z⟩
   ·have hS:=hS.p4
    refine (.callS2 (L0:=[.box g_0 54 [(sv v_0_b),.int .i64 y2.2]]) hS Tryz.func19 (fun S h1 h2 h3=>(f00 hy7 (hS.keepS q_0_b h1) h2 (zz h1))) z z ?_ z z z z)
    rintro ⟨⟩ W hS
    have hT:=hS.to [3] z
    refine ⟨fun _=>hT,.tp 4 z z hT (by kernel_rfl) (.by [5,9] ⟨⟨_,z,?_⟩,⟨_,z,?_⟩,trivial⟩ (by kernel_rfl) z)⟩
    ·refine (.call1v hS Tryz.func150 (f06 hy8) z z ?_ z z z z)
     intro v62 W hS
     have hT:=hS.to [4] z
     refine ⟨fun _=>hT,.by [6,9] ⟨⟨_,z,?_⟩,⟨_,z,?_⟩,trivial⟩ (by kernel_rfl) z⟩
     ·have hS:=hS.p3
      refine (.callS2 (L0:=[rowV (sv v8) 138 3 dExpr y6.Args,rowV (sv v62) 138 3 dExpr y8.Args]) hS Tryz.func149 (fun S h1 h2 h3=>(f05 hy9 h2 (zz h1))) z z ?_ z z z z)
      rintro v63 W hS
      have hT:=hS.to [3] z
      refine ⟨fun _=>hT,?_⟩
      have hS:=hS.nilv 140 8 dStmt
      have hS:=hS.nilv 140 8 dStmt
      refine .by1 9 z (.ligv (L1:=[rowV (sv v4) 138 3 dExpr y5.Args,rowV (sv nilH) 140 8 dStmt [],rowV (sv nilH) 140 8 dStmt []]) [(Stmt.mk 1 3 0 (Expr.mk y5.Op y5.N y5.Args) [] [])] dStmt T.u97 T.t140 (hS.to [6,1,0,0,0,0,0,0] z) z z z (.aggE (eStmt _) (.flat (c1:=[.int .i64 1]) z (.flat (c1:=[.int .i64 3]) z (.flat (c1:=[.int .i64 0]) z (.aggE (eExpr _) (.flat (c1:=[.int .i64 y5.Op]) z (.flat (c1:=[.int .i64 y5.N]) z (.row (.row (.row .nil)))))))))) ?_ z zStmt z z z z z) (by kernel_rfl)
      intro v64 W hS
      have hT:=hS.to [4] z
      refine ⟨fun _=>hT,.by1 10 z (.appv hr1 (hS.to [5,0,0,0,0,0] z) T.u97 T.t140 z z z ?_ z z z z z) (by kernel_rfl)⟩
      intro v65 W hS
      have hT:=hS.to [4] z
      refine ⟨fun _=>hT,.ts 11 z (fun W hT=>bs T.s140 z z) hT z (by kernel_rfl) (.by1 13 z (.st T.t140 hS.p3 z z z ?_ z z z z z) (by kernel_rfl))⟩
      intro W hS
      refine ⟨fun h=>absurd z h,?_⟩
      refine .done ?_ (by kernel_rfl)
      have hS:=hS.nilv 140 8 dStmt
      exact ⟨z,g20,v63,v65,nilH,sb z,hS.to [4,1,2,1,0] z⟩
     have hS:=hS.nilv 140 8 dStmt
     have hS:=hS.nilv 140 8 dStmt
     refine (.ligv (L1:=[rowV (sv v4) 138 3 dExpr y5.Args,rowV (sv nilH) 140 8 dStmt [],rowV (sv nilH) 140 8 dStmt []]) [(Stmt.mk 1 3 0 (Expr.mk y5.Op y5.N y5.Args) [] [])] dStmt T.u97 T.t140 (hS.to [7,1,0,0,0,0,0,0,0] z) z z z (.aggE (eStmt _) (.flat (c1:=[.int .i64 1]) z (.flat (c1:=[.int .i64 3]) z (.flat (c1:=[.int .i64 0]) z (.aggE (eExpr _) (.flat (c1:=[.int .i64 y5.Op]) z (.flat (c1:=[.int .i64 y5.N]) z (.row (.row (.row .nil)))))))))) ?_ z zStmt z z z z z)
     intro v66 W hS
     have hT:=hS.to [5] z
     refine ⟨fun _=>hT,?_⟩
     have hS:=hS.p1
     have hS:=hS.p4
     refine .by1 6 z (.callS2 (L0:=[rowV (sv v8) 138 3 dExpr y6.Args,rowV (sv v62) 138 3 dExpr y8.Args]) hS Tryz.func149 (fun S h1 h2 h3=>(f05 hy9 h2 (zz h1))) z z ?_ z z z z) (by kernel_rfl)
     rintro v67 W hS
     have hT:=hS.to [4] z
     refine ⟨fun _=>hT,.by1 10 z (.appv hr1 (hS.to [5,1,0,0,0,0] z) T.u97 T.t140 z z z ?_ z z z z z) (by kernel_rfl)⟩
     intro v68 W hS
     have hT:=hS.to [4] z
     refine ⟨fun _=>hT,.ts 11 z (fun W hT=>bs T.s140 z z) hT z (by kernel_rfl) (.by1 13 z (.st T.t140 hS.p3 z z z ?_ z z z z z) (by kernel_rfl))⟩
     intro W hS
     refine ⟨fun h=>absurd z h,?_⟩
     refine .done ?_ (by kernel_rfl)
     have hS:=hS.nilv 140 8 dStmt
     exact ⟨z,g20,v67,v68,nilH,sb z,hS.to [4,1,2,1,0] z⟩
    have hS:=hS.nilv 140 8 dStmt
    have hS:=hS.nilv 140 8 dStmt
    refine (.ligv (L1:=[rowV (sv v4) 138 3 dExpr y5.Args,rowV (sv nilH) 140 8 dStmt [],rowV (sv nilH) 140 8 dStmt []]) [(Stmt.mk 1 3 0 (Expr.mk y5.Op y5.N y5.Args) [] [])] dStmt T.u97 T.t140 (hS.to [6,1,0,0,0,0,0,0] z) z z z (.aggE (eStmt _) (.flat (c1:=[.int .i64 1]) z (.flat (c1:=[.int .i64 3]) z (.flat (c1:=[.int .i64 0]) z (.aggE (eExpr _) (.flat (c1:=[.int .i64 y5.Op]) z (.flat (c1:=[.int .i64 y5.N]) z (.row (.row (.row .nil)))))))))) ?_ z zStmt z z z z z)
    intro v69 W hS
    have hT:=hS.to [4] z
    refine ⟨fun _=>hT,.by1 5 z (.call1v hS Tryz.func150 (f06 hy8) z z ?_ z z z z) (by kernel_rfl)⟩
    intro v70 W hS
    have hT:=hS.to [5] z
    refine ⟨fun _=>hT,?_⟩
    have hS:=hS.p4
    refine .by1 6 z (.callS2 (L0:=[rowV (sv v8) 138 3 dExpr y6.Args,rowV (sv v70) 138 3 dExpr y8.Args]) hS Tryz.func149 (fun S h1 h2 h3=>(f05 hy9 h2 (zz h1))) z z ?_ z z z z) (by kernel_rfl)
    rintro v71 W hS
    have hT:=hS.to [4] z
    refine ⟨fun _=>hT,.by1 10 z (.appv hr1 (hS.to [5,1,0,0,0,0] z) T.u97 T.t140 z z z ?_ z z z z z) (by kernel_rfl)⟩
    intro v72 W hS
    have hT:=hS.to [4] z
    refine ⟨fun _=>hT,.ts 11 z (fun W hT=>bs T.s140 z z) hT z (by kernel_rfl) (.by1 13 z (.st T.t140 hS.p3 z z z ?_ z z z z z) (by kernel_rfl))⟩
    intro W hS
    refine ⟨fun h=>absurd z h,?_⟩
    refine .done ?_ (by kernel_rfl)
    have hS:=hS.nilv 140 8 dStmt
    exact ⟨z,g20,v71,v72,nilH,sb z,hS.to [4,1,2,1,0] z⟩
   have hS:=hS.nilv 140 8 dStmt
   have hS:=hS.nilv 140 8 dStmt
   refine (.ligv (L1:=[rowV (sv v4) 138 3 dExpr y5.Args,rowV (sv nilH) 140 8 dStmt [],rowV (sv nilH) 140 8 dStmt []]) [(Stmt.mk 1 3 0 (Expr.mk y5.Op y5.N y5.Args) [] [])] dStmt T.u97 T.t140 (hS.to [5,1,0,0,0,0,0,0] z) z z z (.aggE (eStmt _) (.flat (c1:=[.int .i64 1]) z (.flat (c1:=[.int .i64 3]) z (.flat (c1:=[.int .i64 0]) z (.aggE (eExpr _) (.flat (c1:=[.int .i64 y5.Op]) z (.flat (c1:=[.int .i64 y5.N]) z (.row (.row (.row .nil)))))))))) ?_ z zStmt z z z z z)
   intro v73 W hS
   have hT:=hS.to [3] z
   refine ⟨fun _=>hT,?_⟩
   have hS:=hS.p4
   refine .by1 3 z (.callS2 (L0:=[.box g_0 54 [(sv v_0_b),.int .i64 y2.2]]) hS Tryz.func19 (fun S h1 h2 h3=>(f00 hy7 (hS.keepS q_0_b h1) h2 (zz h1))) z z ?_ z z z z) (by kernel_rfl)
   rintro ⟨⟩ W hS
   have hT:=hS.to [4] z
   refine ⟨fun _=>hT,.tp 4 z z hT (by kernel_rfl) (.by1 5 z (.call1v hS Tryz.func150 (f06 hy8) z z ?_ z z z z) (by kernel_rfl))⟩
   intro v74 W hS
   have hT:=hS.to [5] z
   refine ⟨fun _=>hT,?_⟩
   have hS:=hS.p4
   refine .by1 6 z (.callS2 (L0:=[rowV (sv v8) 138 3 dExpr y6.Args,rowV (sv v74) 138 3 dExpr y8.Args]) hS Tryz.func149 (fun S h1 h2 h3=>(f05 hy9 h2 (zz h1))) z z ?_ z z z z) (by kernel_rfl)
   rintro v75 W hS
   have hT:=hS.to [4] z
   refine ⟨fun _=>hT,.by1 10 z (.appv hr1 (hS.to [5,2,0,0,0,0] z) T.u97 T.t140 z z z ?_ z z z z z) (by kernel_rfl)⟩
   intro v76 W hS
   have hT:=hS.to [4] z
   refine ⟨fun _=>hT,.ts 11 z (fun W hT=>bs T.s140 z z) hT z (by kernel_rfl) (.by1 13 z (.st T.t140 hS.p3 z z z ?_ z z z z z) (by kernel_rfl))⟩
   intro W hS
   refine ⟨fun h=>absurd z h,?_⟩
   refine .done ?_ (by kernel_rfl)
   have hS:=hS.nilv 140 8 dStmt
   exact ⟨z,g20,v75,v76,nilH,sb z,hS.to [4,1,2,1,0] z⟩
  ·have hS:=hS.nilv 140 8 dStmt
   have hS:=hS.nilv 140 8 dStmt
   refine (.ligv (L1:=[rowV (sv v4) 138 3 dExpr y5.Args,rowV (sv nilH) 140 8 dStmt [],rowV (sv nilH) 140 8 dStmt []]) [(Stmt.mk 1 3 0 (Expr.mk y5.Op y5.N y5.Args) [] [])] dStmt T.u97 T.t140 (hS.to [3,1,0,0,0,0] z) z z z (.aggE (eStmt _) (.flat (c1:=[.int .i64 1]) z (.flat (c1:=[.int .i64 3]) z (.flat (c1:=[.int .i64 0]) z (.aggE (eExpr _) (.flat (c1:=[.int .i64 y5.Op]) z (.flat (c1:=[.int .i64 y5.N]) z (.row (.row (.row .nil)))))))))) ?_ z zStmt z z z z z)
   intro v77 W hS
   have hT:=hS.to [1] z
   refine ⟨fun _=>hT,.by [1,12] ⟨⟨_,z,?_⟩,⟨_,z,?_⟩,trivial⟩ (by kernel_rfl) z⟩
   ·refine (.call1v hS Tryz.func150 (f06 hy6) z z ?_ z z z z)
    intro v78 W hS
    have hT:=hS.to [2] z
    refine ⟨fun _=>hT,.by [3,12] ⟨⟨_,z,?_⟩,⟨_,z,?_⟩,trivial⟩ (by kernel_rfl) z⟩
    ·have hS:=hS.p3
     refine (.callS2 (L0:=[.box g_0 54 [(sv v_0_b),.int .i64 y2.2]]) hS Tryz.func19 (fun S h1 h2 h3=>(f00 hy7 (hS.keepS q_0_b h1) h2 (zz h1))) z z ?_ z z z z)
     rintro ⟨⟩ W hS
     have hT:=hS.to [3] z
     refine ⟨fun _=>hT,.tp 4 z z hT (by kernel_rfl) (.by [5,12] ⟨⟨_,z,?_⟩,⟨_,z,?_⟩,trivial⟩ (by kernel_rfl) z)⟩
     ·refine (.call1v hS Tryz.func150 (f06 hy8) z z ?_ z z z z)
      intro v79 W hS
      have hT:=hS.to [4] z
      refine ⟨fun _=>hT,.by [6,12] ⟨⟨_,z,?_⟩,⟨_,z,?_⟩,trivial⟩ (by kernel_rfl) z⟩
      ·have hS:=hS.p2
       refine (.callS2 (L0:=[rowV (sv v78) 138 3 dExpr y6.Args,rowV (sv v79) 138 3 dExpr y8.Args]) hS Tryz.func149 (fun S h1 h2 h3=>(f05 hy9 h2 (zz h1))) z z ?_ z z z z)
       rintro v80 W hS
       have hT:=hS.to [3] z
       refine ⟨fun _=>hT,.by [10,12] ⟨⟨_,z,?_⟩,⟨_,z,?_⟩,trivial⟩ (by kernel_rfl) z⟩
       ·refine (.appv hr1 (hS.to [4,2,0,0,0] z) T.u97 T.t140 z z z ?_ z z z z z)
        intro v81 W hS
        have hT:=hS.to [3] z
        refine ⟨fun _=>hT,.ts 11 z (fun W hT=>bs T.s140 z z) hT z (by kernel_rfl) (.by1 12 z (.alloc T.t140 hS ?_ z z z) (by kernel_rfl))⟩
        intro g21 W hS
        have hT:=hS.to [4] z
        refine ⟨fun _=>hT,.by1 13 z (.st T.t140 hS z z z ?_ z z z z z) (by kernel_rfl)⟩
        intro W hS
        refine ⟨fun h=>absurd z h,?_⟩
        refine .done ?_ (by kernel_rfl)
        have hS:=hS.nilv 140 8 dStmt
        exact ⟨z,g21,v80,v81,nilH,sb z,hS.to [4,1,2,1,0] z⟩
       refine (.alloc T.t140 hS ?_ z z z)
       intro g22 W hS
       have hT:=hS.to [4] z
       refine ⟨fun _=>hT,.by1 10 z (.appv hr1 (hS.to [5,3,0,0,0,0] z) T.u97 T.t140 z z z ?_ z z z z z) (by kernel_rfl)⟩
       intro v82 W hS
       have hT:=hS.to [4] z
       refine ⟨fun _=>hT,.ts 11 z (fun W hT=>bs T.s140 z z) hT z (by kernel_rfl) (.by1 13 z (.st T.t140 hS.p1 z z z ?_ z z z z z) (by kernel_rfl))⟩
       intro W hS
       refine ⟨fun h=>absurd z h,?_⟩
       refine .done ?_ (by kernel_rfl)
       have hS:=hS.nilv 140 8 dStmt
       exact ⟨z,g22,v80,v82,nilH,sb z,hS.to [4,1,2,1,0] z⟩
      refine (.alloc T.t140 hS ?_ z z z)
      intro g23 W hS
      have hT:=hS.to [5] z
      refine ⟨fun _=>hT,?_⟩
      have hS:=hS.p1
      have hS:=hS.p3
      refine .by1 6 z (.callS2 (L0:=[rowV (sv v78) 138 3 dExpr y6.Args,rowV (sv v79) 138 3 dExpr y8.Args]) hS Tryz.func149 (fun S h1 h2 h3=>(f05 hy9 h2 (zz h1))) z z ?_ z z z z) (by kernel_rfl)
      rintro v83 W hS
      have hT:=hS.to [4] z
      refine ⟨fun _=>hT,.by1 10 z (.appv hr1 (hS.to [5,3,0,0,0,0] z) T.u97 T.t140 z z z ?_ z z z z z) (by kernel_rfl)⟩
      intro v84 W hS
      have hT:=hS.to [4] z
      refine ⟨fun _=>hT,.ts 11 z (fun W hT=>bs T.s140 z z) hT z (by kernel_rfl) (.by1 13 z (.st T.t140 hS.p2 z z z ?_ z z z z z) (by kernel_rfl))⟩
      intro W hS
      refine ⟨fun h=>absurd z h,?_⟩
      refine .done ?_ (by kernel_rfl)
      have hS:=hS.nilv 140 8 dStmt
      exact ⟨z,g23,v83,v84,nilH,sb z,hS.to [4,1,2,1,0] z⟩
     refine (.alloc T.t140 hS ?_ z z z)
     intro g24 W hS
     have hT:=hS.to [4] z
     refine ⟨fun _=>hT,.by1 5 z (.call1v hS Tryz.func150 (f06 hy8) z z ?_ z z z z) (by kernel_rfl)⟩
     intro v85 W hS
     have hT:=hS.to [5] z
     refine ⟨fun _=>hT,?_⟩
     have hS:=hS.p3
     refine .by1 6 z (.callS2 (L0:=[rowV (sv v78) 138 3 dExpr y6.Args,rowV (sv v85) 138 3 dExpr y8.Args]) hS Tryz.func149 (fun S h1 h2 h3=>(f05 hy9 h2 (zz h1))) z z ?_ z z z z) (by kernel_rfl)
     rintro v86 W hS
     have hT:=hS.to [4] z
     refine ⟨fun _=>hT,.by1 10 z (.appv hr1 (hS.to [5,3,0,0,0,0] z) T.u97 T.t140 z z z ?_ z z z z z) (by kernel_rfl)⟩
     intro v87 W hS
     have hT:=hS.to [4] z
     refine ⟨fun _=>hT,.ts 11 z (fun W hT=>bs T.s140 z z) hT z (by kernel_rfl) (.by1 13 z (.st T.t140 hS.p2 z z z ?_ z z z z z) (by kernel_rfl))⟩
     intro W hS
     refine ⟨fun h=>absurd z h,?_⟩
     refine .done ?_ (by kernel_rfl)
     have hS:=hS.nilv 140 8 dStmt
     exact ⟨z,g24,v86,v87,nilH,sb z,hS.to [4,1,2,1,0] z⟩
    refine (.alloc T.t140 hS ?_ z z z)
    intro g25 W hS
    have hT:=hS.to [3] z
    refine ⟨fun _=>hT,?_⟩
    have hS:=hS.p4
    refine .by1 3 z (.callS2 (L0:=[.box g_0 54 [(sv v_0_b),.int .i64 y2.2]]) hS Tryz.func19 (fun S h1 h2 h3=>(f00 hy7 (hS.keepS q_0_b h1) h2 (zz h1))) z z ?_ z z z z) (by kernel_rfl)
    rintro ⟨⟩ W hS
    have hT:=hS.to [4] z
    refine ⟨fun _=>hT,.tp 4 z z hT (by kernel_rfl) (.by1 5 z (.call1v hS Tryz.func150 (f06 hy8) z z ?_ z z z z) (by kernel_rfl))⟩
    intro v88 W hS
    have hT:=hS.to [5] z
    refine ⟨fun _=>hT,?_⟩
    have hS:=hS.p3
    refine .by1 6 z (.callS2 (L0:=[rowV (sv v78) 138 3 dExpr y6.Args,rowV (sv v88) 138 3 dExpr y8.Args]) hS Tryz.func149 (fun S h1 h2 h3=>(f05 hy9 h2 (zz h1))) z z ?_ z z z z) (by kernel_rfl)
    rintro v89 W hS
    have hT:=hS.to [4] z
    refine ⟨fun _=>hT,.by1 10 z (.appv hr1 (hS.to [5,3,0,0,0,0] z) T.u97 T.t140 z z z ?_ z z z z z) (by kernel_rfl)⟩
    intro v90 W hS
    have hT:=hS.to [4] z
    refine ⟨fun _=>hT,.ts 11 z (fun W hT=>bs T.s140 z z) hT z (by kernel_rfl) (.by1 13 z (.st T.t140 hS.p3 z z z ?_ z z z z z) (by kernel_rfl))⟩
    intro W hS
    refine ⟨fun h=>absurd z h,?_⟩
    refine .done ?_ (by kernel_rfl)
    have hS:=hS.nilv 140 8 dStmt
    exact ⟨z,g25,v89,v90,nilH,sb z,hS.to [4,1,2,1,0] z⟩
   refine (.alloc T.t140 hS ?_ z z z)
   intro g26 W hS
   have hT:=hS.to [2] z
   refine ⟨fun _=>hT,.by1 1 z (.call1v hS Tryz.func150 (f06 hy6) z z ?_ z z z z) (by kernel_rfl)⟩
   intro v91 W hS
   have hT:=hS.to [3] z
   refine ⟨fun _=>hT,?_⟩
   have hS:=hS.p4
   refine .by1 3 z (.callS2 (L0:=[.box g_0 54 [(sv v_0_b),.int .i64 y2.2]]) hS Tryz.func19 (fun S h1 h2 h3=>(f00 hy7 (hS.keepS q_0_b h1) h2 (zz h1))) z z ?_ z z z z) (by kernel_rfl)
   rintro ⟨⟩ W hS
   have hT:=hS.to [4] z
   refine ⟨fun _=>hT,.tp 4 z z hT (by kernel_rfl) (.by1 5 z (.call1v hS Tryz.func150 (f06 hy8) z z ?_ z z z z) (by kernel_rfl))⟩
   intro v92 W hS
   have hT:=hS.to [5] z
   refine ⟨fun _=>hT,?_⟩
   have hS:=hS.p2
   refine .by1 6 z (.callS2 (L0:=[rowV (sv v91) 138 3 dExpr y6.Args,rowV (sv v92) 138 3 dExpr y8.Args]) hS Tryz.func149 (fun S h1 h2 h3=>(f05 hy9 h2 (zz h1))) z z ?_ z z z z) (by kernel_rfl)
   rintro v93 W hS
   have hT:=hS.to [4] z
   refine ⟨fun _=>hT,.by1 10 z (.appv hr1 (hS.to [5,3,0,0,0,0] z) T.u97 T.t140 z z z ?_ z z z z z) (by kernel_rfl)⟩
   intro v94 W hS
   have hT:=hS.to [4] z
   refine ⟨fun _=>hT,.ts 11 z (fun W hT=>bs T.s140 z z) hT z (by kernel_rfl) (.by1 13 z (.st T.t140 hS.p3 z z z ?_ z z z z z) (by kernel_rfl))⟩
   intro W hS
   refine ⟨fun h=>absurd z h,?_⟩
   refine .done ?_ (by kernel_rfl)
   have hS:=hS.nilv 140 8 dStmt
   exact ⟨z,g26,v93,v94,nilH,sb z,hS.to [4,1,2,1,0] z⟩
  refine (.alloc T.t140 hS ?_ z z z)
  intro g27 W hS
  have hT:=hS.to [1] z
  refine ⟨fun _=>hT,.by [1,9] ⟨⟨_,z,?_⟩,⟨_,z,?_⟩,trivial⟩ (by kernel_rfl) z⟩
  ·refine (.call1v hS Tryz.func150 (f06 hy6) z z ?_ z z z z)
   intro v95 W hS
   have hT:=hS.to [2] z
   refine ⟨fun _=>hT,.by [3,9] ⟨⟨_,z,?_⟩,⟨_,z,?_⟩,trivial⟩ (by kernel_rfl) z⟩
   ·have hS:=hS.p4
    refine (.callS2 (L0:=[.box g_0 54 [(sv v_0_b),.int .i64 y2.2]]) hS Tryz.func19 (fun S h1 h2 h3=>(f00 hy7 (hS.keepS q_0_b h1) h2 (zz h1))) z z ?_ z z z z)
    rintro ⟨⟩ W hS
    have hT:=hS.to [3] z
    refine ⟨fun _=>hT,.tp 4 z z hT (by kernel_rfl) (.by [5,9] ⟨⟨_,z,?_⟩,⟨_,z,?_⟩,trivial⟩ (by kernel_rfl) z)⟩
    ·refine (.call1v hS Tryz.func150 (f06 hy8) z z ?_ z z z z)
     intro v96 W hS
     have hT:=hS.to [4] z
     refine ⟨fun _=>hT,.by [6,9] ⟨⟨_,z,?_⟩,⟨_,z,?_⟩,trivial⟩ (by kernel_rfl) z⟩
     ·have hS:=hS.p2
      refine (.callS2 (L0:=[rowV (sv v95) 138 3 dExpr y6.Args,rowV (sv v96) 138 3 dExpr y8.Args]) hS Tryz.func149 (fun S h1 h2 h3=>(f05 hy9 h2 (zz h1))) z z ?_ z z z z)
      rintro v97 W hS
      have hT:=hS.to [3] z
      refine ⟨fun _=>hT,?_⟩
      have hS:=hS.nilv 140 8 dStmt
      have hS:=hS.nilv 140 8 dStmt
      refine .by1 9 z (.ligv (L1:=[rowV (sv v4) 138 3 dExpr y5.Args,rowV (sv nilH) 140 8 dStmt [],rowV (sv nilH) 140 8 dStmt []]) [(Stmt.mk 1 3 0 (Expr.mk y5.Op y5.N y5.Args) [] [])] dStmt T.u97 T.t140 (hS.to [6,1,0,0,0,0,0,0] z) z z z (.aggE (eStmt _) (.flat (c1:=[.int .i64 1]) z (.flat (c1:=[.int .i64 3]) z (.flat (c1:=[.int .i64 0]) z (.aggE (eExpr _) (.flat (c1:=[.int .i64 y5.Op]) z (.flat (c1:=[.int .i64 y5.N]) z (.row (.row (.row .nil)))))))))) ?_ z zStmt z z z z z) (by kernel_rfl)
      intro v98 W hS
      have hT:=hS.to [4] z
      refine ⟨fun _=>hT,.by1 10 z (.appv hr1 (hS.to [5,0,0,0,0,0] z) T.u97 T.t140 z z z ?_ z z z z z) (by kernel_rfl)⟩
      intro v99 W hS
      have hT:=hS.to [4] z
      refine ⟨fun _=>hT,.ts 11 z (fun W hT=>bs T.s140 z z) hT z (by kernel_rfl) (.by1 13 z (.st T.t140 hS.p3 z z z ?_ z z z z z) (by kernel_rfl))⟩
      intro W hS
      refine ⟨fun h=>absurd z h,?_⟩
      refine .done ?_ (by kernel_rfl)
      have hS:=hS.nilv 140 8 dStmt
      exact ⟨z,g27,v97,v99,nilH,sb z,hS.to [4,1,2,1,0] z⟩
     have hS:=hS.nilv 140 8 dStmt
     have hS:=hS.nilv 140 8 dStmt
     refine (.ligv (L1:=[rowV (sv v4) 138 3 dExpr y5.Args,rowV (sv nilH) 140 8 dStmt [],rowV (sv nilH) 140 8 dStmt []]) [(Stmt.mk 1 3 0 (Expr.mk y5.Op y5.N y5.Args) [] [])] dStmt T.u97 T.t140 (hS.to [7,1,0,0,0,0,0,0,0] z) z z z (.aggE (eStmt _) (.flat (c1:=[.int .i64 1]) z (.flat (c1:=[.int .i64 3]) z (.flat (c1:=[.int .i64 0]) z (.aggE (eExpr _) (.flat (c1:=[.int .i64 y5.Op]) z (.flat (c1:=[.int .i64 y5.N]) z (.row (.row (.row .nil)))))))))) ?_ z zStmt z z z z z)
     intro v100 W hS
     have hT:=hS.to [5] z
     refine ⟨fun _=>hT,?_⟩
     have hS:=hS.p1
     have hS:=hS.p3
     refine .by1 6 z (.callS2 (L0:=[rowV (sv v95) 138 3 dExpr y6.Args,rowV (sv v96) 138 3 dExpr y8.Args]) hS Tryz.func149 (fun S h1 h2 h3=>(f05 hy9 h2 (zz h1))) z z ?_ z z z z) (by kernel_rfl)
     rintro v101 W hS
     have hT:=hS.to [4] z
     refine ⟨fun _=>hT,.by1 10 z (.appv hr1 (hS.to [5,1,0,0,0,0] z) T.u97 T.t140 z z z ?_ z z z z z) (by kernel_rfl)⟩
     intro v102 W hS
     have hT:=hS.to [4] z
     refine ⟨fun _=>hT,.ts 11 z (fun W hT=>bs T.s140 z z) hT z (by kernel_rfl) (.by1 13 z (.st T.t140 hS.p3 z z z ?_ z z z z z) (by kernel_rfl))⟩
     intro W hS
     refine ⟨fun h=>absurd z h,?_⟩
     refine .done ?_ (by kernel_rfl)
     have hS:=hS.nilv 140 8 dStmt
     exact ⟨z,g27,v101,v102,nilH,sb z,hS.to [4,1,2,1,0] z⟩
    have hS:=hS.nilv 140 8 dStmt
    have hS:=hS.nilv 140 8 dStmt
    refine (.ligv (L1:=[rowV (sv v4) 138 3 dExpr y5.Args,rowV (sv nilH) 140 8 dStmt [],rowV (sv nilH) 140 8 dStmt []]) [(Stmt.mk 1 3 0 (Expr.mk y5.Op y5.N y5.Args) [] [])] dStmt T.u97 T.t140 (hS.to [6,1,0,0,0,0,0,0] z) z z z (.aggE (eStmt _) (.flat (c1:=[.int .i64 1]) z (.flat (c1:=[.int .i64 3]) z (.flat (c1:=[.int .i64 0]) z (.aggE (eExpr _) (.flat (c1:=[.int .i64 y5.Op]) z (.flat (c1:=[.int .i64 y5.N]) z (.row (.row (.row .nil)))))))))) ?_ z zStmt z z z z z)
    intro v103 W hS
    have hT:=hS.to [4] z
    refine ⟨fun _=>hT,.by1 5 z (.call1v hS Tryz.func150 (f06 hy8) z z ?_ z z z z) (by kernel_rfl)⟩
    intro v104 W hS
    have hT:=hS.to [5] z
    refine ⟨fun _=>hT,?_⟩
    have hS:=hS.p3
    refine .by1 6 z (.callS2 (L0:=[rowV (sv v95) 138 3 dExpr y6.Args,rowV (sv v104) 138 3 dExpr y8.Args]) hS Tryz.func149 (fun S h1 h2 h3=>(f05 hy9 h2 (zz h1))) z z ?_ z z z z) (by kernel_rfl)
    rintro v105 W hS
    have hT:=hS.to [4] z
    refine ⟨fun _=>hT,.by1 10 z (.appv hr1 (hS.to [5,1,0,0,0,0] z) T.u97 T.t140 z z z ?_ z z z z z) (by kernel_rfl)⟩
    intro v106 W hS
    have hT:=hS.to [4] z
    refine ⟨fun _=>hT,.ts 11 z (fun W hT=>bs T.s140 z z) hT z (by kernel_rfl) (.by1 13 z (.st T.t140 hS.p3 z z z ?_ z z z z z) (by kernel_rfl))⟩
    intro W hS
    refine ⟨fun h=>absurd z h,?_⟩
    refine .done ?_ (by kernel_rfl)
    have hS:=hS.nilv 140 8 dStmt
    exact ⟨z,g27,v105,v106,nilH,sb z,hS.to [4,1,2,1,0] z⟩
   have hS:=hS.nilv 140 8 dStmt
   have hS:=hS.nilv 140 8 dStmt
   refine (.ligv (L1:=[rowV (sv v4) 138 3 dExpr y5.Args,rowV (sv nilH) 140 8 dStmt [],rowV (sv nilH) 140 8 dStmt []]) [(Stmt.mk 1 3 0 (Expr.mk y5.Op y5.N y5.Args) [] [])] dStmt T.u97 T.t140 (hS.to [5,1,0,0,0,0,0,0] z) z z z (.aggE (eStmt _) (.flat (c1:=[.int .i64 1]) z (.flat (c1:=[.int .i64 3]) z (.flat (c1:=[.int .i64 0]) z (.aggE (eExpr _) (.flat (c1:=[.int .i64 y5.Op]) z (.flat (c1:=[.int .i64 y5.N]) z (.row (.row (.row .nil)))))))))) ?_ z zStmt z z z z z)
   intro v107 W hS
   have hT:=hS.to [3] z
   refine ⟨fun _=>hT,?_⟩
   have hS:=hS.p4
   refine .by1 3 z (.callS2 (L0:=[.box g_0 54 [(sv v_0_b),.int .i64 y2.2]]) hS Tryz.func19 (fun S h1 h2 h3=>(f00 hy7 (hS.keepS q_0_b h1) h2 (zz h1))) z z ?_ z z z z) (by kernel_rfl)
   rintro ⟨⟩ W hS
   have hT:=hS.to [4] z
   refine ⟨fun _=>hT,.tp 4 z z hT (by kernel_rfl) (.by1 5 z (.call1v hS Tryz.func150 (f06 hy8) z z ?_ z z z z) (by kernel_rfl))⟩
   intro v108 W hS
   have hT:=hS.to [5] z
   refine ⟨fun _=>hT,?_⟩
   have hS:=hS.p3
   refine .by1 6 z (.callS2 (L0:=[rowV (sv v95) 138 3 dExpr y6.Args,rowV (sv v108) 138 3 dExpr y8.Args]) hS Tryz.func149 (fun S h1 h2 h3=>(f05 hy9 h2 (zz h1))) z z ?_ z z z z) (by kernel_rfl)
   rintro v109 W hS
   have hT:=hS.to [4] z
   refine ⟨fun _=>hT,.by1 10 z (.appv hr1 (hS.to [5,2,0,0,0,0] z) T.u97 T.t140 z z z ?_ z z z z z) (by kernel_rfl)⟩
   intro v110 W hS
   have hT:=hS.to [4] z
   refine ⟨fun _=>hT,.ts 11 z (fun W hT=>bs T.s140 z z) hT z (by kernel_rfl) (.by1 13 z (.st T.t140 hS.p3 z z z ?_ z z z z z) (by kernel_rfl))⟩
   intro W hS
   refine ⟨fun h=>absurd z h,?_⟩
   refine .done ?_ (by kernel_rfl)
   have hS:=hS.nilv 140 8 dStmt
   exact ⟨z,g27,v109,v110,nilH,sb z,hS.to [4,1,2,1,0] z⟩
  have hS:=hS.nilv 140 8 dStmt
  have hS:=hS.nilv 140 8 dStmt
  refine (.ligv (L1:=[rowV (sv v4) 138 3 dExpr y5.Args,rowV (sv nilH) 140 8 dStmt [],rowV (sv nilH) 140 8 dStmt []]) [(Stmt.mk 1 3 0 (Expr.mk y5.Op y5.N y5.Args) [] [])] dStmt T.u97 T.t140 (hS.to [4,1,0,0,0,0,0] z) z z z (.aggE (eStmt _) (.flat (c1:=[.int .i64 1]) z (.flat (c1:=[.int .i64 3]) z (.flat (c1:=[.int .i64 0]) z (.aggE (eExpr _) (.flat (c1:=[.int .i64 y5.Op]) z (.flat (c1:=[.int .i64 y5.N]) z (.row (.row (.row .nil)))))))))) ?_ z zStmt z z z z z)
  intro v111 W hS
  have hT:=hS.to [2] z
  refine ⟨fun _=>hT,.by1 1 z (.call1v hS Tryz.func150 (f06 hy6) z z ?_ z z z z) (by kernel_rfl)⟩
  intro v112 W hS
  have hT:=hS.to [3] z
  refine ⟨fun _=>hT,?_⟩
  have hS:=hS.p4
  refine .by1 3 z (.callS2 (L0:=[.box g_0 54 [(sv v_0_b),.int .i64 y2.2]]) hS Tryz.func19 (fun S h1 h2 h3=>(f00 hy7 (hS.keepS q_0_b h1) h2 (zz h1))) z z ?_ z z z z) (by kernel_rfl)
  rintro ⟨⟩ W hS
  have hT:=hS.to [4] z
  refine ⟨fun _=>hT,.tp 4 z z hT (by kernel_rfl) (.by1 5 z (.call1v hS Tryz.func150 (f06 hy8) z z ?_ z z z z) (by kernel_rfl))⟩
  intro v113 W hS
  have hT:=hS.to [5] z
  refine ⟨fun _=>hT,?_⟩
  have hS:=hS.p2
  refine .by1 6 z (.callS2 (L0:=[rowV (sv v112) 138 3 dExpr y6.Args,rowV (sv v113) 138 3 dExpr y8.Args]) hS Tryz.func149 (fun S h1 h2 h3=>(f05 hy9 h2 (zz h1))) z z ?_ z z z z) (by kernel_rfl)
  rintro v114 W hS
  have hT:=hS.to [4] z
  refine ⟨fun _=>hT,.by1 10 z (.appv hr1 (hS.to [5,2,0,0,0,0] z) T.u97 T.t140 z z z ?_ z z z z z) (by kernel_rfl)⟩
  intro v115 W hS
  have hT:=hS.to [4] z
  refine ⟨fun _=>hT,.ts 11 z (fun W hT=>bs T.s140 z z) hT z (by kernel_rfl) (.by1 13 z (.st T.t140 hS.p3 z z z ?_ z z z z z) (by kernel_rfl))⟩
  intro W hS
  refine ⟨fun h=>absurd z h,?_⟩
  refine .done ?_ (by kernel_rfl)
  have hS:=hS.nilv 140 8 dStmt
  exact ⟨z,g27,v114,v115,nilH,sb z,hS.to [4,1,2,1,0] z⟩
 intro x E W hJ
 obtain ⟨rfl,g28,v116,v117,v118,hE,hS⟩:=hJ
 refine ⟨_,hE.sub,?_⟩
 refine .seq (.rk 6 hS [0,0] T.mix ?_)
 intro W hS
 have hT:=hS.to [0,0] z
 refine .tp 0 z z hT (by kernel_rfl) (.ts 3 z (fun W hT=>ld T.t140 hT.p1 z z z z z) hT z (by kernel_rfl) ?_)
 have ⟨y10,hy10,h⟩:=bnd h
 refine .by1 1 z (.call1v hS Tryz.func150 (f06 hy10) z z ?_ z z z z) (by kernel_rfl)
 intro v119 W hS
 have hT:=hS.to [1,1] z
 refine ⟨fun _=>hT,.ts 2 z (fun W hT=>bs T.s140 z z) hT z (by kernel_rfl) ?_⟩
 have hS:=hS.nilv 140 8 dStmt
 have hS:=hS.nilv 140 8 dStmt
 refine .by1 4 z (.ligv (L1:=[rowV (sv v119) 138 3 dExpr y10.Args,rowV (sv nilH) 140 8 dStmt [],rowV (sv nilH) 140 8 dStmt [],rowV (sv v116) 138 3 dExpr y9.Args,rowV (sv v117) 140 8 dStmt r1,rowV (sv v118) 140 8 dStmt []]) [(Stmt.mk 1 3 0 (Expr.mk y10.Op y10.N y10.Args) [] []),(Stmt.mk 3 0 0 (Expr.mk y9.Op y9.N y9.Args) r1 [])] dStmt T.u97 T.t140 (hS.to [2,1,0,2,2,2,0,0] z) z z z (.aggE (eStmt _) (.flat (c1:=[.int .i64 1]) z (.flat (c1:=[.int .i64 3]) z (.flat (c1:=[.int .i64 0]) z (.aggE (eExpr _) (.flat (c1:=[.int .i64 y10.Op]) z (.flat (c1:=[.int .i64 y10.N]) z (.row (.row (.row (.aggE (eStmt _) (.flat (c1:=[.int .i64 3]) z (.flat (c1:=[.int .i64 0]) z (.flat (c1:=[.int .i64 0]) z (.aggE (eExpr _) (.flat (c1:=[.int .i64 y9.Op]) z (.flat (c1:=[.int .i64 y9.N]) z (.row (.row (.row .nil)))))))))))))))))))) ?_ z zStmt z z z z z) (by kernel_rfl)
 intro v120 W hS
 have hT:=hS.to [1,1] z
 refine ⟨fun _=>hT,?_⟩
 cases h
 exact .tp 5 z z hT (by kernel_rfl) (.done (.ret (fin_ret (vs:=[_]) v120 (rt z rn) z (hS.to [1,0] z))) (by kernel_rfl))
theorem fbo (k : Nat) : f2h (f2b k) ∧ f48 (f5s k) ∧ f5p (fa4 k) ∧ f49 (f7v k):=by
  induction k with
  | zero=>exact ⟨by intro a0 a1 a2 a3 a4 v_0_b g_0 S w r h q_0_b hO hlt; exact no h,by intro a0 a1 a2 a3 v_0_b g_0 S w r h q_0_b hO hlt; exact no h,by intro a0 a1 a2 a3 v_0_b g_0 S w r h q_0_b hO hlt; exact no h,by intro a0 a1 a2 v_0_b g_0 S w r h q_0_b hO hlt; exact no h⟩
  | succ k ih=>exact ⟨feg (k:=k) ih.1 ih.2.1 ih.2.2.1 ih.2.2.2,fex (k:=k) ih.1 ih.2.1 ih.2.2.1 ih.2.2.2,ffj (k:=k) ih.1 ih.2.1 ih.2.2.1 ih.2.2.2,ff4 (k:=k) ih.1 ih.2.1 ih.2.2.1 ih.2.2.2⟩
theorem fdc {k : Nat} : f2h (f2b k):=(fbo k).1
theorem fd8 {k : Nat} {a0 : L6Rd} {a1 : Int} {v_0_b : Hd} {g_0 : Nat} {S : Nat → Prop} {w : World} {r : (List Stmt) × Int} (h : f6q k a0 a1 = some r) (q_0_b : RV w (Old S w) (sv v_0_b) 5 1 (D.int .u8) a0.b) (hO : Owns w [.box g_0 54 [(sv v_0_b),.int .i64 a0.p]] S) (hlt : ∀ b,S b → b < w.heap.size) : Calls Tryz.prog 56 #[.pointer (some ⟨g_0,0,none⟩),.int .i64 a1] w (Ret S w (fun s : Hd=>(sv s)) (fun s=>[.box g_0 54 [(sv v_0_b),.int .i64 r.2],rowV (sv s) 140 8 dStmt r.1])):=by
 unfold f6q at h
 refine enter Tryz.func56 z z ?_
 have hS:=Sep.startM hO hlt
 refine .g (.qn z (.g (.q z (.q z (.q z ?_)))))
 have ⟨y1,hy1,h⟩:=bnd h
 refine .c (.callS2 (L0:=[.box g_0 54 [(sv v_0_b),.int .i64 a0.p]]) hS Tryz.func19 (fun S h1 h2 h3=>(f00 hy1 (hS.keepS q_0_b h1) h2 (zz h1))) z z ?_ z z z z)
 rintro ⟨⟩ W hS
 refine .q z ?_
 have ⟨y2,hy2,h⟩:=bnd h
 refine .c (.callS2 (L0:=[.box g_0 54 [(sv v_0_b),.int .i64 y1.2]]) hS Tryz.func78 (fun S h1 h2 h3=>(fdc hy2 (hS.keepS q_0_b h1) h2 (zz h1))) z z ?_ z z z z)
 rintro v1 W hS
 refine .qn z (.seq (.block ?_))
 have ⟨y3,hy3,h⟩:=bnd h
 refine .via (.iter (fun s1 E' W'=>∃ (v4 : Hd),SubL E' [(5,(sv v4))] ∧ Sep S w W' [.box g_0 54 [(sv v_0_b),.int .i64 y2.2],rowV (sv v4) 140 8 dStmt s1]) (fun y4 x E' W'=>x = .exit 0 ∧ ∃ (v5 : Hd),SubL E' [(5,(sv v5))] ∧ Sep S w W' [.box g_0 54 [(sv v_0_b),.int .i64 y2.2],rowV (sv v5) 140 8 dStmt y4]) hy3 ⟨v1,sb z,hS.to [0,0] z⟩ ?_) ?_
 ·intro s1 y5 E W h hI
  obtain ⟨v3,hE,hS⟩:=hI
  refine CW.sub hE ?_
  unfold f9g at h
  refine .seq (.g (.q z ?_))
  have ⟨y6,hy6,h⟩:=bnd h
  refine .c (.call0 hS Tryz.func79 (fax hy6 hS.p1.lendv) z z ?_ z z z z)
  intro W hS
  refine .q z (.nil ?_)
  refine .cs z h ?_ ?_ <;> intro h
  ·refine .skip (.block (.region (.q z (.q z (.s (lenv hS.p1.lendv T.u97 z z) z (.q z ?_))))))
   have ⟨r1,hr1,h⟩:=bnd h
   refine .c (.cuto hr1 hS.p1 T.u97 T.t140 z z z z ?_ z z)
   intro v6 hS
   refine .q z (.nil ?_)
   cases h
   exact ⟨z,v6,sb z,hS.to [1,0] z⟩
  refine .exit ?_
  cases h
  exact ⟨by simp,z,v3,sb z,hS.to [0,0] z⟩
 intro x E W hJ
 obtain ⟨rfl,v7,hE,hS⟩:=hJ
 refine ⟨_,hE.sub,?_⟩
 cases h
 exact .g (.q z (.qn z (.ret (fin_ret (vs:=[_]) v7 (rt z rn) z (hS.to [0,0] z)))))
theorem f1u {a0 : Int} {w : World} {r : Bool} (h : f0v a0 = some r) : Calls Tryz.prog 43 #[.int .i64 a0] w (Ret No w (fun s : Unit=>.bool r) (fun s=>[])):=by
 unfold f0v at h
 refine enter Tryz.func43 z z ?_
 have hS:=Sep.start w
 refine .g (.qn z (.g (.q z ?_)))
 have ⟨y1,hy1,h⟩:=bnd h
 refine .c (.call0 hS Tryz.func27 (f04 hy1) z z ?_ z z z z)
 intro W hS
 obtain rfl:=Option.some.inj h
 exact .qn z (.ret (fin_ret (vs:=[_]) () (rt z rn) z (hS.to [] z)))
theorem fag {a0 : Int} {a1 : Bool} {w : World} {r : Bool} (h : f5c a0 a1 = some r) : Calls Tryz.prog 152 #[.int .i64 a0,.bool a1] w (Ret No w (fun s : Unit=>.bool r) (fun s=>[])):=by
 unfold f5c at h
 refine enter Tryz.func152 z z ?_
 have hS:=Sep.start w
 refine .g (.qn z (.seq (.g (.q z (.nil ?_)))))
 refine .cs z h ?_ ?_ <;> intro h
 ·refine .g (.q z ?_)
  have ⟨y1,hy1,h⟩:=bnd h
  refine .c (.call0 hS Tryz.func27 (f04 hy1) z z ?_ z z z z)
  intro W hS
  obtain rfl:=Option.some.inj h
  exact .qn z (.ret (fin_ret (vs:=[_]) () (rt z rn) z (hS.to [] z)))
 cases h
 exact .skip (.g (.q z (.q z (.qn z (.ret (fin_ret (vs:=[_]) () (rt z rn) z (hS.to [] z)))))))
theorem f1m {a0 : Quad} {a1 : Bool} {a2 : Bool} {a3 : Bool} {w : World} {r : Bool} (h : f17 a0 a1 a2 a3 = some r) : Calls Tryz.prog 129 #[.agg #[.int .i64 a0.Op,.int .i64 a0.Dst,.int .i64 a0.A,.int .i64 a0.B,.int .i64 a0.N],.bool a1,.bool a2,.bool a3] w (Ret No w (fun s : Unit=>.bool r) (fun s=>[])):=by
 unfold f17 at h
 refine enter Tryz.func129 z z ?_
 have hS:=Sep.start w
 refine .g (.c (.box hS z z ?_ z z))
 intro g1 W hS
 refine .qn z (.g (.s (fa T.f82_1 z z z) z (.s (ld T.t3 hS z z z z z) z (.q z ?_))))
 have ⟨y1,hy1,h⟩:=bnd h
 refine .c (.call0 hS Tryz.func152 (fag hy1) z z ?_ z z z z)
 intro W hS
 refine .q z ?_
 have ⟨b1,hb1,h⟩:=bnd h
 refine .chunk 5 18 (b1) hS ?_ ?_
 ·refine .both (y1) (fun hb=>?_) (fun hb=>?_)
  ·have hg1:=hb
   have h:=sel_t hb hb1
   refine .g hg1 (.s (fa T.f82_2 z z z) z (.g hg1 (.s (ld T.t3 hS z z z z z) z (.g hg1 (.q z ?_) z)) z)) z
   have ⟨y2,hy2,h⟩:=bnd h
   refine .g hg1 (.c (.call0 hS Tryz.func152 (fag hy2) z z ?_ z z z z)) z
   intro W hS
   refine .s (pkt hg1 z z z) z ?_
   cases h
   exact .nil (ck 5 hS z z z z)
  refine .xx hb z (.xx hb z (.xx hb z (.xx hb z ?_)))
  cases sel_f hb hb1
  exact .s (pkf hb z z z) z (.nil (ck 5 hS z z z z))
 intro W hS
 refine .q z ?_
 have ⟨b2,hb2,h⟩:=bnd h
 refine .chunk 5 24 (b2) hS ?_ ?_
 ·refine .both (b1) (fun hb=>?_) (fun hb=>?_)
  ·have hg2:=hb
   have h:=sel_t hb hb2
   refine .g hg2 (.s (fa T.f82_3 z z z) z (.g hg2 (.s (ld T.t3 hS z z z z z) z (.g hg2 (.q z ?_) z)) z)) z
   have ⟨y3,hy3,h⟩:=bnd h
   refine .g hg2 (.c (.call0 hS Tryz.func152 (fag hy3) z z ?_ z z z z)) z
   intro W hS
   refine .s (pkt hg2 z z z) z ?_
   cases h
   exact .nil (ck 5 hS z z z z)
  refine .xx hb z (.xx hb z (.xx hb z (.xx hb z ?_)))
  cases sel_f hb hb2
  exact .s (pkf hb z z z) z (.nil (ck 5 hS z z z z))
 intro W hS
 obtain rfl:=Option.some.inj h
 exact .qn z (.ret (fin_ret (vs:=[_]) () (rt z rn) z (hS.to [] z)))
theorem f8v {a0 : Quad} {a1 : Int} {w : World} {r : Bool} (h : f2y a0 a1 = some r) : Calls Tryz.prog 102 #[.agg #[.int .i64 a0.Op,.int .i64 a0.Dst,.int .i64 a0.A,.int .i64 a0.B,.int .i64 a0.N],.int .i64 a1] w (Ret No w (fun s : Unit=>.bool r) (fun s=>[])):=by
 unfold f2y at h
 refine enter Tryz.func102 z z ?_
 have hS:=Sep.start w
 refine .g (.c (.box hS z z ?_ z z))
 intro g1 W hS
 refine .qn z (.seq (.g (.s (fa T.f82_0 z z z) z (.s (ld T.t3 hS z z z z z) z (.nil (.block (.g (.q z (.q z (.nil ?_))))))))))
 refine .cs z h ?_ ?_ <;> intro h
 ·refine .g (.s (ld T.t82 hS z z z z z) z ?_)
  have ⟨y1,hy1,h⟩:=bnd h
  refine .c (.call0 hS Tryz.func129 (f1m hy1) z z ?_ z z z z)
  intro W hS
  refine .q z ?_
  have ⟨b1,hb1,h⟩:=bnd h
  refine .chunk 4 15 (b1) hS ?_ ?_
  ·refine .both (y1) (fun hb=>?_) (fun hb=>?_)
   ·have hg1:=hb
    have h:=sel_t hb hb1
    refine .g hg1 (.s (fa T.f82_4 z z z) z (.g hg1 (.s (ld T.t3 hS z z z z z) z ?_) z)) z
    have ⟨y2,hy2,h⟩:=bnd h
    refine .g hg1 (.c (.call0 hS Tryz.func43 (f1u hy2) z z ?_ z z z z)) z
    intro W hS
    refine .s (pkt hg1 z z z) z ?_
    cases h
    exact .nil (ck 4 hS z z z z)
   refine .xx hb z (.xx hb z (.xx hb z ?_))
   cases sel_f hb hb1
   exact .s (pkf hb z z z) z (.nil (ck 4 hS z z z z))
  intro W hS
  obtain rfl:=Option.some.inj h
  exact .qn z (.ret (fin_ret (vs:=[_]) () (rt z rn) z (hS.to [] z)))
 refine .g (.q z (.q z (.nil ?_)))
 refine .cs z h ?_ ?_ <;> intro h
 ·refine .g (.s (ld T.t82 hS z z z z z) z ?_)
  have ⟨y3,hy3,h⟩:=bnd h
  refine .c (.call0 hS Tryz.func129 (f1m hy3) z z ?_ z z z z)
  intro W hS
  refine .q z (.chunk 4 24 (y3 && (a0.N == 0)) hS ?_ ?_)
  ·refine .both (y3) (fun hb=>?_) (fun hb=>?_)
   ·have hg2:=hb
    exact .g hg2 (.s (fa T.f82_4 z z z) z (.g hg2 (.s (ld T.t3 hS z z z z z) z (.g hg2 (.q z (.s (pkt hg2 z z z) z (.nil (ck 4 hS z (and_t hg2) z z)))) z)) z)) z
   exact .xx hb z (.xx hb z (.xx hb z (.s (pkf hb z z z) z (.nil (ck 4 hS z (and_f hb) z z)))))
  intro W hS
  cases h
  exact .qn z (.ret (fin_ret (vs:=[_]) () (rt z rn) z (hS.to [] z)))
 refine .g (.q z (.q z (.nil ?_)))
 refine .cs z h ?_ ?_ <;> intro h
 ·refine .g (.s (ld T.t82 hS z z z z z) z ?_)
  have ⟨y4,hy4,h⟩:=bnd h
  refine .c (.call0 hS Tryz.func129 (f1m hy4) z z ?_ z z z z)
  intro W hS
  refine .q z ?_
  have ⟨b2,hb2,h⟩:=bnd h
  refine .chunk 4 33 (b2) hS ?_ ?_
  ·refine .both (y4) (fun hb=>?_) (fun hb=>?_)
   ·have hg3:=hb
    have h:=sel_t hb hb2
    refine .g hg3 (.s (fa T.f82_4 z z z) z (.g hg3 (.s (ld T.t3 hS z z z z z) z ?_) z)) z
    have ⟨y5,hy5,h⟩:=bnd h
    refine .g hg3 (.c (.call0 hS Tryz.func130 (fa2 hy5) z z ?_ z z z z)) z
    intro W hS
    refine .s (pkt hg3 z z z) z ?_
    cases h
    exact .nil (ck 4 hS z z z z)
   refine .xx hb z (.xx hb z (.xx hb z ?_))
   cases sel_f hb hb2
   exact .s (pkf hb z z z) z (.nil (ck 4 hS z z z z))
  intro W hS
  obtain rfl:=Option.some.inj h
  exact .qn z (.ret (fin_ret (vs:=[_]) () (rt z rn) z (hS.to [] z)))
 refine .g (.q z (.q z (.nil ?_)))
 refine .cs z h ?_ ?_ <;> intro h
 ·refine .g (.s (ld T.t82 hS z z z z z) z ?_)
  have ⟨y6,hy6,h⟩:=bnd h
  refine .c (.call0 hS Tryz.func129 (f1m hy6) z z ?_ z z z z)
  intro W hS
  refine .q z (.chunk 4 42 (y6 && (decide (a0.N ≥ 0))) hS ?_ ?_)
  ·refine .both (y6) (fun hb=>?_) (fun hb=>?_)
   ·have hg4:=hb
    exact .g hg4 (.s (fa T.f82_4 z z z) z (.g hg4 (.s (ld T.t3 hS z z z z z) z (.g hg4 (.q z (.s (pkt hg4 z z z) z (.nil (ck 4 hS z (and_t hg4) z z)))) z)) z)) z
   exact .xx hb z (.xx hb z (.xx hb z (.s (pkf hb z z z) z (.nil (ck 4 hS z (and_f hb) z z)))))
  intro W hS
  refine .q z (.chunk 5 48 ((y6 && (decide (a0.N ≥ 0))) && (decide (a0.N < a1))) hS ?_ ?_)
  ·refine .both (y6 && (decide (a0.N ≥ 0))) (fun hb=>?_) (fun hb=>?_)
   ·have hg5:=hb
    exact .g hg5 (.s (fa T.f82_4 z z z) z (.g hg5 (.s (ld T.t3 hS z z z z z) z (.g hg5 (.q z (.g hg5 (.q z (.s (pkt hg5 z z z) z (.nil (ck 5 hS z (and_t hg5) z z)))) z)) z)) z)) z
   exact .xx hb z (.xx hb z (.xx hb z (.xx hb z (.s (pkf hb z z z) z (.nil (ck 5 hS z (and_f hb) z z))))))
  intro W hS
  cases h
  exact .qn z (.ret (fin_ret (vs:=[_]) () (rt z rn) z (hS.to [] z)))
 refine .g (.q z (.q z (.nil ?_)))
 refine .cs z h ?_ ?_ <;> intro h
 ·refine .g (.s (ld T.t82 hS z z z z z) z ?_)
  have ⟨y7,hy7,h⟩:=bnd h
  refine .c (.call0 hS Tryz.func129 (f1m hy7) z z ?_ z z z z)
  intro W hS
  refine .q z (.chunk 4 57 (y7 && (decide (a0.N ≥ 0))) hS ?_ ?_)
  ·refine .both (y7) (fun hb=>?_) (fun hb=>?_)
   ·have hg6:=hb
    exact .g hg6 (.s (fa T.f82_4 z z z) z (.g hg6 (.s (ld T.t3 hS z z z z z) z (.g hg6 (.q z (.s (pkt hg6 z z z) z (.nil (ck 4 hS z (and_t hg6) z z)))) z)) z)) z
   exact .xx hb z (.xx hb z (.xx hb z (.s (pkf hb z z z) z (.nil (ck 4 hS z (and_f hb) z z)))))
  intro W hS
  refine .q z (.chunk 5 63 ((y7 && (decide (a0.N ≥ 0))) && (decide (a0.N < a1))) hS ?_ ?_)
  ·refine .both (y7 && (decide (a0.N ≥ 0))) (fun hb=>?_) (fun hb=>?_)
   ·have hg7:=hb
    exact .g hg7 (.s (fa T.f82_4 z z z) z (.g hg7 (.s (ld T.t3 hS z z z z z) z (.g hg7 (.q z (.g hg7 (.q z (.s (pkt hg7 z z z) z (.nil (ck 5 hS z (and_t hg7) z z)))) z)) z)) z)) z
   exact .xx hb z (.xx hb z (.xx hb z (.xx hb z (.s (pkf hb z z z) z (.nil (ck 5 hS z (and_f hb) z z))))))
  intro W hS
  cases h
  exact .qn z (.ret (fin_ret (vs:=[_]) () (rt z rn) z (hS.to [] z)))
 refine .g (.q z (.q z (.nil ?_)))
 refine .cs z h ?_ ?_ <;> intro h
 ·refine .g (.s (ld T.t82 hS z z z z z) z ?_)
  have ⟨y8,hy8,h⟩:=bnd h
  refine .c (.call0 hS Tryz.func129 (f1m hy8) z z ?_ z z z z)
  intro W hS
  refine .q z ?_
  have ⟨b3,hb3,h⟩:=bnd h
  refine .chunk 4 72 (b3) hS ?_ ?_
  ·refine .both (y8) (fun hb=>?_) (fun hb=>?_)
   ·have hg8:=hb
    have h:=sel_t hb hb3
    refine .g hg8 (.s (fa T.f82_4 z z z) z (.g hg8 (.s (ld T.t3 hS z z z z z) z ?_) z)) z
    have ⟨y9,hy9,h⟩:=bnd h
    refine .g hg8 (.c (.call0 hS Tryz.func27 (f04 hy9) z z ?_ z z z z)) z
    intro W hS
    refine .s (pkt hg8 z z z) z ?_
    cases h
    exact .nil (ck 4 hS z z z z)
   refine .xx hb z (.xx hb z (.xx hb z ?_))
   cases sel_f hb hb3
   exact .s (pkf hb z z z) z (.nil (ck 4 hS z z z z))
  intro W hS
  obtain rfl:=Option.some.inj h
  exact .qn z (.ret (fin_ret (vs:=[_]) () (rt z rn) z (hS.to [] z)))
 refine .g (.q z (.q z (.nil ?_)))
 refine .cs z h ?_ ?_ <;> intro h
 ·refine .g (.s (ld T.t82 hS z z z z z) z ?_)
  have ⟨y10,hy10,h⟩:=bnd h
  refine .c (.call0 hS Tryz.func129 (f1m hy10) z z ?_ z z z z)
  intro W hS
  refine .q z ?_
  have ⟨b4,hb4,h⟩:=bnd h
  refine .chunk 4 81 (b4) hS ?_ ?_
  ·refine .both (y10) (fun hb=>?_) (fun hb=>?_)
   ·have hg9:=hb
    have h:=sel_t hb hb4
    refine .g hg9 (.s (fa T.f82_4 z z z) z (.g hg9 (.s (ld T.t3 hS z z z z z) z ?_) z)) z
    have ⟨y11,hy11,h⟩:=bnd h
    refine .g hg9 (.c (.call0 hS Tryz.func27 (f04 hy11) z z ?_ z z z z)) z
    intro W hS
    refine .s (pkt hg9 z z z) z ?_
    cases h
    exact .nil (ck 4 hS z z z z)
   refine .xx hb z (.xx hb z (.xx hb z ?_))
   cases sel_f hb hb4
   exact .s (pkf hb z z z) z (.nil (ck 4 hS z z z z))
  intro W hS
  obtain rfl:=Option.some.inj h
  exact .qn z (.ret (fin_ret (vs:=[_]) () (rt z rn) z (hS.to [] z)))
 refine .g (.q z (.q z (.nil ?_)))
 refine .cs z h ?_ ?_ <;> intro h
 ·refine .g (.s (ld T.t82 hS z z z z z) z ?_)
  have ⟨y12,hy12,h⟩:=bnd h
  refine .c (.call0 hS Tryz.func129 (f1m hy12) z z ?_ z z z z)
  intro W hS
  refine .q z (.chunk 4 90 (y12 && (a0.N == 0)) hS ?_ ?_)
  ·refine .both (y12) (fun hb=>?_) (fun hb=>?_)
   ·have hg10:=hb
    exact .g hg10 (.s (fa T.f82_4 z z z) z (.g hg10 (.s (ld T.t3 hS z z z z z) z (.g hg10 (.q z (.s (pkt hg10 z z z) z (.nil (ck 4 hS z (and_t hg10) z z)))) z)) z)) z
   exact .xx hb z (.xx hb z (.xx hb z (.s (pkf hb z z z) z (.nil (ck 4 hS z (and_f hb) z z)))))
  intro W hS
  cases h
  exact .qn z (.ret (fin_ret (vs:=[_]) () (rt z rn) z (hS.to [] z)))
 have ⟨y13,hy13,h⟩:=bnd h
 refine .seq (CW.via (R':=fun x E' W'=>x = .normal ∧ SubL E' [(2,.pointer (some ⟨g1,0,none⟩)),(91,.bool y13)] ∧ Sep No w W' [.box g1 82 [.int .i64 a0.Op,.int .i64 a0.Dst,.int .i64 a0.A,.int .i64 a0.B,.int .i64 a0.N]]) ?_ ?_)
 ·have h:=hy13
  refine .g (.q z (.q z (.nil ?_)))
  refine .cs z h ?_ ?_ <;> intro h
  ·refine .skip ?_
   cases h
   exact ⟨z,sb z,hS.to [0] z⟩
  refine .region (.q z (.q z (.nil ?_)))
  cases h
  exact ⟨z,sb z,hS.to [0] z⟩
 intro x E W hJ
 obtain ⟨rfl,hE,hS⟩:=hJ
 refine ⟨_,hE.sub,?_⟩
 refine .cs z h ?_ ?_ <;> intro h
 ·refine .g (.s (ld T.t82 hS z z z z z) z ?_)
  have ⟨y14,hy14,h⟩:=bnd h
  refine .c (.call0 hS Tryz.func129 (f1m hy14) z z ?_ z z z z)
  intro W hS
  refine .q z (.chunk 4 100 (y14 && (a0.N == 0)) hS ?_ ?_)
  ·refine .both (y14) (fun hb=>?_) (fun hb=>?_)
   ·have hg11:=hb
    exact .g hg11 (.s (fa T.f82_4 z z z) z (.g hg11 (.s (ld T.t3 hS z z z z z) z (.g hg11 (.q z (.s (pkt hg11 z z z) z (.nil (ck 4 hS z (and_t hg11) z z)))) z)) z)) z
   exact .xx hb z (.xx hb z (.xx hb z (.s (pkf hb z z z) z (.nil (ck 4 hS z (and_f hb) z z)))))
  intro W hS
  cases h
  exact .qn z (.ret (fin_ret (vs:=[_]) () (rt z rn) z (hS.to [] z)))
 obtain rfl:=Option.some.inj h
 exact .skip (.g (.qn z (.ret (fin_ret (vs:=[_]) () (rt z rn) z (hS.to [] z)))))
def fdq (w : World) (r : Bool) : Env → World → Prop:=Fin Tryz.prog Tryz.f80 No w (fun s : Unit=>.bool r) (fun s=>[]) .ret
theorem f12 {a0 : List Quad} {v_0 : Hd} {w : World} {r : Bool} (h : f0t a0 = some r) (q_0 : RV w (Old No w) (sv v_0) 82 5 dQuad a0) : Calls Tryz.prog 80 #[(sv v_0)] w (Ret No w (fun s : Unit=>.bool r) (fun s=>[])):=by
 unfold f0t at h
 refine enter Tryz.func80 z z ?_
 have hS:=Sep.start w
 refine .g (.qn z (.g (.q z (.s (lenv (hS.keep q_0) T.u68 z z) z (.qn z (.seq (.g (.q z ?_))))))))
 have ⟨y1,hy1,h⟩:=bnd h
 refine .c (.call0 hS Tryz.func27 (f04 hy1) z z ?_ z z z z)
 intro W hS
 refine .q z (.nil ?_)
 refine .cs z h ?_ ?_ <;> intro h
 ·obtain rfl:=Option.some.inj h
  exact .g (.qn z (.ret (fin_ret (vs:=[_]) () (rt z rn) z (hS.to [] z))))
 refine .skip (.seq (.g (.qn z (.block ?_))))
 have ⟨y2,hy2,h⟩:=bnd h
 refine .via (.iter (fun s1 E' W'=>SubL E' [(0,(sv v_0)),(3,.int .i64 (a0.length : Int)),(4,.int .i64 s1)] ∧ Sep No w W' []) (fun y3 x E' W'=>(match y3 with | .inl o1=>x = .ret ∧ fdq w o1 E' W' | .inr o2=>x = .exit 0 ∧ SubL E' [(0,(sv v_0)),(3,.int .i64 (a0.length : Int))] ∧ Sep No w W' [])) hy2 ⟨sb rfl,hS.to [] rfl⟩ ?_) ?_
 ·intro s1 y4 E W h hI
  obtain ⟨hE,hS⟩:=hI
  refine CW.sub hE ?_
  unfold f8s at h
  refine .seq (.g (.q z (.q z (.q z (.nil ?_)))))
  refine .cs z h ?_ ?_ <;> intro h
  ·refine .skip (.seq (.block (.g (.q z (.q z ?_)))))
   have ⟨x1,hx1,h⟩:=bnd h
   refine .s (ixv (hS.keep q_0) hx1 T.u68 T.t82 z z z) z (.s (lde (RV.flat (hS.keep q_0) hx1 z) T.t82 z z z z z) z (.q z ?_))
   have ⟨y5,hy5,h⟩:=bnd h
   refine .c (.call0 hS Tryz.func102 (f8v hy5) z z ?_ z z z z)
   intro W hS
   refine .q z (.nil ?_)
   refine .cs z h ?_ ?_ <;> intro h
   ·refine .g (.qn z (.ret ?_))
    cases h
    exact ⟨by simp,z,fin_ret (vs:=[_]) () (rt z rn) z (hS.to [] z)⟩
   refine .skip (.region (.q z (.q z (.q z (.nil ?_)))))
   cases h
   exact ⟨z,sb z,hS.to [] z⟩
  refine .exit ?_
  cases h
  exact ⟨by simp,z,sb z,hS.to [] z⟩
 intro x E W hJ
 rcases y2 with o3 | o4
 ·obtain ⟨rfl,hF⟩:=hJ
  refine ⟨_,fun _ _ h=>h,?_⟩
  cases h
  exact hF
 obtain ⟨rfl,hE,hS⟩:=hJ
 refine ⟨_,hE.sub,?_⟩
 refine .g (.q z (.q z (.q z ?_)))
 have ⟨x2,hx2,h⟩:=bnd h
 refine .s (ixv (hS.keep q_0) hx2 T.u68 T.t82 z z z) z (.s (fe T.f82_0 z z z) z (.s (lde (RV.flat (hS.keep q_0) hx2 z) T.t3 z z z z z) z (.q z (.q z ?_))))
 have ⟨b1,hb1,h⟩:=bnd h
 refine .chunk 8 37 (b1) hS ?_ ?_
 ·refine .both (x2.Op == 10) (fun hb=>?_) (fun hb=>?_)
  ·refine .xx hb z (.xx hb z (.xx hb z (.xx hb z (.xx hb z (.xx hb z (.xx hb z ?_))))))
   cases sel_t hb hb1
   exact .s (pkt hb z z z) z (.nil (ck 8 hS z z z z))
  have hg1:=hb
  have h:=sel_f hb hb1
  refine .g hg1 (.q z (.g hg1 (.q z (.g hg1 (.q z ?_) z)) z)) z
  have ⟨x3,hx3,h⟩:=bnd h
  refine .g hg1 (.s (ixv (hS.keep q_0) hx3 T.u68 T.t82 z z z) z (.g hg1 (.s (fe T.f82_0 z z z) z (.g hg1 (.s (lde (RV.flat (hS.keep q_0) hx3 z) T.t3 z z z z z) z (.g hg1 (.q z (.s (pkf hg1 z z z) z ?_)) z)) z)) z)) z
  cases h
  exact .nil (ck 8 hS z z z z)
 intro W hS
 obtain rfl:=Option.some.inj h
 exact .qn z (.ret (fin_ret (vs:=[_]) () (rt z rn) z (hS.to [] z)))
end Go.Proofs.YtcljimkjmklkmaaGreat.N
namespace Go.Proofs.YtcljimkjmklkmaaGreat.N
open Go.Proofs.YtcljimkjmklkmaaGreat.X
theorem f7n {a0 : List Quad} {a1 : Int} {v_0 : Hd} {w : World} {r : (List Int)} (h : f27 a0 a1 = some r) (q_0 : RV w (Old No w) (sv v_0) 82 5 dQuad a0) : Calls Tryz.prog 159 #[(sv v_0),.int .i64 a1] w (Ret No w (fun s : Hd=>(sv s)) (fun s=>[rowV (sv s) 3 1 (D.int .i64) r])):=by
 unfold f27 at h
 refine enter Tryz.func159 z z ?_
 have hS:=Sep.start w
 refine .g (.qn z (.g (.q z (.q z ?_))))
 have ⟨x1,hx1,h⟩:=bnd h
 refine .s (ixv (hS.keep q_0) hx1 T.u68 T.t82 z z z) z (.s (lde (RV.flat (hS.keep q_0) hx1 z) T.t82 z z z z z) z (.c (.alloc T.t82 hS ?_ z z z)))
 intro g1 W hS
 refine .c (.st T.t82 hS z z z ?_ z z z z z)
 intro W hS
 refine .nil (.seq (.block (.g (.s (fa T.f82_0 z z z) z (.s (ld T.t3 hS z z z z z) z (.q z (.q z (.nil ?_))))))))
 refine .cs z h ?_ ?_ <;> intro h
 ·refine .g (.c (.liv [] (D.int .i64) T.u25 T.t3 hS z z z z ?_ z (fun _=>z) z z z z))
  intro v1 W hS
  cases h
  exact .qn z (.ret (fin_ret (vs:=[_]) v1 (rt z rn) z (hS.to [0] z)))
 refine .g (.s (fa T.f82_0 z z z) z (.s (ld T.t3 hS z z z z z) z (.q z (.q z (.nil ?_)))))
 refine .cs z h ?_ ?_ <;> intro h
 ·refine .g (.s (fa T.f82_4 z z z) z (.s (ld T.t3 hS z z z z z) z (.c (.liv [x1.N] (D.int .i64) T.u25 T.t3 hS z z z z ?_ z (fun _=>z) z z z z))))
  intro v2 W hS
  cases h
  exact .qn z (.ret (fin_ret (vs:=[_]) v2 (rt z rn) z (hS.to [0] z)))
 refine .g (.s (fa T.f82_0 z z z) z (.s (ld T.t3 hS z z z z z) z (.q z (.q z (.chunk 6 32 ((x1.Op == 5) && (decide (x1.N < (w64 (a1 + 1))))) hS ?_ ?_)))))
 ·refine .both (x1.Op == 5) (fun hb=>?_) (fun hb=>?_)
  ·have hg1:=hb
   exact .g hg1 (.s (fa T.f82_4 z z z) z (.g hg1 (.s (ld T.t3 hS z z z z z) z (.g hg1 (.q z (.g hg1 (.q z (.g hg1 (.q z (.s (pkt hg1 z z z) z (.nil (ck 6 hS z (and_t hg1) z z)))) z)) z)) z)) z)) z
  exact .xx hb z (.xx hb z (.xx hb z (.xx hb z (.xx hb z (.s (pkf hb z z z) z (.nil (ck 6 hS z (and_f hb) z z)))))))
 intro W hS
 refine .q z (.nil ?_)
 refine .cs z h ?_ ?_ <;> intro h
 ·refine .g (.s (fa T.f82_4 z z z) z (.s (ld T.t3 hS z z z z z) z (.q z (.q z (.c (.liv [x1.N,w64 (a1 + 1)] (D.int .i64) T.u25 T.t3 hS z z z z ?_ z (fun _=>z) z z z z))))))
  intro v3 W hS
  cases h
  exact .qn z (.ret (fin_ret (vs:=[_]) v3 (rt z rn) z (hS.to [0] z)))
 refine .g (.s (fa T.f82_0 z z z) z (.s (ld T.t3 hS z z z z z) z (.q z (.q z (.chunk 6 48 ((x1.Op == 5) && (decide (x1.N > (w64 (a1 + 1))))) hS ?_ ?_)))))
 ·refine .both (x1.Op == 5) (fun hb=>?_) (fun hb=>?_)
  ·have hg2:=hb
   exact .g hg2 (.s (fa T.f82_4 z z z) z (.g hg2 (.s (ld T.t3 hS z z z z z) z (.g hg2 (.q z (.g hg2 (.q z (.g hg2 (.q z (.s (pkt hg2 z z z) z (.nil (ck 6 hS z (and_t hg2) z z)))) z)) z)) z)) z)) z
  exact .xx hb z (.xx hb z (.xx hb z (.xx hb z (.xx hb z (.s (pkf hb z z z) z (.nil (ck 6 hS z (and_f hb) z z)))))))
 intro W hS
 refine .q z (.nil ?_)
 refine .cs z h ?_ ?_ <;> intro h
 ·refine .g (.q z (.q z (.s (fa T.f82_4 z z z) z (.s (ld T.t3 hS z z z z z) z (.c (.liv [w64 (a1 + 1),x1.N] (D.int .i64) T.u25 T.t3 hS z z z z ?_ z (fun _=>z) z z z z))))))
  intro v4 W hS
  cases h
  exact .qn z (.ret (fin_ret (vs:=[_]) v4 (rt z rn) z (hS.to [0] z)))
 refine .skip (.g (.q z (.q z (.c (.liv [w64 (a1 + 1)] (D.int .i64) T.u25 T.t3 hS z z z z ?_ z (fun _=>z) z z z z)))))
 intro v5 W hS
 cases h
 exact .qn z (.ret (fin_ret (vs:=[_]) v5 (rt z rn) z (hS.to [0] z)))
theorem fdd {a0 : List Quad} {a1 : List Fact} {a2 : Int} {v_0 : Hd} {v_1 : Hd} {w : World} {r : (List Int)} (h : f75 a0 a1 a2 = some r) (q_0 : RV w (Old No w) (sv v_0) 82 5 dQuad a0) (q_1 : RV w (Old No w) (sv v_1) 177 2 dFact a1) : Calls Tryz.prog 163 #[(sv v_0),(sv v_1),.int .i64 a2] w (Ret No w (fun s : Hd=>(sv s)) (fun s=>[rowV (sv s) 3 1 (D.int .i64) r])):=by
 unfold f75 at h
 refine enter Tryz.func163 z z ?_
 have hS:=Sep.start w
 refine .g (.qn z (.g (.q z (.q z ?_))))
 have ⟨x1,hx1,h⟩:=bnd h
 refine .s (ixv (hS.keep q_0) hx1 T.u68 T.t82 z z z) z (.s (lde (RV.flat (hS.keep q_0) hx1 z) T.t82 z z z z z) z (.c (.alloc T.t82 hS ?_ z z z)))
 intro g1 W hS
 refine .c (.st T.t82 hS z z z ?_ z z z z z)
 intro W hS
 refine .nil (.seq (.g (.s (fa T.f82_0 z z z) z (.s (ld T.t3 hS z z z z z) z (.q z (.q z ?_))))))
 have ⟨b1,hb1,h⟩:=bnd h
 refine .chunk 8 23 (b1) hS ?_ ?_
 ·refine .both (x1.Op != 5) (fun hb=>?_) (fun hb=>?_)
  ·refine .xx hb z (.xx hb z (.xx hb z (.xx hb z (.xx hb z (.xx hb z (.xx hb z ?_))))))
   cases sel_t hb hb1
   exact .s (pkt hb z z z) z (.nil (ck 8 hS z z z z))
  have hg1:=hb
  have h:=sel_f hb hb1
  refine .g hg1 (.q z (.g hg1 (.s (fa T.f82_2 z z z) z (.g hg1 (.s (ld T.t3 hS z z z z z) z ?_) z)) z)) z
  have ⟨x2,hx2,h⟩:=bnd h
  refine .g hg1 (.s (ixv (hS.keep q_1) hx2 T.u158 T.t177 z z z) z (.g hg1 (.s (fe T.f177_0 z z z) z (.g hg1 (.s (lde (RV.flat (hS.keep q_1) hx2 z) T.t3 z z z z z) z (.g hg1 (.q z (.s (pkf hg1 z z z) z ?_)) z)) z)) z)) z
  cases h
  exact .nil (ck 8 hS z z z z)
 intro W hS
 refine .nil ?_
 refine .cs z h ?_ ?_ <;> intro h
 ·refine .g (.q z (.q z ?_))
  have ⟨y1,hy1,h⟩:=bnd h
  refine .c (.call1v hS Tryz.func159 (f7n hy1 (hS.keep q_0)) z z ?_ z z z z)
  intro v1 W hS
  obtain rfl:=Option.some.inj h
  exact .qn z (.ret (fin_ret (vs:=[_]) v1 (rt z rn) z (hS.to [0] z)))
 refine .skip (.seq (.g (.q z (.s (fa T.f82_2 z z z) z (.s (ld T.t3 hS z z z z z) z ?_)))))
 have ⟨x3,hx3,h⟩:=bnd h
 refine .s (ixv (hS.keep q_1) hx3 T.u158 T.t177 z z z) z (.s (fe T.f177_1 z z z) z (.s (lde (RV.flat (hS.keep q_1) hx3 z) T.t3 z z z z z) z (.q z (.nil ?_))))
 refine .cs z h ?_ ?_ <;> intro h
 ·refine .g (.s (fa T.f82_4 z z z) z (.s (ld T.t3 hS z z z z z) z (.c (.liv [x1.N] (D.int .i64) T.u25 T.t3 hS z z z z ?_ z (fun _=>z) z z z z))))
  intro v2 W hS
  cases h
  exact .qn z (.ret (fin_ret (vs:=[_]) v2 (rt z rn) z (hS.to [0] z)))
 refine .skip (.g (.q z (.q z (.c (.liv [w64 (a2 + 1)] (D.int .i64) T.u25 T.t3 hS z z z z ?_ z (fun _=>z) z z z z)))))
 intro v3 W hS
 cases h
 exact .qn z (.ret (fin_ret (vs:=[_]) v3 (rt z rn) z (hS.to [0] z)))
theorem fac {a0 : Bool} {w : World} {r : Int} (h : f44 a0 = some r) : Calls Tryz.prog 94 #[.bool a0] w (Ret No w (fun s : Unit=>.int .i64 r) (fun s=>[])):=by
 unfold f44 at h
 refine enter Tryz.func94 z z ?_
 have hS:=Sep.start w
 refine .g (.qn z (.seq (.g (.q z (.nil ?_)))))
 refine .cs z h ?_ ?_ <;> intro h
 ·cases h
  exact .g (.qn z (.ret (fin_ret (vs:=[_]) () (rt z rn) z (hS.to [] z))))
 cases h
 exact .skip (.g (.qn z (.ret (fin_ret (vs:=[_]) () (rt z rn) z (hS.to [] z)))))
theorem fbe {a0 : Int} {a1 : Int} {a2 : Bool} {w : World} {r : Int} (h : f3c a0 a1 a2 = some r) : Calls Tryz.prog 142 #[.int .i64 a0,.int .i64 a1,.bool a2] w (Ret No w (fun s : Unit=>.int .i64 r) (fun s=>[])):=by
 unfold f3c at h
 refine enter Tryz.func142 z z ?_
 have hS:=Sep.start w
 refine .g (.qn z (.seq (.g (.q z (.nil ?_)))))
 refine .cs z h ?_ ?_ <;> intro h
 ·refine .g (.q z (.q z (.q z ?_)))
  have ⟨d1,hd1,h⟩:=bnd h
  obtain rfl:=Option.some.inj h
  exact .s (shr_run hd1 z z z) z (.qn z (.ret (fin_ret (vs:=[_]) () (rt z rn) z (hS.to [] z))))
 refine .skip (.g (.q z (.q z (.q z ?_))))
 have ⟨d2,hd2,h⟩:=bnd h
 refine .s (shr_run hd2 z z z) z ?_
 have ⟨y1,hy1,h⟩:=bnd h
 refine .c (.call0 hS Tryz.func69 (f10 hy1) z z ?_ z z z z)
 intro W hS
 obtain rfl:=Option.some.inj h
 exact .qn z (.ret (fin_ret (vs:=[_]) () (rt z rn) z (hS.to [] z)))
theorem fdt {a0 : Int} {a1 : Int} {w : World} {r : Int} (h : f4x a0 a1 = some r) : Calls Tryz.prog 143 #[.int .i64 a0,.int .i64 a1] w (Ret No w (fun s : Unit=>.int .i64 r) (fun s=>[])):=by
 unfold f4x at h
 refine enter Tryz.func143 z z ?_
 have hS:=Sep.start w
 refine .g (.qn z (.seq (.g (.q z (.q z (.nil ?_))))))
 refine .cs z h ?_ ?_ <;> intro h
 ·cases h
  exact .g (.qn z (.ret (fin_ret (vs:=[_]) () (rt z rn) z (hS.to [] z))))
 refine .skip (.g (.q z (.q z ?_)))
 have ⟨d1,hd1,h⟩:=bnd h
 refine .s (dq hd1 z z z) z ?_
 have ⟨y1,hy1,h⟩:=bnd h
 refine .c (.call0 hS Tryz.func69 (f10 hy1) z z ?_ z z z z)
 intro W hS
 obtain rfl:=Option.some.inj h
 exact .qn z (.ret (fin_ret (vs:=[_]) () (rt z rn) z (hS.to [] z)))
theorem fde {a0 : Int} {a1 : Int} {w : World} {r : Int} (h : f4y a0 a1 = some r) : Calls Tryz.prog 144 #[.int .i64 a0,.int .i64 a1] w (Ret No w (fun s : Unit=>.int .i64 r) (fun s=>[])):=by
 unfold f4y at h
 refine enter Tryz.func144 z z ?_
 have hS:=Sep.start w
 refine .g (.qn z (.seq (.g (.q z (.q z (.nil ?_))))))
 refine .cs z h ?_ ?_ <;> intro h
 ·obtain rfl:=Option.some.inj h
  exact .g (.q z (.qn z (.ret (fin_ret (vs:=[_]) () (rt z rn) z (hS.to [] z)))))
 refine .skip (.g (.q z (.q z ?_)))
 have ⟨d1,hd1,h⟩:=bnd h
 obtain rfl:=Option.some.inj h
 exact .s (dr hd1 z z z) z (.qn z (.ret (fin_ret (vs:=[_]) () (rt z rn) z (hS.to [] z))))
theorem fbv {a0 : Int} {a1 : Int} {a2 : Int} {w : World} {r : Int × Bool} (h : f53 a0 a1 a2 = some r) : Calls Tryz.prog 119 #[.int .i64 a0,.int .i64 a1,.int .i64 a2] w (Ret No w (fun s : Unit=>.tuple #[.int .i64 r.1,.bool r.2]) (fun s=>[])):=by
 unfold f53 at h
 refine enter Tryz.func119 z z ?_
 have hS:=Sep.start w
 refine .g (.q z (.qn z (.seq (.g (.q z ?_)))))
 have ⟨y1,hy1,h⟩:=bnd h
 refine .c (.call0 hS Tryz.func130 (fa2 hy1) z z ?_ z z z z)
 intro W hS
 refine .q z (.q z ?_)
 have ⟨b1,hb1,h⟩:=bnd h
 refine .chunk 4 15 (b1) hS ?_ ?_
 ·refine .both (!y1) (fun hb=>?_) (fun hb=>?_)
  ·refine .xx hb z (.xx hb z (.xx hb z ?_))
   cases sel_t hb hb1
   exact .s (pkt hb z z z) z (.nil (ck 4 hS z z z z))
  have hg1:=hb
  have h:=sel_f hb hb1
  refine .g hg1 (.q z ?_) z
  have ⟨y2,hy2,h⟩:=bnd h
  refine .g hg1 (.c (.call0 hS Tryz.func43 (f1u hy2) z z ?_ z z z z)) z
  intro W hS
  refine .g hg1 (.q z (.s (pkf hg1 z z z) z ?_)) z
  cases h
  exact .nil (ck 4 hS z z z z)
 intro W hS
 refine .q z ?_
 have ⟨b2,hb2,h⟩:=bnd h
 refine .chunk 4 20 (b2) hS ?_ ?_
 ·refine .both (b1) (fun hb=>?_) (fun hb=>?_)
  ·refine .xx hb z (.xx hb z (.xx hb z ?_))
   cases sel_t hb hb2
   exact .s (pkt hb z z z) z (.nil (ck 4 hS z z z z))
  have hg2:=hb
  have h:=sel_f hb hb2
  refine .g hg2 (.q z ?_) z
  have ⟨y3,hy3,h⟩:=bnd h
  refine .g hg2 (.c (.call0 hS Tryz.func43 (f1u hy3) z z ?_ z z z z)) z
  intro W hS
  refine .g hg2 (.q z (.s (pkf hg2 z z z) z ?_)) z
  cases h
  exact .nil (ck 4 hS z z z z)
 intro W hS
 refine .nil ?_
 refine .cs z h ?_ ?_ <;> intro h
 ·cases h
  exact .g (.q z (.qn z (.ret (fin_ret (vs:=[_,_]) () (rt z (rt z rn)) z (hS.to [] z)))))
 refine .skip (.seq (.g (.qn z (.block (.g (.q z (.q z (.nil ?_))))))))
 refine .cs z h ?_ ?_ <;> intro h
 ·cases h
  exact .g (.q z (.q z (.q z (.q z (.qn z (.ret (fin_ret (vs:=[_,_]) () (rt z (rt z rn)) z (hS.to [] z))))))))
 refine .g (.q z (.q z (.nil ?_)))
 refine .cs z h ?_ ?_ <;> intro h
 ·cases h
  exact .g (.q z (.q z (.q z (.q z (.qn z (.ret (fin_ret (vs:=[_,_]) () (rt z (rt z rn)) z (hS.to [] z))))))))
 refine .g (.q z (.q z (.nil ?_)))
 refine .cs z h ?_ ?_ <;> intro h
 ·cases h
  exact .g (.q z (.q z (.q z (.q z (.qn z (.ret (fin_ret (vs:=[_,_]) () (rt z (rt z rn)) z (hS.to [] z))))))))
 refine .g (.q z (.q z (.nil ?_)))
 refine .cs z h ?_ ?_ <;> intro h
 ·refine .g (.q z (.q z (.q z ?_)))
  have ⟨y4,hy4,h⟩:=bnd h
  refine .c (.call0 hS Tryz.func94 (fac hy4) z z ?_ z z z z)
  intro W hS
  cases h
  exact .q z (.qn z (.ret (fin_ret (vs:=[_,_]) () (rt z (rt z rn)) z (hS.to [] z))))
 refine .g (.q z (.q z (.nil ?_)))
 refine .cs z h ?_ ?_ <;> intro h
 ·refine .g (.q z (.q z (.q z ?_)))
  have ⟨y5,hy5,h⟩:=bnd h
  refine .c (.call0 hS Tryz.func94 (fac hy5) z z ?_ z z z z)
  intro W hS
  cases h
  exact .q z (.qn z (.ret (fin_ret (vs:=[_,_]) () (rt z (rt z rn)) z (hS.to [] z))))
 refine .g (.q z (.q z (.nil ?_)))
 refine .cs z h ?_ ?_ <;> intro h
 ·refine .g (.q z (.q z ?_))
  have ⟨y6,hy6,h⟩:=bnd h
  refine .c (.call0 hS Tryz.func142 (fbe hy6) z z ?_ z z z z)
  intro W hS
  cases h
  exact .q z (.qn z (.ret (fin_ret (vs:=[_,_]) () (rt z (rt z rn)) z (hS.to [] z))))
 refine .g (.q z (.q z (.nil ?_)))
 refine .cs z h ?_ ?_ <;> intro h
 ·refine .g (.q z (.q z ?_))
  have ⟨y7,hy7,h⟩:=bnd h
  refine .c (.call0 hS Tryz.func142 (fbe hy7) z z ?_ z z z z)
  intro W hS
  cases h
  exact .q z (.qn z (.ret (fin_ret (vs:=[_,_]) () (rt z (rt z rn)) z (hS.to [] z))))
 refine .g (.q z (.q z (.nil ?_)))
 refine .cs z h ?_ ?_ <;> intro h
 ·refine .g (.q z (.q z (.q z ?_)))
  have ⟨y8,hy8,h⟩:=bnd h
  refine .c (.call0 hS Tryz.func69 (f10 hy8) z z ?_ z z z z)
  intro W hS
  cases h
  exact .q z (.qn z (.ret (fin_ret (vs:=[_,_]) () (rt z (rt z rn)) z (hS.to [] z))))
 refine .g (.q z (.q z (.nil ?_)))
 refine .cs z h ?_ ?_ <;> intro h
 ·refine .g (.q z (.q z (.q z ?_)))
  have ⟨y9,hy9,h⟩:=bnd h
  refine .c (.call0 hS Tryz.func69 (f10 hy9) z z ?_ z z z z)
  intro W hS
  cases h
  exact .q z (.qn z (.ret (fin_ret (vs:=[_,_]) () (rt z (rt z rn)) z (hS.to [] z))))
 refine .g (.q z (.q z (.nil ?_)))
 refine .cs z h ?_ ?_ <;> intro h
 ·refine .g (.q z (.q z (.q z ?_)))
  have ⟨y10,hy10,h⟩:=bnd h
  refine .c (.call0 hS Tryz.func69 (f10 hy10) z z ?_ z z z z)
  intro W hS
  cases h
  exact .q z (.qn z (.ret (fin_ret (vs:=[_,_]) () (rt z (rt z rn)) z (hS.to [] z))))
 refine .g (.q z (.q z (.nil ?_)))
 refine .cs z h ?_ ?_ <;> intro h
 ·refine .g (.q z (.q z ?_))
  have ⟨y11,hy11,h⟩:=bnd h
  refine .c (.call0 hS Tryz.func143 (fdt hy11) z z ?_ z z z z)
  intro W hS
  cases h
  exact .q z (.qn z (.ret (fin_ret (vs:=[_,_]) () (rt z (rt z rn)) z (hS.to [] z))))
 refine .skip (.g (.q z (.q z ?_)))
 have ⟨y12,hy12,h⟩:=bnd h
 refine .c (.call0 hS Tryz.func144 (fde hy12) z z ?_ z z z z)
 intro W hS
 cases h
 exact .q z (.qn z (.ret (fin_ret (vs:=[_,_]) () (rt z (rt z rn)) z (hS.to [] z))))
theorem far {a0 : Quad} {a1 : Fact} {a2 : Fact} {w : World} {r : Fact} (h : f4c a0 a1 a2 = some r) : Calls Tryz.prog 166 #[.agg #[.int .i64 a0.Op,.int .i64 a0.Dst,.int .i64 a0.A,.int .i64 a0.B,.int .i64 a0.N],.agg #[.int .i64 a1.Kind,.int .i64 a1.N],.agg #[.int .i64 a2.Kind,.int .i64 a2.N]] w (Ret No w (fun s : Unit=>.agg #[.int .i64 r.Kind,.int .i64 r.N]) (fun s=>[])):=by
 unfold f4c at h
 refine enter Tryz.func166 z z ?_
 have hS:=Sep.start w
 refine .g (.c (.box hS z z ?_ z z))
 intro g1 W hS
 refine .c (.box hS z z ?_ z z)
 intro g2 W hS
 refine .c (.box hS z z ?_ z z)
 intro g3 W hS
 refine .c (.alloc T.t177 hS ?_ z z z)
 intro g4 W hS
 refine .nil (.seq (.g (.s (fa T.f177_0 z z z) z (.s (ld T.t3 hS.p2 z z z z z) z (.q z (.q z (.chunk 4 16 ((a1.Kind != 1) || (a2.Kind != 1)) hS ?_ ?_)))))))
 ·refine .both (a1.Kind != 1) (fun hb=>?_) (fun hb=>?_)
  ·exact .xx hb z (.xx hb z (.xx hb z (.s (pkt hb z z z) z (.nil (ck 4 hS z (or_t hb) z z)))))
  have hg1:=hb
  exact .g hg1 (.s (fa T.f177_0 z z z) z (.g hg1 (.s (ld T.t3 hS.p1 z z z z z) z (.g hg1 (.q z (.s (pkf hg1 z z z) z (.nil (ck 4 hS z (or_f hg1) z z)))) z)) z)) z
 intro W hS
 refine .nil ?_
 refine .cs z h ?_ ?_ <;> intro h
 ·refine .g (.s (bs T.s177 z z) z (.c (.st T.t177 hS z z z ?_ z z z z z)))
  intro W hS
  cases h
  exact .nil (.ret (fin_ret (vs:=[_]) () (rc hS T.t177 z rn z z) z (hS.to [] z)))
 refine .skip (.g (.s (fa T.f82_4 z z z) z (.s (ld T.t3 hS.p3 z z z z z) z (.s (fa T.f177_1 z z z) z (.s (ld T.t3 hS.p2 z z z z z) z (.s (fa T.f177_1 z z z) z (.s (ld T.t3 hS.p1 z z z z z) z ?_)))))))
 have ⟨y1,hy1,h⟩:=bnd h
 refine .c (.call0 hS Tryz.func119 (fbv hy1) z z ?_ z z z z)
 intro W hS
 refine .q z (.q z (.q z (.q z (.qn z (.g (.q z (.s (bs T.s177 z z) z (.c (.st T.t177 hS z z z ?_ z z z z z)))))))))
 intro W hS
 cases h
 exact .nil (.ret (fin_ret (vs:=[_]) () (rc hS T.t177 z rn z z) z (hS.to [] z)))
theorem fd7 {a0 : Quad} {a1 : List Fact} {v_1 : Hd} {w : World} {r : (List Fact)} (h : f6p a0 a1 = some r) (q_1 : RV w (Old No w) (sv v_1) 177 2 dFact a1) : Calls Tryz.prog 164 #[.agg #[.int .i64 a0.Op,.int .i64 a0.Dst,.int .i64 a0.A,.int .i64 a0.B,.int .i64 a0.N],(sv v_1)] w (Ret No w (fun s : Hd=>(sv s)) (fun s=>[rowV (sv s) 177 2 dFact r])):=by
 unfold f6p at h
 refine enter Tryz.func164 z z ?_
 have hS:=Sep.start w
 refine .g (.c (.box hS z z ?_ z z))
 intro g1 W hS
 refine .qn z (.g (.c (.liv [] dFact T.u158 T.t177 hS z z z z ?_ z (fun _=>z) z z z z)))
 intro v1 W hS
 refine .q z ?_
 have ⟨r1,hr1,h⟩:=bnd h
 refine .c (.apprv hr1 hS (hS.keep q_1) (fun _=>z) T.u158 T.t177 z z z ?_ z z z z z)
 intro v2 W hS
 refine .qn z (.seq (.g (.s (fa T.f82_0 z z z) z (.s (ld T.t3 hS.p1 z z z z z) z (.nil (.block (.g (.q z (.q z (.nil ?_))))))))))
 refine .cs z h ?_ ?_ <;> intro h
 ·refine .region (.q z (.s (fa T.f82_1 z z z) z (.s (ld T.t3 hS.p1 z z z z z) z (.s (fa T.f82_4 z z z) z (.s (ld T.t3 hS.p1 z z z z z) z (.s (bs T.s177 z z) z ?_))))))
  have ⟨x1,hx1,h⟩:=bnd h
  refine .s (ixv hS.lendv hx1 T.u158 T.t177 z z z) z ?_
  have ⟨r2,hr2,h⟩:=bnd h
  refine .c (.sev hr2 hx1 hS T.t177 z z z z z z ?_ z z z z z z)
  intro W hS
  obtain rfl:=Option.some.inj h
  exact .nil (.g (.q z (.qn z (.ret (fin_ret (vs:=[_]) v2 (rt z rn) z (hS.to [0] z))))))
 refine .g (.q z (.q z (.nil ?_)))
 refine .cs z h ?_ ?_ <;> intro h
 ·refine .rk 9 hS [0,0] T.mix ?_
  intro W hS
  have hT:=hS.to [0,0] z
  refine .tp 0 z z hT (by kernel_rfl) (.ts 1 z (fun W hT=>fa T.f82_1 z z z) hT z (by kernel_rfl) (.ts 2 z (fun W hT=>ld T.t3 hT.p1 z z z z z) hT z (by kernel_rfl) (.tp 3 z z hT (by kernel_rfl) (.ts 4 z (fun W hT=>fa T.f82_2 z z z) hT z (by kernel_rfl) (.ts 5 z (fun W hT=>ld T.t3 hT.p1 z z z z z) hT z (by kernel_rfl) ?_)))))
  have ⟨x2,hx2,h⟩:=bnd h
  refine .ts 6 z (fun W hT=>ixv (hS.keep q_1) hx2 T.u158 T.t177 z z z) hT z (by kernel_rfl) (.ts 7 z (fun W hT=>lde (RV.flat (hT.keep q_1) hx2 z) T.t177 z z z z z) hT z (by kernel_rfl) ?_)
  have ⟨x3,hx3,h⟩:=bnd h
  refine .ts 8 z (fun W hT=>ixv hS.lendv hx3 T.u158 T.t177 z z z) hT z (by kernel_rfl) ?_
  have ⟨r3,hr3,h⟩:=bnd h
  refine .by1 9 z (.sev hr3 hx3 hS T.t177 z z z z z z ?_ z z z z z z) (by kernel_rfl)
  intro W hS
  refine ⟨fun h=>absurd z h,?_⟩
  obtain rfl:=Option.some.inj h
  exact .done (.g (.q z (.qn z (.ret (fin_ret (vs:=[_]) v2 (rt z rn) z (hS.to [0] z)))))) (by kernel_rfl)
 refine .g (.q z (.q z (.nil ?_)))
 refine .cs z h ?_ ?_ <;> intro h
 ·refine .region (.q z (.s (fa T.f82_1 z z z) z (.s (ld T.t3 hS.p1 z z z z z) z (.s (bs T.s177 z z) z ?_))))
  have ⟨x4,hx4,h⟩:=bnd h
  refine .s (ixv hS.lendv hx4 T.u158 T.t177 z z z) z ?_
  have ⟨r4,hr4,h⟩:=bnd h
  refine .c (.sev hr4 hx4 hS T.t177 z z z z z z ?_ z z z z z z)
  intro W hS
  obtain rfl:=Option.some.inj h
  exact .nil (.g (.q z (.qn z (.ret (fin_ret (vs:=[_]) v2 (rt z rn) z (hS.to [0] z))))))
 refine .g (.q z (.q z (.nil ?_)))
 refine .cs z h ?_ ?_ <;> intro h
 ·refine .rk 16 hS [0,0] T.mix ?_
  intro W hS
  have hT:=hS.to [0,0] z
  refine .tp 0 z z hT (by kernel_rfl) (.ts 1 z (fun W hT=>fa T.f82_1 z z z) hT z (by kernel_rfl) (.ts 2 z (fun W hT=>ld T.t3 hT.p1 z z z z z) hT z (by kernel_rfl) (.ts 3 z (fun W hT=>ld T.t82 hT.p1 z z z z z) hT z (by kernel_rfl) (.tp 4 z z hT (by kernel_rfl) (.ts 5 z (fun W hT=>fa T.f82_2 z z z) hT z (by kernel_rfl) (.ts 6 z (fun W hT=>ld T.t3 hT.p1 z z z z z) hT z (by kernel_rfl) ?_))))))
  have ⟨x5,hx5,h⟩:=bnd h
  refine .ts 7 z (fun W hT=>ixv (hS.keep q_1) hx5 T.u158 T.t177 z z z) hT z (by kernel_rfl) (.ts 8 z (fun W hT=>lde (RV.flat (hT.keep q_1) hx5 z) T.t177 z z z z z) hT z (by kernel_rfl) (.tp 9 z z hT (by kernel_rfl) (.ts 10 z (fun W hT=>fa T.f82_3 z z z) hT z (by kernel_rfl) (.ts 11 z (fun W hT=>ld T.t3 hT.p1 z z z z z) hT z (by kernel_rfl) ?_))))
  have ⟨x6,hx6,h⟩:=bnd h
  refine .ts 12 z (fun W hT=>ixv (hS.keep q_1) hx6 T.u158 T.t177 z z z) hT z (by kernel_rfl) (.ts 13 z (fun W hT=>lde (RV.flat (hT.keep q_1) hx6 z) T.t177 z z z z z) hT z (by kernel_rfl) ?_)
  have ⟨y1,hy1,h⟩:=bnd h
  refine .by1 14 z (.call0 hS Tryz.func166 (far hy1) z z ?_ z z z z) (by kernel_rfl)
  intro W hS
  have hT:=hS.to [0,0] z
  refine ⟨fun _=>hT,?_⟩
  have ⟨x7,hx7,h⟩:=bnd h
  refine .ts 15 z (fun W hT=>ixv hS.lendv hx7 T.u158 T.t177 z z z) hT z (by kernel_rfl) ?_
  have ⟨r5,hr5,h⟩:=bnd h
  refine .by1 16 z (.sev hr5 hx7 hS T.t177 z z z z z z ?_ z z z z z z) (by kernel_rfl)
  intro W hS
  refine ⟨fun h=>absurd z h,?_⟩
  obtain rfl:=Option.some.inj h
  exact .done (.g (.q z (.qn z (.ret (fin_ret (vs:=[_]) v2 (rt z rn) z (hS.to [0] z)))))) (by kernel_rfl)
 obtain rfl:=Option.some.inj h
 exact .skip (.g (.q z (.qn z (.ret (fin_ret (vs:=[_]) v2 (rt z rn) z (hS.to [0] z))))))
theorem fb9 {a0 : Fact} {a1 : Fact} {w : World} {r : Fact} (h : f88 a0 a1 = some r) : Calls Tryz.prog 172 #[.agg #[.int .i64 a0.Kind,.int .i64 a0.N],.agg #[.int .i64 a1.Kind,.int .i64 a1.N]] w (Ret No w (fun s : Unit=>.agg #[.int .i64 r.Kind,.int .i64 r.N]) (fun s=>[])):=by
 unfold f88 at h
 refine enter Tryz.func172 z z ?_
 have hS:=Sep.start w
 refine .g (.c (.box hS z z ?_ z z))
 intro g1 W hS
 refine .c (.box hS z z ?_ z z)
 intro g2 W hS
 refine .c (.alloc T.t177 hS ?_ z z z)
 intro g3 W hS
 refine .nil (.seq (.g (.s (fa T.f177_0 z z z) z (.s (ld T.t3 hS.p2 z z z z z) z (.q z (.nil ?_))))))
 refine .cs z h ?_ ?_ <;> intro h
 ·refine .g (.s (ld T.t177 hS.p1 z z z z z) z (.c (.st T.t177 hS z z z ?_ z z z z z)))
  intro W hS
  obtain rfl:=Option.some.inj h
  exact .nil (.ret (fin_ret (vs:=[_]) () (rc hS T.t177 z rn z z) z (hS.to [] z)))
 refine .skip (.seq (.g (.s (fa T.f177_0 z z z) z (.s (ld T.t3 hS.p1 z z z z z) z (.q z (.q z (.chunk 4 16 ((a1.Kind == 0) || ((a0.Kind == a1.Kind) && ((a0.N == a1.N) && true))) hS ?_ ?_)))))))
 ·refine .both (a1.Kind == 0) (fun hb=>?_) (fun hb=>?_)
  ·exact .xx hb z (.xx hb z (.xx hb z (.s (pkt hb z z z) z (.nil (ck 4 hS z (or_t hb) z z)))))
  have hg1:=hb
  exact .g hg1 (.s (ld T.t177 hS.p2 z z z z z) z (.g hg1 (.s (ld T.t177 hS.p1 z z z z z) z (.g hg1 (.s (eqs T.e177 z z z z) z (.s (pkf hg1 z z z) z (.nil (ck 4 hS z (or_f hg1) z z)))) z)) z)) z
 intro W hS
 refine .nil ?_
 refine .cs z h ?_ ?_ <;> intro h
 ·refine .g (.s (ld T.t177 hS.p2 z z z z z) z (.c (.st T.t177 hS z z z ?_ z z z z z)))
  intro W hS
  obtain rfl:=Option.some.inj h
  exact .nil (.ret (fin_ret (vs:=[_]) () (rc hS T.t177 z rn z z) z (hS.to [] z)))
 refine .skip (.g (.s (bs T.s177 z z) z (.c (.st T.t177 hS z z z ?_ z z z z z))))
 intro W hS
 cases h
 exact .nil (.ret (fin_ret (vs:=[_]) () (rc hS T.t177 z rn z z) z (hS.to [] z)))
theorem fdo {a0 : List (List Fact)} {a1 : Int} {a2 : List Fact} {v_0 : Hd} {v_2 : Hd} {S : Nat → Prop} {w : World} {r : Bool × (List (List Fact))} (h : f6r a0 a1 a2 = some r) (q_2 : RV w (Old S w) (sv v_2) 177 2 dFact a2) (hO : Owns w [rowV (sv v_0) 158 1 (fun (l : List Fact)=>D.row 177 2 (l.map dFact)) a0] S) (hlt : ∀ b,S b → b < w.heap.size) : Calls Tryz.prog 165 #[(sv v_0),.int .i64 a1,(sv v_2)] w (Ret S w (fun s : Unit=>.bool r.1) (fun s=>[rowV (sv v_0) 158 1 (fun (l : List Fact)=>D.row 177 2 (l.map dFact)) r.2])):=by
 unfold f6r at h
 refine enter Tryz.func165 z z ?_
 have hS:=Sep.startM hO hlt
 refine .g (.qn z (.g (.qn z (.seq (.g (.qn z (.block ?_)))))))
 have ⟨y1,hy1,h⟩:=bnd h
 refine .via (.iter (fun s1 E' W'=>SubL E' [(0,(sv v_0)),(1,.int .i64 a1),(2,(sv v_2)),(7,.bool s1.1),(8,.int .i64 s1.2.1)] ∧ Sep S w W' [rowV (sv v_0) 158 1 (fun (l : List Fact)=>D.row 177 2 (l.map dFact)) s1.2.2]) (fun y2 x E' W'=>x = .exit 0 ∧ SubL E' [(7,.bool y2.1)] ∧ Sep S w W' [rowV (sv v_0) 158 1 (fun (l : List Fact)=>D.row 177 2 (l.map dFact)) y2.2]) hy1 ⟨sb z,hS.to [0] z⟩ ?_) ?_
 ·intro s1 y3 E W h hI
  obtain ⟨hE,hS⟩:=hI
  refine CW.sub hE ?_
  unfold f9a at h
  refine .seq (.g (.q z (.q z (.nil ?_))))
  refine .cs z h ?_ ?_ <;> intro h
  ·refine .skip ?_
   have ⟨y4,hy4,h⟩:=bnd h
   refine .seq (CW.via (R':=fun x E' W'=>x = .normal ∧ SubL E' [(0,(sv v_0)),(1,.int .i64 a1),(2,(sv v_2)),(7,.bool y4.1),(8,.int .i64 s1.2.1)] ∧ Sep S w W' [rowV (sv v_0) 158 1 (fun (l : List Fact)=>D.row 177 2 (l.map dFact)) y4.2]) ?_ ?_)
   ·have h:=hy4
    refine .block (.seq ?_)
    have ⟨x1,hx1,h⟩:=bnd h
    obtain ⟨k1,hS⟩:=Sep.outv hS hx1
    obtain ⟨v1,k1,rfl,hS⟩:=hS.orowv
    obtain ⟨rfl,hS⟩:=hS.onil
    have ⟨x4,hx4,h⟩:=bnd h
    have ⟨x5,hx5,h⟩:=bnd h
    have ⟨y6,hy6,h⟩:=bnd h
    refine .via (R':=fun x E' W'=>x = .normal ∧ ∃ (g2 : Nat),SubL E' [(0,(sv v_0)),(1,.int .i64 a1),(2,(sv v_2)),(7,.bool s1.1),(8,.int .i64 s1.2.1),(9,.pointer (some ⟨g2,0,none⟩))] ∧ Sep S w W' [rowV (sv v_0) 158 1 (fun (l : List Fact)=>D.row 177 2 (l.map dFact)) s1.2.2,.box g2 177 [.int .i64 y6.Kind,.int .i64 y6.N]]) ?_ ?_
    ·refine .rk 13 hS [0,0] T.mix ?_
     intro W hS
     have hT:=hS.to [0,0] z
     refine .tp 0 z z hT (by kernel_rfl) (.tp 1 z z hT (by kernel_rfl) (.ts 2 z (fun W hT=>ixh hT.p1 hx1 T.u155 T.t158 z z z) hT z (by kernel_rfl) (.ts 3 z (fun W hT=>lde (hT.p1.hcellsv) T.t158 z z z z z) hT z (by kernel_rfl) (.tp 4 z z hT (by kernel_rfl) (.ts 5 z (fun W hT=>ixv hS.lendv hx4 T.u158 T.t177 z z z) hT z (by kernel_rfl) (.ts 6 z (fun W hT=>lde (RV.flat hT.lendv hx4 z) T.t177 z z z z z) hT z (by kernel_rfl) (.tp 7 z z hT (by kernel_rfl) (.tp 8 z z hT (by kernel_rfl) (.ts 9 z (fun W hT=>ixv (hS.keep q_2) hx5 T.u158 T.t177 z z z) hT z (by kernel_rfl) (.ts 10 z (fun W hT=>lde (RV.flat (hT.keep q_2) hx5 z) T.t177 z z z z z) hT z (by kernel_rfl) (.by [11,12] ⟨⟨_,z,?_⟩,⟨_,z,?_⟩,trivial⟩ (by kernel_rfl) z)))))))))))
     ·refine (.call0 hS Tryz.func172 (fb9 hy6) z z ?_ z z z z)
      intro W hS
      have hT:=hS.to [0,0] z
      refine ⟨fun _=>hT,.by1 12 z (.alloc T.t177 hS ?_ z z z) (by kernel_rfl)⟩
      intro g3 W hS
      have hT:=hS.to [1,1] z
      refine ⟨fun _=>hT,.by1 13 z (.st T.t177 hS z z z ?_ z z z z z) (by kernel_rfl)⟩
      intro W hS
      refine ⟨fun h=>absurd z h,?_⟩
      refine .done ?_ (by kernel_rfl)
      have hS:=Sep.gat (ds:=[.row 177 2 (x1.map dFact)]) (cs:=[(sv v1)]) (L1:=[rowV (sv v1) 177 2 dFact x1]) (.row (.nil)) (hS.to [1,1,0] z)
      have hS : Sep _ _ _ [rowV (sv v_0) 158 1 (fun (l : List Fact)=>D.row 177 2 (l.map dFact)) s1.2.2,.box g3 177 [.int .i64 y6.Kind,.int .i64 y6.N]]:=Sep.back0v hx1 hS
      exact ⟨z,g3,sb z,hS.to [0,0] z⟩
     refine (.alloc T.t177 hS ?_ z z z)
     intro g4 W hS
     have hT:=hS.to [1,1] z
     refine ⟨fun _=>hT,.by1 11 z (.call0 hS Tryz.func172 (fb9 hy6) z z ?_ z z z z) (by kernel_rfl)⟩
     intro W hS
     have hT:=hS.to [1,1] z
     refine ⟨fun _=>hT,.by1 13 z (.st T.t177 hS z z z ?_ z z z z z) (by kernel_rfl)⟩
     intro W hS
     refine ⟨fun h=>absurd z h,?_⟩
     refine .done ?_ (by kernel_rfl)
     have hS:=Sep.gat (ds:=[.row 177 2 (x1.map dFact)]) (cs:=[(sv v1)]) (L1:=[rowV (sv v1) 177 2 dFact x1]) (.row (.nil)) (hS.to [1,1,0] z)
     have hS : Sep _ _ _ [rowV (sv v_0) 158 1 (fun (l : List Fact)=>D.row 177 2 (l.map dFact)) s1.2.2,.box g4 177 [.int .i64 y6.Kind,.int .i64 y6.N]]:=Sep.back0v hx1 hS
     exact ⟨z,g4,sb z,hS.to [0,0] z⟩
    intro x E W hJ
    obtain ⟨rfl,g5,hE,hS⟩:=hJ
    refine ⟨_,hE.sub,?_⟩
    refine .seq ?_
    have ⟨x6,hx6,h⟩:=bnd h
    obtain ⟨k2,hS⟩:=Sep.outv hS hx6
    obtain ⟨v2,k2,rfl,hS⟩:=hS.orowv
    obtain ⟨rfl,hS⟩:=hS.onil
    refine .rk 9 hS [0,0,0] T.mix ?_
    intro W hS
    have hT:=hS.to [0,0,0] z
    refine .ts 0 z (fun W hT=>ld T.t177 hT.p2 z z z z z) hT z (by kernel_rfl) (.tp 1 z z hT (by kernel_rfl) (.tp 2 z z hT (by kernel_rfl) (.ts 3 z (fun W hT=>ixh hT.p1 hx6 T.u155 T.t158 z z z) hT z (by kernel_rfl) (.ts 4 z (fun W hT=>lde (hT.p1.hcellsv) T.t158 z z z z z) hT z (by kernel_rfl) (.tp 5 z z hT (by kernel_rfl) ?_)))))
    have ⟨x8,hx8,h⟩:=bnd h
    refine .ts 6 z (fun W hT=>ixv hS.lendv hx8 T.u158 T.t177 z z z) hT z (by kernel_rfl) (.ts 7 z (fun W hT=>lde (RV.flat hT.lendv hx8 z) T.t177 z z z z z) hT z (by kernel_rfl) (.ts 8 z (fun W hT=>nes T.e177 z z z z) hT z (by kernel_rfl) (.done ?_ (by kernel_rfl))))
    refine .cs z h ?_ ?_ <;> intro h
    ·refine .seq (.rk 7 hS [0,0,0] T.mix ?_)
     intro W hS
     have hT:=hS.to [0,0,0] z
     refine .tp 0 z z hT (by kernel_rfl) (.tp 1 z z hT (by kernel_rfl) (.ts 2 z (fun W hT=>ixh hT.p1 hx6 T.u155 T.t158 z z z) hT z (by kernel_rfl) (.ts 3 z (fun W hT=>lde (hT.p1.hcellsv) T.t158 z z z z z) hT z (by kernel_rfl) (.tp 4 z z hT (by kernel_rfl) (.ts 5 z (fun W hT=>ld T.t177 hT.p2 z z z z z) hT z (by kernel_rfl) ?_)))))
     have ⟨x9,hx9,h⟩:=bnd h
     refine .ts 6 z (fun W hT=>ixv hS.lendv hx9 T.u158 T.t177 z z z) hT z (by kernel_rfl) ?_
     have ⟨r1,hr1,h⟩:=bnd h
     refine .by1 7 z (.sev hr1 hx9 hS T.t177 z z z z z z ?_ z z z z z z) (by kernel_rfl)
     intro W hS
     refine ⟨fun h=>absurd z h,?_⟩
     refine .done (.region (.q z (.nil ?_))) (by kernel_rfl)
     have hS:=Sep.gat (ds:=[.row 177 2 (r1.map dFact)]) (cs:=[(sv v2)]) (L1:=[rowV (sv v2) 177 2 dFact r1]) (.row (.nil)) (hS.to [0,0,0] z)
     have hS : Sep _ _ _ [rowV (sv v_0) 158 1 (fun (l : List Fact)=>D.row 177 2 (l.map dFact)) (s1.2.2.set (Int.toNat a1) r1),.box g5 177 [.int .i64 y6.Kind,.int .i64 y6.N]]:=hS.backv
     cases h
     exact ⟨z,sb z,hS.to [0] z⟩
    refine .skip ?_
    have hS:=Sep.gat (ds:=[.row 177 2 (x6.map dFact)]) (cs:=[(sv v2)]) (L1:=[rowV (sv v2) 177 2 dFact x6]) (.row (.nil)) (hS.to [0,0,0] z)
    have hS : Sep _ _ _ [rowV (sv v_0) 158 1 (fun (l : List Fact)=>D.row 177 2 (l.map dFact)) s1.2.2,.box g5 177 [.int .i64 y6.Kind,.int .i64 y6.N]]:=Sep.back0v hx6 hS
    cases h
    exact ⟨z,sb z,hS.to [0] z⟩
   intro x E W hJ
   obtain ⟨rfl,hE,hS⟩:=hJ
   refine ⟨_,hE.sub,?_⟩
   refine .region (.q z (.q z (.q z (.nil ?_))))
   cases h
   exact ⟨z,sb z,hS.to [0] z⟩
  refine .exit ?_
  cases h
  exact ⟨by simp,z,sb z,hS.to [0] z⟩
 intro x E W hJ
 obtain ⟨rfl,hE,hS⟩:=hJ
 refine ⟨_,hE.sub,?_⟩
 cases h
 exact .g (.q z (.qn z (.ret (fin_ret (vs:=[_]) () (rt z rn) z (hS.to [0] z)))))
theorem fds {a0 : List Quad} {a1 : List (List Fact)} {v_0 : Hd} {v_1 : Hd} {S : Nat → Prop} {w : World} {r : Bool × (List (List Fact))} (h : f70 a0 a1 = some r) (q_0 : RV w (Old S w) (sv v_0) 82 5 dQuad a0) (hO : Owns w [rowV (sv v_1) 158 1 (fun (l : List Fact)=>D.row 177 2 (l.map dFact)) a1] S) (hlt : ∀ b,S b → b < w.heap.size) : Calls Tryz.prog 153 #[(sv v_0),(sv v_1)] w (Ret S w (fun s : Unit=>.bool r.1) (fun s=>[rowV (sv v_1) 158 1 (fun (l : List Fact)=>D.row 177 2 (l.map dFact)) r.2])):=by
 unfold f70 at h
 refine enter Tryz.func153 z z ?_
 have hS:=Sep.startM hO hlt
 refine .g (.qn z (.g (.qn z (.seq (.g (.qn z (.block ?_)))))))
 have ⟨y1,hy1,h⟩:=bnd h
 refine .via (.iter (fun s1 E' W'=>SubL E' [(0,(sv v_0)),(1,(sv v_1)),(5,.bool s1.1),(6,.int .i64 s1.2.1)] ∧ Sep S w W' [rowV (sv v_1) 158 1 (fun (l : List Fact)=>D.row 177 2 (l.map dFact)) s1.2.2]) (fun y2 x E' W'=>x = .exit 0 ∧ SubL E' [(5,.bool y2.1)] ∧ Sep S w W' [rowV (sv v_1) 158 1 (fun (l : List Fact)=>D.row 177 2 (l.map dFact)) y2.2]) hy1 ⟨sb z,hS.to [0] z⟩ ?_) ?_
 ·intro s1 y3 E W h hI
  obtain ⟨hE,hS⟩:=hI
  refine CW.sub hE ?_
  unfold f98 at h
  refine .seq (.g (.q z (.q z (.s (lenv (hS.keep q_0) T.u68 z z) z (.q z (.nil ?_))))))
  refine .cs z h ?_ ?_ <;> intro h
  ·refine .skip ?_
   have ⟨y4,hy4,h⟩:=bnd h
   refine .seq (CW.via (R':=fun x E' W'=>x = .normal ∧ SubL E' [(0,(sv v_0)),(1,(sv v_1)),(5,.bool y4.1),(6,.int .i64 s1.2.1)] ∧ Sep S w W' [rowV (sv v_1) 158 1 (fun (l : List Fact)=>D.row 177 2 (l.map dFact)) y4.2]) ?_ ?_)
   ·have h:=hy4
    refine .block (.seq (.g (.q z (.q z ?_))))
    have ⟨x1,hx1,h⟩:=bnd h
    refine .s (ixv hS.lendv hx1 T.u155 T.t158 z z z) z ?_
    obtain ⟨k1,hS⟩:=Sep.outv hS hx1
    obtain ⟨v1,k1,rfl,hS⟩:=hS.orowv
    obtain ⟨rfl,hS⟩:=hS.onil
    refine .s (lde (hS.p1.hcellsv) T.t158 z z z z z) z ?_
    have ⟨x2,hx2,h⟩:=bnd h
    refine .s (ixv hS.lendv hx2 T.u158 T.t177 z z z) z (.s (fe T.f177_0 z z z) z (.s (lde (RV.flat hS.lendv hx2 z) T.t3 z z z z z) z (.q z (.nil ?_))))
    refine .cs z h ?_ ?_ <;> intro h
    ·refine .exit ?_
     have hS:=Sep.gat (ds:=[.row 177 2 (x1.map dFact)]) (cs:=[(sv v1)]) (L1:=[rowV (sv v1) 177 2 dFact x1]) (.row (.nil)) (hS.to [0,0] z)
     have hS : Sep _ _ _ [rowV (sv v_1) 158 1 (fun (l : List Fact)=>D.row 177 2 (l.map dFact)) s1.2.2]:=Sep.back0v hx1 hS
     cases h
     exact ⟨z,sb z,hS.to [0] z⟩
    refine .skip (.g (.q z (.q z (.q z (.s (ixh hS.p1 hx1 T.u155 T.t158 z z z) z (.s (lde (hS.p1.hcellsv) T.t158 z z z z z) z (.q z ?_)))))))
    have ⟨y5,hy5,h⟩:=bnd h
    refine .c (.call1v hS Tryz.func163 (fdd hy5 (hS.keep q_0) hS.lendv) z z ?_ z z z z)
    intro v2 W hS
    refine .qn z (.seq (.rk 10 hS [0,0,0] T.mix ?_))
    intro W hS
    have hT:=hS.to [0,0,0] z
    refine .tp 0 z z hT (by kernel_rfl) (.tp 1 z z hT (by kernel_rfl) ?_)
    have ⟨x3,hx3,h⟩:=bnd h
    refine .ts 2 z (fun W hT=>ixv (hS.keep q_0) hx3 T.u68 T.t82 z z z) hT z (by kernel_rfl) (.ts 3 z (fun W hT=>lde (RV.flat (hT.keep q_0) hx3 z) T.t82 z z z z z) hT z (by kernel_rfl) (.tp 4 z z hT (by kernel_rfl) (.tp 5 z z hT (by kernel_rfl) (.ts 6 z (fun W hT=>ixh hT.p2 hx1 T.u155 T.t158 z z z) hT z (by kernel_rfl) (.ts 7 z (fun W hT=>lde (hT.p2.hcellsv) T.t158 z z z z z) hT z (by kernel_rfl) ?_)))))
    have ⟨y6,hy6,h⟩:=bnd h
    refine .by1 8 z (.call1v hS Tryz.func164 (fd7 hy6 hS.p1.lendv) z z ?_ z z z z) (by kernel_rfl)
    intro v3 W hS
    have hT:=hS.to [1,1,1] z
    refine ⟨fun _=>hT,.tp 9 z z hT (by kernel_rfl) (.done (.g (.qn z (.block ?_))) (by kernel_rfl))⟩
    have hS:=Sep.gat (ds:=[.row 177 2 (x1.map dFact)]) (cs:=[(sv v1)]) (L1:=[rowV (sv v1) 177 2 dFact x1]) (.row (.nil)) (hS.to [2,2,0,0] z)
    have hS : Sep _ _ _ [rowV (sv v_1) 158 1 (fun (l : List Fact)=>D.row 177 2 (l.map dFact)) s1.2.2,rowV (sv v3) 177 2 dFact y6,rowV (sv v2) 3 1 (D.int .i64) y5]:=Sep.back0v hx1 hS
    have ⟨y7,hy7,h⟩:=bnd h
    refine .via (.iter (fun s2 E' W'=>SubL E' [(0,(sv v_0)),(1,(sv v_1)),(5,.bool s2.1),(6,.int .i64 s1.2.1),(7,(sv v2)),(8,(sv v3)),(9,.int .i64 s2.2.1)] ∧ Sep S w W' [rowV (sv v_1) 158 1 (fun (l : List Fact)=>D.row 177 2 (l.map dFact)) s2.2.2,rowV (sv v3) 177 2 dFact y6,rowV (sv v2) 3 1 (D.int .i64) y5]) (fun y8 x E' W'=>x = .exit 2 ∧ SubL E' [(0,(sv v_0)),(1,(sv v_1)),(5,.bool y8.1),(6,.int .i64 s1.2.1)] ∧ Sep S w W' [rowV (sv v_1) 158 1 (fun (l : List Fact)=>D.row 177 2 (l.map dFact)) y8.2,rowV (sv v3) 177 2 dFact y6,rowV (sv v2) 3 1 (D.int .i64) y5]) hy7 ⟨sb z,hS.to [0,0,0] z⟩ ?_) ?_
    ·intro s2 y9 E W h hI
     obtain ⟨hE,hS⟩:=hI
     refine CW.sub hE ?_
     unfold f9q at h
     refine .seq (.g (.q z (.q z (.s (lenv hS.p2.lendv T.u25 z z) z (.qn z (.cond z (fun hb=>?_) (fun hb=>?_)))))))
     ·have h:=sel_t hb h
      refine .skip ?_
      have ⟨y10,hy10,h⟩:=bnd h
      refine .seq (CW.via (R':=fun x E' W'=>x = .normal ∧ SubL E' [(0,(sv v_0)),(1,(sv v_1)),(5,.bool y10.1),(6,.int .i64 s1.2.1),(7,(sv v2)),(8,(sv v3)),(9,.int .i64 s2.2.1)] ∧ Sep S w W' [rowV (sv v_1) 158 1 (fun (l : List Fact)=>D.row 177 2 (l.map dFact)) y10.2,rowV (sv v3) 177 2 dFact y6,rowV (sv v2) 3 1 (D.int .i64) y5]) ?_ ?_)
      ·have h:=hy10
       refine .block (.g (.q z (.q z (.q z ?_))))
       have ⟨x4,hx4,h⟩:=bnd h
       refine .s (ixv hS.p2.lendv hx4 T.u25 T.t3 z z z) z (.s (lde (RV.flat hS.p2.lendv hx4 z) T.t3 z z z z z) z (.q z ?_))
       have ⟨y11,hy11,h⟩:=bnd h
       refine .c (.callS2 (L0:=[rowV (sv v_1) 158 1 (fun (l : List Fact)=>D.row 177 2 (l.map dFact)) s2.2.2]) hS Tryz.func165 (fun S h1 h2 h3=>(fdo hy11 (h3.rdv (k:=0) z) h2 (zz h1))) z z ?_ z z z z)
       rintro ⟨⟩ W hS
       refine .nil ?_
       refine .cs z h ?_ ?_ <;> intro h
       ·refine .region (.q z (.nil ?_))
        cases h
        exact ⟨z,sb z,hS.to [0,0,0] z⟩
       refine .skip ?_
       cases h
       exact ⟨z,sb z,hS.to [0,0,0] z⟩
      intro x E W hJ
      obtain ⟨rfl,hE,hS⟩:=hJ
      refine ⟨_,hE.sub,?_⟩
      refine .region (.q z (.q z (.q z (.nil ?_))))
      cases h
      exact ⟨z,sb z,hS.to [0,0,0] z⟩
     have h:=sel_f hb h
     refine .exit ?_
     cases h
     exact ⟨by simp,z,sb z,hS.to [0,0,0] z⟩
    intro x E W hJ
    obtain ⟨rfl,hE,hS⟩:=hJ
    refine ⟨_,hE.sub,?_⟩
    cases h
    exact ⟨z,sb z,hS.to [0] z⟩
   intro x E W hJ
   obtain ⟨rfl,hE,hS⟩:=hJ
   refine ⟨_,hE.sub,?_⟩
   refine .region (.q z (.q z (.q z (.nil ?_))))
   cases h
   exact ⟨z,sb z,hS.to [0] z⟩
  refine .exit ?_
  cases h
  exact ⟨by simp,z,sb z,hS.to [0] z⟩
 intro x E W hJ
 obtain ⟨rfl,hE,hS⟩:=hJ
 refine ⟨_,hE.sub,?_⟩
 cases h
 exact .g (.q z (.qn z (.ret (fin_ret (vs:=[_]) () (rt z rn) z (hS.to [0] z)))))
theorem fe1 {a0 : List Quad} {v_0 : Hd} {w : World} {r : (List (List Fact))} (h : f87 a0 = some r) (q_0 : RV w (Old No w) (sv v_0) 82 5 dQuad a0) : Calls Tryz.prog 131 #[(sv v_0)] w (Ret No w (fun s : Hd=>(sv s)) (fun s=>[rowV (sv s) 158 1 (fun (l : List Fact)=>D.row 177 2 (l.map dFact)) r])):=by
 unfold f87 at h
 refine enter Tryz.func131 z z ?_
 have hS:=Sep.start w
 refine .g (.qn z (.g (.c (.ligv (L1:=[]) [] (fun (l : List Fact)=>D.row 177 2 (l.map dFact)) T.u155 T.t158 (hS.to [] z) z z z (.nil) ?_ z (fun _=>z) z z z z z))))
 intro v1 W hS
 refine .qn z (.seq (.g (.q z ?_)))
 have ⟨y1,hy1,h⟩:=bnd h
 refine .c (.call0 hS Tryz.func80 (f12 hy1 (hS.keep q_0)) z z ?_ z z z z)
 intro W hS
 refine .qn z (.cond z (fun hb=>?_) (fun hb=>?_))
 ·have h:=sel_t hb h
  cases h
  exact .g (.q z (.qn z (.ret (fin_ret (vs:=[_]) v1 (rt z rn) z (hS.to [0] z)))))
 have h:=sel_f hb h
 refine .skip (.seq (.g (.qn z (.block ?_))))
 have ⟨y2,hy2,h⟩:=bnd h
 refine .via (.iter (fun s1 E' W'=>∃ (v4 : Hd),SubL E' [(0,(sv v_0)),(3,(sv v4)),(4,.int .i64 s1.2)] ∧ Sep No w W' [rowV (sv v4) 158 1 (fun (l : List Fact)=>D.row 177 2 (l.map dFact)) s1.1]) (fun y3 x E' W'=>x = .exit 0 ∧ ∃ (v5 : Hd),SubL E' [(0,(sv v_0)),(3,(sv v5))] ∧ Sep No w W' [rowV (sv v5) 158 1 (fun (l : List Fact)=>D.row 177 2 (l.map dFact)) y3]) hy2 ⟨v1,sb z,hS.to [0] z⟩ ?_) ?_
 ·intro s1 y4 E W h hI
  obtain ⟨v3,hE,hS⟩:=hI
  refine CW.sub hE ?_
  unfold fa5 at h
  refine .seq (.g (.q z (.q z (.s (lenv (hS.keep q_0) T.u68 z z) z (.q z (.nil ?_))))))
  refine .cs z h ?_ ?_ <;> intro h
  ·refine .skip (.seq (.block (.region (.q z ?_))))
   have ⟨r1,hr1,h⟩:=bnd h
   refine .c (.mkv (Fact.mk 0 0) dFact hr1 T.u158 T.t177 hS z z z z z (fun _=>z) ?_ z z z)
   intro v6 W hS
   refine .c (.ligv (L1:=[rowV (sv v6) 177 2 dFact r1]) [r1] (fun (l : List Fact)=>D.row 177 2 (l.map dFact)) T.u155 T.t158 (hS.to [0,0] z) z z z (.row (.nil)) ?_ z (fun _=>z) z z z z z)
   intro v7 W hS
   have ⟨r2,hr2,h⟩:=bnd h
   refine .c (.appv hr2 (hS.to [1,0] z) T.u155 T.t158 z z z ?_ z z z z z)
   intro v8 W hS
   refine .qn z (.region (.q z (.q z (.q z (.nil ?_)))))
   cases h
   exact ⟨z,v8,sb z,hS.to [0] z⟩
  refine .exit ?_
  cases h
  exact ⟨by simp,z,v3,sb z,hS.to [0] z⟩
 intro x E W hJ
 obtain ⟨rfl,v9,hE,hS⟩:=hJ
 refine ⟨_,hE.sub,?_⟩
 refine .seq (.g (.qn z (.block ?_)))
 have ⟨y5,hy5,h⟩:=bnd h
 refine .via (.iter (fun s2 E' W'=>SubL E' [(0,(sv v_0)),(3,(sv v9)),(5,.int .i64 s2.1)] ∧ Sep No w W' [rowV (sv v9) 158 1 (fun (l : List Fact)=>D.row 177 2 (l.map dFact)) s2.2]) (fun y6 x E' W'=>x = .exit 2 ∧ SubL E' [(0,(sv v_0)),(3,(sv v9))] ∧ Sep No w W' [rowV (sv v9) 158 1 (fun (l : List Fact)=>D.row 177 2 (l.map dFact)) y6]) hy5 ⟨sb z,hS.to [0] z⟩ ?_) ?_
 ·intro s2 y7 E W h hI
  obtain ⟨hE,hS⟩:=hI
  refine CW.sub hE ?_
  unfold fa6 at h
  refine .seq (.g (.q z (.q z (.nil ?_))))
  refine .cs z h ?_ ?_ <;> intro h
  ·refine .skip (.seq (.block (.region (.q z ?_))))
   have ⟨x1,hx1,h⟩:=bnd h
   refine .s (ixv hS.lendv hx1 T.u155 T.t158 z z z) z ?_
   obtain ⟨k1,hS⟩:=Sep.outv hS hx1
   obtain ⟨v10,k1,rfl,hS⟩:=hS.orowv
   obtain ⟨rfl,hS⟩:=hS.onil
   refine .s (lde (hS.p1.hcellsv) T.t158 z z z z z) z (.q z (.s (bs T.s177 z z) z ?_))
   have ⟨x2,hx2,h⟩:=bnd h
   refine .s (ixv hS.lendv hx2 T.u158 T.t177 z z z) z ?_
   have ⟨r3,hr3,h⟩:=bnd h
   refine .c (.sev hr3 hx2 hS T.t177 z z z z z z ?_ z z z z z z)
   intro W hS
   refine .nil (.region (.q z (.q z (.q z (.nil ?_)))))
   have hS:=Sep.gat (ds:=[.row 177 2 (r3.map dFact)]) (cs:=[(sv v10)]) (L1:=[rowV (sv v10) 177 2 dFact r3]) (.row (.nil)) (hS.to [0,0] z)
   have hS : Sep _ _ _ [rowV (sv v9) 158 1 (fun (l : List Fact)=>D.row 177 2 (l.map dFact)) (s2.2.set (Int.toNat 0) r3)]:=hS.backv
   cases h
   exact ⟨z,sb z,hS.to [0] z⟩
  refine .exit ?_
  cases h
  exact ⟨by simp,z,sb z,hS.to [0] z⟩
 intro x E W hJ
 obtain ⟨rfl,hE,hS⟩:=hJ
 refine ⟨_,hE.sub,?_⟩
 refine .seq (.block ?_)
 have ⟨y8,hy8,h⟩:=bnd h
 refine .via (.iter (fun s3 E' W'=>SubL E' [(0,(sv v_0)),(3,(sv v9))] ∧ Sep No w W' [rowV (sv v9) 158 1 (fun (l : List Fact)=>D.row 177 2 (l.map dFact)) s3]) (fun y9 x E' W'=>x = .exit 4 ∧ SubL E' [(3,(sv v9))] ∧ Sep No w W' [rowV (sv v9) 158 1 (fun (l : List Fact)=>D.row 177 2 (l.map dFact)) y9]) hy8 ⟨sb z,hS.to [0] z⟩ ?_) ?_
 ·intro s3 y10 E W h hI
  obtain ⟨hE,hS⟩:=hI
  refine CW.sub hE ?_
  unfold fa3 at h
  refine .seq (.g (.q z (.q z ?_)))
  have ⟨y11,hy11,h⟩:=bnd h
  refine .c (.callS2 (L0:=[rowV (sv v9) 158 1 (fun (l : List Fact)=>D.row 177 2 (l.map dFact)) s3]) hS Tryz.func153 (fun S h1 h2 h3=>(fds hy11 (hS.keepS q_0 h1) h2 (zz h1))) z z ?_ z z z z)
  rintro ⟨⟩ W hS
  refine .nil ?_
  refine .cs z h ?_ ?_ <;> intro h
  ·refine .skip (.block (.skip ?_))
   cases h
   exact ⟨z,sb z,hS.to [0] z⟩
  refine .exit ?_
  cases h
  exact ⟨by simp,z,sb z,hS.to [0] z⟩
 intro x E W hJ
 obtain ⟨rfl,hE,hS⟩:=hJ
 refine ⟨_,hE.sub,?_⟩
 obtain rfl:=Option.some.inj h
 exact .g (.q z (.qn z (.ret (fin_ret (vs:=[_]) v9 (rt z rn) z (hS.to [0] z)))))
theorem f3o {a0 : Fact} {a1 : Int} {w : World} {r : Bool} (h : f35 a0 a1 = some r) : Calls Tryz.prog 155 #[.agg #[.int .i64 a0.Kind,.int .i64 a0.N],.int .i64 a1] w (Ret No w (fun s : Unit=>.bool r) (fun s=>[])):=by
 unfold f35 at h
 refine enter Tryz.func155 z z ?_
 have hS:=Sep.start w
 refine .g (.c (.box hS z z ?_ z z))
 intro g1 W hS
 refine .qn z (.g (.s (fa T.f177_0 z z z) z (.s (ld T.t3 hS z z z z z) z (.q z (.q z (.chunk 5 13 ((a0.Kind == 1) && (a0.N == a1)) hS ?_ ?_))))))
 ·refine .both (a0.Kind == 1) (fun hb=>?_) (fun hb=>?_)
  ·have hg1:=hb
   exact .g hg1 (.s (fa T.f177_1 z z z) z (.g hg1 (.s (ld T.t3 hS z z z z z) z (.g hg1 (.q z (.g hg1 (.q z (.s (pkt hg1 z z z) z (.nil (ck 5 hS z (and_t hg1) z z)))) z)) z)) z)) z
  exact .xx hb z (.xx hb z (.xx hb z (.xx hb z (.s (pkf hb z z z) z (.nil (ck 5 hS z (and_f hb) z z))))))
 intro W hS
 cases h
 exact .qn z (.ret (fin_ret (vs:=[_]) () (rt z rn) z (hS.to [] z)))
def ffd (w : World) (r : Bool) : Env → World → Prop:=Fin Tryz.prog Tryz.f173 No w (fun s : Unit=>.bool r) (fun s=>[]) .ret
theorem ffa {a0 : List Int} {a1 : Int} {v_0 : Hd} {w : World} {r : Bool} (h : f8z a0 a1 = some r) (q_0 : RV w (Old No w) (sv v_0) 3 1 (D.int .i64) a0) : Calls Tryz.prog 173 #[(sv v_0),.int .i64 a1] w (Ret No w (fun s : Unit=>.bool r) (fun s=>[])):=by
 unfold f8z at h
 refine enter Tryz.func173 z z ?_
 have hS:=Sep.start w
 refine .g (.qn z (.seq (.g (.qn z (.block ?_)))))
 have ⟨y1,hy1,h⟩:=bnd h
 refine .via (.iter (fun s1 E' W'=>SubL E' [(0,(sv v_0)),(1,.int .i64 a1),(5,.int .i64 s1)] ∧ Sep No w W' []) (fun y2 x E' W'=>(match y2 with | .inl o1=>x = .ret ∧ ffd w o1 E' W' | .inr o2=>x = .exit 0 ∧ SubL E' [] ∧ Sep No w W' [])) hy1 ⟨sb rfl,hS.to [] rfl⟩ ?_) ?_
 ·intro s1 y3 E W h hI
  obtain ⟨hE,hS⟩:=hI
  refine CW.sub hE ?_
  unfold fae at h
  refine .seq (.g (.q z (.q z (.s (lenv (hS.keep q_0) T.u25 z z) z (.q z (.nil ?_))))))
  refine .cs z h ?_ ?_ <;> intro h
  ·refine .skip (.seq (.block (.g (.q z (.q z ?_)))))
   have ⟨x1,hx1,h⟩:=bnd h
   refine .s (ixv (hS.keep q_0) hx1 T.u25 T.t3 z z z) z (.s (lde (RV.flat (hS.keep q_0) hx1 z) T.t3 z z z z z) z (.q z (.q z (.nil ?_))))
   refine .cs z h ?_ ?_ <;> intro h
   ·refine .g (.qn z (.ret ?_))
    cases h
    exact ⟨by simp,z,fin_ret (vs:=[_]) () (rt z rn) z (hS.to [] z)⟩
   refine .skip (.region (.q z (.q z (.q z (.nil ?_)))))
   cases h
   exact ⟨z,sb z,hS.to [] z⟩
  refine .exit ?_
  cases h
  exact ⟨by simp,z,sb z,hS.to [] z⟩
 intro x E W hJ
 rcases y1 with o3 | o4
 ·obtain ⟨rfl,hF⟩:=hJ
  refine ⟨_,fun _ _ h=>h,?_⟩
  cases h
  exact hF
 obtain ⟨rfl,hE,hS⟩:=hJ
 refine ⟨_,hE.sub,?_⟩
 obtain rfl:=Option.some.inj h
 exact .g (.qn z (.ret (fin_ret (vs:=[_]) () (rt z rn) z (hS.to [] z))))
theorem f8f {a0 : Int} {a1 : List Int} {v_1 : Hd} {w : World} {r : Bool} (h : f42 a0 a1 = some r) (q_1 : RV w (Old No w) (sv v_1) 3 1 (D.int .i64) a1) : Calls Tryz.prog 167 #[.int .i64 a0,(sv v_1)] w (Ret No w (fun s : Unit=>.bool r) (fun s=>[])):=by
 unfold f42 at h
 refine enter Tryz.func167 z z ?_
 have hS:=Sep.start w
 refine .g (.qn z (.g (.q z (.q z ?_))))
 have ⟨y1,hy1,h⟩:=bnd h
 refine .c (.call0 hS Tryz.func173 (ffa hy1 (hS.keep q_1)) z z ?_ z z z z)
 intro W hS
 obtain rfl:=Option.some.inj h
 exact .qn z (.ret (fin_ret (vs:=[_]) () (rt z rn) z (hS.to [] z)))
theorem fey {a0 : Quad} {a1 : Fact} {a2 : Fact} {w : World} {r : Quad} (h : f90 a0 a1 a2 = some r) : Calls Tryz.prog 154 #[.agg #[.int .i64 a0.Op,.int .i64 a0.Dst,.int .i64 a0.A,.int .i64 a0.B,.int .i64 a0.N],.agg #[.int .i64 a1.Kind,.int .i64 a1.N],.agg #[.int .i64 a2.Kind,.int .i64 a2.N]] w (Ret No w (fun s : Unit=>.agg #[.int .i64 r.Op,.int .i64 r.Dst,.int .i64 r.A,.int .i64 r.B,.int .i64 r.N]) (fun s=>[])):=by
 unfold f90 at h
 refine enter Tryz.func154 z z ?_
 have hS:=Sep.start w
 refine .g (.c (.box hS z z ?_ z z))
 intro g1 W hS
 refine .c (.box hS z z ?_ z z)
 intro g2 W hS
 refine .c (.box hS z z ?_ z z)
 intro g3 W hS
 refine .c (.alloc T.t82 hS ?_ z z z)
 intro g4 W hS
 refine .nil (.g (.s (ld T.t82 hS.p3 z z z z z) z (.s (ld T.t177 hS.p2 z z z z z) z (.s (ld T.t177 hS.p1 z z z z z) z ?_))))
 have ⟨y1,hy1,h⟩:=bnd h
 refine .c (.call0 hS Tryz.func166 (far hy1) z z ?_ z z z z)
 intro W hS
 refine .c (.alloc T.t177 hS ?_ z z z)
 intro g5 W hS
 refine .c (.st T.t177 hS z z z ?_ z z z z z)
 intro W hS
 refine .nil (.seq (.block (.g (.s (fa T.f177_0 z z z) z (.s (ld T.t3 hS z z z z z) z (.q z (.q z (.nil ?_))))))))
 refine .cs z h ?_ ?_ <;> intro h
 ·refine .g (.s (fa T.f82_1 z z z) z (.s (ld T.t3 hS.p4 z z z z z) z (.s (fa T.f177_1 z z z) z (.s (ld T.t3 hS z z z z z) z (.s (bs T.s82 z z) z (.c (.st T.t82 hS.p1 z z z ?_ z z z z z)))))))
  intro W hS
  cases h
  exact .nil (.ret (fin_ret (vs:=[_]) () (rc hS T.t82 z rn z z) z (hS.to [] z)))
 refine .g (.s (ld T.t177 hS.p2 z z z z z) z ?_)
 have ⟨y2,hy2,h⟩:=bnd h
 refine .c (.call0 hS Tryz.func155 (f3o hy2) z z ?_ z z z z)
 intro W hS
 refine .q z ?_
 have ⟨b1,hb1,h⟩:=bnd h
 refine .chunk 5 29 (b1) hS ?_ ?_
 ·refine .both (y2) (fun hb=>?_) (fun hb=>?_)
  ·have hg1:=hb
   have h:=sel_t hb hb1
   refine .g hg1 (.s (fa T.f82_4 z z z) z (.g hg1 (.s (ld T.t3 hS.p4 z z z z z) z (.g hg1 (.c (.liv [1,2,6,7,8,9] (D.int .i64) T.u25 T.t3 hS z z z z ?_ z (fun _=>z) z z z z)) z)) z)) z
   intro v1 W hS
   have ⟨y3,hy3,h⟩:=bnd h
   refine .g hg1 (.c (.call0 hS Tryz.func167 (f8f hy3 hS.lendv) z z ?_ z z z z)) z
   intro W hS
   refine .s (pkt hg1 z z z) z ?_
   cases h
   exact .nil (ck 5 (hS.to [1,1,1,1,1] z) z z z z)
  refine .xx hb z (.xx hb z (.xx hb z (.xx hb z ?_)))
  cases sel_f hb hb1
  exact .s (pkf hb z z z) z (.nil (ck 5 hS z z z z))
 intro W hS
 refine .q z (.nil ?_)
 refine .cs z h ?_ ?_ <;> intro h
 ·refine .g (.s (fa T.f82_1 z z z) z (.s (ld T.t3 hS.p4 z z z z z) z (.s (fa T.f82_2 z z z) z (.s (ld T.t3 hS.p4 z z z z z) z (.s (bs T.s82 z z) z (.c (.st T.t82 hS.p1 z z z ?_ z z z z z)))))))
  intro W hS
  cases h
  exact .nil (.ret (fin_ret (vs:=[_]) () (rc hS T.t82 z rn z z) z (hS.to [] z)))
 refine .g (.s (ld T.t177 hS.p2 z z z z z) z ?_)
 have ⟨y4,hy4,h⟩:=bnd h
 refine .c (.call0 hS Tryz.func155 (f3o hy4) z z ?_ z z z z)
 intro W hS
 refine .q z ?_
 have ⟨b2,hb2,h⟩:=bnd h
 refine .chunk 5 43 (b2) hS ?_ ?_
 ·refine .both (y4) (fun hb=>?_) (fun hb=>?_)
  ·have hg2:=hb
   have h:=sel_t hb hb2
   refine .g hg2 (.s (fa T.f82_4 z z z) z (.g hg2 (.s (ld T.t3 hS.p4 z z z z z) z (.g hg2 (.c (.liv [10,11] (D.int .i64) T.u25 T.t3 hS z z z z ?_ z (fun _=>z) z z z z)) z)) z)) z
   intro v2 W hS
   have ⟨y5,hy5,h⟩:=bnd h
   refine .g hg2 (.c (.call0 hS Tryz.func167 (f8f hy5 hS.lendv) z z ?_ z z z z)) z
   intro W hS
   refine .s (pkt hg2 z z z) z ?_
   cases h
   exact .nil (ck 5 (hS.to [1,1,1,1,1] z) z z z z)
  refine .xx hb z (.xx hb z (.xx hb z (.xx hb z ?_)))
  cases sel_f hb hb2
  exact .s (pkf hb z z z) z (.nil (ck 5 hS z z z z))
 intro W hS
 refine .q z (.nil ?_)
 refine .cs z h ?_ ?_ <;> intro h
 ·refine .g (.s (fa T.f82_1 z z z) z (.s (ld T.t3 hS.p4 z z z z z) z (.s (fa T.f82_2 z z z) z (.s (ld T.t3 hS.p4 z z z z z) z (.s (bs T.s82 z z) z (.c (.st T.t82 hS.p1 z z z ?_ z z z z z)))))))
  intro W hS
  cases h
  exact .nil (.ret (fin_ret (vs:=[_]) () (rc hS T.t82 z rn z z) z (hS.to [] z)))
 refine .g (.s (ld T.t177 hS.p3 z z z z z) z ?_)
 have ⟨y6,hy6,h⟩:=bnd h
 refine .c (.call0 hS Tryz.func155 (f3o hy6) z z ?_ z z z z)
 intro W hS
 refine .q z ?_
 have ⟨b3,hb3,h⟩:=bnd h
 refine .chunk 5 57 (b3) hS ?_ ?_
 ·refine .both (y6) (fun hb=>?_) (fun hb=>?_)
  ·have hg3:=hb
   have h:=sel_t hb hb3
   refine .g hg3 (.s (fa T.f82_4 z z z) z (.g hg3 (.s (ld T.t3 hS.p4 z z z z z) z (.g hg3 (.c (.liv [1,2,8] (D.int .i64) T.u25 T.t3 hS z z z z ?_ z (fun _=>z) z z z z)) z)) z)) z
   intro v3 W hS
   have ⟨y7,hy7,h⟩:=bnd h
   refine .g hg3 (.c (.call0 hS Tryz.func167 (f8f hy7 hS.lendv) z z ?_ z z z z)) z
   intro W hS
   refine .s (pkt hg3 z z z) z ?_
   cases h
   exact .nil (ck 5 (hS.to [1,1,1,1,1] z) z z z z)
  refine .xx hb z (.xx hb z (.xx hb z (.xx hb z ?_)))
  cases sel_f hb hb3
  exact .s (pkf hb z z z) z (.nil (ck 5 hS z z z z))
 intro W hS
 refine .q z (.nil ?_)
 refine .cs z h ?_ ?_ <;> intro h
 ·refine .g (.s (fa T.f82_1 z z z) z (.s (ld T.t3 hS.p4 z z z z z) z (.s (fa T.f82_3 z z z) z (.s (ld T.t3 hS.p4 z z z z z) z (.s (bs T.s82 z z) z (.c (.st T.t82 hS.p1 z z z ?_ z z z z z)))))))
  intro W hS
  cases h
  exact .nil (.ret (fin_ret (vs:=[_]) () (rc hS T.t82 z rn z z) z (hS.to [] z)))
 refine .g (.s (ld T.t177 hS.p3 z z z z z) z ?_)
 have ⟨y8,hy8,h⟩:=bnd h
 refine .c (.call0 hS Tryz.func155 (f3o hy8) z z ?_ z z z z)
 intro W hS
 refine .q z (.chunk 4 70 (y8 && (a0.N == 10)) hS ?_ ?_)
 ·refine .both (y8) (fun hb=>?_) (fun hb=>?_)
  ·have hg4:=hb
   exact .g hg4 (.s (fa T.f82_4 z z z) z (.g hg4 (.s (ld T.t3 hS.p4 z z z z z) z (.g hg4 (.q z (.s (pkt hg4 z z z) z (.nil (ck 4 hS z (and_t hg4) z z)))) z)) z)) z
  exact .xx hb z (.xx hb z (.xx hb z (.s (pkf hb z z z) z (.nil (ck 4 hS z (and_f hb) z z)))))
 intro W hS
 refine .q z (.nil ?_)
 refine .cs z h ?_ ?_ <;> intro h
 ·refine .g (.s (fa T.f82_1 z z z) z (.s (ld T.t3 hS.p4 z z z z z) z (.s (fa T.f82_3 z z z) z (.s (ld T.t3 hS.p4 z z z z z) z (.s (bs T.s82 z z) z (.c (.st T.t82 hS.p1 z z z ?_ z z z z z)))))))
  intro W hS
  cases h
  exact .nil (.ret (fin_ret (vs:=[_]) () (rc hS T.t82 z rn z z) z (hS.to [] z)))
 refine .g (.s (ld T.t177 hS.p3 z z z z z) z ?_)
 have ⟨y9,hy9,h⟩:=bnd h
 refine .c (.call0 hS Tryz.func155 (f3o hy9) z z ?_ z z z z)
 intro W hS
 refine .q z ?_
 have ⟨b4,hb4,h⟩:=bnd h
 refine .chunk 3 82 (b4) hS ?_ ?_
 ·refine .both (y9) (fun hb=>?_) (fun hb=>?_)
  ·refine .xx hb z (.xx hb z ?_)
   cases sel_t hb hb4
   exact .s (pkt hb z z z) z (.nil (ck 3 hS z z z z))
  have hg5:=hb
  have h:=sel_f hb hb4
  refine .g hg5 (.s (ld T.t177 hS.p2 z z z z z) z ?_) z
  have ⟨y10,hy10,h⟩:=bnd h
  refine .g hg5 (.c (.call0 hS Tryz.func155 (f3o hy10) z z ?_ z z z z)) z
  intro W hS
  refine .s (pkf hg5 z z z) z ?_
  cases h
  exact .nil (ck 3 hS z z z z)
 intro W hS
 refine .q z ?_
 have ⟨b5,hb5,h⟩:=bnd h
 refine .chunk 5 88 (b5) hS ?_ ?_
 ·refine .both (b4) (fun hb=>?_) (fun hb=>?_)
  ·have hg6:=hb
   have h:=sel_t hb hb5
   refine .g hg6 (.s (fa T.f82_4 z z z) z (.g hg6 (.s (ld T.t3 hS.p4 z z z z z) z (.g hg6 (.c (.liv [3,10] (D.int .i64) T.u25 T.t3 hS z z z z ?_ z (fun _=>z) z z z z)) z)) z)) z
   intro v4 W hS
   have ⟨y11,hy11,h⟩:=bnd h
   refine .g hg6 (.c (.call0 hS Tryz.func167 (f8f hy11 hS.lendv) z z ?_ z z z z)) z
   intro W hS
   refine .s (pkt hg6 z z z) z ?_
   cases h
   exact .nil (ck 5 (hS.to [1,1,1,1,1] z) z z z z)
  refine .xx hb z (.xx hb z (.xx hb z (.xx hb z ?_)))
  cases sel_f hb hb5
  exact .s (pkf hb z z z) z (.nil (ck 5 hS z z z z))
 intro W hS
 refine .q z (.nil ?_)
 refine .cs z h ?_ ?_ <;> intro h
 ·refine .g (.s (fa T.f82_1 z z z) z (.s (ld T.t3 hS.p4 z z z z z) z (.s (bs T.s82 z z) z (.c (.st T.t82 hS.p1 z z z ?_ z z z z z)))))
  intro W hS
  cases h
  exact .nil (.ret (fin_ret (vs:=[_]) () (rc hS T.t82 z rn z z) z (hS.to [] z)))
 refine .skip (.g (.s (ld T.t82 hS.p4 z z z z z) z (.c (.st T.t82 hS.p1 z z z ?_ z z z z z))))
 intro W hS
 obtain rfl:=Option.some.inj h
 exact .nil (.ret (fin_ret (vs:=[_]) () (rc hS T.t82 z rn z z) z (hS.to [] z)))
theorem fe6 {a0 : Quad} {a1 : List Fact} {a2 : Int} {v_1 : Hd} {w : World} {r : Quad} (h : f7z a0 a1 a2 = some r) (q_1 : RV w (Old No w) (sv v_1) 177 2 dFact a1) : Calls Tryz.prog 132 #[.agg #[.int .i64 a0.Op,.int .i64 a0.Dst,.int .i64 a0.A,.int .i64 a0.B,.int .i64 a0.N],(sv v_1),.int .i64 a2] w (Ret No w (fun s : Unit=>.agg #[.int .i64 r.Op,.int .i64 r.Dst,.int .i64 r.A,.int .i64 r.B,.int .i64 r.N]) (fun s=>[])):=by
 unfold f7z at h
 refine enter Tryz.func132 z z ?_
 have hS:=Sep.start w
 refine .g (.c (.box hS z z ?_ z z))
 intro g1 W hS
 refine .c (.alloc T.t82 hS ?_ z z z)
 intro g2 W hS
 refine .nil (.seq (.g (.q z ?_)))
 have ⟨x1,hx1,h⟩:=bnd h
 refine .s (ixv (hS.keep q_1) hx1 T.u158 T.t177 z z z) z (.s (fe T.f177_0 z z z) z (.s (lde (RV.flat (hS.keep q_1) hx1 z) T.t3 z z z z z) z (.q z (.nil ?_))))
 refine .cs z h ?_ ?_ <;> intro h
 ·refine .g (.s (ld T.t82 hS.p1 z z z z z) z (.c (.st T.t82 hS z z z ?_ z z z z z)))
  intro W hS
  obtain rfl:=Option.some.inj h
  exact .nil (.ret (fin_ret (vs:=[_]) () (rc hS T.t82 z rn z z) z (hS.to [] z)))
 refine .skip (.seq (.g (.s (fa T.f82_0 z z z) z (.s (ld T.t3 hS.p1 z z z z z) z (.nil (.block (.g (.q z (.q z (.nil ?_))))))))))
 refine .cs z h ?_ ?_ <;> intro h
 ·refine .g (.q z (.s (fa T.f82_2 z z z) z (.s (ld T.t3 hS.p1 z z z z z) z ?_)))
  have ⟨x2,hx2,h⟩:=bnd h
  refine .s (ixv (hS.keep q_1) hx2 T.u158 T.t177 z z z) z (.s (fe T.f177_0 z z z) z (.s (lde (RV.flat (hS.keep q_1) hx2 z) T.t3 z z z z z) z (.q z (.nil ?_))))
  refine .cs z h ?_ ?_ <;> intro h
  ·refine .seq (.rk 9 hS [0,0] T.mix ?_)
   intro W hS
   have hT:=hS.to [0,0] z
   refine .ts 0 z (fun W hT=>fa T.f82_1 z z z) hT z (by kernel_rfl) (.ts 1 z (fun W hT=>ld T.t3 hT.p1 z z z z z) hT z (by kernel_rfl) (.tp 2 z z hT (by kernel_rfl) (.ts 3 z (fun W hT=>fa T.f82_2 z z z) hT z (by kernel_rfl) (.ts 4 z (fun W hT=>ld T.t3 hT.p1 z z z z z) hT z (by kernel_rfl) ?_))))
   have ⟨x3,hx3,h⟩:=bnd h
   refine .ts 5 z (fun W hT=>ixv (hS.keep q_1) hx3 T.u158 T.t177 z z z) hT z (by kernel_rfl) (.ts 6 z (fun W hT=>fe T.f177_1 z z z) hT z (by kernel_rfl) (.ts 7 z (fun W hT=>lde (RV.flat (hT.keep q_1) hx3 z) T.t3 z z z z z) hT z (by kernel_rfl) (.ts 8 z (fun W hT=>bs T.s82 z z) hT z (by kernel_rfl) (.by1 9 z (.st T.t82 hS z z z ?_ z z z z z) (by kernel_rfl)))))
   intro W hS
   refine ⟨fun h=>absurd z h,?_⟩
   cases h
   exact .done (.ret (fin_ret (vs:=[_]) () (rc hS T.t82 z rn z z) z (hS.to [] z))) (by kernel_rfl)
  refine .skip (.g (.s (ld T.t82 hS.p1 z z z z z) z (.c (.st T.t82 hS z z z ?_ z z z z z))))
  intro W hS
  obtain rfl:=Option.some.inj h
  exact .nil (.ret (fin_ret (vs:=[_]) () (rc hS T.t82 z rn z z) z (hS.to [] z)))
 refine .g (.q z (.q z (.nil ?_)))
 refine .cs z h ?_ ?_ <;> intro h
 ·refine .seq (.rk 12 hS [0,0] T.mix ?_)
  intro W hS
  have hT:=hS.to [0,0] z
  refine .ts 0 z (fun W hT=>ld T.t82 hT.p1 z z z z z) hT z (by kernel_rfl) (.tp 1 z z hT (by kernel_rfl) (.ts 2 z (fun W hT=>fa T.f82_2 z z z) hT z (by kernel_rfl) (.ts 3 z (fun W hT=>ld T.t3 hT.p1 z z z z z) hT z (by kernel_rfl) ?_)))
  have ⟨x4,hx4,h⟩:=bnd h
  refine .ts 4 z (fun W hT=>ixv (hS.keep q_1) hx4 T.u158 T.t177 z z z) hT z (by kernel_rfl) (.ts 5 z (fun W hT=>lde (RV.flat (hT.keep q_1) hx4 z) T.t177 z z z z z) hT z (by kernel_rfl) (.tp 6 z z hT (by kernel_rfl) (.ts 7 z (fun W hT=>fa T.f82_3 z z z) hT z (by kernel_rfl) (.ts 8 z (fun W hT=>ld T.t3 hT.p1 z z z z z) hT z (by kernel_rfl) ?_))))
  have ⟨x5,hx5,h⟩:=bnd h
  refine .ts 9 z (fun W hT=>ixv (hS.keep q_1) hx5 T.u158 T.t177 z z z) hT z (by kernel_rfl) (.ts 10 z (fun W hT=>lde (RV.flat (hT.keep q_1) hx5 z) T.t177 z z z z z) hT z (by kernel_rfl) ?_)
  have ⟨y1,hy1,h⟩:=bnd h
  refine .by1 11 z (.call0 hS Tryz.func154 (fey hy1) z z ?_ z z z z) (by kernel_rfl)
  intro W hS
  have hT:=hS.to [0,0] z
  refine ⟨fun _=>hT,.by1 12 z (.st T.t82 hS z z z ?_ z z z z z) (by kernel_rfl)⟩
  intro W hS
  refine ⟨fun h=>absurd z h,?_⟩
  obtain rfl:=Option.some.inj h
  exact .done (.ret (fin_ret (vs:=[_]) () (rc hS T.t82 z rn z z) z (hS.to [] z))) (by kernel_rfl)
 refine .g (.q z (.q z (.nil ?_)))
 refine .cs z h ?_ ?_ <;> intro h
 ·refine .seq (.g (.q z (.s (fa T.f82_2 z z z) z (.s (ld T.t3 hS.p1 z z z z z) z ?_))))
  have ⟨x6,hx6,h⟩:=bnd h
  refine .s (ixv (hS.keep q_1) hx6 T.u158 T.t177 z z z) z (.s (lde (RV.flat (hS.keep q_1) hx6 z) T.t177 z z z z z) z ?_)
  have ⟨y2,hy2,h⟩:=bnd h
  refine .c (.call0 hS Tryz.func155 (f3o hy2) z z ?_ z z z z)
  intro W hS
  refine .nil ?_
  refine .cs z h ?_ ?_ <;> intro h
  ·refine .g (.s (fa T.f82_4 z z z) z (.s (ld T.t3 hS.p1 z z z z z) z (.s (bs T.s82 z z) z (.c (.st T.t82 hS z z z ?_ z z z z z)))))
   intro W hS
   cases h
   exact .nil (.ret (fin_ret (vs:=[_]) () (rc hS T.t82 z rn z z) z (hS.to [] z)))
  refine .skip (.g (.q z (.s (fa T.f82_2 z z z) z (.s (ld T.t3 hS.p1 z z z z z) z ?_))))
  have ⟨x7,hx7,h⟩:=bnd h
  refine .s (ixv (hS.keep q_1) hx7 T.u158 T.t177 z z z) z (.s (fe T.f177_0 z z z) z (.s (lde (RV.flat (hS.keep q_1) hx7 z) T.t3 z z z z z) z (.q z (.nil ?_))))
  refine .cs z h ?_ ?_ <;> intro h
  ·refine .g (.q z (.q z (.s (bs T.s82 z z) z (.c (.st T.t82 hS z z z ?_ z z z z z)))))
   intro W hS
   cases h
   exact .nil (.ret (fin_ret (vs:=[_]) () (rc hS T.t82 z rn z z) z (hS.to [] z)))
  refine .skip (.g (.s (ld T.t82 hS.p1 z z z z z) z (.c (.st T.t82 hS z z z ?_ z z z z z))))
  intro W hS
  obtain rfl:=Option.some.inj h
  exact .nil (.ret (fin_ret (vs:=[_]) () (rc hS T.t82 z rn z z) z (hS.to [] z)))
 refine .skip (.g (.s (ld T.t82 hS.p1 z z z z z) z (.c (.st T.t82 hS z z z ?_ z z z z z))))
 intro W hS
 obtain rfl:=Option.some.inj h
 exact .nil (.ret (fin_ret (vs:=[_]) () (rc hS T.t82 z rn z z) z (hS.to [] z)))
theorem fcw {a0 : List Quad} {v_0 : Hd} {w : World} {r : (List Quad) × Bool} (h : f7c a0 = some r) (q_0 : RV w (Old No w) (sv v_0) 82 5 dQuad a0) : Calls Tryz.prog 103 #[(sv v_0)] w (Ret No w (fun s : Hd=>.tuple #[(sv s),.bool r.2]) (fun s=>[rowV (sv s) 82 5 dQuad r.1])):=by
 unfold f7c at h
 refine enter Tryz.func103 z z ?_
 have hS:=Sep.start w
 refine .g (.q z (.qn z (.g (.c (.liv [] dQuad T.u68 T.t82 hS z z z z ?_ z (fun _=>z) z z z z)))))
 intro v1 W hS
 refine .qn z (.seq (.g (.q z ?_)))
 have ⟨y1,hy1,h⟩:=bnd h
 refine .c (.call0 hS Tryz.func80 (f12 hy1 (hS.keep q_0)) z z ?_ z z z z)
 intro W hS
 refine .q z (.nil ?_)
 refine .cs z h ?_ ?_ <;> intro h
 ·cases h
  exact .g (.q z (.q z (.qn z (.ret (fin_ret (vs:=[_,_]) v1 (rt z (rt z rn)) z (hS.to [0] z))))))
 refine .skip (.g (.q z ?_))
 have ⟨y2,hy2,h⟩:=bnd h
 refine .c (.call1v hS Tryz.func131 (fe1 hy2 (hS.keep q_0)) z z ?_ z z z z)
 intro v2 W hS
 refine .qn z (.seq (.g (.qn z (.block ?_))))
 have ⟨y3,hy3,h⟩:=bnd h
 refine .via (.iter (fun s1 E' W'=>∃ (v5 : Hd),SubL E' [(0,(sv v_0)),(4,(sv v5)),(5,(sv v2)),(6,.int .i64 s1.2)] ∧ Sep No w W' [rowV (sv v2) 158 1 (fun (l : List Fact)=>D.row 177 2 (l.map dFact)) y2,rowV (sv v5) 82 5 dQuad s1.1]) (fun y4 x E' W'=>x = .exit 0 ∧ ∃ (v6 : Hd),SubL E' [(4,(sv v6))] ∧ Sep No w W' [rowV (sv v2) 158 1 (fun (l : List Fact)=>D.row 177 2 (l.map dFact)) y2,rowV (sv v6) 82 5 dQuad y4]) hy3 ⟨v1,sb z,hS.to [0,0] z⟩ ?_) ?_
 ·intro s1 y5 E W h hI
  obtain ⟨v4,hE,hS⟩:=hI
  refine CW.sub hE ?_
  unfold f69 at h
  refine .seq (.g (.q z (.q z (.s (lenv (hS.keep q_0) T.u68 z z) z (.q z (.nil ?_))))))
  refine .cs z h ?_ ?_ <;> intro h
  ·refine .skip (.seq (.block ?_))
   have ⟨x1,hx1,h⟩:=bnd h
   obtain ⟨k1,hS⟩:=Sep.outv hS hx1
   obtain ⟨v7,k1,rfl,hS⟩:=hS.orowv
   obtain ⟨rfl,hS⟩:=hS.onil
   refine .rk 14 hS [0,0] T.mix ?_
   intro W hS
   have hT:=hS.to [0,0] z
   refine .tp 0 z z hT (by kernel_rfl) (.tp 1 z z hT (by kernel_rfl) (.tp 2 z z hT (by kernel_rfl) ?_))
   have ⟨x3,hx3,h⟩:=bnd h
   refine .ts 3 z (fun W hT=>ixv (hS.keep q_0) hx3 T.u68 T.t82 z z z) hT z (by kernel_rfl) (.ts 4 z (fun W hT=>lde (RV.flat (hT.keep q_0) hx3 z) T.t82 z z z z z) hT z (by kernel_rfl) (.tp 5 z z hT (by kernel_rfl) (.tp 6 z z hT (by kernel_rfl) (.ts 7 z (fun W hT=>ixh hT.p1 hx1 T.u155 T.t158 z z z) hT z (by kernel_rfl) (.ts 8 z (fun W hT=>lde (hT.p1.hcellsv) T.t158 z z z z z) hT z (by kernel_rfl) (.tp 9 z z hT (by kernel_rfl) ?_))))))
   have ⟨y7,hy7,h⟩:=bnd h
   refine .by1 10 z (.call0 hS Tryz.func132 (fe6 hy7 hS.lendv) z z ?_ z z z z) (by kernel_rfl)
   intro W hS
   have hT:=hS.to [0,0] z
   refine ⟨fun _=>hT,.by1 11 z (.liv [y7] dQuad T.u68 T.t82 hS z z z z ?_ z (fun _=>z) z z z z) (by kernel_rfl)⟩
   intro v10 W hS
   have hT:=hS.to [1,1] z
   refine ⟨fun _=>hT,?_⟩
   have ⟨r2,hr2,h⟩:=bnd h
   have hT0:=hS.p3
   refine .by1 12 z (.apprv hr2 hT0 hT0.p1.lendv (fun _=>z) T.u68 T.t82 z z z ?_ z z z z z) (by kernel_rfl)
   intro v11 W hS
   have hT:=hS.to [2,2] z
   refine ⟨fun _=>hT,.tp 13 z z hT (by kernel_rfl) (.done (.region (.q z (.q z (.q z (.nil ?_))))) (by kernel_rfl))⟩
   have hS:=Sep.gat (ds:=[.row 177 2 (x1.map dFact)]) (cs:=[(sv v7)]) (L1:=[rowV (sv v7) 177 2 dFact x1]) (.row (.nil)) (hS.to [2,2,0,0] z)
   have hS : Sep _ _ _ [rowV (sv v2) 158 1 (fun (l : List Fact)=>D.row 177 2 (l.map dFact)) y2,rowV (sv v11) 82 5 dQuad r2,rowV (sv v10) 82 5 dQuad [y7]]:=Sep.back0v hx1 hS
   cases h
   exact ⟨z,v11,sb z,hS.to [0,0] z⟩
  refine .exit ?_
  cases h
  exact ⟨by simp,z,v4,sb z,hS.to [0,0] z⟩
 intro x E W hJ
 obtain ⟨rfl,v12,hE,hS⟩:=hJ
 refine ⟨_,hE.sub,?_⟩
 cases h
 exact .g (.q z (.q z (.qn z (.ret (fin_ret (vs:=[_,_]) v12 (rt z (rt z rn)) z (hS.to [1] z))))))
theorem fb6 {w : World} {r : (List Int)} (h : f5v = some r) : Calls Tryz.prog 156 #[] w (Ret No w (fun s : Hd=>(sv s)) (fun s=>[rowV (sv s) 3 1 (D.int .i64) r])):=by
 unfold f5v at h
 refine enter Tryz.func156 z z ?_
 have hS:=Sep.start w
 refine .g (.qn z (.g (.c (.liv [] (D.int .i64) T.u25 T.t3 hS z z z z ?_ z (fun _=>z) z z z z))))
 intro v1 W hS
 refine .qn z (.seq (.g (.qn z (.block ?_))))
 have ⟨y1,hy1,h⟩:=bnd h
 refine .via (.iter (fun s1 E' W'=>∃ (v4 : Hd),SubL E' [(1,(sv v4)),(2,.int .i64 s1.2)] ∧ Sep No w W' [rowV (sv v4) 3 1 (D.int .i64) s1.1]) (fun y2 x E' W'=>x = .exit 0 ∧ ∃ (v5 : Hd),SubL E' [(1,(sv v5))] ∧ Sep No w W' [rowV (sv v5) 3 1 (D.int .i64) y2]) hy1 ⟨v1,sb z,hS.to [0] z⟩ ?_) ?_
 ·intro s1 y3 E W h hI
  obtain ⟨v3,hE,hS⟩:=hI
  refine CW.sub hE ?_
  unfold fa1 at h
  refine .seq (.g (.q z (.q z (.nil ?_))))
  refine .cs z h ?_ ?_ <;> intro h
  ·refine .skip (.seq (.block (.region (.q z (.q z (.c (.liv [s1.2] (D.int .i64) T.u25 T.t3 hS z z z z ?_ z (fun _=>z) z z z z)))))))
   intro v6 W hS
   have ⟨r1,hr1,h⟩:=bnd h
   have hT0:=hS.p1
   refine .c (.apprv hr1 hT0 hT0.p1.lendv (fun _=>z) T.u25 T.t3 z z z ?_ z z z z z)
   intro v7 W hS
   refine .qn z (.region (.q z (.q z (.q z (.nil ?_)))))
   cases h
   exact ⟨z,v7,sb z,hS.to [0] z⟩
  refine .exit ?_
  cases h
  exact ⟨by simp,z,v3,sb z,hS.to [0] z⟩
 intro x E W hJ
 obtain ⟨rfl,v8,hE,hS⟩:=hJ
 refine ⟨_,hE.sub,?_⟩
 obtain rfl:=Option.some.inj h
 exact .g (.q z (.qn z (.ret (fin_ret (vs:=[_]) v8 (rt z rn) z (hS.to [0] z)))))
theorem f9b {a0 : Quad} {w : World} {r : Int} (h : f2a a0 = some r) : Calls Tryz.prog 174 #[.agg #[.int .i64 a0.Op,.int .i64 a0.Dst,.int .i64 a0.A,.int .i64 a0.B,.int .i64 a0.N]] w (Ret No w (fun s : Unit=>.int .i64 r) (fun s=>[])):=by
 unfold f2a at h
 refine enter Tryz.func174 z z ?_
 have hS:=Sep.start w
 refine .g (.c (.box hS z z ?_ z z))
 intro g1 W hS
 refine .qn z (.seq (.g (.s (ld T.t82 hS z z z z z) z ?_)))
 have ⟨y1,hy1,h⟩:=bnd h
 refine .c (.call0 hS Tryz.func102 (f8v hy1) z z ?_ z z z z)
 intro W hS
 refine .q z (.nil ?_)
 refine .cs z h ?_ ?_ <;> intro h
 ·cases h
  exact .g (.qn z (.ret (fin_ret (vs:=[_]) () (rt z rn) z (hS.to [] z))))
 refine .skip (.seq (.g (.s (fa T.f82_0 z z z) z (.s (ld T.t3 hS z z z z z) z (.nil (.block ?_))))))
 have ⟨y2,hy2,h⟩:=bnd h
 refine .seq (CW.via (R':=fun x E' W'=>x = .normal ∧ SubL E' [(1,.pointer (some ⟨g1,0,none⟩)),(8,.bool y2)] ∧ Sep No w W' [.box g1 82 [.int .i64 a0.Op,.int .i64 a0.Dst,.int .i64 a0.A,.int .i64 a0.B,.int .i64 a0.N]]) ?_ ?_)
 ·have h:=hy2
  refine .g (.q z (.q z (.nil ?_)))
  refine .cs z h ?_ ?_ <;> intro h
  ·refine .skip ?_
   cases h
   exact ⟨z,sb z,hS.to [0] z⟩
  refine .g (.q z (.q z (.nil ?_)))
  refine .cs z h ?_ ?_ <;> intro h
  ·refine .skip ?_
   cases h
   exact ⟨z,sb z,hS.to [0] z⟩
  refine .g (.q z (.q z (.nil ?_)))
  refine .cs z h ?_ ?_ <;> intro h
  ·refine .skip ?_
   cases h
   exact ⟨z,sb z,hS.to [0] z⟩
  refine .region (.q z (.q z (.nil ?_)))
  cases h
  exact ⟨z,sb z,hS.to [0] z⟩
 intro x E W hJ
 obtain ⟨rfl,hE,hS⟩:=hJ
 refine ⟨_,hE.sub,?_⟩
 refine .cs z h ?_ ?_ <;> intro h
 ·cases h
  exact .g (.s (fa T.f82_1 z z z) z (.s (ld T.t3 hS z z z z z) z (.qn z (.ret (fin_ret (vs:=[_]) () (rt z rn) z (hS.to [] z))))))
 cases h
 exact .skip (.g (.qn z (.ret (fin_ret (vs:=[_]) () (rt z rn) z (hS.to [] z)))))
theorem fd0 {a0 : Quad} {a1 : List Int} {v_1 : Hd} {w : World} {r : (List Int)} (h : f6z a0 a1 = some r) (q_1 : RV w (Old No w) (sv v_1) 3 1 (D.int .i64) a1) : Calls Tryz.prog 168 #[.agg #[.int .i64 a0.Op,.int .i64 a0.Dst,.int .i64 a0.A,.int .i64 a0.B,.int .i64 a0.N],(sv v_1)] w (Ret No w (fun s : Hd=>(sv s)) (fun s=>[rowV (sv s) 3 1 (D.int .i64) r])):=by
 unfold f6z at h
 refine enter Tryz.func168 z z ?_
 have hS:=Sep.start w
 refine .g (.c (.box hS z z ?_ z z))
 intro g1 W hS
 refine .qn z (.g (.c (.liv [] (D.int .i64) T.u25 T.t3 hS z z z z ?_ z (fun _=>z) z z z z)))
 intro v1 W hS
 refine .q z ?_
 have ⟨r1,hr1,h⟩:=bnd h
 refine .c (.apprv hr1 hS (hS.keep q_1) (fun _=>z) T.u25 T.t3 z z z ?_ z z z z z)
 intro v2 W hS
 refine .qn z (.g (.s (ld T.t82 hS.p1 z z z z z) z ?_))
 have ⟨y1,hy1,h⟩:=bnd h
 refine .c (.call0 hS Tryz.func174 (f9b hy1) z z ?_ z z z z)
 intro W hS
 refine .qn z (.seq (.g (.q z (.q z (.nil ?_)))))
 refine .cs z h ?_ ?_ <;> intro h
 ·obtain rfl:=Option.some.inj h
  exact .g (.q z (.qn z (.ret (fin_ret (vs:=[_]) v2 (rt z rn) z (hS.to [0] z)))))
 refine .skip (.seq (.g (.qn z (.block ?_))))
 have ⟨y2,hy2,h⟩:=bnd h
 refine .via (.iter (fun s1 E' W'=>SubL E' [(2,.pointer (some ⟨g1,0,none⟩)),(5,(sv v2)),(6,.int .i64 y1),(7,.int .i64 s1.1)] ∧ Sep No w W' [rowV (sv v2) 3 1 (D.int .i64) s1.2,.box g1 82 [.int .i64 a0.Op,.int .i64 a0.Dst,.int .i64 a0.A,.int .i64 a0.B,.int .i64 a0.N]]) (fun y3 x E' W'=>x = .exit 0 ∧ SubL E' [(2,.pointer (some ⟨g1,0,none⟩)),(5,(sv v2)),(6,.int .i64 y1)] ∧ Sep No w W' [rowV (sv v2) 3 1 (D.int .i64) y3,.box g1 82 [.int .i64 a0.Op,.int .i64 a0.Dst,.int .i64 a0.A,.int .i64 a0.B,.int .i64 a0.N]]) hy2 ⟨sb z,hS.to [0,0] z⟩ ?_) ?_
 ·intro s1 y4 E W h hI
  obtain ⟨hE,hS⟩:=hI
  refine CW.sub hE ?_
  unfold f9u at h
  refine .seq (.g (.q z (.q z (.nil ?_))))
  refine .cs z h ?_ ?_ <;> intro h
  ·refine .skip ?_
   have ⟨y5,hy5,h⟩:=bnd h
   refine .seq (CW.via (R':=fun x E' W'=>x = .normal ∧ SubL E' [(2,.pointer (some ⟨g1,0,none⟩)),(5,(sv v2)),(6,.int .i64 y1),(7,.int .i64 s1.1)] ∧ Sep No w W' [rowV (sv v2) 3 1 (D.int .i64) y5,.box g1 82 [.int .i64 a0.Op,.int .i64 a0.Dst,.int .i64 a0.A,.int .i64 a0.B,.int .i64 a0.N]]) ?_ ?_)
   ·have h:=hy5
    refine .block (.g (.q z (.q z ?_)))
    have ⟨x1,hx1,h⟩:=bnd h
    refine .s (ixv hS.lendv hx1 T.u25 T.t3 z z z) z (.s (lde (RV.flat hS.lendv hx1 z) T.t3 z z z z z) z (.q z (.q z (.nil ?_))))
    refine .cs z h ?_ ?_ <;> intro h
    ·refine .region (.q z (.q z (.q z ?_)))
     have ⟨x2,hx2,h⟩:=bnd h
     refine .s (ixv hS.lendv hx2 T.u25 T.t3 z z z) z ?_
     have ⟨r2,hr2,h⟩:=bnd h
     refine .c (.sev hr2 hx2 hS T.t3 z z z z z z ?_ z z z z z z)
     intro W hS
     refine .nil ?_
     obtain rfl:=Option.some.inj h
     exact ⟨z,sb z,hS.to [0,0] z⟩
    refine .skip ?_
    cases h
    exact ⟨z,sb z,hS.to [0,0] z⟩
   intro x E W hJ
   obtain ⟨rfl,hE,hS⟩:=hJ
   refine ⟨_,hE.sub,?_⟩
   refine .region (.q z (.q z (.q z (.nil ?_))))
   cases h
   exact ⟨z,sb z,hS.to [0,0] z⟩
  refine .exit ?_
  cases h
  exact ⟨by simp,z,sb z,hS.to [0,0] z⟩
 intro x E W hJ
 obtain ⟨rfl,hE,hS⟩:=hJ
 refine ⟨_,hE.sub,?_⟩
 refine .g (.q z (.q z (.q z ?_)))
 have ⟨x3,hx3,h⟩:=bnd h
 refine .s (ixv hS.lendv hx3 T.u25 T.t3 z z z) z ?_
 have ⟨r3,hr3,h⟩:=bnd h
 refine .c (.sev hr3 hx3 hS T.t3 z z z z z z ?_ z z z z z z)
 intro W hS
 refine .nil (.seq (.g (.s (fa T.f82_0 z z z) z (.s (ld T.t3 hS.p1 z z z z z) z (.q z (.nil ?_))))))
 refine .cs z h ?_ ?_ <;> intro h
 ·refine .region (.q z (.q z (.s (fa T.f82_2 z z z) z (.s (ld T.t3 hS.p1 z z z z z) z ?_))))
  have ⟨x4,hx4,h⟩:=bnd h
  refine .s (ixv hS.lendv hx4 T.u25 T.t3 z z z) z ?_
  have ⟨r4,hr4,h⟩:=bnd h
  refine .c (.sev hr4 hx4 hS T.t3 z z z z z z ?_ z z z z z z)
  intro W hS
  obtain rfl:=Option.some.inj h
  exact .nil (.g (.q z (.qn z (.ret (fin_ret (vs:=[_]) v2 (rt z rn) z (hS.to [0] z))))))
 obtain rfl:=Option.some.inj h
 exact .skip (.g (.q z (.qn z (.ret (fin_ret (vs:=[_]) v2 (rt z rn) z (hS.to [0] z))))))
theorem fdw {a0 : List (List Int)} {a1 : Int} {a2 : List Int} {v_0 : Hd} {v_2 : Hd} {S : Nat → Prop} {w : World} {r : Bool × (List (List Int))} (h : f7a a0 a1 a2 = some r) (q_2 : RV w (Old S w) (sv v_2) 3 1 (D.int .i64) a2) (hO : Owns w [rowV (sv v_0) 25 1 (fun (l : List Int)=>D.row 3 1 (l.map (D.int .i64))) a0] S) (hlt : ∀ b,S b → b < w.heap.size) : Calls Tryz.prog 169 #[(sv v_0),.int .i64 a1,(sv v_2)] w (Ret S w (fun s : Unit=>.bool r.1) (fun s=>[rowV (sv v_0) 25 1 (fun (l : List Int)=>D.row 3 1 (l.map (D.int .i64))) r.2])):=by
 unfold f7a at h
 refine enter Tryz.func169 z z ?_
 have hS:=Sep.startM hO hlt
 refine .g (.qn z (.seq (.g (.q z (.q z ?_)))))
 have ⟨x1,hx1,h⟩:=bnd h
 refine .s (ixv hS.lendv hx1 T.u29 T.t25 z z z) z ?_
 obtain ⟨k1,hS⟩:=Sep.outv hS hx1
 obtain ⟨v1,k1,rfl,hS⟩:=hS.orowv
 obtain ⟨rfl,hS⟩:=hS.onil
 refine .s (lde (hS.p1.hcellsv) T.t25 z z z z z) z (.s (lenv hS.lendv T.u25 z z) z (.q z (.nil ?_)))
 refine .cs z h ?_ ?_ <;> intro h
 ·refine .g (.q z (.q z (.c (.liv [] (D.int .i64) T.u25 T.t3 hS z z z z ?_ z (fun _=>z) z z z z))))
  intro v2 W hS
  refine .q z ?_
  have ⟨r1,hr1,h⟩:=bnd h
  refine .c (.apprv hr1 hS (hS.keep q_2) (fun _=>z) T.u25 T.t3 z z z ?_ z z z z z)
  intro v3 W hS
  refine .s (ixh hS.p2 hx1 T.u29 T.t25 z z z) z (.c (.sthv hS.p2 T.t25 z z z ?_ z z z z z z))
  intro W hS
  refine .nil (.g (.qn z (.ret ?_)))
  have hS:=Sep.gat (ds:=[.row 3 1 (r1.map (D.int .i64))]) (cs:=[(sv v3)]) (L1:=[rowV (sv v3) 3 1 (D.int .i64) r1]) (.row (.nil)) (hS.to [1,0,0] z)
  have hS : Sep _ _ _ [rowV (sv v_0) 25 1 (fun (l : List Int)=>D.row 3 1 (l.map (D.int .i64))) (a0.set (Int.toNat a1) r1),rowV (sv v1) 3 1 (D.int .i64) x1]:=hS.backv
  cases h
  exact fin_ret (vs:=[_]) () (rt z rn) z (hS.to [0] z)
 refine .skip (.g (.qn z (.seq (.g (.qn z (.block ?_))))))
 have hS:=Sep.gat (ds:=[.row 3 1 (x1.map (D.int .i64))]) (cs:=[(sv v1)]) (L1:=[rowV (sv v1) 3 1 (D.int .i64) x1]) (.row (.nil)) (hS.to [0,0] z)
 have hS : Sep _ _ _ [rowV (sv v_0) 25 1 (fun (l : List Int)=>D.row 3 1 (l.map (D.int .i64))) a0]:=Sep.back0v hx1 hS
 have ⟨y1,hy1,h⟩:=bnd h
 refine .via (.iter (fun s1 E' W'=>SubL E' [(0,(sv v_0)),(1,.int .i64 a1),(2,(sv v_2)),(7,.bool s1.1),(8,.int .i64 s1.2.1)] ∧ Sep S w W' [rowV (sv v_0) 25 1 (fun (l : List Int)=>D.row 3 1 (l.map (D.int .i64))) s1.2.2]) (fun y2 x E' W'=>x = .exit 0 ∧ SubL E' [(7,.bool y2.1)] ∧ Sep S w W' [rowV (sv v_0) 25 1 (fun (l : List Int)=>D.row 3 1 (l.map (D.int .i64))) y2.2]) hy1 ⟨sb z,hS.to [0] z⟩ ?_) ?_
 ·intro s1 y3 E W h hI
  obtain ⟨hE,hS⟩:=hI
  refine CW.sub hE ?_
  unfold f96 at h
  refine .seq (.g (.q z (.q z (.nil ?_))))
  refine .cs z h ?_ ?_ <;> intro h
  ·refine .skip ?_
   have ⟨y4,hy4,h⟩:=bnd h
   refine .seq (CW.via (R':=fun x E' W'=>x = .normal ∧ SubL E' [(0,(sv v_0)),(1,.int .i64 a1),(2,(sv v_2)),(7,.bool y4.1),(8,.int .i64 s1.2.1)] ∧ Sep S w W' [rowV (sv v_0) 25 1 (fun (l : List Int)=>D.row 3 1 (l.map (D.int .i64))) y4.2]) ?_ ?_)
   ·have h:=hy4
    refine .block (.seq ?_)
    have ⟨x2,hx2,h⟩:=bnd h
    obtain ⟨k2,hS⟩:=Sep.outv hS hx2
    obtain ⟨v4,k2,rfl,hS⟩:=hS.orowv
    obtain ⟨rfl,hS⟩:=hS.onil
    have ⟨x6,hx6,h⟩:=bnd h
    have ⟨b2,hb2,h⟩:=bnd h
    refine .via (R':=fun x E' W'=>x = .normal ∧ SubL E' [(0,(sv v_0)),(1,.int .i64 a1),(2,(sv v_2)),(7,.bool s1.1),(8,.int .i64 s1.2.1),(47,.bool b2)] ∧ Sep S w W' [rowV (sv v_0) 25 1 (fun (l : List Int)=>D.row 3 1 (l.map (D.int .i64))) s1.2.2]) ?_ ?_
    ·refine .rk 23 hS [0,0] T.mix ?_
     intro W hS
     have hT:=hS.to [0,0] z
     refine .tp 0 z z hT (by kernel_rfl) (.tp 1 z z hT (by kernel_rfl) (.ts 2 z (fun W hT=>ixh hT.p1 hx2 T.u29 T.t25 z z z) hT z (by kernel_rfl) (.ts 3 z (fun W hT=>lde (hT.p1.hcellsv) T.t25 z z z z z) hT z (by kernel_rfl) (.tp 4 z z hT (by kernel_rfl) (.ts 5 z (fun W hT=>ixv hS.lendv hx6 T.u25 T.t3 z z z) hT z (by kernel_rfl) (.ts 6 z (fun W hT=>lde (RV.flat hT.lendv hx6 z) T.t3 z z z z z) hT z (by kernel_rfl) (.tp 7 z z hT (by kernel_rfl) (.tp 8 z z hT (by kernel_rfl) (.tp 9 z z hT (by kernel_rfl) (.both (x6 != s1.2.1) (fun hb=>?_) (fun hb=>?_)))))))))))
     ·have hg2:=hb
      have h_b2:=sel_t hb hb2
      refine .t1g 10 z hg2 (fun W hT=>pr z) hT (.t1g 11 z hg2 (fun W hT=>pr z) hT (.t1g 12 z hg2 (fun W hT=>ixh hT.p1 hx2 T.u29 T.t25 z z z) hT (.t1g 13 z hg2 (fun W hT=>lde (hT.p1.hcellsv) T.t25 z z z z z) hT (.t1g 14 z hg2 (fun W hT=>pr z) hT ?_ (by kernel_rfl) z z) (by kernel_rfl) z z) (by kernel_rfl) z z) (by kernel_rfl) z z) (by kernel_rfl) z z
      have ⟨x7,hx7,h_b2⟩:=bnd h_b2
      refine .t1g 15 z hg2 (fun W hT=>ixv hS.lendv hx7 T.u25 T.t3 z z z) hT (.t1g 16 z hg2 (fun W hT=>lde (RV.flat hT.lendv hx7 z) T.t3 z z z z z) hT (.t1g 17 z hg2 (fun W hT=>pr z) hT (.t1g 18 z hg2 (fun W hT=>pr z) hT ?_ (by kernel_rfl) z z) (by kernel_rfl) z z) (by kernel_rfl) z z) (by kernel_rfl) z z
      have ⟨x8,hx8,h_b2⟩:=bnd h_b2
      refine .t1g 19 z hg2 (fun W hT=>ixv (hS.keep q_2) hx8 T.u25 T.t3 z z z) hT (.t1g 20 z hg2 (fun W hT=>lde (RV.flat (hT.keep q_2) hx8 z) T.t3 z z z z z) hT (.t1g 21 z hg2 (fun W hT=>pr z) hT (.ts 22 z (fun W hT=>pkt hg2 z z z) hT z (by kernel_rfl) (.eqv 47 z (bool_eq h_b2) (.done ?_ (by kernel_rfl)))) (by kernel_rfl) z z) (by kernel_rfl) z z) (by kernel_rfl) z z
      have hS:=Sep.gat (ds:=[.row 3 1 (x2.map (D.int .i64))]) (cs:=[(sv v4)]) (L1:=[rowV (sv v4) 3 1 (D.int .i64) x2]) (.row (.nil)) (hS.to [0,0] z)
      have hS : Sep _ _ _ [rowV (sv v_0) 25 1 (fun (l : List Int)=>D.row 3 1 (l.map (D.int .i64))) s1.2.2]:=Sep.back0v hx2 hS
      exact ⟨z,sb z,hS.to [0] z⟩
     refine .off 10 z hb hT (.off 11 z hb hT (.off 12 z hb hT (.off 13 z hb hT (.off 14 z hb hT (.off 15 z hb hT (.off 16 z hb hT (.off 17 z hb hT (.off 18 z hb hT (.off 19 z hb hT (.off 20 z hb hT (.off 21 z hb hT (.ts 22 z (fun W hT=>pkf hb z z z) hT z (by kernel_rfl) (.eqv 47 z (bool_eq (sel_f hb hb2)) (.done ?_ (by kernel_rfl)))) (by kernel_rfl) z z) (by kernel_rfl) z z) (by kernel_rfl) z z) (by kernel_rfl) z z) (by kernel_rfl) z z) (by kernel_rfl) z z) (by kernel_rfl) z z) (by kernel_rfl) z z) (by kernel_rfl) z z) (by kernel_rfl) z z) (by kernel_rfl) z z) (by kernel_rfl) z z
     have hS:=Sep.gat (ds:=[.row 3 1 (x2.map (D.int .i64))]) (cs:=[(sv v4)]) (L1:=[rowV (sv v4) 3 1 (D.int .i64) x2]) (.row (.nil)) (hS.to [0,0] z)
     have hS : Sep _ _ _ [rowV (sv v_0) 25 1 (fun (l : List Int)=>D.row 3 1 (l.map (D.int .i64))) s1.2.2]:=Sep.back0v hx2 hS
     exact ⟨z,sb z,hS.to [0] z⟩
    intro x E W hJ
    obtain ⟨rfl,hE,hS⟩:=hJ
    refine ⟨_,hE.sub,?_⟩
    refine .cs z h ?_ ?_ <;> intro h
    ·refine .g (.q z (.q z ?_))
     have ⟨x9,hx9,h⟩:=bnd h
     refine .s (ixv hS.lendv hx9 T.u29 T.t25 z z z) z ?_
     obtain ⟨k3,hS⟩:=Sep.outv hS hx9
     obtain ⟨v5,k3,rfl,hS⟩:=hS.orowv
     obtain ⟨rfl,hS⟩:=hS.onil
     refine .s (lde (hS.p1.hcellsv) T.t25 z z z z z) z (.q z (.q z ?_))
     have ⟨x10,hx10,h⟩:=bnd h
     refine .s (ixv hS.lendv hx10 T.u25 T.t3 z z z) z ?_
     have ⟨r2,hr2,h⟩:=bnd h
     refine .c (.sev hr2 hx10 hS T.t3 z z z z z z ?_ z z z z z z)
     intro W hS
     refine .nil (.region (.q z (.nil ?_)))
     have hS:=Sep.gat (ds:=[.row 3 1 (r2.map (D.int .i64))]) (cs:=[(sv v5)]) (L1:=[rowV (sv v5) 3 1 (D.int .i64) r2]) (.row (.nil)) (hS.to [0,0] z)
     have hS : Sep _ _ _ [rowV (sv v_0) 25 1 (fun (l : List Int)=>D.row 3 1 (l.map (D.int .i64))) (s1.2.2.set (Int.toNat a1) r2)]:=hS.backv
     cases h
     exact ⟨z,sb z,hS.to [0] z⟩
    refine .skip ?_
    cases h
    exact ⟨z,sb z,hS.to [0] z⟩
   intro x E W hJ
   obtain ⟨rfl,hE,hS⟩:=hJ
   refine ⟨_,hE.sub,?_⟩
   refine .region (.q z (.q z (.q z (.nil ?_))))
   cases h
   exact ⟨z,sb z,hS.to [0] z⟩
  refine .exit ?_
  cases h
  exact ⟨by simp,z,sb z,hS.to [0] z⟩
 intro x E W hJ
 obtain ⟨rfl,hE,hS⟩:=hJ
 refine ⟨_,hE.sub,?_⟩
 cases h
 exact .g (.q z (.qn z (.ret (fin_ret (vs:=[_]) () (rt z rn) z (hS.to [0] z)))))
theorem fdp {a0 : List Quad} {a1 : List (List Int)} {v_0 : Hd} {v_1 : Hd} {S : Nat → Prop} {w : World} {r : Bool × (List (List Int))} (h : f6u a0 a1 = some r) (q_0 : RV w (Old S w) (sv v_0) 82 5 dQuad a0) (hO : Owns w [rowV (sv v_1) 25 1 (fun (l : List Int)=>D.row 3 1 (l.map (D.int .i64))) a1] S) (hlt : ∀ b,S b → b < w.heap.size) : Calls Tryz.prog 157 #[(sv v_0),(sv v_1)] w (Ret S w (fun s : Unit=>.bool r.1) (fun s=>[rowV (sv v_1) 25 1 (fun (l : List Int)=>D.row 3 1 (l.map (D.int .i64))) r.2])):=by
 unfold f6u at h
 refine enter Tryz.func157 z z ?_
 have hS:=Sep.startM hO hlt
 refine .g (.qn z (.g (.qn z (.seq (.g (.qn z (.block ?_)))))))
 have ⟨y1,hy1,h⟩:=bnd h
 refine .via (.iter (fun s1 E' W'=>SubL E' [(0,(sv v_0)),(1,(sv v_1)),(5,.bool s1.1),(6,.int .i64 s1.2.1)] ∧ Sep S w W' [rowV (sv v_1) 25 1 (fun (l : List Int)=>D.row 3 1 (l.map (D.int .i64))) s1.2.2]) (fun y2 x E' W'=>x = .exit 0 ∧ SubL E' [(5,.bool y2.1)] ∧ Sep S w W' [rowV (sv v_1) 25 1 (fun (l : List Int)=>D.row 3 1 (l.map (D.int .i64))) y2.2]) hy1 ⟨sb z,hS.to [0] z⟩ ?_) ?_
 ·intro s1 y3 E W h hI
  obtain ⟨hE,hS⟩:=hI
  refine CW.sub hE ?_
  unfold f9k at h
  refine .seq (.g (.q z (.q z (.s (lenv (hS.keep q_0) T.u68 z z) z (.q z (.nil ?_))))))
  refine .cs z h ?_ ?_ <;> intro h
  ·refine .skip ?_
   have ⟨y4,hy4,h⟩:=bnd h
   refine .seq (CW.via (R':=fun x E' W'=>x = .normal ∧ SubL E' [(0,(sv v_0)),(1,(sv v_1)),(5,.bool y4.1),(6,.int .i64 s1.2.1)] ∧ Sep S w W' [rowV (sv v_1) 25 1 (fun (l : List Int)=>D.row 3 1 (l.map (D.int .i64))) y4.2]) ?_ ?_)
   ·have h:=hy4
    refine .block (.seq (.g (.q z (.q z ?_))))
    have ⟨x1,hx1,h⟩:=bnd h
    refine .s (ixv hS.lendv hx1 T.u29 T.t25 z z z) z ?_
    obtain ⟨k1,hS⟩:=Sep.outv hS hx1
    obtain ⟨v1,k1,rfl,hS⟩:=hS.orowv
    obtain ⟨rfl,hS⟩:=hS.onil
    refine .s (lde (hS.p1.hcellsv) T.t25 z z z z z) z (.s (lenv hS.lendv T.u25 z z) z (.q z (.nil ?_)))
    refine .cs z h ?_ ?_ <;> intro h
    ·refine .exit ?_
     have hS:=Sep.gat (ds:=[.row 3 1 (x1.map (D.int .i64))]) (cs:=[(sv v1)]) (L1:=[rowV (sv v1) 3 1 (D.int .i64) x1]) (.row (.nil)) (hS.to [0,0] z)
     have hS : Sep _ _ _ [rowV (sv v_1) 25 1 (fun (l : List Int)=>D.row 3 1 (l.map (D.int .i64))) s1.2.2]:=Sep.back0v hx1 hS
     cases h
     exact ⟨z,sb z,hS.to [0] z⟩
    refine .skip (.g (.q z (.q z ?_)))
    have ⟨y5,hy5,h⟩:=bnd h
    refine .c (.call1v hS Tryz.func159 (f7n hy5 (hS.keep q_0)) z z ?_ z z z z)
    intro v2 W hS
    refine .qn z (.seq (.rk 10 hS [0,0,0] T.mix ?_))
    intro W hS
    have hT:=hS.to [0,0,0] z
    refine .tp 0 z z hT (by kernel_rfl) (.tp 1 z z hT (by kernel_rfl) ?_)
    have ⟨x2,hx2,h⟩:=bnd h
    refine .ts 2 z (fun W hT=>ixv (hS.keep q_0) hx2 T.u68 T.t82 z z z) hT z (by kernel_rfl) (.ts 3 z (fun W hT=>lde (RV.flat (hT.keep q_0) hx2 z) T.t82 z z z z z) hT z (by kernel_rfl) (.tp 4 z z hT (by kernel_rfl) (.tp 5 z z hT (by kernel_rfl) (.ts 6 z (fun W hT=>ixh hT.p2 hx1 T.u29 T.t25 z z z) hT z (by kernel_rfl) (.ts 7 z (fun W hT=>lde (hT.p2.hcellsv) T.t25 z z z z z) hT z (by kernel_rfl) ?_)))))
    have ⟨y6,hy6,h⟩:=bnd h
    refine .by1 8 z (.call1v hS Tryz.func168 (fd0 hy6 hS.p1.lendv) z z ?_ z z z z) (by kernel_rfl)
    intro v3 W hS
    have hT:=hS.to [1,1,1] z
    refine ⟨fun _=>hT,.tp 9 z z hT (by kernel_rfl) (.done (.g (.qn z (.block ?_))) (by kernel_rfl))⟩
    have hS:=Sep.gat (ds:=[.row 3 1 (x1.map (D.int .i64))]) (cs:=[(sv v1)]) (L1:=[rowV (sv v1) 3 1 (D.int .i64) x1]) (.row (.nil)) (hS.to [2,2,0,0] z)
    have hS : Sep _ _ _ [rowV (sv v_1) 25 1 (fun (l : List Int)=>D.row 3 1 (l.map (D.int .i64))) s1.2.2,rowV (sv v3) 3 1 (D.int .i64) y6,rowV (sv v2) 3 1 (D.int .i64) y5]:=Sep.back0v hx1 hS
    have ⟨y7,hy7,h⟩:=bnd h
    refine .via (.iter (fun s2 E' W'=>SubL E' [(0,(sv v_0)),(1,(sv v_1)),(5,.bool s2.1),(6,.int .i64 s1.2.1),(7,(sv v2)),(8,(sv v3)),(9,.int .i64 s2.2.1)] ∧ Sep S w W' [rowV (sv v_1) 25 1 (fun (l : List Int)=>D.row 3 1 (l.map (D.int .i64))) s2.2.2,rowV (sv v3) 3 1 (D.int .i64) y6,rowV (sv v2) 3 1 (D.int .i64) y5]) (fun y8 x E' W'=>x = .exit 2 ∧ SubL E' [(0,(sv v_0)),(1,(sv v_1)),(5,.bool y8.1),(6,.int .i64 s1.2.1)] ∧ Sep S w W' [rowV (sv v_1) 25 1 (fun (l : List Int)=>D.row 3 1 (l.map (D.int .i64))) y8.2,rowV (sv v3) 3 1 (D.int .i64) y6,rowV (sv v2) 3 1 (D.int .i64) y5]) hy7 ⟨sb z,hS.to [0,0,0] z⟩ ?_) ?_
    ·intro s2 y9 E W h hI
     obtain ⟨hE,hS⟩:=hI
     refine CW.sub hE ?_
     unfold f9r at h
     refine .seq (.g (.q z (.q z (.s (lenv hS.p2.lendv T.u25 z z) z (.qn z (.cond z (fun hb=>?_) (fun hb=>?_)))))))
     ·have h:=sel_t hb h
      refine .skip ?_
      have ⟨y10,hy10,h⟩:=bnd h
      refine .seq (CW.via (R':=fun x E' W'=>x = .normal ∧ SubL E' [(0,(sv v_0)),(1,(sv v_1)),(5,.bool y10.1),(6,.int .i64 s1.2.1),(7,(sv v2)),(8,(sv v3)),(9,.int .i64 s2.2.1)] ∧ Sep S w W' [rowV (sv v_1) 25 1 (fun (l : List Int)=>D.row 3 1 (l.map (D.int .i64))) y10.2,rowV (sv v3) 3 1 (D.int .i64) y6,rowV (sv v2) 3 1 (D.int .i64) y5]) ?_ ?_)
      ·have h:=hy10
       refine .block (.g (.q z (.q z (.q z ?_))))
       have ⟨x3,hx3,h⟩:=bnd h
       refine .s (ixv hS.p2.lendv hx3 T.u25 T.t3 z z z) z (.s (lde (RV.flat hS.p2.lendv hx3 z) T.t3 z z z z z) z (.q z ?_))
       have ⟨y11,hy11,h⟩:=bnd h
       refine .c (.callS2 (L0:=[rowV (sv v_1) 25 1 (fun (l : List Int)=>D.row 3 1 (l.map (D.int .i64))) s2.2.2]) hS Tryz.func169 (fun S h1 h2 h3=>(fdw hy11 (h3.rdv (k:=0) z) h2 (zz h1))) z z ?_ z z z z)
       rintro ⟨⟩ W hS
       refine .nil ?_
       refine .cs z h ?_ ?_ <;> intro h
       ·refine .region (.q z (.nil ?_))
        cases h
        exact ⟨z,sb z,hS.to [0,0,0] z⟩
       refine .skip ?_
       cases h
       exact ⟨z,sb z,hS.to [0,0,0] z⟩
      intro x E W hJ
      obtain ⟨rfl,hE,hS⟩:=hJ
      refine ⟨_,hE.sub,?_⟩
      refine .region (.q z (.q z (.q z (.nil ?_))))
      cases h
      exact ⟨z,sb z,hS.to [0,0,0] z⟩
     have h:=sel_f hb h
     refine .exit ?_
     cases h
     exact ⟨by simp,z,sb z,hS.to [0,0,0] z⟩
    intro x E W hJ
    obtain ⟨rfl,hE,hS⟩:=hJ
    refine ⟨_,hE.sub,?_⟩
    cases h
    exact ⟨z,sb z,hS.to [0] z⟩
   intro x E W hJ
   obtain ⟨rfl,hE,hS⟩:=hJ
   refine ⟨_,hE.sub,?_⟩
   refine .region (.q z (.q z (.q z (.nil ?_))))
   cases h
   exact ⟨z,sb z,hS.to [0] z⟩
  refine .exit ?_
  cases h
  exact ⟨by simp,z,sb z,hS.to [0] z⟩
 intro x E W hJ
 obtain ⟨rfl,hE,hS⟩:=hJ
 refine ⟨_,hE.sub,?_⟩
 cases h
 exact .g (.q z (.qn z (.ret (fin_ret (vs:=[_]) () (rt z rn) z (hS.to [0] z)))))
end Go.Proofs.YtcljimkjmklkmaaGreat.N
