/- Printed by a program of mine: that the program's functions compute it. -/
import Derived.Test.YtmjebmhcbnkojaaGreatK4
set_option linter.unusedVariables false
set_option linter.unusedSimpArgs false
set_option maxRecDepth 100000
set_option maxHeartbeats 4000000
namespace Go.Proofs.YtmjebmhcbnkojaaGreat.N
open Go.Proofs.YtmjebmhcbnkojaaGreat.X
noncomputable section
abbrev CL := Calls Tryz.prog
abbrev vi (x:Int):Value := Value.int IntKind.i64 x
abbrev RO (w:World) (h:Hd) {α:Type} := @RV α w (Old No w) (sv h)
abbrev RU (w:World) (v:Value) := Ret No w (λ_:Unit => v) λ_ => []
theorem z.{u} {α:Sort u} {a:α}:a=a := rfl
theorem zz {A S T:Nat->Prop} (h:∀ b, S b->A b/\T b):∀ b, S b->T b := λb hb => (h b hb).2
end
end Go.Proofs.YtmjebmhcbnkojaaGreat.N
namespace Go.Proofs.YtmjebmhcbnkojaaGreat.X
noncomputable section
theorem CW.g {P:Program} {n id:Nat} {ops:Array Oper} {d:Code} {E:Env} {W:World} {R:Exit->Env->World->Prop} (h:RG P n ops ops.toList E W (λE' W' => CW P n d E' W' R)):CW P n (.seq (.region id ops false) d) E W R := .seq (.region h)
variable {P:Program} {n:Nat} {ops:Array Oper} {o:Oper} {E:Env} {W:World} {v:Value} {K:Env->World->Prop} {SW:World->Prop} {k f:Nat} {ls:Array Bool}
theorem RK.tp' (i:Nat) (ho:ops[i]?=some o) (hv:pq n E o=some v) (hS:SW W) (h:RK P n ops SW k f (ls.setIfInBounds i true) (put E o.dst v) W K) (hs:(Region.noSelect ops&&Region.free .any ops ls i&&(Region.ready .any ops ls).contains i&&js ops k i&&!(Nat.beq i k))=true := by kernel_rfl):RK P n ops SW k (f+1) ls E W K := .tp i ho hv hS hs h
theorem RK.ts' (i:Nat) (ho:ops[i]?=some o) (hv:∀ W, SW W->eh P n E o W v W) (hS:SW W) (hg:og n o=true) (h:RK P n ops SW k f (ls.setIfInBounds i true) (put E o.dst v) W K) (hs:(Region.noSelect ops&&Region.free .any ops ls i&&(Region.ready .any ops ls).contains i&&js ops k i&&!(Nat.beq i k))=true := by kernel_rfl):RK P n ops SW k (f+1) ls E W K := .ts i ho hv hS hg hs h
theorem RG.qn {P:Program} {n:Nat} {ops:Array Oper} {o:Oper} {E:Env} {W:World} {v:Value} {K:Env->World->Prop} (h:pq n E o=some v) (k:K (put E o.dst v) W):RG P n ops [o] E W K := .q h (.nil k)
end
end Go.Proofs.YtmjebmhcbnkojaaGreat.X
namespace Go.Proofs.YtmjebmhcbnkojaaGreat.N
open Go.Proofs.YtmjebmhcbnkojaaGreat.X
open T Tryz
noncomputable section
theorem tB {a0:List Int} {v_0:Hd} {w:World} {r:aL} (h:lF a0=some r) (q_0:RO w v_0 5 1 (D.int .u8) a0):CL 21 #[sv v_0] w (Ret No w (λs:Nat×{x:Hd // ∀ (T:Nat->Prop),RV w T (sv v_0) 5 1 (D.int .u8) a0->RV w T (sv x) 5 1 (D.int .u8) r.b}=>.pointer (some ⟨s.1,0,none⟩)) (λs=>[.box s.1 74 [(sv s.2.1),vi r.p]])):=by
 unfold lF at h
 refine au func21 z z ?_
 have s:=Sep.start w
 refine .g (.qn z (bv h λy1 hy1 h=>?_))
 refine .seq (CW.via (R':=λx E' W'=>x=.normal/\∃ (v1:Hd),(∀ (T:Nat->Prop),RV w T (sv v_0) 5 1 (D.int .u8) a0->RV w T (sv v1) 5 1 (D.int .u8) y1)/\ak E' [(0,(sv v1))]/\Sep No w W' []) ?_ ?_)
 ·have h:=hy1
  refine .g (.q z (.s (aE (s.keep q_0) u22 z z) z (.q z (.nil ?_))))
  refine .cs z h ?_ ?_ <;> intro h
  ·refine .region (.q z (bv h λr1 hr1 h=>.s (slv hr1 q_0 u22 t5 z z z z) z (.q z (.nil ?_))))
   obtain rfl:=o9 h
   exact ⟨z,(w8 v_0 (Int.toNat 0) 1 r1.length),λ_ q_0=>(zK hr1 q_0),sb z,s.to []⟩
  refine .skip ?_
  obtain rfl:=o9 h
  exact ⟨z,v_0,λ_ q_0=>q_0,sb z,s.to []⟩
 intro x E W hJ
 obtain ⟨rfl,v2,q2,hE,s⟩:=hJ
 refine ⟨_,hE.sub,?_⟩
 refine .g (.q z (.s (bs T.s74 z z) z (.c (.box s z z ?_))))
 intro g1 W s
 cases h
 exact .qn z (.ret (aa (g1,⟨v2,λ_ q_0=>(q2 _ q_0)⟩) (rt z rn) z (s.tk [0])))
theorem al {a0:aL} {a1:Int} {ar:Hd} {g_0:Nat} {S:Nat->Prop} {w:World} {r:Int×Int} (h:ay a0 a1=some r) (aM:RV w (Old S w) (sv ar) 5 1 (D.int .u8) a0.b) (hO:bu w [.box g_0 74 [sv ar,vi a0.p]] S) (hlt:∀ b,S b->b<w.heap.size):CL 23 #[Pt g_0,vi a1] w (Ret S w (λs:Unit=>.int .i64 r.1) (λs=>[.box g_0 74 [sv ar,vi r.2]])):=by
 unfold ay at h
 refine au func23 z z ?_
 have s:=Sep.sm hO hlt
 refine .g (.qn z (.g (.q z (.q z (.q z (.s (fa f74_1 z z z) z (.s (ld t3 s z z z z z) z (.q z (.q z (.s (fa f74_1 z z z) z (.c (.st t3 s z z z ?_))))))))))))
 intro W s
 refine .nil (.seq (.g (.q z (.q z (.q z (.cu 7 24 ((decide (a1<1))||((a0.b.length:Int)==0)) s ?_ ?_))))))
 ·refine .both (decide (a1<1)) (λb=>?_) (λb=>?_)
  ·exact .xx b z (.xx b z (.xx b z (.xx b z (.xx b z (.xx b z (.s (pkt b z z z) z (.nil (ck 7 s z (jr b)))))))))
  have hg1:=b
  exact .g hg1 (.q z (.g hg1 (.q z (.g hg1 (.s (fa f74_0 z z z) z (.g hg1 (.s (ld t22 s z z z z z) z (.g hg1 (.s (aE (s.keep aM) u22 z z) z (.g hg1 (.q z (.s (pkf hg1 z z z) z (.nil (ck 7 s z (iR hg1)))))))))))))))
 intro W s
 refine .nil ?_
 refine .cs z h ?_ ?_ <;> intro h
 ·cases h
  exact .g (.qn z (.ret (aa () (rt z rn) z (s.tk [0]))))
 refine .skip (.g (.q z (.q z (.s (fa f74_1 z z z) z (.s (ld t3 s z z z z z) z (.q z (.qn z (.seq (.g (.q z (.q z (.q z (.s (fa f74_0 z z z) z (.s (ld t22 s z z z z z) z (.s (aE (s.keep aM) u22 z z) z (.q z (.nil ?_)))))))))))))))))
 refine .cs z h ?_ ?_ <;> intro h
 ·refine .g (.q z (.q z (.s (fa f74_0 z z z) z (.s (ld t22 s z z z z z) z (.q z (bv h λx1 hx1 h=>.s (ixv (s.keep aM) hx1 u22 t5 z z z) z (.s (lde (RV.flat (s.keep aM) hx1 z) t5 z z z z z) z (.s (cv u5 u3 z z) z (.q z (bv h λd1 hd1 h=>.s (dr hd1 z z z) z (.qn z (.ret ?_))))))))))))
  cases h
  exact aa () (rt z rn) z (s.tk [0])
 refine .skip (.seq (.rk 46 s [0] T.mix ?_))
 intro W s
 have t:=s.to [0]
 refine .tp' 0 z z t (.tp' 1 z z t (.ts' 2 z (λW t=>fa f74_0 z z z) t z (.ts' 3 z (λW t=>ld t22 t z z z z z) t z (.tp' 4 z z t (.tp' 5 z z t (.tp' 6 z z t (.ts' 7 z (λW t=>fa f74_0 z z z) t z (.ts' 8 z (λW t=>ld t22 t z z z z z) t z (.ts' 9 z (λW t=>aE (s.keep aM) u22 z z) t z (bv h λd2 hd2 h=>.ts' 10 z (λW t=>dr hd2 z z z) t z (bv h λx2 hx2 h=>.ts' 11 z (λW t=>ixv (s.keep aM) hx2 u22 t5 z z z) t z (.ts' 12 z (λW t=>lde (RV.flat (t.keep aM) hx2 z) t5 z z z z z) t z (.ts' 13 z (λW t=>cv u5 u3 z z) t z (.tp' 14 z z t (.tp' 15 z z t (.tp' 16 z z t (.ts' 17 z (λW t=>fa f74_0 z z z) t z (.ts' 18 z (λW t=>ld t22 t z z z z z) t z (.tp' 19 z z t (.tp' 20 z z t (.tp' 21 z z t (.tp' 22 z z t (.tp' 23 z z t (.ts' 24 z (λW t=>fa f74_0 z z z) t z (.ts' 25 z (λW t=>ld t22 t z z z z z) t z (.ts' 26 z (λW t=>aE (s.keep aM) u22 z z) t z (bv h λd3 hd3 h=>.ts' 27 z (λW t=>dr hd3 z z z) t z (bv h λx3 hx3 h=>.ts' 28 z (λW t=>ixv (s.keep aM) hx3 u22 t5 z z z) t z (.ts' 29 z (λW t=>lde (RV.flat (t.keep aM) hx3 z) t5 z z z z z) t z (.ts' 30 z (λW t=>cv u5 u3 z z) t z (.tp' 31 z z t (.tp' 32 z z t (.tp' 33 z z t (.tp' 34 z z t (.tp' 35 z z t (.tp' 36 z z t (.tp' 37 z z t (.tp' 38 z z t (.ts' 39 z (λW t=>fa f74_0 z z z) t z (.ts' 40 z (λW t=>ld t22 t z z z z z) t z (.ts' 41 z (λW t=>aE (s.keep aM) u22 z z) t z (bv h λd4 hd4 h=>.ts' 42 z (λW t=>dq hd4 z z z) t z (.tp' 43 z z t (.tp' 44 z z t (.tp' 45 z z t (.done (.g (.q z (.q z (.q z (.q z (.qn z (.g (.q z (.q z (bv h λd5 hd5 h=>.s (dr hd5 z z z) z (.qn z (.ret ?_))))))))))))))))))))))))))))))))))))))))))))))))))))))))))
 cases h
 exact aa () (rt z rn) z (s.tk [0])
theorem qO {a0:aL} {ar:Hd} {g_0:Nat} {S:Nat->Prop} {w:World} {r:(List Int)×Int} (h:jt a0=some r) (aM:RV w (Old S w) (sv ar) 5 1 (D.int .u8) a0.b) (hO:bu w [.box g_0 74 [sv ar,vi a0.p]] S) (hlt:∀ b,S b->b<w.heap.size):CL 79 #[Pt g_0] w (Ret S w (λs:Hd=>(sv s)) (λs=>[.box g_0 74 [sv ar,vi r.2],ac (sv s) 3 1 (D.int .i64) r.1])):=by
 unfold jt at h
 refine au func79 z z ?_
 have s:=Sep.sm hO hlt
 refine .g (.qn z (.g (.c (.liv [] (D.int .i64) u23 t3 s z z z z ?_ z (λ_=>z)))))
 intro v1 W s
 refine .qn z (.g (.c (.liv [0,1,1,2,2,3] (D.int .i64) u23 t3 s z z z z ?_ z (λ_=>z))))
 intro v2 W s
 refine .q z (bv h λy1 hy1 h=>?_)
 have s:=s.p2
 refine .c (.cS (L0:=[.box g_0 74 [sv ar,vi a0.p]]) s func23 (λS h1 h2 h3=>(al hy1 (s.ks aM h1) h2 (zz h1))) z z ?_)
 rintro ⟨⟩ W s
 refine bv h λx1 hx1 h=>.s (ixv s.p1.lv hx1 u23 t3 z z z) z (.s (lde (RV.flat s.p1.lv hx1 z) t3 z z z z z) z (.qn z (.seq (.g (.qn z (.block (bv h λy2 hy2 h=>?_)))))))
 refine .via (.iter (λs1 E' W'=>∃ (v5:Hd),ak E' [(0,Pt g_0),(3,(sv v5)),(4,vi x1),(5,vi s1.2.1)]/\Sep S w W' [.box g_0 74 [sv ar,vi s1.2.2],ac (sv v2) 3 1 (D.int .i64) [0,1,1,2,2,3],ac (sv v5) 3 1 (D.int .i64) s1.1]) (λy3 x E' W'=>x=.exit 0/\∃ (v6:Hd),ak E' [(3,(sv v6))]/\Sep S w W' [.box g_0 74 [sv ar,vi y3.2],ac (sv v2) 3 1 (D.int .i64) [0,1,1,2,2,3],ac (sv v6) 3 1 (D.int .i64) y3.1]) hy2 ⟨v1,sb z,s.tk [0,0,0]⟩ ?_) ?_
 ·intro s1 y4 E W h hI
  obtain ⟨v4,hE,s⟩:=hI
  refine CW.sub hE ?_
  unfold kV at h
  refine .seq (.g (.q z (.q z (.qn z (.cond z (λb=>?_) (λb=>?_))))))
  ·have h:=aJ b h
   refine .skip (.seq (.block (.region (.q z (.c (.liv [1,1,2,3,4] (D.int .i64) u23 t3 s z z z z ?_ z (λ_=>z)))))))
   intro v7 W s
   refine .q z (bv h λy5 hy5 h=>?_)
   have s:=s.p1
   refine .c (.cS (L0:=[.box g_0 74 [sv ar,vi s1.2.2]]) s func23 (λS h1 h2 h3=>(al hy5 (s.ks aM h1) h2 (zz h1))) z z ?_)
   rintro ⟨⟩ W s
   refine bv h λx2 hx2 h=>.s (ixv s.p1.lv hx2 u23 t3 z z z) z (.s (lde (RV.flat s.p1.lv hx2 z) t3 z z z z z) z (.c (.liv [x2] (D.int .i64) u23 t3 s z z z z ?_ z (λ_=>z))))
   intro v8 W s
   refine bv h λr1 hr1 h=>?_
   have hT0:=s.p4
   refine .c (.av hr1 hT0 hT0.p1.lv (λ_=>z) u23 t3 z z z ?_)
   intro v9 W s
   refine .qn z (.region (.q z (.q z (.q z (.nil ?_)))))
   cases h
   exact ⟨z,v9,sb z,s.tk [2,3,0]⟩
  have h:=aK b h
  refine .exit ?_
  cases h
  exact ⟨by simp,z,v4,sb z,s.tk [0,0,0]⟩
 intro x E W hJ
 obtain ⟨rfl,v10,hE,s⟩:=hJ
 refine ⟨_,hE.sub,?_⟩
 cases h
 exact .g (.q z (.qn z (.ret (aa v10 (rt z rn) z (s.tk [0,1])))))
theorem aP {a0:Int} {a1:Int} {w:World} {r:Expr} (h:cy a0 a1=some r):CL 82 #[vi a0,vi a1] w (Ret No w (λs:Hd=>.agg #[vi r.Op,vi r.N,sv s]) (λs=>[ac (sv s) 77 3 aC r.Args])):=by
 unfold cy at h
 refine au func82 z z ?_
 have s:=Sep.start w
 refine .g (.c (.alloc t77 s ?_))
 intro g1 W s
 refine .nil (.g (.q z (.q z (.c (.lg (L1:=[]) [] aC u75 t77 (s.to [0]) z z z (.nil) ?_ z xN)))))
 intro v1 W s
 refine .s (bs T.s77 z z) z (.c (.st t77 s.p1 z z z ?_))
 intro W s
 cases h
 exact .nil (.ret (aa v1 (rc s t77 z rn z z) z (s.tk [1])))
theorem nm {a0:aL} {ar:Hd} {g_0:Nat} {S:Nat->Prop} {w:World} {r:Expr×Int} (h:gw a0=some r) (aM:RV w (Old S w) (sv ar) 5 1 (D.int .u8) a0.b) (hO:bu w [.box g_0 74 [sv ar,vi a0.p]] S) (hlt:∀ b,S b->b<w.heap.size):CL 51 #[Pt g_0] w (Ret S w (λs:Hd=>.agg #[vi r.1.Op,vi r.1.N,sv s]) (λs=>[.box g_0 74 [sv ar,vi r.2],ac (sv s) 77 3 aC r.1.Args])):=by
 unfold gw at h
 refine au func51 z z ?_
 have s:=Sep.sm hO hlt
 refine .g (.c (.alloc t77 s ?_))
 intro g1 W s
 refine .nil (.seq (.g (.q z (bv h λy1 hy1 h=>?_))))
 have s:=s.p1
 refine .c (.cS (L0:=[.box g_0 74 [sv ar,vi a0.p]]) s func23 (λS h1 h2 h3=>(al hy1 (s.ks aM h1) h2 (zz h1))) z z ?_)
 rintro ⟨⟩ W s
 refine .nil (.block (.g (.q z (.qn z (.cond z (λb=>?_) (λb=>?_))))))
 ·have h:=aJ b h
  refine .g (.q z (bv h λy2 hy2 h=>.c (.cS (L0:=[.box g_0 74 [sv ar,vi y1.2]]) s func23 (λS h1 h2 h3=>(al hy2 (s.ks aM h1) h2 (zz h1))) z z ?_)))
  rintro ⟨⟩ W s
  refine bv h λy3 hy3 h=>.c (.cV s func82 (aP hy3) z z ?_)
  intro v1 W s
  refine .c (.st t77 s.p2 z z z ?_)
  intro W s
  cases h
  exact .nil (.ret (aa v1 (rc s t77 z rn z z) z (s.tk [2,1])))
 have h:=aK b h
 refine .g (.q z (.qn z (.cond z (λb=>?_) (λb=>?_))))
 ·have h:=aJ b h
  refine .g (.c (.liv [5,31,32,100,2047,2048,65536,99999] (D.int .i64) u23 t3 s z z z z ?_ z (λ_=>z)))
  intro v2 W s
  refine .q z (bv h λy4 hy4 h=>?_)
  have s:=s.p1
  refine .c (.cS (L0:=[.box g_0 74 [sv ar,vi y1.2]]) s func23 (λS h1 h2 h3=>(al hy4 (s.ks aM h1) h2 (zz h1))) z z ?_)
  rintro ⟨⟩ W s
  refine bv h λx1 hx1 h=>.s (ixv s.p1.lv hx1 u23 t3 z z z) z (.s (lde (RV.flat s.p1.lv hx1 z) t3 z z z z z) z (bv h λy5 hy5 h=>.c (.cV s func82 (aP hy5) z z ?_)))
  intro v3 W s
  refine .c (.st t77 s.p3 z z z ?_)
  intro W s
  cases h
  exact .nil (.ret (aa v3 (rc s t77 z rn z z) z (s.tk [2,1])))
 have h:=aK b h
 refine .skip (.g (.q z (bv h λy6 hy6 h=>.c (.cS (L0:=[.box g_0 74 [sv ar,vi y1.2]]) s func23 (λS h1 h2 h3=>(al hy6 (s.ks aM h1) h2 (zz h1))) z z ?_))))
 rintro ⟨⟩ W s
 refine bv h λy7 hy7 h=>.c (.cV s func82 (aP hy7) z z ?_)
 intro v4 W s
 refine .c (.st t77 s.p2 z z z ?_)
 intro W s
 cases h
 exact .nil (.ret (aa v4 (rc s t77 z rn z z) z (s.tk [2,1])))
theorem cf {a0:Int} {a1:Expr} {a2:Expr} {tC:Hd} {tD:Hd} {S:Nat->Prop} {w:World} {r:Expr} (h:j5 a0 a1 a2=some r) (hO:bu w [ac (sv tC) 77 3 aC a1.Args,ac (sv tD) 77 3 aC a2.Args] S) (hlt:∀ b,S b->b<w.heap.size):CL 180 #[vi a0,.agg #[vi a1.Op,vi a1.N,sv tC],.agg #[vi a2.Op,vi a2.N,sv tD]] w (Ret S w (λs:Hd=>.agg #[vi r.Op,vi r.N,sv s]) (λs=>[ac (sv s) 77 3 aC r.Args])):=by
 unfold j5 at h
 refine au func180 z z ?_
 have s:=Sep.sm hO hlt
 refine .g (.c (.box s z z ?_))
 intro g1 W s
 refine .c (.box s z z ?_)
 intro g2 W s
 refine .c (.alloc t77 s ?_)
 intro g3 W s
 refine .nil (.g (.q z (.s (ld t77 s.p2 z z z z z) z (.s (ld t77 s.p1 z z z z z) z (.c (.lg (L1:=[ac (sv tC) 77 3 aC a1.Args,ac (sv tD) 77 3 aC a2.Args]) [(Expr.mk a1.Op a1.N a1.Args),(Expr.mk a2.Op a2.N a2.Args)] aC u75 t77 (s.to [3,3,0,0,0]) z z z (.aggE (cq _) (.flat (c1:=[vi a1.Op]) z (.flat (c1:=[vi a1.N]) z (.row (.aggE (cq _) (.flat (c1:=[vi a2.Op]) z (.flat (c1:=[vi a2.N]) z (.row .nil)))))))) ?_ z xN))))))
 intro v1 W s
 refine .s (bs T.s77 z z) z (.c (.st t77 s.p1 z z z ?_))
 intro W s
 cases h
 exact .nil (.ret (aa v1 (rc s t77 z rn z z) z (s.tk [1])))
theorem tX {a0:aL} {ar:Hd} {g_0:Nat} {S:Nat->Prop} {w:World} {r:Int×Int} (h:mg a0=some r) (aM:RV w (Old S w) (sv ar) 5 1 (D.int .u8) a0.b) (hO:bu w [.box g_0 74 [sv ar,vi a0.p]] S) (hlt:∀ b,S b->b<w.heap.size):CL 181 #[Pt g_0] w (Ret S w (λs:Unit=>.int .i64 r.1) (λs=>[.box g_0 74 [sv ar,vi r.2]])):=by
 unfold mg at h
 refine au func181 z z ?_
 have s:=Sep.sm hO hlt
 refine .g (.qn z (.g (.q z (bv h λy1 hy1 h=>.c (.cS (L0:=[.box g_0 74 [sv ar,vi a0.p]]) s func23 (λS h1 h2 h3=>(al hy1 (s.ks aM h1) h2 (zz h1))) z z ?_)))))
 rintro ⟨⟩ W s
 cases h
 exact .q z (.qn z (.ret (aa () (rt z rn) z (s.tk [0]))))
def kF (F:aL->Int->Option (Expr×Int)):Prop:=∀ {a0:aL} {a1:Int} {ar:Hd} {g_0:Nat} {S:Nat->Prop} {w:World} {r:Expr×Int} (h:F a0 a1=some r) (aM:RV w (Old S w) (sv ar) 5 1 (D.int .u8) a0.b) (hO:bu w [.box g_0 74 [sv ar,vi a0.p]] S) (hlt:∀ b,S b->b<w.heap.size) , CL 166 #[Pt g_0,vi a1] w (Ret S w (λs:Hd=>.agg #[vi r.1.Op,vi r.1.N,sv s]) (λs=>[.box g_0 74 [sv ar,vi r.2],ac (sv s) 77 3 aC r.1.Args]))
theorem tE {k:Nat} {ik:aL->Int->Option (Expr×Int)} (np:kF ik):kF (ij k ik):=by
 intro a0 a1 ar g_0 S w r h aM hO hlt
 unfold ij at h
 refine au func166 z z ?_
 have s:=Sep.sm hO hlt
 refine .g (.c (.alloc t77 s ?_))
 intro g1 W s
 refine .nil (.seq (.g (.q z (.q z (.q z (bv h λb1 hb1 h=>.chunkL 4 13 (b1.1) (M:=S) (w0:=w) (L:=[.box g1 77 [vi 0,vi 0,sv aF],.box g_0 74 [sv ar,vi b1.2]]) ?_ ?_))))))
 ·refine .both (decide (a1<2)) (λb=>?_) (λb=>?_)
  ·refine .xx b z (.xx b z (.xx b z ?_))
   cases aJ b hb1
   exact .s (pkt b z z z) z (.nil (ck 4 (s.to [0,0])))
  have hg1:=b
  have h:=aK b hb1
  refine .g hg1 (.q z (bv h λy1 hy1 h=>?_))
  have s:=s.p1
  refine .g hg1 (.c (.cS (L0:=[.box g_0 74 [sv ar,vi a0.p]]) s func23 (λS h1 h2 h3=>(al hy1 (s.ks aM h1) h2 (zz h1))) z z ?_))
  rintro ⟨⟩ W s
  refine .g hg1 (.q z (.s (pkf hg1 z z z) z ?_))
  cases h
  exact .nil (ck 4 (s.to [1,0]))
 intro W s
 refine .nil (.cond z (λb=>?_) (λb=>?_))
 ·have h:=aJ b h
  refine .g (.q z (bv h λy2 hy2 h=>?_))
  have s:=s.p1
  refine .c (.cS (L0:=[.box g_0 74 [sv ar,vi b1.2]]) s func51 (λS h1 h2 h3=>(nm hy2 (s.ks aM h1) h2 (zz h1))) z z ?_)
  rintro v1 W s
  refine .c (.st t77 s.p2 z z z ?_)
  intro W s
  cases h
  exact .nil (.ret (aa v1 (rc s t77 z rn z z) z (s.tk [1,1])))
 have h:=aK b h
 refine .skip (.g (.q z (bv h λy3 hy3 h=>?_)))
 have s:=s.p1
 refine .c (.cS (L0:=[.box g_0 74 [sv ar,vi b1.2]]) s func181 (λS h1 h2 h3=>(tX hy3 (s.ks aM h1) h2 (zz h1))) z z ?_)
 rintro ⟨⟩ W s
 refine .qn z (.g (.q z (.q z (.q z (bv h λy4 hy4 h=>.c (.cS (L0:=[.box g_0 74 [sv ar,vi y3.2]]) s func166 (λS h1 h2 h3=>(np hy4 (s.ks aM h1) h2 (zz h1))) z z ?_))))))
 rintro v2 W s
 refine .c (.alloc t77 s ?_)
 intro g2 W s
 refine .c (.st t77 s z z z ?_)
 intro W s
 refine .nil (.seq (.rk 7 s [0,2] T.mix ?_))
 intro W s
 have t:=s.to [0,2]
 refine .tp' 0 z z t (.ts' 1 z (λW t=>ld t77 t z z z z z) t z (.tp' 2 z z t (.tp' 3 z z t (.tp' 4 z z t (bv h λy5 hy5 h=>?_)))))
 have s:=s.p1
 refine .by1 5 z (.cS (L0:=[.box g_0 74 [sv ar,vi y4.2]]) s func166 (λS h1 h2 h3=>(np hy5 (s.ks aM h1) h2 (zz h1))) z z ?_)
 rintro v3 W s
 refine s.an [2,3] λt=>bv h λy6 hy6 h=>?_
 have s:=s.p1.p3
 refine .by1 6 z (.cS (L0:=[ac (sv v2) 77 3 aC y4.1.Args,ac (sv v3) 77 3 aC y5.1.Args]) s func180 (λS h1 h2 h3=>(cf hy6 h2 (zz h1))) z z ?_)
 rintro v4 W s
 refine s.an [2,2] λt=>.by1 7 z (.st t77 s.p3 z z z ?_)
 intro W s
 refine ⟨λh=>absurd z h,?_⟩
 cases h
 exact .done (.ret (aa v4 (rc s t77 z rn z z) z (s.tk [2,1])))
theorem oz (k:Nat):kF (dL k):=by
  induction k with
  | zero=>exact by intro a0 a1 ar g_0 S w r h aM hO hlt; exact no h
  | succ k ih=>exact tE (k:=k) ih
theorem jQ {k:Nat}:kF (dL k):=(oz k)
theorem nT {k:Nat} {a0:aL} {ar:Hd} {g_0:Nat} {S:Nat->Prop} {w:World} {r:ae×Int} (h:j6 k a0=some r) (aM:RV w (Old S w) (sv ar) 5 1 (D.int .u8) a0.b) (hO:bu w [.box g_0 74 [sv ar,vi a0.p]] S) (hlt:∀ b,S b->b<w.heap.size):CL 162 #[Pt g_0] w (Ret S w (λs:Hd×Hd×Hd=>.agg #[vi r.1.Kind,vi r.1.Var,vi r.1.Box,vi r.1.Expr.Op,vi r.1.Expr.N,(sv s.1),(sv s.2.1),(sv s.2.2)]) (λs=>[.box g_0 74 [sv ar,vi r.2],ac (sv s.1) 77 3 aC r.1.Expr.Args,ac (sv s.2.1) 80 8 aj r.1.Body,ac (sv s.2.2) 80 8 aj r.1.Else])):=by
 unfold j6 at h
 refine au func162 z z ?_
 have s:=Sep.sm hO hlt
 refine .g (.c (.alloc t80 s ?_))
 intro g1 W s
 refine .nil (.g (.q z (bv h λy1 hy1 h=>?_)))
 have s:=s.p1
 refine .c (.cS (L0:=[.box g_0 74 [sv ar,vi a0.p]]) s func23 (λS h1 h2 h3=>(al hy1 (s.ks aM h1) h2 (zz h1))) z z ?_)
 rintro ⟨⟩ W s
 refine .qn z (.g (.q z (.q z (.q z (bv h λy2 hy2 h=>.c (.cS (L0:=[.box g_0 74 [sv ar,vi y1.2]]) s func23 (λS h1 h2 h3=>(al hy2 (s.ks aM h1) h2 (zz h1))) z z ?_))))))
 rintro ⟨⟩ W s
 refine .q z (bv h λy3 hy3 h=>.c (.cS (L0:=[.box g_0 74 [sv ar,vi y2.2]]) s func166 (λS h1 h2 h3=>(jQ hy3 (s.ks aM h1) h2 (zz h1))) z z ?_))
 rintro v1 W s
 refine .s (bs T.s80 z z) z (.c (.st t80 s.p2 z z z ?_))
 intro W s
 refine .nil (.ret ?_)
 have s:=s.nilv 80 8 aj
 have s:=s.nilv 80 8 aj
 cases h
 exact aa (v1,aF,aF) (rc s.p2 t80 z rn z z) z (s.tk [3,3,1,0])
theorem rY {k:Nat} {a0:aL} {a1:Int} {ar:Hd} {g_0:Nat} {S:Nat->Prop} {w:World} {r:ae×Int} (h:ki k a0 a1=some r) (aM:RV w (Old S w) (sv ar) 5 1 (D.int .u8) a0.b) (hO:bu w [.box g_0 74 [sv ar,vi a0.p]] S) (hlt:∀ b,S b->b<w.heap.size):CL 165 #[Pt g_0,vi a1] w (Ret S w (λs:Hd×Hd×Hd=>.agg #[vi r.1.Kind,vi r.1.Var,vi r.1.Box,vi r.1.Expr.Op,vi r.1.Expr.N,(sv s.1),(sv s.2.1),(sv s.2.2)]) (λs=>[.box g_0 74 [sv ar,vi r.2],ac (sv s.1) 77 3 aC r.1.Expr.Args,ac (sv s.2.1) 80 8 aj r.1.Body,ac (sv s.2.2) 80 8 aj r.1.Else])):=by
 unfold ki at h
 refine au func165 z z ?_
 have s:=Sep.sm hO hlt
 refine .g (.c (.alloc t80 s ?_))
 intro g1 W s
 refine .nil (.seq (.g (.q z (.qn z (.cond z (λb=>?_) (λb=>?_))))))
 ·have h:=aJ b h
  refine .g (.q z (bv h λy1 hy1 h=>?_))
  have s:=s.p1
  refine .c (.cS (L0:=[.box g_0 74 [sv ar,vi a0.p]]) s func162 (λS h1 h2 h3=>(nT hy1 (s.ks aM h1) h2 (zz h1))) z z ?_)
  rintro ⟨v1,v2,v3⟩ W s
  refine .c (.st t80 s.p4 z z z ?_)
  intro W s
  cases h
  exact .nil (.ret (aa (v1,v2,v3) (rc s t80 z rn z z) z (s.tk [1,1,1,1])))
 have h:=aK b h
 refine .skip (.g (.q z (.q z (bv h λy2 hy2 h=>?_))))
 have s:=s.p1
 refine .c (.cS (L0:=[.box g_0 74 [sv ar,vi a0.p]]) s func23 (λS h1 h2 h3=>(al hy2 (s.ks aM h1) h2 (zz h1))) z z ?_)
 rintro ⟨⟩ W s
 refine .qn z (.seq (.g (.q z (bv h λy3 hy3 h=>.c (.cS (L0:=[.box g_0 74 [sv ar,vi y2.2]]) s func23 (λS h1 h2 h3=>(al hy3 (s.ks aM h1) h2 (zz h1))) z z ?_)))))
 rintro ⟨⟩ W s
 refine .qn z (.cond z (λb=>?_) (λb=>?_))
 ·have h:=aJ b h
  refine .g (.q z (.q z (.q z (bv h λy4 hy4 h=>.c (.cS (L0:=[.box g_0 74 [sv ar,vi y3.2]]) s func23 (λS h1 h2 h3=>(al hy4 (s.ks aM h1) h2 (zz h1))) z z ?_)))))
  rintro ⟨⟩ W s
  refine .q z (bv h λy5 hy5 h=>.c (.cS (L0:=[.box g_0 74 [sv ar,vi y4.2]]) s func166 (λS h1 h2 h3=>(jQ hy5 (s.ks aM h1) h2 (zz h1))) z z ?_))
  rintro v4 W s
  refine .s (bs T.s80 z z) z (.c (.st t80 s.p2 z z z ?_))
  intro W s
  refine .nil (.ret ?_)
  have s:=s.nilv 80 8 aj
  have s:=s.nilv 80 8 aj
  cases h
  exact aa (v4,aF,aF) (rc s.p2 t80 z rn z z) z (s.tk [3,3,1,0])
 have h:=aK b h
 refine .skip (.g (.q z (.q z (bv h λy6 hy6 h=>.c (.cS (L0:=[.box g_0 74 [sv ar,vi y3.2]]) s func23 (λS h1 h2 h3=>(al hy6 (s.ks aM h1) h2 (zz h1))) z z ?_)))))
 rintro ⟨⟩ W s
 refine .s (bs T.s80 z z) z (.c (.st t80 s.p1 z z z ?_))
 intro W s
 refine .nil (.ret ?_)
 have s:=s.nilv 77 3 aC
 have s:=s.nilv 80 8 aj
 have s:=s.nilv 80 8 aj
 cases h
 exact aa (aF,aF,aF) (rc s.p3 t80 z rn z z) z (s.tk [4,2,1,0])
def dE (F:aL->Int->Int->Int->Bool->Option ((List ae)×Int)):Prop:=∀ {a0:aL} {a1:Int} {a2:Int} {a3:Int} {a4:Bool} {ar:Hd} {g_0:Nat} {S:Nat->Prop} {w:World} {r:(List ae)×Int} (h:F a0 a1 a2 a3 a4=some r) (aM:RV w (Old S w) (sv ar) 5 1 (D.int .u8) a0.b) (hO:bu w [.box g_0 74 [sv ar,vi a0.p]] S) (hlt:∀ b,S b->b<w.heap.size) , CL 115 #[Pt g_0,vi a1,vi a2,vi a3,.bool a4] w (Ret S w (λs:Hd=>(sv s)) (λs=>[.box g_0 74 [sv ar,vi r.2],ac (sv s) 80 8 aj r.1]))
def gi (F:aL->Int->Int->Bool->Option ((List ae)×Int)):Prop:=∀ {a0:aL} {a1:Int} {a2:Int} {a3:Bool} {ar:Hd} {g_0:Nat} {S:Nat->Prop} {w:World} {r:(List ae)×Int} (h:F a0 a1 a2 a3=some r) (aM:RV w (Old S w) (sv ar) 5 1 (D.int .u8) a0.b) (hO:bu w [.box g_0 74 [sv ar,vi a0.p]] S) (hlt:∀ b,S b->b<w.heap.size) , CL 137 #[Pt g_0,vi a1,vi a2,.bool a3] w (Ret S w (λs:Hd=>(sv s)) (λs=>[.box g_0 74 [sv ar,vi r.2],ac (sv s) 80 8 aj r.1]))
def jg (F:aL->Int->Int->Bool->Option (ae×Int)):Prop:=∀ {a0:aL} {a1:Int} {a2:Int} {a3:Bool} {ar:Hd} {g_0:Nat} {S:Nat->Prop} {w:World} {r:ae×Int} (h:F a0 a1 a2 a3=some r) (aM:RV w (Old S w) (sv ar) 5 1 (D.int .u8) a0.b) (hO:bu w [.box g_0 74 [sv ar,vi a0.p]] S) (hlt:∀ b,S b->b<w.heap.size) , CL 163 #[Pt g_0,vi a1,vi a2,.bool a3] w (Ret S w (λs:Hd×Hd×Hd=>.agg #[vi r.1.Kind,vi r.1.Var,vi r.1.Box,vi r.1.Expr.Op,vi r.1.Expr.N,(sv s.1),(sv s.2.1),(sv s.2.2)]) (λs=>[.box g_0 74 [sv ar,vi r.2],ac (sv s.1) 77 3 aC r.1.Expr.Args,ac (sv s.2.1) 80 8 aj r.1.Body,ac (sv s.2.2) 80 8 aj r.1.Else]))
def gj (F:aL->Int->Int->Option ((List ae)×Int)):Prop:=∀ {a0:aL} {a1:Int} {a2:Int} {ar:Hd} {g_0:Nat} {S:Nat->Prop} {w:World} {r:(List ae)×Int} (h:F a0 a1 a2=some r) (aM:RV w (Old S w) (sv ar) 5 1 (D.int .u8) a0.b) (hO:bu w [.box g_0 74 [sv ar,vi a0.p]] S) (hlt:∀ b,S b->b<w.heap.size) , CL 164 #[Pt g_0,vi a1,vi a2] w (Ret S w (λs:Hd=>(sv s)) (λs=>[.box g_0 74 [sv ar,vi r.2],ac (sv s) 80 8 aj r.1]))
theorem rZ {k:Nat} {aY:aL->Int->Int->Int->Bool->Option ((List ae)×Int)} {bc:aL->Int->Int->Bool->Option ((List ae)×Int)} {bx:aL->Int->Int->Bool->Option (ae×Int)} {bj:aL->Int->Int->Option ((List ae)×Int)} (ed:dE aY) (jR:gi bc) (lw:jg bx) (jS:gj bj):dE (gM k aY bc bx bj):=by
 intro a0 a1 a2 a3 a4 ar g_0 S w r h aM hO hlt
 unfold gM at h
 refine au func115 z z ?_
 have s:=Sep.sm hO hlt
 refine .g (.qn z (.g (.c (.lg (L1:=[]) [] aj u36 t80 (s.to [0]) z z z (.nil) ?_ z jl))))
 intro v1 W s
 refine .qn z (.seq (.g (.qn z (.block (bv h λy1 hy1 h=>?_)))))
 refine .via (.iter (λs1 E' W'=>∃ (v4:Hd),ak E' [(0,Pt g_0),(1,vi a1),(2,vi a2),(3,vi a3),(4,.bool a4),(11,(sv v4)),(12,vi s1.2.1)]/\Sep S w W' [.box g_0 74 [sv ar,vi s1.2.2],ac (sv v4) 80 8 aj s1.1]) (λy2 x E' W'=>x=.exit 0/\∃ (v5:Hd),ak E' [(11,(sv v5))]/\Sep S w W' [.box g_0 74 [sv ar,vi y2.2],ac (sv v5) 80 8 aj y2.1]) hy1 ⟨v1,sb z,s.tk [1,0]⟩ ?_) ?_
 ·intro s1 y3 E W h hI
  obtain ⟨v3,hE,s⟩:=hI
  refine CW.sub hE ?_
  unfold kW at h
  refine .seq (.g (.q z (.q z (.qn z (.cond z (λb=>?_) (λb=>?_))))))
  ·have h:=aJ b h
   refine .skip (.seq (.block (.region (.q z (.q z (.q z (.q z (.q z (bv h λy4 hy4 h=>.c (.cS (L0:=[.box g_0 74 [sv ar,vi s1.2.2]]) s func137 (λS h1 h2 h3=>(jR hy4 (s.ks aM h1) h2 (zz h1))) z z ?_))))))))))
   rintro v6 W s
   refine bv h λr1 hr1 h=>.c (.appv hr1 (s.to [2,1,0]) u36 t80 z z z ?_)
   intro v7 W s
   refine .qn z (.region (.q z (.q z (.q z (.nil ?_)))))
   cases h
   exact ⟨z,v7,sb z,s.tk [1,0]⟩
  have h:=aK b h
  refine .exit ?_
  cases h
  exact ⟨by simp,z,v3,sb z,s.tk [0,0]⟩
 intro x E W hJ
 obtain ⟨rfl,v8,hE,s⟩:=hJ
 refine ⟨_,hE.sub,?_⟩
 cases h
 exact .g (.q z (.qn z (.ret (aa v8 (rt z rn) z (s.tk [0,0])))))
def tF (w:World) (S:Nat->Prop) (ar:Hd) (g_0:Nat) (a0:aL) (a1:Int) (a2:Int) (a3:Bool) (r:(List ae)×Int):Env->World->Prop:=Fin Tryz.prog Tryz.f137 S w (λs:Hd=>(sv s)) (λs=>[.box g_0 74 [sv ar,vi r.2],ac (sv s) 80 8 aj r.1]) .ret
theorem tG {k:Nat} {aY:aL->Int->Int->Int->Bool->Option ((List ae)×Int)} {bc:aL->Int->Int->Bool->Option ((List ae)×Int)} {bx:aL->Int->Int->Bool->Option (ae×Int)} {bj:aL->Int->Int->Option ((List ae)×Int)} (ed:dE aY) (jR:gi bc) (lw:jg bx) (jS:gj bj):gi (il k aY bc bx bj):=by
 intro a0 a1 a2 a3 ar g_0 S w r h aM hO hlt
 unfold il at h
 refine au func137 z z ?_
 have s:=Sep.sm hO hlt
 refine .g (.qn z (bv h λy1 hy1 h=>?_))
 refine .seq (CW.via (R':=λx E' W'=>(match y1 with | .inl o1=>x=.normal/\ak E' [(0,Pt g_0)]/\Sep S w W' [.box g_0 74 [sv ar,vi o1]] | .inr o2=>x=.ret/\tF w S ar g_0 a0 a1 a2 a3 o2 E' W')) ?_ ?_)
 ·have h:=hy1
  refine .g (.q z (bv h λy2 hy2 h=>.c (.cS (L0:=[.box g_0 74 [sv ar,vi a0.p]]) s func23 (λS h1 h2 h3=>(al hy2 (s.ks aM h1) h2 (zz h1))) z z ?_)))
  rintro ⟨⟩ W s
  refine .nil (.block (bv h λy3 hy3 h=>?_))
  refine .seq (CW.via (R':=λx E' W'=>x=.normal/\ak E' [(0,Pt g_0),(1,vi a1),(2,vi a2),(3,.bool a3),(10,vi y2.1),(11,.bool y3)]/\Sep S w W' [.box g_0 74 [sv ar,vi y2.2]]) ?_ ?_)
  ·have h:=hy3
   refine .g (.q z (.q z (.nil ?_)))
   refine .cs z h ?_ ?_ <;> intro h
   ·refine .skip ?_
    cases h
    exact ⟨z,sb z,s.tk [0]⟩
   refine .region (.q z (.q z (.nil ?_)))
   cases h
   exact ⟨z,sb z,s.tk [0]⟩
  intro x E W hJ
  obtain ⟨rfl,hE,s⟩:=hJ
  refine ⟨_,hE.sub,?_⟩
  refine .cond z (λb=>?_) (λb=>?_)
  ·have h:=aJ b h
   refine .g (.q z (bv h λy4 hy4 h=>.c (.cS (L0:=[.box g_0 74 [sv ar,vi y2.2]]) s func162 (λS h1 h2 h3=>(nT hy4 (s.ks aM h1) h2 (zz h1))) z z ?_)))
   rintro ⟨v1,v2,v3⟩ W s
   refine .c (.lg (L1:=[ac (sv v1) 77 3 aC y4.1.Expr.Args,ac (sv v2) 80 8 aj y4.1.Body,ac (sv v3) 80 8 aj y4.1.Else]) [(ae.mk y4.1.Kind y4.1.Var y4.1.Box (Expr.mk y4.1.Expr.Op y4.1.Expr.N y4.1.Expr.Args) y4.1.Body y4.1.Else)] aj u36 t80 (s.to [1,1,1,0]) z z z (.aggE (dT _) (.flat (c1:=[vi y4.1.Kind]) z (.flat (c1:=[vi y4.1.Var]) z (.flat (c1:=[vi y4.1.Box]) z (.aggE (cq _) (.flat (c1:=[vi y4.1.Expr.Op]) z (.flat (c1:=[vi y4.1.Expr.N]) z (.row (.row (.row .nil)))))))))) ?_ z jl)
   intro v4 W s
   refine .qn z (.ret ?_)
   cases h
   exact ⟨z,aa (vs:=[_]) v4 (rt z rn) z (s.tk [1,0])⟩
  have h:=aK b h
  refine .g (.q z (.q z (.nil ?_)))
  refine .cs z h ?_ ?_ <;> intro h
  ·refine .g (.q z (.qn z (.cond z (λb=>?_) (λb=>?_))))
   ·have h:=aJ b h
    refine .g (.q z (.q z (.q z (.q z (bv h λy5 hy5 h=>.c (.cS (L0:=[.box g_0 74 [sv ar,vi y2.2]]) s func163 (λS h1 h2 h3=>(lw hy5 (s.ks aM h1) h2 (zz h1))) z z ?_))))))
    rintro ⟨v5,v6,v7⟩ W s
    refine .c (.lg (L1:=[ac (sv v5) 77 3 aC y5.1.Expr.Args,ac (sv v6) 80 8 aj y5.1.Body,ac (sv v7) 80 8 aj y5.1.Else]) [(ae.mk y5.1.Kind y5.1.Var y5.1.Box (Expr.mk y5.1.Expr.Op y5.1.Expr.N y5.1.Expr.Args) y5.1.Body y5.1.Else)] aj u36 t80 (s.to [1,1,1,0]) z z z (.aggE (dT _) (.flat (c1:=[vi y5.1.Kind]) z (.flat (c1:=[vi y5.1.Var]) z (.flat (c1:=[vi y5.1.Box]) z (.aggE (cq _) (.flat (c1:=[vi y5.1.Expr.Op]) z (.flat (c1:=[vi y5.1.Expr.N]) z (.row (.row (.row .nil)))))))))) ?_ z jl)
    intro v8 W s
    refine .qn z (.ret ?_)
    cases h
    exact ⟨z,aa (vs:=[_]) v8 (rt z rn) z (s.tk [1,0])⟩
   have h:=aK b h
   refine .skip ?_
   cases h
   exact ⟨z,sb z,s.tk [0]⟩
  refine .g (.q z (.q z (.nil ?_)))
  refine .cs z h ?_ ?_ <;> intro h
  ·refine .g (.q z (.q z (.q z (.cu 2 33 ((decide (a2>0))&&a3) s ?_ ?_))))
   ·refine .both (decide (a2>0)) (λb=>?_) (λb=>?_)
    ·have hg1:=b
     exact .g hg1 (.q z (.s (pkt hg1 z z z) z (.nil (ck 2 s z (bh hg1)))))
    exact .xx b z (.s (pkf b z z z) z (.nil (ck 2 s z (bi b))))
   intro W s
   refine .nil (.cond z (λb=>?_) (λb=>?_))
   ·have h:=aJ b h
    refine .g (.q z (.q z (.q z (bv h λy6 hy6 h=>.c (.cS (L0:=[.box g_0 74 [sv ar,vi y2.2]]) s func164 (λS h1 h2 h3=>(jS hy6 (s.ks aM h1) h2 (zz h1))) z z ?_)))))
    rintro v9 W s
    refine .qn z (.ret ?_)
    cases h
    exact ⟨z,aa (vs:=[_]) v9 (rt z rn) z (s.tk [0,0])⟩
   have h:=aK b h
   refine .skip ?_
   cases h
   exact ⟨z,sb z,s.tk [0]⟩
  refine bv h λy7 hy7 h=>?_
  refine .seq (CW.via (R':=λx E' W'=>x=.normal/\ak E' [(0,Pt g_0),(1,vi a1),(10,vi y2.1),(38,.bool y7)]/\Sep S w W' [.box g_0 74 [sv ar,vi y2.2]]) ?_ ?_)
  ·have h:=hy7
   refine .g (.q z (.q z (.nil ?_)))
   refine .cs z h ?_ ?_ <;> intro h
   ·refine .skip ?_
    cases h
    exact ⟨z,sb z,s.tk [0]⟩
   refine .g (.q z (.q z (.nil ?_)))
   refine .cs z h ?_ ?_ <;> intro h
   ·refine .skip ?_
    cases h
    exact ⟨z,sb z,s.tk [0]⟩
   refine .region (.q z (.q z (.nil ?_)))
   cases h
   exact ⟨z,sb z,s.tk [0]⟩
  intro x E W hJ
  obtain ⟨rfl,hE,s⟩:=hJ
  refine ⟨_,hE.sub,?_⟩
  refine .cond z (λb=>?_) (λb=>?_)
  ·have h:=aJ b h
   refine .g (.q z (.q z (bv h λy8 hy8 h=>.c (.cS (L0:=[.box g_0 74 [sv ar,vi y2.2]]) s func165 (λS h1 h2 h3=>(rY hy8 (s.ks aM h1) h2 (zz h1))) z z ?_))))
   rintro ⟨v10,v11,v12⟩ W s
   refine .c (.lg (L1:=[ac (sv v10) 77 3 aC y8.1.Expr.Args,ac (sv v11) 80 8 aj y8.1.Body,ac (sv v12) 80 8 aj y8.1.Else]) [(ae.mk y8.1.Kind y8.1.Var y8.1.Box (Expr.mk y8.1.Expr.Op y8.1.Expr.N y8.1.Expr.Args) y8.1.Body y8.1.Else)] aj u36 t80 (s.to [1,1,1,0]) z z z (.aggE (dT _) (.flat (c1:=[vi y8.1.Kind]) z (.flat (c1:=[vi y8.1.Var]) z (.flat (c1:=[vi y8.1.Box]) z (.aggE (cq _) (.flat (c1:=[vi y8.1.Expr.Op]) z (.flat (c1:=[vi y8.1.Expr.N]) z (.row (.row (.row .nil)))))))))) ?_ z jl)
   intro v13 W s
   refine .qn z (.ret ?_)
   cases h
   exact ⟨z,aa (vs:=[_]) v13 (rt z rn) z (s.tk [1,0])⟩
  have h:=aK b h
  refine .g (.q z (.q z (.nil ?_)))
  refine .cs z h ?_ ?_ <;> intro h
  ·refine .g (.s (bs T.s80 z z) z ?_)
   have s:=s.nilv 77 3 aC
   have s:=s.nilv 80 8 aj
   have s:=s.nilv 80 8 aj
   refine .c (.lg (L1:=[ac (sv aF) 77 3 aC [],ac (sv aF) 80 8 aj [],ac (sv aF) 80 8 aj []]) [(ae.mk 6 0 0 (Expr.mk 0 0 []) [] [])] aj u36 t80 (s.to [2,1,0,0]) z z z (.aggE (dT _) (.flat (c1:=[vi 6]) z (.flat (c1:=[vi 0]) z (.flat (c1:=[vi 0]) z (.aggE (cq _) (.flat (c1:=[vi 0]) z (.flat (c1:=[vi 0]) z (.row (.row (.row .nil)))))))))) ?_ z jl)
   intro v14 W s
   refine .qn z (.ret ?_)
   cases h
   exact ⟨z,aa (vs:=[_]) v14 (rt z rn) z (s.tk [1,0])⟩
  refine .skip ?_
  cases h
  exact ⟨z,sb z,s.tk [0]⟩
 intro x E W hJ
 rcases y1 with o3 | o4
 ·have h:=dl h
  obtain ⟨rfl,hE,s⟩:=hJ
  refine ⟨_,hE.sub,?_⟩
  refine .g (.q z (.q z (bv h λy9 hy9 h=>.c (.cS (L0:=[.box g_0 74 [sv ar,vi o3]]) s func23 (λS h1 h2 h3=>(al hy9 (s.ks aM h1) h2 (zz h1))) z z ?_))))
  rintro ⟨⟩ W s
  refine .q z (bv h λy10 hy10 h=>.c (.cS (L0:=[.box g_0 74 [sv ar,vi y9.2]]) s func166 (λS h1 h2 h3=>(jQ hy10 (s.ks aM h1) h2 (zz h1))) z z ?_))
  rintro v15 W s
  refine .s (bs T.s80 z z) z ?_
  have s:=s.nilv 80 8 aj
  have s:=s.nilv 80 8 aj
  refine .c (.lg (L1:=[ac (sv v15) 77 3 aC y10.1.Args,ac (sv aF) 80 8 aj [],ac (sv aF) 80 8 aj []]) [(ae.mk 7 0 0 (Expr.mk y10.1.Op y10.1.N y10.1.Args) [] [])] aj u36 t80 (s.to [3,1,0,0]) z z z (.aggE (dT _) (.flat (c1:=[vi 7]) z (.flat (c1:=[vi 0]) z (.flat (c1:=[vi 0]) z (.aggE (cq _) (.flat (c1:=[vi y10.1.Op]) z (.flat (c1:=[vi y10.1.N]) z (.row (.row (.row .nil)))))))))) ?_ z jl)
  intro v16 W s
  cases h
  exact .qn z (.ret (aa v16 (rt z rn) z (s.tk [1,0])))
 have h:=dm h
 obtain ⟨rfl,hF⟩:=hJ
 refine ⟨_,λ_ _ h=>h,?_⟩
 cases h
 exact hF
theorem uU {k:Nat} {aY:aL->Int->Int->Int->Bool->Option ((List ae)×Int)} {bc:aL->Int->Int->Bool->Option ((List ae)×Int)} {bx:aL->Int->Int->Bool->Option (ae×Int)} {bj:aL->Int->Int->Option ((List ae)×Int)} (ed:dE aY) (jR:gi bc) (lw:jg bx) (jS:gj bj):jg (kj k aY bc bx bj):=by
 intro a0 a1 a2 a3 ar g_0 S w r h aM hO hlt
 unfold kj at h
 refine au func163 z z ?_
 have s:=Sep.sm hO hlt
 refine .g (.c (.alloc t80 s ?_))
 intro g1 W s
 refine .nil (.g (.q z (.q z (bv h λy1 hy1 h=>?_))))
 have s:=s.p1
 refine .c (.cS (L0:=[.box g_0 74 [sv ar,vi a0.p]]) s func23 (λS h1 h2 h3=>(al hy1 (s.ks aM h1) h2 (zz h1))) z z ?_)
 rintro ⟨⟩ W s
 refine .q z (bv h λy2 hy2 h=>.c (.cS (L0:=[.box g_0 74 [sv ar,vi y1.2]]) s func166 (λS h1 h2 h3=>(jQ hy2 (s.ks aM h1) h2 (zz h1))) z z ?_))
 rintro v1 W s
 refine .c (.alloc t77 s ?_)
 intro g2 W s
 refine .c (.st t77 s z z z ?_)
 intro W s
 refine .nil (.g (.q z (.q z (.q z (.q z (.q z (bv h λy3 hy3 h=>?_)))))))
 have s:=s.p1
 refine .c (.cS (L0:=[.box g_0 74 [sv ar,vi y2.2]]) s func23 (λS h1 h2 h3=>(al hy3 (s.ks aM h1) h2 (zz h1))) z z ?_)
 rintro ⟨⟩ W s
 refine .q z (bv h λy4 hy4 h=>.c (.cS (L0:=[.box g_0 74 [sv ar,vi y3.2]]) s func115 (λS h1 h2 h3=>(ed hy4 (s.ks aM h1) h2 (zz h1))) z z ?_))
 rintro v2 W s
 refine .qn z (.seq (.rk 11 s [1,1,1,1] T.mix ?_))
 intro W s
 have t:=s.to [1,1,1,1]
 refine .ts' 0 z (λW t=>ld t77 t.p1 z z z z z) t z (.tp' 1 z z t (.tp' 2 z z t (.tp' 3 z z t (.tp' 4 z z t (.tp' 5 z z t (.tp' 6 z z t (.tp' 8 z z t (bv h λy5 hy5 h=>.by1 7 z (.cS (L0:=[.box g_0 74 [sv ar,vi y4.2]]) s func23 (λS h1 h2 h3=>(al hy5 (s.ks aM h1) h2 (zz h1))) z z ?_)))))))))
 rintro ⟨⟩ W s
 refine s.an [1,1,1,1] λt=>bv h λy6 hy6 h=>.by1 9 z (.cS (L0:=[.box g_0 74 [sv ar,vi y5.2]]) s func115 (λS h1 h2 h3=>(ed hy6 (s.ks aM h1) h2 (zz h1))) z z ?_)
 rintro v3 W s
 refine s.an [2,2,2,2] λt=>.ts' 10 z (λW t=>bs T.s80 z z) t z (.by1 11 z (.st t80 s.p5 z z z ?_))
 intro W s
 refine ⟨λh=>absurd z h,?_⟩
 cases h
 exact .done (.ret (aa (v1,v2,v3) (rc s t80 z rn z z) z (s.tk [1,4,2,1])))
theorem tH {k:Nat} {aY:aL->Int->Int->Int->Bool->Option ((List ae)×Int)} {bc:aL->Int->Int->Bool->Option ((List ae)×Int)} {bx:aL->Int->Int->Bool->Option (ae×Int)} {bj:aL->Int->Int->Option ((List ae)×Int)} (ed:dE aY) (jR:gi bc) (lw:jg bx) (jS:gj bj):gj (im k aY bc bx bj):=by
 intro a0 a1 a2 ar g_0 S w r h aM hO hlt
 unfold im at h
 refine au func164 z z ?_
 have s:=Sep.sm hO hlt
 refine .g (.qn z (.g (.qn z (.g (.q z (.q z (.q z (.q z (.q z (bv h λy1 hy1 h=>.c (.cS (L0:=[.box g_0 74 [sv ar,vi a0.p]]) s func23 (λS h1 h2 h3=>(al hy1 (s.ks aM h1) h2 (zz h1))) z z ?_)))))))))))
 rintro ⟨⟩ W s
 refine bv h λy2 hy2 h=>.c (.cS (L0:=[.box g_0 74 [sv ar,vi y1.2]]) s func115 (λS h1 h2 h3=>(ed hy2 (s.ks aM h1) h2 (zz h1))) z z ?_)
 rintro v1 W s
 refine .qn z (.g (.q z (.q z (bv h λy3 hy3 h=>.c (.cV s func82 (aP hy3) z z ?_)))))
 intro v2 W s
 refine bv h λy4 hy4 h=>.c (.cV s func82 (aP hy4) z z ?_)
 intro v3 W s
 refine bv h λy5 hy5 h=>?_
 have s:=s.p1
 refine .c (.cS (L0:=[ac (sv v2) 77 3 aC y3.Args,ac (sv v3) 77 3 aC y4.Args]) s func180 (λS h1 h2 h3=>(cf hy5 h2 (zz h1))) z z ?_)
 rintro v4 W s
 refine .s (bs T.s80 z z) z (.c (.alloc t80 s ?_))
 intro g1 W s
 refine .c (.st t80 s z z z ?_)
 intro W s
 refine .nil (.seq (bv h λy6 hy6 h=>bv h λy7 hy7 h=>bv h λy8 hy8 h=>bv h λy9 hy9 h=>bv h λr1 hr1 h=>?_))
 refine .via (R':=λx E' W'=>x=.normal/\∃ (g2:Nat) (v5:Hd) (v6:Hd) (v7:Hd),ak E' [(7,vi 3),(10,Pt g2)]/\Sep S w W' [.box g_0 74 [sv ar,vi y7.2],.box g2 80 [vi 3,vi 0,vi 0,vi y9.Op,vi y9.N,sv v5,sv v6,sv v7],ac (sv v5) 77 3 aC y9.Args,ac (sv v6) 80 8 aj r1,ac (sv v7) 80 8 aj []]) ?_ ?_
 ·refine .rk 13 s [0] T.mix ?_
  intro W s
  have t:=s.to [0]
  refine .memo (λE' W'=>∃ (v10:Hd) (v11:Hd),ak E' [(7,vi 3),(30,.agg #[vi y9.Op,vi y9.N,sv v10]),(31,(sv v1)),(33,(sv v11))]/\Sep S w W' [.box g1 80 [vi 1,vi 3,vi 0,vi y5.Op,vi y5.N,sv v4,sv aF,sv aF],.box g_0 74 [sv ar,vi y7.2],ac (sv v1) 80 8 aj y2.1,ac (sv v10) 77 3 aC y9.Args,ac (sv v11) 80 8 aj [(ae.mk 1 3 0 (Expr.mk y5.Op y5.N y5.Args) [] [])]]) 4 (pU 14 [0,1,2,3,4,5,6,7,8,9]) ?_ ?_
  ·intro E W hJ
   obtain ⟨v12,v13,hE,s⟩:=hJ
   refine .sub hE ?_
   have t:=s.to [0]
   refine .by [10,12] ⟨⟨_,z,?_⟩,⟨_,z,?_⟩,trivial⟩
   ·refine (.appv hr1 (s.to [2,3,0,0,0]) u36 t80 z z z ?_)
    intro v14 W s
    refine s.an [1] λt=>.ts' 11 z (λW t=>bs T.s80 z z) t z (.by1 12 z (.alloc t80 s ?_))
    intro g3 W s
    refine s.an [2] λt=>.by1 13 z (.st t80 s z z z ?_)
    intro W s
    refine ⟨λh=>absurd z h,?_⟩
    refine .done ?_
    have s:=s.nilv 80 8 aj
    exact ⟨z,g3,v12,v14,aF,sb z,s.tk [4,1,3,1,0]⟩
   refine (.alloc t80 s ?_)
   intro g4 W s
   refine s.an [1] λt=>.by1 10 z (.appv hr1 (s.to [3,4,0,0,0,0]) u36 t80 z z z ?_)
   intro v15 W s
   refine s.an [2] λt=>.ts' 11 z (λW t=>bs T.s80 z z) t z (.by1 13 z (.st t80 s.p1 z z z ?_))
   intro W s
   refine ⟨λh=>absurd z h,?_⟩
   refine .done ?_
   have s:=s.nilv 80 8 aj
   exact ⟨z,g4,v12,v15,aF,sb z,s.tk [4,1,3,1,0]⟩
  intro J1
  refine .memo (λE' W'=>∃ (g6:Nat) (v17:Hd),ak E' [(7,vi 3),(10,Pt g6),(30,.agg #[vi y9.Op,vi y9.N,sv v17]),(31,(sv v1)),(32,.agg #[vi 1,vi 3,vi 0,vi y5.Op,vi y5.N,sv v4,sv aF,sv aF])]/\Sep S w W' [.box g1 80 [vi 1,vi 3,vi 0,vi y5.Op,vi y5.N,sv v4,sv aF,sv aF],ac (sv v4) 77 3 aC y5.Args,.box g_0 74 [sv ar,vi y7.2],ac (sv v1) 80 8 aj y2.1,.box g6 80 [vi 0,vi 0,vi 0,vi 0,vi 0,sv aF,sv aF,sv aF],ac (sv v17) 77 3 aC y9.Args]) 4 (pU 14 [0,1,2,3,4,5,6,7,8,12]) ?_ ?_
  ·intro E W hJ
   obtain ⟨g7,v18,hE,s⟩:=hJ
   refine .sub hE ?_
   have t:=s.to [0]
   have s:=s.nilv 80 8 aj
   have s:=s.nilv 80 8 aj
   refine .by1 9 z (.lg (L1:=[ac (sv v4) 77 3 aC y5.Args,ac (sv aF) 80 8 aj [],ac (sv aF) 80 8 aj []]) [(ae.mk 1 3 0 (Expr.mk y5.Op y5.N y5.Args) [] [])] aj u36 t80 (s.to [3,1,0,0,0,0,0,0]) z z z (.aggE (dT _) (.flat (c1:=[vi 1]) z (.flat (c1:=[vi 3]) z (.flat (c1:=[vi 0]) z (.aggE (cq _) (.flat (c1:=[vi y5.Op]) z (.flat (c1:=[vi y5.N]) z (.row (.row (.row .nil)))))))))) ?_ z jl)
   intro v19 W s
   refine s.an [1] λt=>.by1 10 z (.appv hr1 (s.to [3,0,0,0,0,0]) u36 t80 z z z ?_)
   intro v20 W s
   refine s.an [1] λt=>.ts' 11 z (λW t=>bs T.s80 z z) t z (.by1 13 z (.st t80 s.p3 z z z ?_))
   intro W s
   refine ⟨λh=>absurd z h,?_⟩
   refine .done ?_
   have s:=s.nilv 80 8 aj
   exact ⟨z,g7,v18,v20,aF,sb z,s.tk [4,1,3,1,0]⟩
  intro J2
  refine .memo (λE' W'=>∃ (g9:Nat) (v24:Hd) (v25:Hd) (v26:Hd),ak E' [(7,vi 3),(10,Pt g9),(25,.agg #[vi y6.Op,vi y6.N,sv v24]),(29,.agg #[vi y8.Op,vi y8.N,sv v25]),(31,(sv v1)),(33,(sv v26))]/\Sep S w W' [.box g1 80 [vi 1,vi 3,vi 0,vi y5.Op,vi y5.N,sv v4,sv aF,sv aF],.box g_0 74 [sv ar,vi y7.2],ac (sv v1) 80 8 aj y2.1,.box g9 80 [vi 0,vi 0,vi 0,vi 0,vi 0,sv aF,sv aF,sv aF],ac (sv v24) 77 3 aC y6.Args,ac (sv v25) 77 3 aC y8.Args,ac (sv v26) 80 8 aj [(ae.mk 1 3 0 (Expr.mk y5.Op y5.N y5.Args) [] [])]]) 4 (pU 14 [0,1,2,3,4,5,7,8,9,12]) ?_ ?_
  ·intro E W hJ
   obtain ⟨g10,v27,v28,v29,hE,s⟩:=hJ
   refine .sub hE ?_
   have t:=s.to [0]
   have s:=s.p5.p5
   refine .by1 6 z (.cS (L0:=[ac (sv v27) 77 3 aC y6.Args,ac (sv v28) 77 3 aC y8.Args]) s func180 (λS h1 h2 h3=>(cf hy9 h2 (zz h1))) z z ?_)
   rintro v30 W s
   refine s.an [1] λt=>.by1 10 z (.appv hr1 (s.to [3,4,0,0,0,0]) u36 t80 z z z ?_)
   intro v31 W s
   refine s.an [2] λt=>.ts' 11 z (λW t=>bs T.s80 z z) t z (.by1 13 z (.st t80 s.p4 z z z ?_))
   intro W s
   refine ⟨λh=>absurd z h,?_⟩
   refine .done ?_
   have s:=s.nilv 80 8 aj
   exact ⟨z,g10,v30,v31,aF,sb z,s.tk [5,1,2,1,0]⟩
  intro J3
  refine .memo (λE' W'=>∃ (v35:Hd) (v36:Hd) (v37:Hd),ak E' [(7,vi 3),(25,.agg #[vi y6.Op,vi y6.N,sv v35]),(29,.agg #[vi y8.Op,vi y8.N,sv v36]),(31,(sv v1)),(33,(sv v37))]/\Sep S w W' [.box g1 80 [vi 1,vi 3,vi 0,vi y5.Op,vi y5.N,sv v4,sv aF,sv aF],.box g_0 74 [sv ar,vi y7.2],ac (sv v1) 80 8 aj y2.1,ac (sv v35) 77 3 aC y6.Args,ac (sv v36) 77 3 aC y8.Args,ac (sv v37) 80 8 aj [(ae.mk 1 3 0 (Expr.mk y5.Op y5.N y5.Args) [] [])]]) 5 (pU 14 [0,1,2,3,4,5,7,8,9]) ?_ ?_
  ·intro E W hJ
   obtain ⟨v38,v39,v40,hE,s⟩:=hJ
   refine .sub hE ?_
   have t:=s.to [0]
   refine .by [6,12] ⟨⟨_,z,?_⟩,⟨_,z,?_⟩,trivial⟩
   ·have s:=s.p4.p4
    refine (.cS (L0:=[ac (sv v38) 77 3 aC y6.Args,ac (sv v39) 77 3 aC y8.Args]) s func180 (λS h1 h2 h3=>(cf hy9 h2 (zz h1))) z z ?_)
    rintro v41 W s
    refine s.an [1] λt=>?_
    exact .atl (J1 _ _ ⟨v41,v40,sb z,s.tk [1,1,1,0,0]⟩) (by kernel_rfl)
   refine (.alloc t80 s ?_)
   intro g11 W s
   refine s.an [1] λt=>?_
   exact .atl (J3 _ _ ⟨g11,v38,v39,v40,sb z,s.tk [1,1,1,0,0,0,0]⟩) (by kernel_rfl)
  intro J4
  refine .memo (λE' W'=>∃ (g13:Nat) (v44:Hd) (v45:Hd),ak E' [(7,vi 3),(10,Pt g13),(25,.agg #[vi y6.Op,vi y6.N,sv v44]),(29,.agg #[vi y8.Op,vi y8.N,sv v45]),(31,(sv v1)),(32,.agg #[vi 1,vi 3,vi 0,vi y5.Op,vi y5.N,sv v4,sv aF,sv aF])]/\Sep S w W' [.box g1 80 [vi 1,vi 3,vi 0,vi y5.Op,vi y5.N,sv v4,sv aF,sv aF],ac (sv v4) 77 3 aC y5.Args,.box g_0 74 [sv ar,vi y7.2],ac (sv v1) 80 8 aj y2.1,.box g13 80 [vi 0,vi 0,vi 0,vi 0,vi 0,sv aF,sv aF,sv aF],ac (sv v44) 77 3 aC y6.Args,ac (sv v45) 77 3 aC y8.Args]) 5 (pU 14 [0,1,2,3,4,5,7,8,12]) ?_ ?_
  ·intro E W hJ
   obtain ⟨g14,v46,v47,hE,s⟩:=hJ
   refine .sub hE ?_
   have t:=s.to [0]
   refine .by [6,9] ⟨⟨_,z,?_⟩,⟨_,z,?_⟩,trivial⟩
   ·have s:=s.p6.p6
    refine (.cS (L0:=[ac (sv v46) 77 3 aC y6.Args,ac (sv v47) 77 3 aC y8.Args]) s func180 (λS h1 h2 h3=>(cf hy9 h2 (zz h1))) z z ?_)
    rintro v48 W s
    refine s.an [1] λt=>?_
    exact .atl (J2 _ _ ⟨g14,v48,sb z,s.tk [1,1,1,1,1,0]⟩) (by kernel_rfl)
   have s:=s.nilv 80 8 aj
   have s:=s.nilv 80 8 aj
   refine (.lg (L1:=[ac (sv v4) 77 3 aC y5.Args,ac (sv aF) 80 8 aj [],ac (sv aF) 80 8 aj []]) [(ae.mk 1 3 0 (Expr.mk y5.Op y5.N y5.Args) [] [])] aj u36 t80 (s.to [3,1,0,0,0,0,0,0,0]) z z z (.aggE (dT _) (.flat (c1:=[vi 1]) z (.flat (c1:=[vi 3]) z (.flat (c1:=[vi 0]) z (.aggE (cq _) (.flat (c1:=[vi y5.Op]) z (.flat (c1:=[vi y5.N]) z (.row (.row (.row .nil)))))))))) ?_ z jl)
   intro v49 W s
   refine s.an [1] λt=>?_
   exact .atl (J3 _ _ ⟨g14,v46,v47,v49,sb z,s.tk [1,1,1,1,1,1,0]⟩) (by kernel_rfl)
  intro J5
  refine .memo (λE' W'=>∃ (g16:Nat) (v52:Hd) (v53:Hd),ak E' [(7,vi 3),(10,Pt g16),(25,.agg #[vi y6.Op,vi y6.N,sv v52]),(28,vi (w64 (1+y7.1))),(31,(sv v1)),(33,(sv v53))]/\Sep S w W' [.box g1 80 [vi 1,vi 3,vi 0,vi y5.Op,vi y5.N,sv v4,sv aF,sv aF],.box g_0 74 [sv ar,vi y7.2],ac (sv v1) 80 8 aj y2.1,.box g16 80 [vi 0,vi 0,vi 0,vi 0,vi 0,sv aF,sv aF,sv aF],ac (sv v52) 77 3 aC y6.Args,ac (sv v53) 80 8 aj [(ae.mk 1 3 0 (Expr.mk y5.Op y5.N y5.Args) [] [])]]) 5 (pU 14 [0,1,2,3,4,7,8,9,12]) ?_ ?_
  ·intro E W hJ
   obtain ⟨g17,v54,v55,hE,s⟩:=hJ
   refine .sub hE ?_
   have t:=s.to [0]
   refine .by1 5 z (.cV s func82 (aP hy8) z z ?_)
   intro v56 W s
   refine s.an [1] λt=>?_
   have s:=s.p5
   refine .by1 6 z (.cS (L0:=[ac (sv v54) 77 3 aC y6.Args,ac (sv v56) 77 3 aC y8.Args]) s func180 (λS h1 h2 h3=>(cf hy9 h2 (zz h1))) z z ?_)
   rintro v57 W s
   refine s.an [1] λt=>.by1 10 z (.appv hr1 (s.to [3,4,0,0,0,0]) u36 t80 z z z ?_)
   intro v58 W s
   refine s.an [2] λt=>.ts' 11 z (λW t=>bs T.s80 z z) t z (.by1 13 z (.st t80 s.p4 z z z ?_))
   intro W s
   refine ⟨λh=>absurd z h,?_⟩
   refine .done ?_
   have s:=s.nilv 80 8 aj
   exact ⟨z,g17,v57,v58,aF,sb z,s.tk [5,1,2,1,0]⟩
  intro J6
  refine .memo (λE' W'=>∃ (g19:Nat) (v61:Hd) (v62:Hd),ak E' [(7,vi 3),(10,Pt g19),(25,.agg #[vi y6.Op,vi y6.N,sv v61]),(26,Pt g_0),(31,(sv v1)),(33,(sv v62))]/\Sep S w W' [.box g1 80 [vi 1,vi 3,vi 0,vi y5.Op,vi y5.N,sv v4,sv aF,sv aF],.box g_0 74 [sv ar,vi y2.2],ac (sv v1) 80 8 aj y2.1,.box g19 80 [vi 0,vi 0,vi 0,vi 0,vi 0,sv aF,sv aF,sv aF],ac (sv v61) 77 3 aC y6.Args,ac (sv v62) 80 8 aj [(ae.mk 1 3 0 (Expr.mk y5.Op y5.N y5.Args) [] [])]]) 7 (pU 14 [0,1,2,7,8,9,12]) ?_ ?_
  ·intro E W hJ
   obtain ⟨g20,v63,v64,hE,s⟩:=hJ
   refine .sub hE ?_
   have t:=s.to [0]
   have s:=s.p1
   refine .by1 3 z (.cS (L0:=[.box g_0 74 [sv ar,vi y2.2]]) s func23 (λS h1 h2 h3=>(al hy7 (s.ks aM h1) h2 (zz h1))) z z ?_)
   rintro ⟨⟩ W s
   refine s.an [1] λt=>.tp' 4 z z t (.by1 5 z (.cV s func82 (aP hy8) z z ?_))
   intro v65 W s
   refine s.an [2] λt=>?_
   have s:=s.p5
   refine .by1 6 z (.cS (L0:=[ac (sv v63) 77 3 aC y6.Args,ac (sv v65) 77 3 aC y8.Args]) s func180 (λS h1 h2 h3=>(cf hy9 h2 (zz h1))) z z ?_)
   rintro v66 W s
   refine s.an [2] λt=>.by1 10 z (.appv hr1 (s.to [3,4,0,0,0,0]) u36 t80 z z z ?_)
   intro v67 W s
   refine s.an [3] λt=>.ts' 11 z (λW t=>bs T.s80 z z) t z (.by1 13 z (.st t80 s.p4 z z z ?_))
   intro W s
   refine ⟨λh=>absurd z h,?_⟩
   refine .done ?_
   have s:=s.nilv 80 8 aj
   exact ⟨z,g20,v66,v67,aF,sb z,s.tk [4,1,2,1,0]⟩
  intro J7
  refine .memo (λE' W'=>∃ (v70:Hd) (v71:Hd),ak E' [(7,vi 3),(25,.agg #[vi y6.Op,vi y6.N,sv v70]),(26,Pt g_0),(31,(sv v1)),(33,(sv v71))]/\Sep S w W' [.box g1 80 [vi 1,vi 3,vi 0,vi y5.Op,vi y5.N,sv v4,sv aF,sv aF],.box g_0 74 [sv ar,vi y2.2],ac (sv v1) 80 8 aj y2.1,ac (sv v70) 77 3 aC y6.Args,ac (sv v71) 80 8 aj [(ae.mk 1 3 0 (Expr.mk y5.Op y5.N y5.Args) [] [])]]) 8 (pU 14 [0,1,2,7,8,9]) ?_ ?_
  ·intro E W hJ
   obtain ⟨v72,v73,hE,s⟩:=hJ
   refine .sub hE ?_
   have t:=s.to [0]
   refine .by [3,12] ⟨⟨_,z,?_⟩,⟨_,z,?_⟩,trivial⟩
   ·have s:=s.p1
    refine (.cS (L0:=[.box g_0 74 [sv ar,vi y2.2]]) s func23 (λS h1 h2 h3=>(al hy7 (s.ks aM h1) h2 (zz h1))) z z ?_)
    rintro ⟨⟩ W s
    refine s.an [1] λt=>.tp' 4 z z t (.by [5,12] ⟨⟨_,z,?_⟩,⟨_,z,?_⟩,trivial⟩)
    ·refine (.cV s func82 (aP hy8) z z ?_)
     intro v74 W s
     refine s.an [2] λt=>?_
     exact .atl (J4 _ _ ⟨v72,v74,v73,sb z,s.tk [2,1,1,1,0,0]⟩) (by kernel_rfl)
    refine (.alloc t80 s ?_)
    intro g21 W s
    refine s.an [2] λt=>?_
    exact .atl (J6 _ _ ⟨g21,v72,v73,sb z,s.tk [2,1,1,0,0,0]⟩) (by kernel_rfl)
   refine (.alloc t80 s ?_)
   intro g22 W s
   refine s.an [1] λt=>?_
   exact .atl (J7 _ _ ⟨g22,v72,v73,sb z,s.tk [1,1,1,0,0,0]⟩) (by kernel_rfl)
  intro J8
  refine .memo (λE' W'=>∃ (g24:Nat) (v76:Hd),ak E' [(7,vi 3),(10,Pt g24),(25,.agg #[vi y6.Op,vi y6.N,sv v76]),(26,Pt g_0),(31,(sv v1)),(32,.agg #[vi 1,vi 3,vi 0,vi y5.Op,vi y5.N,sv v4,sv aF,sv aF])]/\Sep S w W' [.box g1 80 [vi 1,vi 3,vi 0,vi y5.Op,vi y5.N,sv v4,sv aF,sv aF],ac (sv v4) 77 3 aC y5.Args,.box g_0 74 [sv ar,vi y2.2],ac (sv v1) 80 8 aj y2.1,.box g24 80 [vi 0,vi 0,vi 0,vi 0,vi 0,sv aF,sv aF,sv aF],ac (sv v76) 77 3 aC y6.Args]) 8 (pU 14 [0,1,2,7,8,12]) ?_ ?_
  ·intro E W hJ
   obtain ⟨g25,v77,hE,s⟩:=hJ
   refine .sub hE ?_
   have t:=s.to [0]
   refine .by [3,9] ⟨⟨_,z,?_⟩,⟨_,z,?_⟩,trivial⟩
   ·have s:=s.p2
    refine (.cS (L0:=[.box g_0 74 [sv ar,vi y2.2]]) s func23 (λS h1 h2 h3=>(al hy7 (s.ks aM h1) h2 (zz h1))) z z ?_)
    rintro ⟨⟩ W s
    refine s.an [1] λt=>.tp' 4 z z t (.by [5,9] ⟨⟨_,z,?_⟩,⟨_,z,?_⟩,trivial⟩)
    ·refine (.cV s func82 (aP hy8) z z ?_)
     intro v78 W s
     refine s.an [2] λt=>?_
     exact .atl (J5 _ _ ⟨g25,v77,v78,sb z,s.tk [2,2,1,1,1,1,0]⟩) (by kernel_rfl)
    have s:=s.nilv 80 8 aj
    have s:=s.nilv 80 8 aj
    refine (.lg (L1:=[ac (sv v4) 77 3 aC y5.Args,ac (sv aF) 80 8 aj [],ac (sv aF) 80 8 aj []]) [(ae.mk 1 3 0 (Expr.mk y5.Op y5.N y5.Args) [] [])] aj u36 t80 (s.to [4,1,0,0,0,0,0,0]) z z z (.aggE (dT _) (.flat (c1:=[vi 1]) z (.flat (c1:=[vi 3]) z (.flat (c1:=[vi 0]) z (.aggE (cq _) (.flat (c1:=[vi y5.Op]) z (.flat (c1:=[vi y5.N]) z (.row (.row (.row .nil)))))))))) ?_ z jl)
    intro v79 W s
    refine s.an [2] λt=>?_
    exact .atl (J6 _ _ ⟨g25,v77,v79,sb z,s.tk [2,1,1,1,1,0]⟩) (by kernel_rfl)
   have s:=s.nilv 80 8 aj
   have s:=s.nilv 80 8 aj
   refine (.lg (L1:=[ac (sv v4) 77 3 aC y5.Args,ac (sv aF) 80 8 aj [],ac (sv aF) 80 8 aj []]) [(ae.mk 1 3 0 (Expr.mk y5.Op y5.N y5.Args) [] [])] aj u36 t80 (s.to [3,1,0,0,0,0,0,0]) z z z (.aggE (dT _) (.flat (c1:=[vi 1]) z (.flat (c1:=[vi 3]) z (.flat (c1:=[vi 0]) z (.aggE (cq _) (.flat (c1:=[vi y5.Op]) z (.flat (c1:=[vi y5.N]) z (.row (.row (.row .nil)))))))))) ?_ z jl)
   intro v80 W s
   refine s.an [1] λt=>?_
   exact .atl (J7 _ _ ⟨g25,v77,v80,sb z,s.tk [1,1,1,1,1,0]⟩) (by kernel_rfl)
  intro J9
  refine .tp' 0 z z t (.tp' 2 z z t (.tp' 7 z z t (.ts' 8 z (λW t=>ld t80 t z z z z z) t z (.by [1,9,12] ⟨⟨_,z,?_⟩,⟨_,z,?_⟩,⟨_,z,?_⟩,trivial⟩))))
  ·refine (.cV s func82 (aP hy6) z z ?_)
   intro v81 W s
   refine s.an [1] λt=>.by [3,9,12] ⟨⟨_,z,?_⟩,⟨_,z,?_⟩,⟨_,z,?_⟩,trivial⟩
   ·have s:=s.p3
    refine (.cS (L0:=[.box g_0 74 [sv ar,vi y2.2]]) s func23 (λS h1 h2 h3=>(al hy7 (s.ks aM h1) h2 (zz h1))) z z ?_)
    rintro ⟨⟩ W s
    refine s.an [2] λt=>.tp' 4 z z t (.by [5,9,12] ⟨⟨_,z,?_⟩,⟨_,z,?_⟩,⟨_,z,?_⟩,trivial⟩)
    ·refine (.cV s func82 (aP hy8) z z ?_)
     intro v82 W s
     refine s.an [3] λt=>.by [6,9,12] ⟨⟨_,z,?_⟩,⟨_,z,?_⟩,⟨_,z,?_⟩,trivial⟩
     ·have s:=s.p2
      refine (.cS (L0:=[ac (sv v81) 77 3 aC y6.Args,ac (sv v82) 77 3 aC y8.Args]) s func180 (λS h1 h2 h3=>(cf hy9 h2 (zz h1))) z z ?_)
      rintro v83 W s
      refine s.an [2] λt=>.by [9,12] ⟨⟨_,z,?_⟩,⟨_,z,?_⟩,trivial⟩
      ·have s:=s.nilv 80 8 aj
       have s:=s.nilv 80 8 aj
       refine (.lg (L1:=[ac (sv v4) 77 3 aC y5.Args,ac (sv aF) 80 8 aj [],ac (sv aF) 80 8 aj []]) [(ae.mk 1 3 0 (Expr.mk y5.Op y5.N y5.Args) [] [])] aj u36 t80 (s.to [5,1,0,0,0,0,0]) z z z (.aggE (dT _) (.flat (c1:=[vi 1]) z (.flat (c1:=[vi 3]) z (.flat (c1:=[vi 0]) z (.aggE (cq _) (.flat (c1:=[vi y5.Op]) z (.flat (c1:=[vi y5.N]) z (.row (.row (.row .nil)))))))))) ?_ z jl)
       intro v84 W s
       refine s.an [3] λt=>?_
       exact .atl (J1 _ _ ⟨v83,v84,sb z,s.tk [3,2,2,1,0]⟩) (by kernel_rfl)
      refine (.alloc t80 s ?_)
      intro g26 W s
      refine s.an [3] λt=>?_
      exact .atl (J2 _ _ ⟨g26,v83,sb z,s.tk [3,3,2,2,0,0]⟩) (by kernel_rfl)
     ·have s:=s.nilv 80 8 aj
      have s:=s.nilv 80 8 aj
      refine (.lg (L1:=[ac (sv v4) 77 3 aC y5.Args,ac (sv aF) 80 8 aj [],ac (sv aF) 80 8 aj []]) [(ae.mk 1 3 0 (Expr.mk y5.Op y5.N y5.Args) [] [])] aj u36 t80 (s.to [6,1,0,0,0,0,0,0]) z z z (.aggE (dT _) (.flat (c1:=[vi 1]) z (.flat (c1:=[vi 3]) z (.flat (c1:=[vi 0]) z (.aggE (cq _) (.flat (c1:=[vi y5.Op]) z (.flat (c1:=[vi y5.N]) z (.row (.row (.row .nil)))))))))) ?_ z jl)
      intro v85 W s
      refine s.an [4] λt=>?_
      exact .atl (J4 _ _ ⟨v81,v82,v85,sb z,s.tk [4,2,3,2,1,0]⟩) (by kernel_rfl)
     refine (.alloc t80 s ?_)
     intro g27 W s
     refine s.an [4] λt=>?_
     exact .atl (J5 _ _ ⟨g27,v81,v82,sb z,s.tk [4,4,2,3,0,1,0]⟩) (by kernel_rfl)
    ·have s:=s.nilv 80 8 aj
     have s:=s.nilv 80 8 aj
     refine (.lg (L1:=[ac (sv v4) 77 3 aC y5.Args,ac (sv aF) 80 8 aj [],ac (sv aF) 80 8 aj []]) [(ae.mk 1 3 0 (Expr.mk y5.Op y5.N y5.Args) [] [])] aj u36 t80 (s.to [5,1,0,0,0,0,0]) z z z (.aggE (dT _) (.flat (c1:=[vi 1]) z (.flat (c1:=[vi 3]) z (.flat (c1:=[vi 0]) z (.aggE (cq _) (.flat (c1:=[vi y5.Op]) z (.flat (c1:=[vi y5.N]) z (.row (.row (.row .nil)))))))))) ?_ z jl)
     intro v86 W s
     refine s.an [3] λt=>.by [5,12] ⟨⟨_,z,?_⟩,⟨_,z,?_⟩,trivial⟩
     ·refine (.cV s func82 (aP hy8) z z ?_)
      intro v87 W s
      refine s.an [4] λt=>?_
      exact .atl (J4 _ _ ⟨v81,v87,v86,sb z,s.tk [4,2,3,2,0,0]⟩) (by kernel_rfl)
     refine (.alloc t80 s ?_)
     intro g28 W s
     refine s.an [4] λt=>?_
     exact .atl (J6 _ _ ⟨g28,v81,v86,sb z,s.tk [4,2,3,0,1,0]⟩) (by kernel_rfl)
    refine (.alloc t80 s ?_)
    intro g29 W s
    refine s.an [3] λt=>.by [5,9] ⟨⟨_,z,?_⟩,⟨_,z,?_⟩,trivial⟩
    ·refine (.cV s func82 (aP hy8) z z ?_)
     intro v88 W s
     refine s.an [4] λt=>?_
     exact .atl (J5 _ _ ⟨g29,v81,v88,sb z,s.tk [4,4,2,3,1,1,0]⟩) (by kernel_rfl)
    have s:=s.nilv 80 8 aj
    have s:=s.nilv 80 8 aj
    refine (.lg (L1:=[ac (sv v4) 77 3 aC y5.Args,ac (sv aF) 80 8 aj [],ac (sv aF) 80 8 aj []]) [(ae.mk 1 3 0 (Expr.mk y5.Op y5.N y5.Args) [] [])] aj u36 t80 (s.to [6,1,0,0,0,0,0,0]) z z z (.aggE (dT _) (.flat (c1:=[vi 1]) z (.flat (c1:=[vi 3]) z (.flat (c1:=[vi 0]) z (.aggE (cq _) (.flat (c1:=[vi y5.Op]) z (.flat (c1:=[vi y5.N]) z (.row (.row (.row .nil)))))))))) ?_ z jl)
    intro v89 W s
    refine s.an [4] λt=>?_
    exact .atl (J6 _ _ ⟨g29,v81,v89,sb z,s.tk [4,2,3,1,1,0]⟩) (by kernel_rfl)
   ·have s:=s.nilv 80 8 aj
    have s:=s.nilv 80 8 aj
    refine (.lg (L1:=[ac (sv v4) 77 3 aC y5.Args,ac (sv aF) 80 8 aj [],ac (sv aF) 80 8 aj []]) [(ae.mk 1 3 0 (Expr.mk y5.Op y5.N y5.Args) [] [])] aj u36 t80 (s.to [4,1,0,0,0,0,0]) z z z (.aggE (dT _) (.flat (c1:=[vi 1]) z (.flat (c1:=[vi 3]) z (.flat (c1:=[vi 0]) z (.aggE (cq _) (.flat (c1:=[vi y5.Op]) z (.flat (c1:=[vi y5.N]) z (.row (.row (.row .nil)))))))))) ?_ z jl)
    intro v90 W s
    refine s.an [2] λt=>?_
    exact .atl (J8 _ _ ⟨v81,v90,sb z,s.tk [2,2,2,1,0]⟩) (by kernel_rfl)
   refine (.alloc t80 s ?_)
   intro g30 W s
   refine s.an [2] λt=>?_
   exact .atl (J9 _ _ ⟨g30,v81,sb z,s.tk [2,2,2,2,0,0]⟩) (by kernel_rfl)
  ·have s:=s.nilv 80 8 aj
   have s:=s.nilv 80 8 aj
   refine (.lg (L1:=[ac (sv v4) 77 3 aC y5.Args,ac (sv aF) 80 8 aj [],ac (sv aF) 80 8 aj []]) [(ae.mk 1 3 0 (Expr.mk y5.Op y5.N y5.Args) [] [])] aj u36 t80 (s.to [3,1,0,0,0,0]) z z z (.aggE (dT _) (.flat (c1:=[vi 1]) z (.flat (c1:=[vi 3]) z (.flat (c1:=[vi 0]) z (.aggE (cq _) (.flat (c1:=[vi y5.Op]) z (.flat (c1:=[vi y5.N]) z (.row (.row (.row .nil)))))))))) ?_ z jl)
   intro v91 W s
   refine s.an [1] λt=>.by [1,12] ⟨⟨_,z,?_⟩,⟨_,z,?_⟩,trivial⟩
   ·refine (.cV s func82 (aP hy6) z z ?_)
    intro v92 W s
    refine s.an [2] λt=>?_
    exact .atl (J8 _ _ ⟨v92,v91,sb z,s.tk [2,2,2,0,0]⟩) (by kernel_rfl)
   refine (.alloc t80 s ?_)
   intro g31 W s
   refine s.an [2] λt=>.by1 1 z (.cV s func82 (aP hy6) z z ?_)
   intro v93 W s
   refine s.an [3] λt=>?_
   have s:=s.p4
   refine .by1 3 z (.cS (L0:=[.box g_0 74 [sv ar,vi y2.2]]) s func23 (λS h1 h2 h3=>(al hy7 (s.ks aM h1) h2 (zz h1))) z z ?_)
   rintro ⟨⟩ W s
   refine s.an [4] λt=>.tp' 4 z z t (.by1 5 z (.cV s func82 (aP hy8) z z ?_))
   intro v94 W s
   refine s.an [5] λt=>?_
   have s:=s.p2
   refine .by1 6 z (.cS (L0:=[ac (sv v93) 77 3 aC y6.Args,ac (sv v94) 77 3 aC y8.Args]) s func180 (λS h1 h2 h3=>(cf hy9 h2 (zz h1))) z z ?_)
   rintro v95 W s
   refine s.an [4] λt=>.by1 10 z (.appv hr1 (s.to [5,3,0,0,0,0]) u36 t80 z z z ?_)
   intro v96 W s
   refine s.an [4] λt=>.ts' 11 z (λW t=>bs T.s80 z z) t z (.by1 13 z (.st t80 s.p3 z z z ?_))
   intro W s
   refine ⟨λh=>absurd z h,?_⟩
   refine .done ?_
   have s:=s.nilv 80 8 aj
   exact ⟨z,g31,v95,v96,aF,sb z,s.tk [4,1,2,1,0]⟩
  refine (.alloc t80 s ?_)
  intro g32 W s
  refine s.an [1] λt=>.by [1,9] ⟨⟨_,z,?_⟩,⟨_,z,?_⟩,trivial⟩
  ·refine (.cV s func82 (aP hy6) z z ?_)
   intro v97 W s
   refine s.an [2] λt=>?_
   exact .atl (J9 _ _ ⟨g32,v97,sb z,s.tk [2,2,2,2,1,0]⟩) (by kernel_rfl)
  have s:=s.nilv 80 8 aj
  have s:=s.nilv 80 8 aj
  refine (.lg (L1:=[ac (sv v4) 77 3 aC y5.Args,ac (sv aF) 80 8 aj [],ac (sv aF) 80 8 aj []]) [(ae.mk 1 3 0 (Expr.mk y5.Op y5.N y5.Args) [] [])] aj u36 t80 (s.to [4,1,0,0,0,0,0]) z z z (.aggE (dT _) (.flat (c1:=[vi 1]) z (.flat (c1:=[vi 3]) z (.flat (c1:=[vi 0]) z (.aggE (cq _) (.flat (c1:=[vi y5.Op]) z (.flat (c1:=[vi y5.N]) z (.row (.row (.row .nil)))))))))) ?_ z jl)
  intro v98 W s
  refine s.an [2] λt=>.by1 1 z (.cV s func82 (aP hy6) z z ?_)
  intro v99 W s
  refine s.an [3] λt=>?_
  have s:=s.p4
  refine .by1 3 z (.cS (L0:=[.box g_0 74 [sv ar,vi y2.2]]) s func23 (λS h1 h2 h3=>(al hy7 (s.ks aM h1) h2 (zz h1))) z z ?_)
  rintro ⟨⟩ W s
  refine s.an [4] λt=>.tp' 4 z z t (.by1 5 z (.cV s func82 (aP hy8) z z ?_))
  intro v100 W s
  refine s.an [5] λt=>?_
  have s:=s.p2
  refine .by1 6 z (.cS (L0:=[ac (sv v99) 77 3 aC y6.Args,ac (sv v100) 77 3 aC y8.Args]) s func180 (λS h1 h2 h3=>(cf hy9 h2 (zz h1))) z z ?_)
  rintro v101 W s
  refine s.an [4] λt=>.by1 10 z (.appv hr1 (s.to [5,2,0,0,0,0]) u36 t80 z z z ?_)
  intro v102 W s
  refine s.an [4] λt=>.ts' 11 z (λW t=>bs T.s80 z z) t z (.by1 13 z (.st t80 s.p3 z z z ?_))
  intro W s
  refine ⟨λh=>absurd z h,?_⟩
  refine .done ?_
  have s:=s.nilv 80 8 aj
  exact ⟨z,g32,v101,v102,aF,sb z,s.tk [4,1,2,1,0]⟩
 intro x E W hJ
 obtain ⟨rfl,g33,v103,v104,v105,hE,s⟩:=hJ
 refine ⟨_,hE.sub,?_⟩
 refine .seq (.rk 6 s [0,0] T.mix ?_)
 intro W s
 have t:=s.to [0,0]
 refine .tp' 0 z z t (.ts' 3 z (λW t=>ld t80 t.p1 z z z z z) t z (bv h λy10 hy10 h=>.by1 1 z (.cV s func82 (aP hy10) z z ?_)))
 intro v106 W s
 refine s.an [1,1] λt=>.ts' 2 z (λW t=>bs T.s80 z z) t z ?_
 have s:=s.nilv 80 8 aj
 have s:=s.nilv 80 8 aj
 refine .by1 4 z (.lg (L1:=[ac (sv v106) 77 3 aC y10.Args,ac (sv aF) 80 8 aj [],ac (sv aF) 80 8 aj [],ac (sv v103) 77 3 aC y9.Args,ac (sv v104) 80 8 aj r1,ac (sv v105) 80 8 aj []]) [(ae.mk 1 3 0 (Expr.mk y10.Op y10.N y10.Args) [] []),(ae.mk 3 0 0 (Expr.mk y9.Op y9.N y9.Args) r1 [])] aj u36 t80 (s.to [2,1,0,2,2,2,0,0]) z z z (.aggE (dT _) (.flat (c1:=[vi 1]) z (.flat (c1:=[vi 3]) z (.flat (c1:=[vi 0]) z (.aggE (cq _) (.flat (c1:=[vi y10.Op]) z (.flat (c1:=[vi y10.N]) z (.row (.row (.row (.aggE (dT _) (.flat (c1:=[vi 3]) z (.flat (c1:=[vi 0]) z (.flat (c1:=[vi 0]) z (.aggE (cq _) (.flat (c1:=[vi y9.Op]) z (.flat (c1:=[vi y9.N]) z (.row (.row (.row .nil)))))))))))))))))))) ?_ z jl)
 intro v107 W s
 refine s.an [1,1] λt=>?_
 cases h
 exact .tp' 5 z z t (.done (.ret (aa v107 (rt z rn) z (s.tk [1,0]))))
theorem nU (k:Nat):dE (cD k)/\gi (iV k)/\jg (mh k)/\gj (km k):=by
  induction k with
  | zero=>exact ⟨by intro a0 a1 a2 a3 a4 ar g_0 S w r h aM hO hlt; exact no h,by intro a0 a1 a2 a3 ar g_0 S w r h aM hO hlt; exact no h,by intro a0 a1 a2 a3 ar g_0 S w r h aM hO hlt; exact no h,by intro a0 a1 a2 ar g_0 S w r h aM hO hlt; exact no h⟩
  | succ k ih=>exact ⟨rZ (k:=k) ih.1 ih.2.1 ih.2.2.1 ih.2.2.2,tG (k:=k) ih.1 ih.2.1 ih.2.2.1 ih.2.2.2,uU (k:=k) ih.1 ih.2.1 ih.2.2.1 ih.2.2.2,tH (k:=k) ih.1 ih.2.1 ih.2.2.1 ih.2.2.2⟩
theorem mV {k:Nat}:dE (cD k):=(nU k).1
def jT (F:List ae->Option (Int)):Prop:=∀ {a0:List ae} {v_0:Hd} {w:World} {r:Int} (h:F a0=some r) (q_0:RO w v_0 80 8 aj a0) , CL 116 #[sv v_0] w (RU w (.int .i64 r))
theorem sa {k:Nat} {dy:List ae->Option (Int)} (mW:jT dy):jT (ch k dy):=by
 intro a0 v_0 w r h q_0
 unfold ch at h
 refine au func116 z z ?_
 have s:=Sep.start w
 refine .g (.qn z (.g (.qn z (.seq (.g (.qn z (.block (bv h λy1 hy1 h=>?_))))))))
 refine .via (.iter (λs1 E' W'=>ak E' [(0,(sv v_0)),(3,vi s1.1),(4,vi s1.2)]/\Sep No w W' []) (λy2 x E' W'=>x=.exit 0/\ak E' [(3,vi y2)]/\Sep No w W' []) hy1 ⟨sb z,s.to []⟩ ?_) ?_
 ·intro s1 y3 E W h hI
  obtain ⟨hE,s⟩:=hI
  refine CW.sub hE ?_
  unfold fT at h
  refine .seq (.g (.q z (.q z (.s (aE (s.keep q_0) u36 z z) z (.q z (.nil ?_))))))
  refine .cs z h ?_ ?_ <;> intro h
  ·refine .skip (.seq (.block (.rk 17 s [] T.mix ?_)))
   intro W s
   have t:=s.to []
   refine .tp' 0 z z t (.tp' 1 z z t (.tp' 2 z z t (.tp' 3 z z t (bv h λx1 hx1 h=>?_))))
   obtain ⟨k1,hd,hck1⟩:=RV.el2 q_0 hx1
   have hd1:=jk (dT _) hd
   obtain ⟨k1,rfl,hd2⟩:=bK q_0 z hd1
   obtain ⟨k1,rfl,hd3⟩:=bK q_0 z hd2
   obtain ⟨k1,rfl,hd4⟩:=bK q_0 z hd3
   have hd5:=jk (cq _) hd4
   obtain ⟨k1,rfl,hd6⟩:=bK q_0 z hd5
   obtain ⟨k1,rfl,hd7⟩:=bK q_0 z hd6
   obtain ⟨v1,k1,rfl,q1,hd8⟩:=cw q_0 hd7
   obtain ⟨v2,k1,rfl,q2,hd9⟩:=cw q_0 hd8
   obtain ⟨v3,k1,rfl,q3,hd10⟩:=cw q_0 hd9
   obtain rfl:=kT q_0 hd10
   refine .ts' 4 z (λW t=>ixv (s.keep q_0) hx1 u36 t80 z z z) t z (.ts' 5 z (λW t=>fe f80_4 z z z) t z (.ts' 6 z (λW t=>lde (hck1 _ t.agree) t36 z z z z z) t z (.tp' 9 z z t (.tp' 10 z z t (bv h λx2 hx2 h=>?_)))))
   obtain ⟨k2,hd,hck2⟩:=RV.el2 q_0 hx2
   have hd1:=jk (dT _) hd
   obtain ⟨k2,rfl,hd2⟩:=bK q_0 z hd1
   obtain ⟨k2,rfl,hd3⟩:=bK q_0 z hd2
   obtain ⟨k2,rfl,hd4⟩:=bK q_0 z hd3
   have hd5:=jk (cq _) hd4
   obtain ⟨k2,rfl,hd6⟩:=bK q_0 z hd5
   obtain ⟨k2,rfl,hd7⟩:=bK q_0 z hd6
   obtain ⟨v4,k2,rfl,q4,hd8⟩:=cw q_0 hd7
   obtain ⟨v5,k2,rfl,q5,hd9⟩:=cw q_0 hd8
   obtain ⟨v6,k2,rfl,q6,hd10⟩:=cw q_0 hd9
   obtain rfl:=kT q_0 hd10
   refine .ts' 11 z (λW t=>ixv (s.keep q_0) hx2 u36 t80 z z z) t z (.ts' 12 z (λW t=>fe f80_5 z z z) t z (.ts' 13 z (λW t=>lde (hck2 _ t.agree) t36 z z z z z) t z (bv h λy4 hy4 h=>.by1 7 z (.cO s func116 (mW hy4 (s.keep (q2 _ q_0))) z z ?_))))
   intro W s
   refine s.an [] λt=>.tp' 8 z z t (bv h λy5 hy5 h=>.by1 14 z (.cO s func116 (mW hy5 (s.keep (q6 _ q_0))) z z ?_))
   intro W s
   refine s.an [] λt=>.tp' 15 z z t (.tp' 16 z z t (.done (.region (.q z (.q z (.q z (.nil ?_)))))))
   cases h
   exact ⟨z,sb z,s.to []⟩
  refine .exit ?_
  cases h
  exact ⟨by simp,z,sb z,s.to []⟩
 intro x E W hJ
 obtain ⟨rfl,hE,s⟩:=hJ
 refine ⟨_,hE.sub,?_⟩
 obtain rfl:=o9 h
 exact .g (.q z (.qn z (.ret (aa () (rt z rn) z (s.to [])))))
theorem nV (k:Nat):jT (bR k):=by
  induction k with
  | zero=>exact by intro a0 v_0 w r h q_0; exact no h
  | succ k ih=>exact sa (k:=k) ih
theorem mX {k:Nat}:jT (bR k):=(nV k)
theorem qP {k:Nat} {a0:aL} {a1:Int} {ar:Hd} {g_0:Nat} {S:Nat->Prop} {w:World} {r:(List ae)×Int} (h:ju k a0 a1=some r) (aM:RV w (Old S w) (sv ar) 5 1 (D.int .u8) a0.b) (hO:bu w [.box g_0 74 [sv ar,vi a0.p]] S) (hlt:∀ b,S b->b<w.heap.size):CL 80 #[Pt g_0,vi a1] w (Ret S w (λs:Hd=>(sv s)) (λs=>[.box g_0 74 [sv ar,vi r.2],ac (sv s) 80 8 aj r.1])):=by
 unfold ju at h
 refine au func80 z z ?_
 have s:=Sep.sm hO hlt
 refine .g (.qn z (.g (.q z (.q z (.q z (bv h λy1 hy1 h=>.c (.cS (L0:=[.box g_0 74 [sv ar,vi a0.p]]) s func23 (λS h1 h2 h3=>(al hy1 (s.ks aM h1) h2 (zz h1))) z z ?_)))))))
 rintro ⟨⟩ W s
 refine .q z (bv h λy2 hy2 h=>.c (.cS (L0:=[.box g_0 74 [sv ar,vi y1.2]]) s func115 (λS h1 h2 h3=>(mV hy2 (s.ks aM h1) h2 (zz h1))) z z ?_))
 rintro v1 W s
 refine .qn z (.seq (.block (bv h λy3 hy3 h=>?_)))
 refine .via (.iter (λs1 E' W'=>∃ (v4:Hd),ak E' [(5,(sv v4))]/\Sep S w W' [.box g_0 74 [sv ar,vi y2.2],ac (sv v4) 80 8 aj s1]) (λy4 x E' W'=>x=.exit 0/\∃ (v5:Hd),ak E' [(5,(sv v5))]/\Sep S w W' [.box g_0 74 [sv ar,vi y2.2],ac (sv v5) 80 8 aj y4]) hy3 ⟨v1,sb z,s.tk [0,0]⟩ ?_) ?_
 ·intro s1 y5 E W h hI
  obtain ⟨v3,hE,s⟩:=hI
  refine CW.sub hE ?_
  unfold kX at h
  refine .seq (.g (.q z (bv h λy6 hy6 h=>.c (.cO s func116 (mX hy6 s.p1.lv) z z ?_))))
  intro W s
  refine .q z (.nil ?_)
  refine .cs z h ?_ ?_ <;> intro h
  ·refine .skip (.block (.region (.q z (.q z (.s (aE s.p1.lv u36 z z) z (.q z (bv h λr1 hr1 h=>.c (.cuto hr1 s.p1 u36 t80 z z z z ?_))))))))
   intro v6 s
   refine .q z (.nil ?_)
   cases h
   exact ⟨z,v6,sb z,s.tk [1,0]⟩
  refine .exit ?_
  cases h
  exact ⟨by simp,z,v3,sb z,s.tk [0,0]⟩
 intro x E W hJ
 obtain ⟨rfl,v7,hE,s⟩:=hJ
 refine ⟨_,hE.sub,?_⟩
 cases h
 exact .g (.q z (.qn z (.ret (aa v7 (rt z rn) z (s.tk [0,0])))))
theorem pD {k:Nat} {a0:aL} {ar:Hd} {g_0:Nat} {S:Nat->Prop} {w:World} {r:ae×Int} (h:gN k a0=some r) (aM:RV w (Old S w) (sv ar) 5 1 (D.int .u8) a0.b) (hO:bu w [.box g_0 74 [sv ar,vi a0.p]] S) (hlt:∀ b,S b->b<w.heap.size):CL 81 #[Pt g_0] w (Ret S w (λs:Hd×Hd×Hd=>.agg #[vi r.1.Kind,vi r.1.Var,vi r.1.Box,vi r.1.Expr.Op,vi r.1.Expr.N,(sv s.1),(sv s.2.1),(sv s.2.2)]) (λs=>[.box g_0 74 [sv ar,vi r.2],ac (sv s.1) 77 3 aC r.1.Expr.Args,ac (sv s.2.1) 80 8 aj r.1.Body,ac (sv s.2.2) 80 8 aj r.1.Else])):=by
 unfold gN at h
 refine au func81 z z ?_
 have s:=Sep.sm hO hlt
 refine .g (.c (.alloc t80 s ?_))
 intro g1 W s
 refine .nil (.g (bv h λy1 hy1 h=>.c (.cV s func82 (aP hy1) z z ?_)))
 intro v1 W s
 refine .q z (.q z (bv h λy2 hy2 h=>?_))
 have s:=s.p2
 refine .c (.cS (L0:=[.box g_0 74 [sv ar,vi a0.p]]) s func23 (λS h1 h2 h3=>(al hy2 (s.ks aM h1) h2 (zz h1))) z z ?_)
 rintro ⟨⟩ W s
 refine bv h λy3 hy3 h=>.c (.cS (L0:=[.box g_0 74 [sv ar,vi y2.2]]) s func115 (λS h1 h2 h3=>(mV hy3 (s.ks aM h1) h2 (zz h1))) z z ?_)
 rintro v2 W s
 refine .s (bs T.s80 z z) z (.c (.st t80 s.p3 z z z ?_))
 intro W s
 refine .nil (.ret ?_)
 have s:=s.nilv 80 8 aj
 cases h
 exact aa (v1,v2,aF) (rc s.p1 t80 z rn z z) z (s.tk [2,3,2,0])
theorem pE {k:Nat} {a0:aL} {ar:Hd} {g_0:Nat} {S:Nat->Prop} {w:World} {r:aA×Int} (h:gO k a0=some r) (aM:RV w (Old S w) (sv ar) 5 1 (D.int .u8) a0.b) (hO:bu w [.box g_0 74 [sv ar,vi a0.p]] S) (hlt:∀ b,S b->b<w.heap.size):CL 50 #[Pt g_0] w (Ret S w (λs:Hd×Hd=>.agg #[(sv s.1),(sv s.2)]) (λs=>[.box g_0 74 [sv ar,vi r.2],ac (sv s.1) 3 1 (D.int .i64) r.1.Rooms,ac (sv s.2) 36 1 (λ(l:List ae)=>D.row 80 8 (l.map aj)) r.1.Tasks])):=by
 unfold gO at h
 refine au func50 z z ?_
 have s:=Sep.sm hO hlt
 refine .g (.c (.alloc t26 s ?_))
 intro g1 W s
 refine .nil (.g (.q z (bv h λy1 hy1 h=>?_)))
 have s:=s.p1
 refine .c (.cS (L0:=[.box g_0 74 [sv ar,vi a0.p]]) s func79 (λS h1 h2 h3=>(qO hy1 (s.ks aM h1) h2 (zz h1))) z z ?_)
 rintro v1 W s
 refine .c (.lg (L1:=[]) [] (λ(l:List ae)=>D.row 80 8 (l.map aj)) u24 t36 (s.to [0,0,0]) z z z (.nil) ?_ z (λ_=>z))
 intro v2 W s
 refine .s (bs T.s26 z z) z (.c (.alloc t26 s ?_))
 intro g2 W s
 refine .c (.st t26 s z z z ?_)
 intro W s
 refine .nil (.g (.q z (bv h λy2 hy2 h=>?_)))
 have s:=s.p2
 refine .c (.cS (L0:=[.box g_0 74 [sv ar,vi y1.2]]) s func23 (λS h1 h2 h3=>(al hy2 (s.ks aM h1) h2 (zz h1))) z z ?_)
 rintro ⟨⟩ W s
 refine .q z (.qn z (.seq (.g (.qn z (.block (bv h λy3 hy3 h=>?_))))))
 refine .via (.iter (λs1 E' W'=>∃ (v5:Hd),ak E' [(0,Pt g_0),(2,Pt g1),(3,Pt g2),(4,vi (w64 (1+y2.1))),(5,vi s1.1)]/\Sep S w W' [.box g_0 74 [sv ar,vi s1.2.1],.box g2 26 [sv v1,sv v5],ac (sv v1) 3 1 (D.int .i64) y1.1,.box g1 26 [sv aF,sv aF],ac (sv v5) 36 1 (λ(l:List ae)=>D.row 80 8 (l.map aj)) s1.2.2]) (λy4 x E' W'=>x=.exit 0/\∃ (v6:Hd),ak E' [(0,Pt g_0),(2,Pt g1),(3,Pt g2)]/\Sep S w W' [.box g_0 74 [sv ar,vi y4.1],.box g2 26 [sv v1,sv v6],ac (sv v1) 3 1 (D.int .i64) y1.1,.box g1 26 [sv aF,sv aF],ac (sv v6) 36 1 (λ(l:List ae)=>D.row 80 8 (l.map aj)) y4.2]) hy3 ⟨v2,sb z,s.tk [0,0,1,1,0]⟩ ?_) ?_
 ·intro s1 y5 E W h hI
  obtain ⟨v4,hE,s⟩:=hI
  refine CW.sub hE ?_
  unfold jY at h
  refine .seq (.g (.q z (.q z (.qn z (.cond z (λb=>?_) (λb=>?_))))))
  ·have h:=aJ b h
   refine .skip (.seq (.block (.rk 10 s [1,1,1] T.mix ?_)))
   intro W s
   have t:=s.to [1,1,1]
   refine .ts' 0 z (λW t=>fa f26_1 z z z) t z (.ts' 1 z (λW t=>ld t24 t z z z z z) t z (.tp' 2 z z t (.ts' 3 z (λW t=>fa f26_0 z z z) t z (.ts' 4 z (λW t=>ld t23 t z z z z z) t z (.ts' 5 z (λW t=>aE s.p2.lv u23 z z) t z (bv h λy6 hy6 h=>.by1 6 z (.cS (L0:=[.box g_0 74 [sv ar,vi s1.2.1]]) s func80 (λS h1 h2 h3=>(qP hy6 (s.ks aM h1) h2 (zz h1))) z z ?_)))))))
   rintro v7 W s
   refine s.an [2,2,2] λt=>.by1 7 z (.lg (L1:=[ac (sv v7) 80 8 aj y6.1]) [y6.1] (λ(l:List ae)=>D.row 80 8 (l.map aj)) u24 t36 (s.to [1,0,0,0,0,0]) z z z (.row (.nil)) ?_ z (λ_=>z))
   intro v8 W s
   refine s.an [2,2,2] λt=>bv h λr1 hr1 h=>.by1 8 z (.appv hr1 (s.to [5,0,0,0,0,0]) u24 t36 z z z ?_)
   intro v9 W s
   refine s.an [2,2,2] λt=>.ts' 9 z (λW t=>fa f26_1 z z z) t z (.by1 10 z (.st t24 s.p2 z z z ?_))
   intro W s
   refine ⟨λh=>absurd z h,?_⟩
   refine .done (.region (.q z (.q z (.q z (.nil ?_)))))
   cases h
   exact ⟨z,v9,sb z,s.tk [2,0,1,1,0]⟩
  have h:=aK b h
  refine .exit ?_
  cases h
  exact ⟨by simp,z,v4,sb z,s.tk [0,0,0,0,0]⟩
 intro x E W hJ
 obtain ⟨rfl,v10,hE,s⟩:=hJ
 refine ⟨_,hE.sub,?_⟩
 refine .seq (.g (.q z (bv h λy7 hy7 h=>.c (.cS (L0:=[.box g_0 74 [sv ar,vi y3.1]]) s func23 (λS h1 h2 h3=>(al hy7 (s.ks aM h1) h2 (zz h1))) z z ?_))))
 rintro ⟨⟩ W s
 refine .qn z (.cond z (λb=>?_) (λb=>?_))
 ·have h:=aJ b h
  refine .rk 6 s [1,1,1,1] T.mix ?_
  intro W s
  have t:=s.to [1,1,1,1]
  refine .ts' 0 z (λW t=>fa f26_1 z z z) t z (.ts' 1 z (λW t=>ld t24 t z z z z z) t z (.tp' 2 z z t (bv h λy8 hy8 h=>.by1 3 z (.cS (L0:=[.box g_0 74 [sv ar,vi y7.2]]) s func81 (λS h1 h2 h3=>(pD hy8 (s.ks aM h1) h2 (zz h1))) z z ?_))))
  rintro ⟨v11,v12,v13⟩ W s
  refine s.an [4,4,4,4] λt=>.by1 4 z (.lg (L1:=[ac (sv v11) 77 3 aC y8.1.Expr.Args,ac (sv v12) 80 8 aj y8.1.Body,ac (sv v13) 80 8 aj y8.1.Else]) [(ae.mk y8.1.Kind y8.1.Var y8.1.Box (Expr.mk y8.1.Expr.Op y8.1.Expr.N y8.1.Expr.Args) y8.1.Body y8.1.Else)] aj u36 t80 (s.to [1,1,1,0,0,0,0,0]) z z z (.aggE (dT _) (.flat (c1:=[vi y8.1.Kind]) z (.flat (c1:=[vi y8.1.Var]) z (.flat (c1:=[vi y8.1.Box]) z (.aggE (cq _) (.flat (c1:=[vi y8.1.Expr.Op]) z (.flat (c1:=[vi y8.1.Expr.N]) z (.row (.row (.row .nil)))))))))) ?_ z jl)
  intro v14 W s
  refine s.an [2,2,2,2] λt=>bv h λx1 hx1 h=>.ts' 5 z (λW t=>ixv s.p5.lv hx1 u24 t36 z z z) t z ?_
  obtain ⟨k1,s⟩:=Sep.ov s.p5 hx1
  obtain ⟨v15,k1,rfl,s⟩:=s.ow
  obtain ⟨rfl,s⟩:=s.oN
  refine .by1 6 z (.sthv s.p1 t36 z z z ?_)
  intro W s
  refine ⟨λh=>absurd z h,?_⟩
  refine .done (.g (.s (ld t26 s.p4 z z z z z) z (.c (.st t26 s.p6 z z z ?_))))
  intro W s
  refine .nil (.ret ?_)
  have s:=Sep.gat (ds:=[.row 80 8 ([(ae.mk y8.1.Kind y8.1.Var y8.1.Box (Expr.mk y8.1.Expr.Op y8.1.Expr.N y8.1.Expr.Args) y8.1.Body y8.1.Else)].map aj)]) (cs:=[sv v14]) (L1:=[ac (sv v14) 80 8 aj [(ae.mk y8.1.Kind y8.1.Var y8.1.Box (Expr.mk y8.1.Expr.Op y8.1.Expr.N y8.1.Expr.Args) y8.1.Body y8.1.Else)]]) (.row (.nil)) (s.to [3,1,0,0,0,0,0])
  have s:Sep _ _ _ [ac (sv v10) 36 1 (λ(l:List ae)=>D.row 80 8 (l.map aj)) (y3.2.set (Int.toNat 0) [(ae.mk y8.1.Kind y8.1.Var y8.1.Box (Expr.mk y8.1.Expr.Op y8.1.Expr.N y8.1.Expr.Args) y8.1.Body y8.1.Else)]),.box g1 26 [sv v1,sv v10],ac (sv v15) 80 8 aj x1,.box g_0 74 [sv ar,vi y8.2],.box g2 26 [sv v1,sv v10],ac (sv v1) 3 1 (D.int .i64) y1.1]:=s.bv
  cases h
  exact aa (v1,v10) (rc s.p1 t26 z rn z z) z (s.tk [3,4,0])
 have h:=aK b h
 refine .skip (.g (.s (ld t26 s.p1 z z z z z) z (.c (.st t26 s.p3 z z z ?_))))
 intro W s
 cases h
 exact .nil (.ret (aa (v1,v10) (rc s t26 z rn z z) z (s.tk [1,2,2])))
end
noncomputable section
theorem qQ {k:Nat} {a0:aL} {ar:Hd} {g_0:Nat} {S:Nat->Prop} {w:World} {r:aA×Int} (h:jv k a0=some r) (aM:RV w (Old S w) (sv ar) 5 1 (D.int .u8) a0.b) (hO:bu w [.box g_0 74 [sv ar,vi a0.p]] S) (hlt:∀ b,S b->b<w.heap.size):CL 22 #[Pt g_0] w (Ret S w (λs:Hd×Hd=>.agg #[(sv s.1),(sv s.2)]) (λs=>[.box g_0 74 [sv ar,vi r.2],ac (sv s.1) 3 1 (D.int .i64) r.1.Rooms,lC [((sv s.2),36,1,List.map (λ(l:List ae)=>D.row 80 8 (l.map aj)) r.1.Tasks)] []])):=by
 unfold jv at h
 refine au func22 z z ?_
 have s:=Sep.sm hO hlt
 refine .g (.c (.alloc t26 s ?_))
 intro g1 W s
 refine .nil (.g (.q z (bv h λy1 hy1 h=>?_)))
 have s:=s.p1
 refine .c (.cS (L0:=[.box g_0 74 [sv ar,vi a0.p]]) s func50 (λS h1 h2 h3=>(pE hy1 (s.ks aM h1) h2 (zz h1))) z z ?_)
 rintro ⟨v1,v2⟩ W s
 refine .c (.alloc t26 s ?_)
 intro g2 W s
 refine .c (.st t26 s z z z ?_)
 intro W s
 refine .nil (.seq (.g (.q z (bv h λy2 hy2 h=>?_))))
 have s:=s.p1
 refine .c (.cS (L0:=[.box g_0 74 [sv ar,vi y1.2]]) s func23 (λS h1 h2 h3=>(al hy2 (s.ks aM h1) h2 (zz h1))) z z ?_)
 rintro ⟨⟩ W s
 refine .nil (.block (.g (.q z (.qn z (.cond z (λb=>?_) (λb=>?_))))))
 ·have h:=aJ b h
  refine bv h λy3 hy3 h=>bv h λx1 hx1 h=>bv h λr1 hr1 h=>?_
  refine .via (R':=λx E' W'=>x=.normal/\∃ (v3:Hd),ak E' [(2,Pt g1),(3,Pt g2)]/\Sep S w W' [.box g_0 74 [sv ar,vi y3.2],.box g2 26 [sv v3,sv v2],ac (sv v2) 36 1 (λ(l:List ae)=>D.row 80 8 (l.map aj)) y1.1.Tasks,.box g1 26 [sv aF,sv aF],ac (sv v3) 3 1 (D.int .i64) r1]) ?_ ?_
  ·refine .rk 10 s [1,2,2] T.mix ?_
   intro W s
   have t:=s.to [1,2,2]
   refine .ts' 0 z (λW t=>fa f26_0 z z z) t z (.ts' 1 z (λW t=>ld t23 t z z z z z) t z (.tp' 3 z z t (.by [2,4] ⟨⟨_,z,?_⟩,⟨_,z,?_⟩,trivial⟩)))
   ·refine (.liv [0,5] (D.int .i64) u23 t3 s z z z z ?_ z (λ_=>z))
    intro v4 W s
    refine s.an [2,3,3] λt=>?_
    have s:=s.p1
    refine .by1 4 z (.cS (L0:=[.box g_0 74 [sv ar,vi y2.2]]) s func23 (λS h1 h2 h3=>(al hy3 (s.ks aM h1) h2 (zz h1))) z z ?_)
    rintro ⟨⟩ W s
    refine s.an [2,3,3] λt=>.ts' 5 z (λW t=>ixv s.p1.lv hx1 u23 t3 z z z) t z (.by1 6 z (.runs (lde (RV.flat s.p1.lv hx1 z) t3 z z z z z) z z ?_))
    refine s.an [2,3,3] λt=>.by1 7 z (.liv [x1] (D.int .i64) u23 t3 s z z z z ?_ z (λ_=>z))
    intro v5 W s
    refine s.an [3,4,4] λt=>?_
    have hT0:=s.p4
    refine .by1 8 z (.av hr1 hT0 hT0.p1.lv (λ_=>z) u23 t3 z z z ?_)
    intro v6 W s
    refine s.an [4,4,4] λt=>.ts' 9 z (λW t=>fa f26_0 z z z) t z (.by1 10 z (.st t23 s.p4 z z z ?_))
    intro W s
    refine ⟨λh=>absurd z h,?_⟩
    exact .done (⟨z,v6,sb z,s.tk [3,0,3,3,0]⟩)
   refine (.cS (L0:=[.box g_0 74 [sv ar,vi y2.2]]) s func23 (λS h1 h2 h3=>(al hy3 (s.ks aM h1) h2 (zz h1))) z z ?_)
   rintro ⟨⟩ W s
   refine s.an [1,2,2] λt=>.by1 2 z (.liv [0,5] (D.int .i64) u23 t3 s z z z z ?_ z (λ_=>z))
   intro v7 W s
   refine s.an [2,3,3] λt=>.ts' 5 z (λW t=>ixv s.lv hx1 u23 t3 z z z) t z (.by1 6 z (.runs (lde (RV.flat s.lv hx1 z) t3 z z z z z) z z ?_))
   refine s.an [2,3,3] λt=>.by1 7 z (.liv [x1] (D.int .i64) u23 t3 s z z z z ?_ z (λ_=>z))
   intro v8 W s
   refine s.an [3,4,4] λt=>?_
   have hT0:=s.p4
   refine .by1 8 z (.av hr1 hT0 hT0.p1.lv (λ_=>z) u23 t3 z z z ?_)
   intro v9 W s
   refine s.an [4,4,4] λt=>.ts' 9 z (λW t=>fa f26_0 z z z) t z (.by1 10 z (.st t23 s.p4 z z z ?_))
   intro W s
   refine ⟨λh=>absurd z h,?_⟩
   exact .done (⟨z,v9,sb z,s.tk [4,0,3,3,0]⟩)
  intro x E W hJ
  obtain ⟨rfl,v10,hE,s⟩:=hJ
  refine ⟨_,hE.sub,?_⟩
  refine .g (.s (ld t26 s.p1 z z z z z) z (.c (.st t26 s.p3 z z z ?_)))
  intro W s
  refine .nil (.ret ?_)
  have s:Sep _ _ _ [lC [((sv v2),36,1,List.map (λ(l:List ae)=>D.row 80 8 (l.map aj)) y1.1.Tasks)] [],.box g1 26 [sv v10,sv v2],.box g_0 74 [sv ar,vi y3.2],.box g2 26 [sv v10,sv v2],ac (sv v10) 3 1 (D.int .i64) r1]:=Sep.frz s.p3
  cases h
  exact aa (v10,v2) (rc s.p1 t26 z rn z z) z (s.tk [2,3,0])
 have h:=aK b h
 refine .g (.q z (.qn z (.cond z (λb=>?_) (λb=>?_))))
 ·have h:=aJ b h
  refine .rk 12 s [1,1,2] T.mix ?_
  intro W s
  have t:=s.to [1,1,2]
  refine .ts' 0 z (λW t=>fa f26_1 z z z) t z (.ts' 1 z (λW t=>ld t24 t z z z z z) t z (.ts' 2 z (λW t=>fa f26_0 z z z) t z (.ts' 3 z (λW t=>ld t23 t z z z z z) t z (.ts' 4 z (λW t=>aE s.p2.lv u23 z z) t z (.tp' 5 z z t (bv h λy4 hy4 h=>.by1 6 z (.cS (L0:=[.box g_0 74 [sv ar,vi y2.2]]) s func51 (λS h1 h2 h3=>(nm hy4 (s.ks aM h1) h2 (zz h1))) z z ?_)))))))
  rintro v11 W s
  refine s.an [2,2,3] λt=>.ts' 7 z (λW t=>bs T.s80 z z) t z ?_
  have s:=s.nilv 80 8 aj
  have s:=s.nilv 80 8 aj
  refine .by1 8 z (.lg (L1:=[ac (sv v11) 77 3 aC y4.1.Args,ac (sv aF) 80 8 aj [],ac (sv aF) 80 8 aj []]) [(ae.mk 4 0 (y1.1.Rooms.length:Int) (Expr.mk y4.1.Op y4.1.N y4.1.Args) [] [])] aj u36 t80 (s.to [3,1,0,0,0,0,0,0]) z z z (.aggE (dT _) (.flat (c1:=[vi 4]) z (.flat (c1:=[vi 0]) z (.flat (c1:=[vi (y1.1.Rooms.length:Int)]) z (.aggE (cq _) (.flat (c1:=[vi y4.1.Op]) z (.flat (c1:=[vi y4.1.N]) z (.row (.row (.row .nil)))))))))) ?_ z jl)
  intro v12 W s
  refine s.an [2,2,3] λt=>.by1 9 z (.lg (L1:=[ac (sv v12) 80 8 aj [(ae.mk 4 0 (y1.1.Rooms.length:Int) (Expr.mk y4.1.Op y4.1.N y4.1.Args) [] [])]]) [[(ae.mk 4 0 (y1.1.Rooms.length:Int) (Expr.mk y4.1.Op y4.1.N y4.1.Args) [] [])]] (λ(l:List ae)=>D.row 80 8 (l.map aj)) u24 t36 (s.to [0,0,0,0,0,0]) z z z (.row (.nil)) ?_ z (λ_=>z))
  intro v13 W s
  refine s.an [2,2,3] λt=>bv h λr2 hr2 h=>.by1 10 z (.appv hr2 (s.to [4,0,0,0,0,0]) u24 t36 z z z ?_)
  intro v14 W s
  refine s.an [2,2,2] λt=>.ts' 11 z (λW t=>fa f26_1 z z z) t z (.by1 12 z (.st t24 s.p2 z z z ?_))
  intro W s
  refine ⟨λh=>absurd z h,?_⟩
  refine .done (.g (.s (ld t26 s z z z z z) z (.c (.st t26 s.p4 z z z ?_))))
  intro W s
  refine .nil (.ret ?_)
  have s:Sep _ _ _ [lC [((sv v14),36,1,List.map (λ(l:List ae)=>D.row 80 8 (l.map aj)) r2)] [],.box g1 26 [sv v1,sv v14],.box g2 26 [sv v1,sv v14],.box g_0 74 [sv ar,vi y4.2],ac (sv v1) 3 1 (D.int .i64) y1.1.Rooms]:=Sep.frz s.p2
  cases h
  exact aa (v1,v14) (rc s.p1 t26 z rn z z) z (s.tk [3,3,0])
 have h:=aK b h
 refine .g (.q z (.q z (.nil ?_)))
 refine .cs z h ?_ ?_ <;> intro h
 ·refine .region (.c (.lg (L1:=[]) [] (λ(l:List ae)=>D.row 80 8 (l.map aj)) u24 t36 (s.to [0,0,0,0,0]) z z z (.nil) ?_ z (λ_=>z)))
  intro v15 W s
  refine .s (fa f26_1 z z z) z (.c (.st t24 s.p2 z z z ?_))
  intro W s
  refine .nil (.g (.s (ld t26 s z z z z z) z (.c (.st t26 s.p5 z z z ?_))))
  intro W s
  refine .nil (.ret ?_)
  have s:Sep _ _ _ [lC [((sv v15),36,1,List.map (λ(l:List ae)=>D.row 80 8 (l.map aj)) [])] [],.box g1 26 [sv v1,sv v15],.box g2 26 [sv v1,sv v15],.box g_0 74 [sv ar,vi y2.2],ac (sv v1) 3 1 (D.int .i64) y1.1.Rooms,ac (sv v2) 36 1 (λ(l:List ae)=>D.row 80 8 (l.map aj)) y1.1.Tasks]:=Sep.frz s.p2
  cases h
  exact aa (v1,v15) (rc s.p1 t26 z rn z z) z (s.tk [3,3,0])
 refine .g (.q z (.q z (.nil ?_)))
 refine .cs z h ?_ ?_ <;> intro h
 ·refine bv h λx2 hx2 h=>?_
  obtain ⟨k1,s⟩:=Sep.ov s.p3 hx2
  obtain ⟨v16,k1,rfl,s⟩:=s.ow
  obtain ⟨rfl,s⟩:=s.oN
  refine bv h λr3 hr3 h=>?_
  have s:Sep _ _ _ [yO (sv v2) 36 1 (List.map (λ(l:List ae)=>D.row 80 8 (l.map aj)) y1.1.Tasks) (Int.toNat 0) [sv v16] (.row 80 8 (x2.map aj)),.box g_0 74 [sv ar,vi y2.2],.box g2 26 [sv v1,sv v2],ac (sv v1) 3 1 (D.int .i64) y1.1.Rooms,.box g1 26 [sv aF,sv aF]]:=(Sep.gat (ds:=[.row 80 8 (x2.map aj)]) (cs:=[sv v16]) (L1:=[ac (sv v16) 80 8 aj x2]) (.row (.nil)) (s.to [0,0,0,0,0,0])).mul
  refine .rm 15 (λW=>Sep S w W [lC [((sv v2),36,1,List.map (λ(l:List ae)=>D.row 80 8 (l.map aj)) y1.1.Tasks),((sv v16),80,8,List.map aj x2)] [((sv v2),Int.toNat 0*1,(sv v16))],.box g_0 74 [sv ar,vi y2.2],.box g2 26 [sv v1,sv v2],ac (sv v1) 3 1 (D.int .i64) y1.1.Rooms,.box g1 26 [sv aF,sv aF]]) s T.mix ?_
  intro W s
  have t:Sep _ _ W [lC [((sv v2),36,1,List.map (λ(l:List ae)=>D.row 80 8 (l.map aj)) y1.1.Tasks),((sv v16),80,8,List.map aj x2)] [((sv v2),Int.toNat 0*1,(sv v16))],.box g_0 74 [sv ar,vi y2.2],.box g2 26 [sv v1,sv v2],ac (sv v1) 3 1 (D.int .i64) y1.1.Rooms,.box g1 26 [sv aF,sv aF]]:=Sep.mulz hx2 z s
  refine .tp 0 z (λW=>fa f26_1 z z z) t (.tL 1 [15] z (λW t=>ld t24 t.p2 z z z z z) t (.tp 2 z (λW=>fa f26_1 z z z) t (.tL 3 [15,14,5,4] z (λW t=>ld t24 t.p2 z z z z z) t (.tp 4 z (λW=>ixv (t.lendz 0 z) hx2 u24 t36 z z z) t (.t1 5 14 z (λW t=>lde (t.cellz 0 z) t36 z z z z z) t (.tp 6 z (λW=>fa f26_1 z z z) t (.tL 7 [15,14,9,8] z (λW t=>ld t24 t.p2 z z z z z) t (.tp 8 z (λW=>ixv (t.lendz 0 z) hx2 u24 t36 z z z) t (.t1 9 14 z (λW t=>lde (t.cellz 0 z) t36 z z z z z) t (.tp 10 z (λW=>fa f26_1 z z z) t (.tL 11 [15,14,13,12] z (λW t=>ld t24 t.p2 z z z z z) t (.tp 12 z (λW=>ixv (t.lendz 0 z) hx2 u24 t36 z z z) t (.t1 13 14 z (λW t=>lde (t.cellz 0 z) t36 z z z z z) t (.by1 14 z (.lir (k:=3) s u24 t36 z z z z ?_)) (by kernel_rfl) z z) (by kernel_rfl) z z) (by kernel_rfl) z z) (by kernel_rfl) z z) (by kernel_rfl) z z) (by kernel_rfl) z z) (by kernel_rfl) z z) (by kernel_rfl) z z) (by kernel_rfl) z z) (by kernel_rfl) z z) (by kernel_rfl) z z) (by kernel_rfl) z z) (by kernel_rfl) z z) (by kernel_rfl) z z
  intro v17 W s
  refine ⟨λ_=>Sep.mulz hx2 z (s.to [1,1,1,1,1]),?_⟩
  refine .byd 15 z (.apm hr3 hx2 s u24 t36 z z z ?_)
  intro v18 W s
  refine .byd 16 z (.runs (fa f26_1 z z z) z z (.byd 17 z (.st t24 s.p2 z z z ?_)))
  intro W s
  refine .done (.g (.s (ld t26 s z z z z z) z (.c (.st t26 s.p4 z z z ?_))))
  intro W s
  cases h
  exact .nil (.ret (aa (v1,v18) (rc s t26 z rn z z) z (s.tk [3,3,2])))
 refine .g (.q z (.q z (.nil ?_)))
 refine .cs z h ?_ ?_ <;> intro h
 ·refine .seq ?_
  refine .via (R':=λx E' W'=>x=.normal/\∃ (nd1:Bool),ak E' [(2,Pt g1),(3,Pt g2),(60,.bool nd1)]/\Sep S w W' [.box g_0 74 [sv ar,vi y2.2],.box g2 26 [sv v1,sv v2],ac (sv v1) 3 1 (D.int .i64) y1.1.Rooms,ac (sv v2) 36 1 (λ(l:List ae)=>D.row 80 8 (l.map aj)) y1.1.Tasks,.box g1 26 [sv aF,sv aF]]) ?_ ?_
  ·refine .rk 4 s [0,0,0,0,0] T.mix ?_
   intro W s
   have t:=s.to [0,0,0,0,0]
   refine .by1 0 z (.alloc t4 s ?_)
   intro g3 W s
   refine s.an [1,1,1,1,1] λt=>.by [1,2] ⟨⟨_,z,?_⟩,⟨_,z,?_⟩,trivial⟩
   ·refine (.st t4 s z z z ?_)
    intro W s
    refine s.an [1,1,1,1,1] λt=>.by1 2 z (.st t4 s z z z ?_)
    intro W s
    refine s.an [1,1,1,1,1] λt=>.by1 3 z (.runs (ld t4 s z z z z z) z z ?_)
    refine s.an [1,1,1,1,1] λt=>?_
    exact .done (⟨z,false,sb z,s.tk [1,1,1,1,1]⟩)
   refine (.st t4 s z z z ?_)
   intro W s
   refine s.an [1,1,1,1,1] λt=>.by1 1 z (.st t4 s z z z ?_)
   intro W s
   refine s.an [1,1,1,1,1] λt=>.by1 3 z (.runs (ld t4 s z z z z z) z z ?_)
   refine s.an [1,1,1,1,1] λt=>?_
   exact .done (⟨z,true,sb z,s.tk [1,1,1,1,1]⟩)
  intro x E W hJ
  obtain ⟨rfl,nd1,hE,s⟩:=hJ
  refine ⟨_,hE.sub,?_⟩
  refine .cond z (λb=>?_) (λb=>?_)
  ·have h:=pw h
   unfold ko at h
   refine .g (.s (fa f26_1 z z z) z (.s (ld t24 s.p1 z z z z z) z (bv h λx3 hx3 h=>.s (ixv s.p3.lv hx3 u24 t36 z z z) z ?_)))
   obtain ⟨k2,s⟩:=Sep.ov s.p3 hx3
   obtain ⟨v19,k2,rfl,s⟩:=s.ow
   obtain ⟨rfl,s⟩:=s.oN
   refine .s (lde (s.p1.hcellsv) t36 z z z z z) z (.s (bs T.s80 z z) z (.s (aE s.lv u36 z z) z ?_))
   have s:=s.nilv 77 3 aC
   have s:=s.nilv 80 8 aj
   have s:=s.nilv 80 8 aj
   refine .c (.lg (L1:=[ac (sv aF) 77 3 aC [],ac (sv aF) 80 8 aj [],ac (sv aF) 80 8 aj []]) [(ae.mk 0 0 0 (Expr.mk 0 0 []) [] [])] aj u36 t80 (s.to [2,1,0,0,0,0,0,0,0]) z z z (.aggE (dT _) (.flat (c1:=[vi 0]) z (.flat (c1:=[vi 0]) z (.flat (c1:=[vi 0]) z (.aggE (cq _) (.flat (c1:=[vi 0]) z (.flat (c1:=[vi 0]) z (.row (.row (.row .nil)))))))))) ?_ z jl)
   intro v20 W s
   refine bv h λr4 hr4 h=>.c (.appv hr4 (s.to [1,0,0,0,0,0,0]) u36 t80 z z z ?_)
   intro v21 W s
   refine .s (ixh s.p1 hx3 u24 t36 z z z) z (.c (.sthv s.p1 t36 z z z ?_))
   intro W s
   refine .nil (.region (bv h λx4 hx4 h=>.s (ixv s.p1.lv hx4 u36 t80 z z z) z ?_))
   obtain ⟨k3,s⟩:=Sep.ov s.p1 hx4
   have s:=s.oaggE (dT _)
   obtain ⟨k3,rfl,s⟩:=Sep.oF z s
   obtain ⟨k3,rfl,s⟩:=Sep.oF z s
   obtain ⟨k3,rfl,s⟩:=Sep.oF z s
   have s:=s.oaggE (cq _)
   obtain ⟨k3,rfl,s⟩:=Sep.oF z s
   obtain ⟨k3,rfl,s⟩:=Sep.oF z s
   obtain ⟨v22,k3,rfl,s⟩:=s.ow
   obtain ⟨v23,k3,rfl,s⟩:=s.ow
   obtain ⟨v24,k3,rfl,s⟩:=s.ow
   obtain ⟨rfl,s⟩:=s.oN
   refine .c (.sthv s.p3 t80 z z z ?_)
   intro W s
   refine .nil (.g (.s (ld t26 s.p6 z z z z z) z (.c (.st t26 s.p8 z z z ?_))))
   intro W s
   refine .nil (.ret ?_)
   have s:=s.nilv 77 3 aC
   have s:=s.nilv 80 8 aj
   have s:=s.nilv 80 8 aj
   have s:=Sep.gat (ds:=[aj (ae.mk 9 0 0 (Expr.mk 0 0 []) [] [])]) (cs:=[vi 9,vi 0,vi 0,vi 0,vi 0,sv aF,sv aF,sv aF]) (L1:=[ac (sv aF) 77 3 aC [],ac (sv aF) 80 8 aj [],ac (sv aF) 80 8 aj []]) (.aggE (dT _) (.flat (c1:=[vi 9]) z (.flat (c1:=[vi 0]) z (.flat (c1:=[vi 0]) z (.aggE (cq _) (.flat (c1:=[vi 0]) z (.flat (c1:=[vi 0]) z (.row (.row (.row .nil)))))))))) (s.to [2,1,0,1,0,0,0,0,0,0,0,0])
   have s:Sep _ _ _ [ac (sv v21) 80 8 aj (r4.set (Int.toNat (x3.length:Int)) (ae.mk 9 0 0 (Expr.mk 0 0 []) [] [])),.box g1 26 [sv v1,sv v2],ac (sv v24) 80 8 aj x4.Else,ac (sv v23) 80 8 aj x4.Body,ac (sv v22) 77 3 aC x4.Expr.Args,pT (sv v2) 36 1 (λ(l:List ae)=>D.row 80 8 (l.map aj)) y1.1.Tasks (Int.toNat 0) [sv v21],.box g_0 74 [sv ar,vi y2.2],.box g2 26 [sv v1,sv v2],ac (sv v1) 3 1 (D.int .i64) y1.1.Rooms]:=s.bv
   have s:=Sep.gat (ds:=[.row 80 8 ((r4.set (Int.toNat (x3.length:Int)) (ae.mk 9 0 0 (Expr.mk 0 0 []) [] [])).map aj)]) (cs:=[sv v21]) (L1:=[ac (sv v21) 80 8 aj (r4.set (Int.toNat (x3.length:Int)) (ae.mk 9 0 0 (Expr.mk 0 0 []) [] []))]) (.row (.nil)) (s.to [0,4,0,0,0,0,0,0,0])
   have s:Sep _ _ _ [ac (sv v2) 36 1 (λ(l:List ae)=>D.row 80 8 (l.map aj)) (y1.1.Tasks.set (Int.toNat 0) (r4.set (Int.toNat (x3.length:Int)) (ae.mk 9 0 0 (Expr.mk 0 0 []) [] []))),.box g1 26 [sv v1,sv v2],ac (sv v24) 80 8 aj x4.Else,ac (sv v23) 80 8 aj x4.Body,ac (sv v22) 77 3 aC x4.Expr.Args,.box g_0 74 [sv ar,vi y2.2],.box g2 26 [sv v1,sv v2],ac (sv v1) 3 1 (D.int .i64) y1.1.Rooms]:=s.bv
   have s:Sep _ _ _ [lC [((sv v2),36,1,List.map (λ(l:List ae)=>D.row 80 8 (l.map aj)) (y1.1.Tasks.set (Int.toNat 0) (r4.set (Int.toNat (x3.length:Int)) (ae.mk 9 0 0 (Expr.mk 0 0 []) [] []))))] [],.box g1 26 [sv v1,sv v2],ac (sv v24) 80 8 aj x4.Else,ac (sv v23) 80 8 aj x4.Body,ac (sv v22) 77 3 aC x4.Expr.Args,.box g_0 74 [sv ar,vi y2.2],.box g2 26 [sv v1,sv v2],ac (sv v1) 3 1 (D.int .i64) y1.1.Rooms]:=Sep.frz s
   cases h
   exact aa (v1,v2) (rc s.p1 t26 z rn z z) z (s.tk [5,6,0])
  unfold eZ at h
  refine bv h λx5 hx5 h=>?_
  obtain ⟨k4,s⟩:=Sep.ov s.p3 hx5
  obtain ⟨v25,k4,rfl,s⟩:=s.ow
  obtain ⟨rfl,s⟩:=s.oN
  refine .rk 10 s [1,1,1,1,1] T.mix ?_
  intro W s
  have t:=s.to [1,1,1,1,1]
  refine .ts' 0 z (λW t=>fa f26_1 z z z) t z (.ts' 1 z (λW t=>ld t24 t.p2 z z z z z) t z (.ts' 2 z (λW t=>fa f26_1 z z z) t z (.ts' 3 z (λW t=>ld t24 t.p2 z z z z z) t z (.ts' 4 z (λW t=>ixh t hx5 u24 t36 z z z) t z (.ts' 5 z (λW t=>lde (t.hcellsv) t36 z z z z z) t z (.ts' 6 z (λW t=>bs T.s80 z z) t z ?_))))))
  have s:=s.nilv 77 3 aC
  have s:=s.nilv 80 8 aj
  have s:=s.nilv 80 8 aj
  refine .by1 7 z (.lg (L1:=[ac (sv aF) 77 3 aC [],ac (sv aF) 80 8 aj [],ac (sv aF) 80 8 aj []]) [(ae.mk 9 0 0 (Expr.mk 0 0 []) [] [])] aj u36 t80 (s.to [2,1,0,0,0,0,0,0,0]) z z z (.aggE (dT _) (.flat (c1:=[vi 9]) z (.flat (c1:=[vi 0]) z (.flat (c1:=[vi 0]) z (.aggE (cq _) (.flat (c1:=[vi 0]) z (.flat (c1:=[vi 0]) z (.row (.row (.row .nil)))))))))) ?_ z jl)
  intro v28 W s
  refine s.an [2,2,2,2,2] λt=>bv h λr6 hr6 h=>.by1 8 z (.appv hr6 (s.to [1,0,0,0,0,0,0]) u36 t80 z z z ?_)
  intro v29 W s
  refine s.an [1,1,1,1,1] λt=>.ts' 9 z (λW t=>ixh t hx5 u24 t36 z z z) t z (.by1 10 z (.sthv s.p1 t36 z z z ?_))
  intro W s
  refine ⟨λh=>absurd z h,?_⟩
  refine .done (.g (.s (ld t26 s.p3 z z z z z) z (.c (.st t26 s.p5 z z z ?_))))
  intro W s
  refine .nil (.ret ?_)
  have s:=Sep.gat (ds:=[.row 80 8 (r6.map aj)]) (cs:=[sv v29]) (L1:=[ac (sv v29) 80 8 aj r6]) (.row (.nil)) (s.to [2,1,0,0,0,0])
  have s:Sep _ _ _ [ac (sv v2) 36 1 (λ(l:List ae)=>D.row 80 8 (l.map aj)) (y1.1.Tasks.set (Int.toNat 0) r6),.box g1 26 [sv v1,sv v2],.box g_0 74 [sv ar,vi y2.2],.box g2 26 [sv v1,sv v2],ac (sv v1) 3 1 (D.int .i64) y1.1.Rooms]:=s.bv
  have s:Sep _ _ _ [lC [((sv v2),36,1,List.map (λ(l:List ae)=>D.row 80 8 (l.map aj)) (y1.1.Tasks.set (Int.toNat 0) r6))] [],.box g1 26 [sv v1,sv v2],.box g_0 74 [sv ar,vi y2.2],.box g2 26 [sv v1,sv v2],ac (sv v1) 3 1 (D.int .i64) y1.1.Rooms]:=Sep.frz s
  cases h
  exact aa (v1,v2) (rc s.p1 t26 z rn z z) z (s.tk [2,3,0])
 refine .skip (.g (.s (ld t26 s.p1 z z z z z) z (.c (.st t26 s.p4 z z z ?_))))
 intro W s
 refine .nil (.ret ?_)
 have s:Sep _ _ _ [lC [((sv v2),36,1,List.map (λ(l:List ae)=>D.row 80 8 (l.map aj)) y1.1.Tasks)] [],.box g1 26 [sv v1,sv v2],.box g_0 74 [sv ar,vi y2.2],.box g2 26 [sv v1,sv v2],ac (sv v1) 3 1 (D.int .i64) y1.1.Rooms]:=Sep.frz s.p4
 cases h
 exact aa (v1,v2) (rc s.p1 t26 z rn z z) z (s.tk [2,3,0])
theorem ng {k:Nat} {a0:List Int} {v_0:Hd} {w:World} {r:aA×Int} (h:dF k a0=some r) (q_0:RO w v_0 5 1 (D.int .u8) a0):CL 5 #[sv v_0] w (Ret No w (λs:Hd×Hd=>.tuple #[.agg #[(sv s.1),(sv s.2)],vi r.2]) (λs=>[ac (sv s.1) 3 1 (D.int .i64) r.1.Rooms,lC [((sv s.2),36,1,List.map (λ(l:List ae)=>D.row 80 8 (l.map aj)) r.1.Tasks)] []])):=by
 unfold dF at h
 refine au func5 z z ?_
 have s:=Sep.start w
 have Q_0:=q_0
 refine .g (.c (.alloc t26 s ?_))
 intro g1 W s
 refine .qn z (.g (.q z (bv h λy1 hy1 h=>?_)))
 have hQ1:=s
 refine .c (.call s func21 (tB hy1 (s.keep q_0)) z z ?_)
 rintro ⟨g2,⟨v1,q1⟩⟩ W s
 refine .qn z (.g (.q z (bv h λy2 hy2 h=>.c (.cS (L0:=[.box g2 74 [sv v1,vi y1.p]]) s func22 (λS h1 h2 h3=>(qQ hy2 (s.ks (hQ1.wasA (q1 _ (hQ1.keepA q_0 Q_0))) h1) h2 (zz h1))) z z ?_))))
 rintro ⟨v2,v3⟩ W s
 refine .c (.alloc t26 s ?_)
 intro g3 W s
 refine .c (.st t26 s z z z ?_)
 intro W s
 refine .nil (.seq (.g (.q z (bv h λy3 hy3 h=>?_))))
 have s:=s.p1
 refine .c (.cS (L0:=[.box g2 74 [sv v1,vi y2.2]]) s func23 (λS h1 h2 h3=>(al hy3 (s.ks (hQ1.wasA (q1 _ (hQ1.keepA q_0 Q_0))) h1) h2 (zz h1))) z z ?_)
 rintro ⟨⟩ W s
 refine .qn z (.cond z (λb=>?_) (λb=>?_))
 ·have h:=aJ b h
  refine .g (.s (ld t26 s.p1 z z z z z) z (.c (.st t26 s.p4 z z z ?_)))
  intro W s
  cases h
  exact .qn z (.ret (aa (vs:=[_,_]) (v2,v3) (rc s t26 z (rt z rn) z z) z (s.tk [3,3])))
 have h:=aK b h
 refine .skip (.seq (.rk 5 s [1,1,1] T.mix ?_))
 intro W s
 have t:=s.to [1,1,1]
 refine .ts' 0 z (λW t=>ld t26 t z z z z z) t z (.tp' 1 z z t (bv h λy4 hy4 h=>.by1 2 z (.cS (L0:=[.box g2 74 [sv v1,vi y3.2]]) s func23 (λS h1 h2 h3=>(al hy4 (s.ks (hQ1.wasA (q1 _ (hQ1.keepA q_0 Q_0))) h1) h2 (zz h1))) z z ?_)))
 rintro ⟨⟩ W s
 refine s.an [1,1,1] λt=>.by1 3 z (.st t26 s.p4 z z z ?_)
 intro W s
 refine s.an [2,2,2] λt=>?_
 cases h
 exact .tp' 4 z z t (.done (.ret (aa (vs:=[_,_]) (v2,v3) (rc s t26 z (rt z rn) z z) z (s.tk [3,3]))))
theorem mI {a0:Int} {w:World} {r:Bool} (h:jZ a0=some r):CL 95 #[vi a0] w (RU w (.bool r)):=by
 unfold jZ at h
 refine au func95 z z ?_
 have s:=Sep.start w
 refine .g (.qn z (.g (.q z (.q z (.q z (.cu 3 8 ((decide (a0>=0))&&(decide (a0<12))) s ?_ ?_))))))
 ·refine .both (decide (a0>=0)) (λb=>?_) (λb=>?_)
  ·have hg1:=b
   exact .g hg1 (.q z (.g hg1 (.q z (.s (pkt hg1 z z z) z (.nil (ck 3 s z (bh hg1)))))))
  exact .xx b z (.xx b z (.s (pkf b z z z) z (.nil (ck 3 s z (bi b)))))
 intro W s
 cases h
 exact .qn z (.ret (aa () (rt z rn) z (s.to [])))
theorem qc {a0:Int} {w:World} {r:Bool} (h:io a0=some r):CL 96 #[vi a0] w (RU w (.bool r)):=by
 unfold io at h
 refine au func96 z z ?_
 have s:=Sep.start w
 refine .g (.qn z (.g (.q z (.q z (.q z (.cu 3 8 ((decide (a0>=(-2147483648)))&&(decide (a0<=2147483647))) s ?_ ?_))))))
 ·refine .both (decide (a0>=(-2147483648))) (λb=>?_) (λb=>?_)
  ·have hg1:=b
   exact .g hg1 (.q z (.g hg1 (.q z (.s (pkt hg1 z z z) z (.nil (ck 3 s z (bh hg1)))))))
  exact .xx b z (.xx b z (.s (pkf b z z z) z (.nil (ck 3 s z (bi b)))))
 intro W s
 cases h
 exact .qn z (.ret (aa () (rt z rn) z (s.to [])))
theorem nq {a0:Int} {w:World} {r:Bool} (h:iW a0=some r):CL 97 #[vi a0] w (RU w (.bool r)):=by
 unfold iW at h
 refine au func97 z z ?_
 have s:=Sep.start w
 refine .g (.qn z (.g (.q z (.q z (.q z (.cu 3 8 ((decide (a0>=1))&&(decide (a0<=12))) s ?_ ?_))))))
 ·refine .both (decide (a0>=1)) (λb=>?_) (λb=>?_)
  ·have hg1:=b
   exact .g hg1 (.q z (.g hg1 (.q z (.s (pkt hg1 z z z) z (.nil (ck 3 s z (bh hg1)))))))
  exact .xx b z (.xx b z (.s (pkf b z z z) z (.nil (ck 3 s z (bi b)))))
 intro W s
 cases h
 exact .qn z (.ret (aa () (rt z rn) z (s.to [])))
theorem qd {a0:ab} {a1:Int} {w:World} {r:Bool} (h:ip a0 a1=some r):CL 62 #[.agg #[vi a0.Op,vi a0.Dst,vi a0.A,vi a0.B,vi a0.N],vi a1] w (RU w (.bool r)):=by
 unfold ip at h
 refine au func62 z z ?_
 have s:=Sep.start w
 refine .g (.c (.box s z z ?_))
 intro g1 W s
 refine .qn z (.seq (.rk 15 s [0] T.mix ?_))
 intro W s
 have t:=s.to [0]
 refine .ts' 0 z (λW t=>fa f62_1 z z z) t z (.ts' 1 z (λW t=>ld t3 t z z z z z) t z (.ts' 3 z (λW t=>fa f62_2 z z z) t z (.ts' 4 z (λW t=>ld t3 t z z z z z) t z (.ts' 6 z (λW t=>fa f62_3 z z z) t z (.ts' 7 z (λW t=>ld t3 t z z z z z) t z (.ts' 9 z (λW t=>fa f62_4 z z z) t z (.ts' 10 z (λW t=>ld t3 t z z z z z) t z (bv h λy1 hy1 h=>.by1 2 z (.cO s func95 (mI hy1) z z ?_)))))))))
 intro W s
 refine s.an [0] λt=>bv h λy2 hy2 h=>.by1 5 z (.cO s func95 (mI hy2) z z ?_)
 intro W s
 refine s.an [0] λt=>bv h λy3 hy3 h=>.by1 8 z (.cO s func95 (mI hy3) z z ?_)
 intro W s
 refine s.an [0] λt=>.tp' 11 z z t (.tp' 12 z z t (.tp' 13 z z t (.tp' 14 z z t (.done (.seq (.g (.s (fa f62_0 z z z) z (.s (ld t3 s z z z z z) z (.nil (.block (.g (.q z (.q z (.nil ?_))))))))))))))
 refine .cs z h ?_ ?_ <;> intro h
 ·refine .g (.s (ld t62 s z z z z z) z (.s (fa f62_1 z z z) z (.s (ld t3 s z z z z z) z (.q z (.s (bs T.s62 z z) z (.s (eqs T.e62 z z z z) z (.q z (.cu 2 32 (((a0.Op==1)&&((a0.Dst==a0.Dst)&&((a0.A==0)&&((a0.B==0)&&((a0.N==a0.N)&&true)))))&&y1) s ?_ ?_))))))))
  ·refine .both (((a0.Op==1)&&((a0.Dst==a0.Dst)&&((a0.A==0)&&((a0.B==0)&&((a0.N==a0.N)&&true)))))) (λb=>?_) (λb=>?_)
   ·have hg1:=b
    exact .g hg1 (.q z (.s (pkt hg1 z z z) z (.nil (ck 2 s z (bh hg1)))))
   exact .xx b z (.s (pkf b z z z) z (.nil (ck 2 s z (bi b))))
  intro W s
  refine .q z (bv h λb1 hb1 h=>.cu 3 36 (b1) s ?_ ?_)
  ·refine .both (((a0.Op==1)&&((a0.Dst==a0.Dst)&&((a0.A==0)&&((a0.B==0)&&((a0.N==a0.N)&&true)))))&&y1) (λb=>?_) (λb=>?_)
   ·have hg2:=b
    have h:=aJ b hb1
    refine .g hg2 (.q z (bv h λy4 hy4 h=>.g hg2 (.c (.cO s func96 (qc hy4) z z ?_))))
    intro W s
    refine .s (pkt hg2 z z z) z ?_
    cases h
    exact .nil (ck 3 s)
   refine .xx b z (.xx b z ?_)
   cases aK b hb1
   exact .s (pkf b z z z) z (.nil (ck 3 s))
  intro W s
  obtain rfl:=o9 h
  exact .qn z (.ret (aa () (rt z rn) z (s.to [])))
 refine .g (.q z (.q z (.nil ?_)))
 refine .cs z h ?_ ?_ <;> intro h
 ·refine .g (.s (ld t62 s z z z z z) z (.s (fa f62_1 z z z) z (.s (ld t3 s z z z z z) z (.s (fa f62_2 z z z) z (.s (ld t3 s z z z z z) z (.s (bs T.s62 z z) z (.s (eqs T.e62 z z z z) z (.q z (.cu 2 48 (((a0.Op==2)&&((a0.Dst==a0.Dst)&&((a0.A==a0.A)&&((a0.B==0)&&((a0.N==0)&&true)))))&&y1) s ?_ ?_)))))))))
  ·refine .both (((a0.Op==2)&&((a0.Dst==a0.Dst)&&((a0.A==a0.A)&&((a0.B==0)&&((a0.N==0)&&true)))))) (λb=>?_) (λb=>?_)
   ·have hg3:=b
    exact .g hg3 (.q z (.s (pkt hg3 z z z) z (.nil (ck 2 s z (bh hg3)))))
   exact .xx b z (.s (pkf b z z z) z (.nil (ck 2 s z (bi b))))
  intro W s
  refine .q z (.cu 2 51 ((((a0.Op==2)&&((a0.Dst==a0.Dst)&&((a0.A==a0.A)&&((a0.B==0)&&((a0.N==0)&&true)))))&&y1)&&y2) s ?_ ?_)
  ·refine .both (((a0.Op==2)&&((a0.Dst==a0.Dst)&&((a0.A==a0.A)&&((a0.B==0)&&((a0.N==0)&&true)))))&&y1) (λb=>?_) (λb=>?_)
   ·have hg4:=b
    exact .g hg4 (.q z (.s (pkt hg4 z z z) z (.nil (ck 2 s z (bh hg4)))))
   exact .xx b z (.s (pkf b z z z) z (.nil (ck 2 s z (bi b))))
  intro W s
  cases h
  exact .qn z (.ret (aa () (rt z rn) z (s.to [])))
 refine .g (.q z (.q z (.nil ?_)))
 refine .cs z h ?_ ?_ <;> intro h
 ·refine .g (.q z (.q z (.cu 2 57 (y1&&y2) s ?_ ?_)))
  ·refine .both (y1) (λb=>?_) (λb=>?_)
   ·have hg5:=b
    exact .g hg5 (.q z (.s (pkt hg5 z z z) z (.nil (ck 2 s z (bh hg5)))))
   exact .xx b z (.s (pkf b z z z) z (.nil (ck 2 s z (bi b))))
  intro W s
  refine .q z (.cu 2 60 ((y1&&y2)&&y3) s ?_ ?_)
  ·refine .both (y1&&y2) (λb=>?_) (λb=>?_)
   ·have hg6:=b
    exact .g hg6 (.q z (.s (pkt hg6 z z z) z (.nil (ck 2 s z (bh hg6)))))
   exact .xx b z (.s (pkf b z z z) z (.nil (ck 2 s z (bi b))))
  intro W s
  refine .q z (bv h λb2 hb2 h=>.cu 3 64 (b2) s ?_ ?_)
  ·refine .both ((y1&&y2)&&y3) (λb=>?_) (λb=>?_)
   ·have hg7:=b
    have h:=aJ b hb2
    refine .g hg7 (.q z (bv h λy5 hy5 h=>.g hg7 (.c (.cO s func97 (nq hy5) z z ?_))))
    intro W s
    refine .s (pkt hg7 z z z) z ?_
    cases h
    exact .nil (ck 3 s)
   refine .xx b z (.xx b z ?_)
   cases aK b hb2
   exact .s (pkf b z z z) z (.nil (ck 3 s))
  intro W s
  obtain rfl:=o9 h
  exact .qn z (.ret (aa () (rt z rn) z (s.to [])))
 refine .g (.q z (.q z (.nil ?_)))
 refine .cs z h ?_ ?_ <;> intro h
 ·refine .g (.s (ld t62 s z z z z z) z (.q z (.s (bs T.s62 z z) z (.s (eqs T.e62 z z z z) z (.q z (.cu 3 74 (((a0.Op==4)&&((a0.Dst==0)&&((a0.A==0)&&((a0.B==0)&&((a0.N==a0.N)&&true)))))&&(decide (a0.N>=0))) s ?_ ?_))))))
  ·refine .both (((a0.Op==4)&&((a0.Dst==0)&&((a0.A==0)&&((a0.B==0)&&((a0.N==a0.N)&&true)))))) (λb=>?_) (λb=>?_)
   ·have hg8:=b
    exact .g hg8 (.q z (.g hg8 (.q z (.s (pkt hg8 z z z) z (.nil (ck 3 s z (bh hg8)))))))
   exact .xx b z (.xx b z (.s (pkf b z z z) z (.nil (ck 3 s z (bi b)))))
  intro W s
  refine .q z (.cu 4 79 ((((a0.Op==4)&&((a0.Dst==0)&&((a0.A==0)&&((a0.B==0)&&((a0.N==a0.N)&&true)))))&&(decide (a0.N>=0)))&&(decide (a0.N<a1))) s ?_ ?_)
  ·refine .both (((a0.Op==4)&&((a0.Dst==0)&&((a0.A==0)&&((a0.B==0)&&((a0.N==a0.N)&&true)))))&&(decide (a0.N>=0))) (λb=>?_) (λb=>?_)
   ·have hg9:=b
    exact .g hg9 (.q z (.g hg9 (.q z (.g hg9 (.q z (.s (pkt hg9 z z z) z (.nil (ck 4 s z (bh hg9)))))))))
   exact .xx b z (.xx b z (.xx b z (.s (pkf b z z z) z (.nil (ck 4 s z (bi b))))))
  intro W s
  cases h
  exact .qn z (.ret (aa () (rt z rn) z (s.to [])))
 refine .g (.q z (.q z (.nil ?_)))
 refine .cs z h ?_ ?_ <;> intro h
 ·refine .g (.s (ld t62 s z z z z z) z (.s (fa f62_2 z z z) z (.s (ld t3 s z z z z z) z (.q z (.s (bs T.s62 z z) z (.s (eqs T.e62 z z z z) z (.q z (.cu 2 90 (((a0.Op==5)&&((a0.Dst==0)&&((a0.A==a0.A)&&((a0.B==0)&&((a0.N==a0.N)&&true)))))&&y2) s ?_ ?_))))))))
  ·refine .both (((a0.Op==5)&&((a0.Dst==0)&&((a0.A==a0.A)&&((a0.B==0)&&((a0.N==a0.N)&&true)))))) (λb=>?_) (λb=>?_)
   ·have hg10:=b
    exact .g hg10 (.q z (.s (pkt hg10 z z z) z (.nil (ck 2 s z (bh hg10)))))
   exact .xx b z (.s (pkf b z z z) z (.nil (ck 2 s z (bi b))))
  intro W s
  refine .q z (.cu 3 94 ((((a0.Op==5)&&((a0.Dst==0)&&((a0.A==a0.A)&&((a0.B==0)&&((a0.N==a0.N)&&true)))))&&y2)&&(decide (a0.N>=0))) s ?_ ?_)
  ·refine .both (((a0.Op==5)&&((a0.Dst==0)&&((a0.A==a0.A)&&((a0.B==0)&&((a0.N==a0.N)&&true)))))&&y2) (λb=>?_) (λb=>?_)
   ·have hg11:=b
    exact .g hg11 (.q z (.g hg11 (.q z (.s (pkt hg11 z z z) z (.nil (ck 3 s z (bh hg11)))))))
   exact .xx b z (.xx b z (.s (pkf b z z z) z (.nil (ck 3 s z (bi b)))))
  intro W s
  refine .q z (.cu 4 99 (((((a0.Op==5)&&((a0.Dst==0)&&((a0.A==a0.A)&&((a0.B==0)&&((a0.N==a0.N)&&true)))))&&y2)&&(decide (a0.N>=0)))&&(decide (a0.N<a1))) s ?_ ?_)
  ·refine .both ((((a0.Op==5)&&((a0.Dst==0)&&((a0.A==a0.A)&&((a0.B==0)&&((a0.N==a0.N)&&true)))))&&y2)&&(decide (a0.N>=0))) (λb=>?_) (λb=>?_)
   ·have hg12:=b
    exact .g hg12 (.q z (.g hg12 (.q z (.g hg12 (.q z (.s (pkt hg12 z z z) z (.nil (ck 4 s z (bh hg12)))))))))
   exact .xx b z (.xx b z (.xx b z (.s (pkf b z z z) z (.nil (ck 4 s z (bi b))))))
  intro W s
  cases h
  exact .qn z (.ret (aa () (rt z rn) z (s.to [])))
 refine .g (.q z (.q z (.nil ?_)))
 refine .cs z h ?_ ?_ <;> intro h
 ·refine .g (.s (ld t62 s z z z z z) z (.s (fa f62_2 z z z) z (.s (ld t3 s z z z z z) z (.q z (.s (bs T.s62 z z) z (.s (eqs T.e62 z z z z) z (.q z (.cu 2 110 (((a0.Op==6)&&((a0.Dst==0)&&((a0.A==a0.A)&&((a0.B==0)&&((a0.N==a0.N)&&true)))))&&y2) s ?_ ?_))))))))
  ·refine .both (((a0.Op==6)&&((a0.Dst==0)&&((a0.A==a0.A)&&((a0.B==0)&&((a0.N==a0.N)&&true)))))) (λb=>?_) (λb=>?_)
   ·have hg13:=b
    exact .g hg13 (.q z (.s (pkt hg13 z z z) z (.nil (ck 2 s z (bh hg13)))))
   exact .xx b z (.s (pkf b z z z) z (.nil (ck 2 s z (bi b))))
  intro W s
  refine .q z (.cu 3 114 ((((a0.Op==6)&&((a0.Dst==0)&&((a0.A==a0.A)&&((a0.B==0)&&((a0.N==a0.N)&&true)))))&&y2)&&(decide (a0.N>=0))) s ?_ ?_)
  ·refine .both (((a0.Op==6)&&((a0.Dst==0)&&((a0.A==a0.A)&&((a0.B==0)&&((a0.N==a0.N)&&true)))))&&y2) (λb=>?_) (λb=>?_)
   ·have hg14:=b
    exact .g hg14 (.q z (.g hg14 (.q z (.s (pkt hg14 z z z) z (.nil (ck 3 s z (bh hg14)))))))
   exact .xx b z (.xx b z (.s (pkf b z z z) z (.nil (ck 3 s z (bi b)))))
  intro W s
  refine .q z (.cu 3 118 (((((a0.Op==6)&&((a0.Dst==0)&&((a0.A==a0.A)&&((a0.B==0)&&((a0.N==a0.N)&&true)))))&&y2)&&(decide (a0.N>=0)))&&(decide (a0.N<3))) s ?_ ?_)
  ·refine .both ((((a0.Op==6)&&((a0.Dst==0)&&((a0.A==a0.A)&&((a0.B==0)&&((a0.N==a0.N)&&true)))))&&y2)&&(decide (a0.N>=0))) (λb=>?_) (λb=>?_)
   ·have hg15:=b
    exact .g hg15 (.q z (.g hg15 (.q z (.s (pkt hg15 z z z) z (.nil (ck 3 s z (bh hg15)))))))
   exact .xx b z (.xx b z (.s (pkf b z z z) z (.nil (ck 3 s z (bi b)))))
  intro W s
  cases h
  exact .qn z (.ret (aa () (rt z rn) z (s.to [])))
 refine .g (.q z (.q z (.nil ?_)))
 refine .cs z h ?_ ?_ <;> intro h
 ·refine .g (.s (ld t62 s z z z z z) z (.s (fa f62_1 z z z) z (.s (ld t3 s z z z z z) z (.q z (.s (bs T.s62 z z) z (.s (eqs T.e62 z z z z) z (.q z (.cu 2 129 (((a0.Op==7)&&((a0.Dst==a0.Dst)&&((a0.A==0)&&((a0.B==0)&&((a0.N==a0.N)&&true)))))&&y1) s ?_ ?_))))))))
  ·refine .both (((a0.Op==7)&&((a0.Dst==a0.Dst)&&((a0.A==0)&&((a0.B==0)&&((a0.N==a0.N)&&true)))))) (λb=>?_) (λb=>?_)
   ·have hg16:=b
    exact .g hg16 (.q z (.s (pkt hg16 z z z) z (.nil (ck 2 s z (bh hg16)))))
   exact .xx b z (.s (pkf b z z z) z (.nil (ck 2 s z (bi b))))
  intro W s
  refine .q z (.cu 3 133 ((((a0.Op==7)&&((a0.Dst==a0.Dst)&&((a0.A==0)&&((a0.B==0)&&((a0.N==a0.N)&&true)))))&&y1)&&(decide (a0.N>=0))) s ?_ ?_)
  ·refine .both (((a0.Op==7)&&((a0.Dst==a0.Dst)&&((a0.A==0)&&((a0.B==0)&&((a0.N==a0.N)&&true)))))&&y1) (λb=>?_) (λb=>?_)
   ·have hg17:=b
    exact .g hg17 (.q z (.g hg17 (.q z (.s (pkt hg17 z z z) z (.nil (ck 3 s z (bh hg17)))))))
   exact .xx b z (.xx b z (.s (pkf b z z z) z (.nil (ck 3 s z (bi b)))))
  intro W s
  refine .q z (.cu 3 137 (((((a0.Op==7)&&((a0.Dst==a0.Dst)&&((a0.A==0)&&((a0.B==0)&&((a0.N==a0.N)&&true)))))&&y1)&&(decide (a0.N>=0)))&&(decide (a0.N<3))) s ?_ ?_)
  ·refine .both ((((a0.Op==7)&&((a0.Dst==a0.Dst)&&((a0.A==0)&&((a0.B==0)&&((a0.N==a0.N)&&true)))))&&y1)&&(decide (a0.N>=0))) (λb=>?_) (λb=>?_)
   ·have hg18:=b
    exact .g hg18 (.q z (.g hg18 (.q z (.s (pkt hg18 z z z) z (.nil (ck 3 s z (bh hg18)))))))
   exact .xx b z (.xx b z (.s (pkf b z z z) z (.nil (ck 3 s z (bi b)))))
  intro W s
  cases h
  exact .qn z (.ret (aa () (rt z rn) z (s.to [])))
 refine .g (.q z (.q z (.nil ?_)))
 refine .cs z h ?_ ?_ <;> intro h
 ·refine .g (.s (ld t62 s z z z z z) z (.s (fa f62_2 z z z) z (.s (ld t3 s z z z z z) z (.s (bs T.s62 z z) z (.s (eqs T.e62 z z z z) z (.q z (.cu 2 147 (((a0.Op==9)&&((a0.Dst==0)&&((a0.A==a0.A)&&((a0.B==0)&&((a0.N==0)&&true)))))&&y2) s ?_ ?_)))))))
  ·refine .both (((a0.Op==9)&&((a0.Dst==0)&&((a0.A==a0.A)&&((a0.B==0)&&((a0.N==0)&&true)))))) (λb=>?_) (λb=>?_)
   ·have hg19:=b
    exact .g hg19 (.q z (.s (pkt hg19 z z z) z (.nil (ck 2 s z (bh hg19)))))
   exact .xx b z (.s (pkf b z z z) z (.nil (ck 2 s z (bi b))))
  intro W s
  cases h
  exact .qn z (.ret (aa () (rt z rn) z (s.to [])))
 refine bv h λy6 hy6 h=>?_
 refine .seq (CW.via (R':=λx E' W'=>x=.normal/\ak E' [(2,Pt g1),(148,.bool y6)]/\Sep No w W' [.box g1 62 [vi a0.Op,vi a0.Dst,vi a0.A,vi a0.B,vi a0.N]]) ?_ ?_)
 ·have h:=hy6
  refine .g (.q z (.q z (.nil ?_)))
  refine .cs z h ?_ ?_ <;> intro h
  ·refine .skip ?_
   cases h
   exact ⟨z,sb z,s.tk [0]⟩
  refine .region (.q z (.q z (.nil ?_)))
  cases h
  exact ⟨z,sb z,s.tk [0]⟩
 intro x E W hJ
 obtain ⟨rfl,hE,s⟩:=hJ
 refine ⟨_,hE.sub,?_⟩
 refine .cs z h ?_ ?_ <;> intro h
 ·cases h
  exact .g (.s (ld t62 s z z z z z) z (.s (fa f62_0 z z z) z (.s (ld t3 s z z z z z) z (.s (bs T.s62 z z) z (.s (eqs T.e62 z z z z) z (.qn z (.ret (aa () (rt z rn) z (s.to [])))))))))
 obtain rfl:=o9 h
 exact .skip (.g (.qn z (.ret (aa () (rt z rn) z (s.to [])))))
def qR (w:World) (r:Bool):Env->World->Prop:=Fin Tryz.prog Tryz.f31 No w (λs:Unit=>.bool r) (λs=>[]) .ret
theorem bZ {a0:List ab} {v_0:Hd} {w:World} {r:Bool} (h:bk a0=some r) (q_0:RO w v_0 62 5 ah a0):CL 31 #[sv v_0] w (RU w (.bool r)):=by
 unfold bk at h
 refine au func31 z z ?_
 have s:=Sep.start w
 refine .g (.qn z (.seq (.g (.q z (.s (aE (s.keep q_0) u33 z z) z (.q z (.q z (.cu 4 13 ((decide ((a0.length:Int)<1))||(decide ((a0.length:Int)>600))) s ?_ ?_))))))))
 ·refine .both (decide ((a0.length:Int)<1)) (λb=>?_) (λb=>?_)
  ·exact .xx b z (.xx b z (.xx b z (.s (pkt b z z z) z (.nil (ck 4 s z (jr b))))))
  have hg1:=b
  exact .g hg1 (.q z (.g hg1 (.s (aE (s.keep q_0) u33 z z) z (.g hg1 (.q z (.s (pkf hg1 z z z) z (.nil (ck 4 s z (iR hg1)))))))))
 intro W s
 refine .nil ?_
 refine .cs z h ?_ ?_ <;> intro h
 ·obtain rfl:=o9 h
  exact .g (.qn z (.ret (aa () (rt z rn) z (s.to []))))
 refine .skip (.seq (.g (.q z (.s (aE (s.keep q_0) u33 z z) z (.qn z (.block (bv h λy1 hy1 h=>?_)))))))
 refine .via (.iter (λs1 E' W'=>ak E' [(0,(sv v_0)),(14,(sv v_0)),(15,vi (a0.length:Int)),(16,vi s1)]/\Sep No w W' []) (λy2 x E' W'=>(match y2 with | .inl o1=>x=.ret/\qR w o1 E' W' | .inr o2=>x=.exit 0/\ak E' [(0,(sv v_0))]/\Sep No w W' [])) hy1 ⟨sb rfl,s.to [] rfl⟩ ?_) ?_
 ·intro s1 y3 E W h hI
  obtain ⟨hE,s⟩:=hI
  refine CW.sub hE ?_
  unfold kq at h
  refine .g (.qn z (.seq ?_))
  refine .cs z h ?_ ?_ <;> intro h
  ·refine .skip (.seq (.block (.g (bv h λx1 hx1 h=>.s (ixv (s.keep q_0) hx1 u33 t62 z z z) z (.s (lde (RV.flat (s.keep q_0) hx1 z) t62 z z z z z) z (.c (.alloc t62 s ?_)))))))
   intro g1 W s
   refine .c (.st t62 s z z z ?_)
   intro W s
   refine .nil (.g (.s (ld t62 s z z z z z) z (.q z (.s (aE (s.keep q_0) u33 z z) z (bv h λy4 hy4 h=>.c (.cO s func62 (qd hy4) z z ?_))))))
   intro W s
   refine .q z (.nil ?_)
   refine .cs z h ?_ ?_ <;> intro h
   ·refine .g (.qn z (.ret ?_))
    cases h
    exact ⟨by simp,z,aa (vs:=[_]) () (rt z rn) z (s.to [])⟩
   refine .skip (.region (.q z (.q z (.nil ?_))))
   cases h
   exact ⟨z,sb z,s.to []⟩
  refine .exit ?_
  cases h
  exact ⟨by simp,z,sb z,s.to []⟩
 intro x E W hJ
 rcases y1 with o3 | o4
 ·have h:=dl h
  obtain ⟨rfl,hF⟩:=hJ
  refine ⟨_,λ_ _ h=>h,?_⟩
  cases h
  exact hF
 have h:=dm h
 obtain ⟨rfl,hE,s⟩:=hJ
 refine ⟨_,hE.sub,?_⟩
 refine .g (.q z (.q z (.s (aE (s.keep q_0) u33 z z) z (.q z (bv h λx2 hx2 h=>.s (ixv (s.keep q_0) hx2 u33 t62 z z z) z (.s (fe f62_0 z z z) z (.s (lde (RV.flat (s.keep q_0) hx2 z) t3 z z z z z) z (.qn z (.g (.q z (.q z (.q z (.cu 3 38 ((x2.Op==10)||(x2.Op==4)) s ?_ ?_)))))))))))))
 ·refine .both (x2.Op==10) (λb=>?_) (λb=>?_)
  ·exact .xx b z (.xx b z (.s (pkt b z z z) z (.nil (ck 3 s z (jr b)))))
  have hg2:=b
  exact .g hg2 (.q z (.g hg2 (.q z (.s (pkf hg2 z z z) z (.nil (ck 3 s z (iR hg2)))))))
 intro W s
 cases h
 exact .qn z (.ret (aa () (rt z rn) z (s.to [])))
theorem aV {a0:List ab} {v_0:Hd} {w:World} {r:(List ab)} (h:az a0=some r) (q_0:RO w v_0 62 5 ah a0):CL 32 #[sv v_0] w (Ret No w (λs:Hd=>(sv s)) (λs=>[ac (sv s) 62 5 ah r])):=by
 unfold az at h
 refine au func32 z z ?_
 have s:=Sep.start w
 refine .g (.qn z (.seq (.g (.q z (.s (AN u33 z z) z (.nil (.cond z (λb=>?_) (λb=>?_))))))))
 ·have hl:=RV.isnil q_0 b
  subst hl
  refine .g (.qn z (.ret ?_))
  have s:=s.nilv 62 5 ah
  have h:some []=some r:=h
  cases h
  exact aa aF (rt z rn) z (s.tk [0])
 refine .skip (.g (.c (.liv [] ah u33 t62 s z z z z ?_ z (λ_=>z))))
 intro v1 W s
 refine .q z (bv h λr1 hr1 h=>.c (.av hr1 s (s.keep q_0) (λ_=>z) u33 t62 z z z ?_))
 intro v2 W s
 obtain rfl:=o9 h
 exact .qn z (.ret (aa v2 (rt z rn) z (s.tk [0])))
theorem nW {a0:ab} {w:World} {r:Int} (h:iq a0=some r):CL 66 #[.agg #[vi a0.Op,vi a0.Dst,vi a0.A,vi a0.B,vi a0.N]] w (RU w (.int .u16 r)):=by
 unfold iq at h
 refine au func66 z z ?_
 have s:=Sep.start w
 refine .g (.c (.box s z z ?_))
 intro g1 W s
 refine .qn z (.seq (.g (.s (fa f62_0 z z z) z (.s (ld t3 s z z z z z) z (.nil (.block (bv h λy1 hy1 h=>?_)))))))
 refine .seq (CW.via (R':=λx E' W'=>x=.normal/\ak E' [(1,Pt g1),(4,vi a0.Op),(5,.bool y1)]/\Sep No w W' [.box g1 62 [vi a0.Op,vi a0.Dst,vi a0.A,vi a0.B,vi a0.N]]) ?_ ?_)
 ·have h:=hy1
  refine .g (.q z (.q z (.nil ?_)))
  refine .cs z h ?_ ?_ <;> intro h
  ·refine .skip ?_
   cases h
   exact ⟨z,sb z,s.tk [0]⟩
  refine .g (.q z (.q z (.nil ?_)))
  refine .cs z h ?_ ?_ <;> intro h
  ·refine .skip ?_
   cases h
   exact ⟨z,sb z,s.tk [0]⟩
  refine .g (.q z (.q z (.nil ?_)))
  refine .cs z h ?_ ?_ <;> intro h
  ·refine .skip ?_
   cases h
   exact ⟨z,sb z,s.tk [0]⟩
  refine .region (.q z (.q z (.nil ?_)))
  cases h
  exact ⟨z,sb z,s.tk [0]⟩
 intro x E W hJ
 obtain ⟨rfl,hE,s⟩:=hJ
 refine ⟨_,hE.sub,?_⟩
 refine .cs z h ?_ ?_ <;> intro h
 ·refine .g (.s (fa f62_2 z z z) z (.s (ld t3 s z z z z z) z (bv h λd1 hd1 h=>.s (iU hd1 z z z) z (.qn z (.ret ?_)))))
  obtain rfl:=o9 h
  exact aa () (rt z rn) z (s.to [])
 refine .g (.q z (.q z (.nil ?_)))
 refine .cs z h ?_ ?_ <;> intro h
 ·refine .seq (.rk 8 s [0] T.mix ?_)
  intro W s
  have t:=s.to [0]
  refine .ts' 0 z (λW t=>fa f62_2 z z z) t z (.ts' 1 z (λW t=>ld t3 t z z z z z) t z (bv h λd2 hd2 h=>.ts' 2 z (λW t=>iU hd2 z z z) t z (.ts' 3 z (λW t=>fa f62_3 z z z) t z (.ts' 4 z (λW t=>ld t3 t z z z z z) t z (bv h λd3 hd3 h=>.ts' 5 z (λW t=>iU hd3 z z z) t z (.tp' 6 z z t (.tp' 7 z z t (.done (.ret ?_)))))))))
  cases h
  exact aa () (rt z rn) z (s.to [])
 cases h
 exact .skip (.g (.qn z (.ret (aa () (rt z rn) z (s.to [])))))
theorem iO {a0:ab} {w:World} {r:Int} (h:dU a0=some r):CL 108 #[.agg #[vi a0.Op,vi a0.Dst,vi a0.A,vi a0.B,vi a0.N]] w (RU w (.int .i64 r)):=by
 unfold dU at h
 refine au func108 z z ?_
 have s:=Sep.start w
 refine .g (.c (.box s z z ?_))
 intro g1 W s
 refine .qn z (.seq (.g (.s (fa f62_0 z z z) z (.s (ld t3 s z z z z z) z (.nil (.block (bv h λy1 hy1 h=>?_)))))))
 refine .seq (CW.via (R':=λx E' W'=>x=.normal/\ak E' [(1,Pt g1),(5,.bool y1)]/\Sep No w W' [.box g1 62 [vi a0.Op,vi a0.Dst,vi a0.A,vi a0.B,vi a0.N]]) ?_ ?_)
 ·have h:=hy1
  refine .g (.q z (.q z (.nil ?_)))
  refine .cs z h ?_ ?_ <;> intro h
  ·refine .skip ?_
   cases h
   exact ⟨z,sb z,s.tk [0]⟩
  refine .g (.q z (.q z (.nil ?_)))
  refine .cs z h ?_ ?_ <;> intro h
  ·refine .skip ?_
   cases h
   exact ⟨z,sb z,s.tk [0]⟩
  refine .g (.q z (.q z (.nil ?_)))
  refine .cs z h ?_ ?_ <;> intro h
  ·refine .skip ?_
   cases h
   exact ⟨z,sb z,s.tk [0]⟩
  refine .region (.q z (.q z (.nil ?_)))
  cases h
  exact ⟨z,sb z,s.tk [0]⟩
 intro x E W hJ
 obtain ⟨rfl,hE,s⟩:=hJ
 refine ⟨_,hE.sub,?_⟩
 refine .cs z h ?_ ?_ <;> intro h
 ·cases h
  exact .g (.s (fa f62_1 z z z) z (.s (ld t3 s z z z z z) z (.qn z (.ret (aa () (rt z rn) z (s.to []))))))
 cases h
 exact .skip (.g (.qn z (.ret (aa () (rt z rn) z (s.to [])))))
theorem kG {a0:ab} {a1:Int} {w:World} {r:(List Int)} (h:gr a0 a1=some r):CL 105 #[.agg #[vi a0.Op,vi a0.Dst,vi a0.A,vi a0.B,vi a0.N],vi a1] w (Ret No w (λs:Hd=>(sv s)) (λs=>[ac (sv s) 3 1 (D.int .i64) r])):=by
 unfold gr at h
 refine au func105 z z ?_
 have s:=Sep.start w
 refine .g (.c (.box s z z ?_))
 intro g1 W s
 refine .qn z (.seq (.block (.g (.s (fa f62_0 z z z) z (.s (ld t3 s z z z z z) z (.q z (.q z (.nil ?_))))))))
 refine .cs z h ?_ ?_ <;> intro h
 ·refine .g (.qn z (.ret ?_))
  have s:=s.nilv 3 1 (D.int .i64)
  cases h
  exact aa aF (rt z rn) z (s.tk [0])
 refine .g (.s (fa f62_0 z z z) z (.s (ld t3 s z z z z z) z (.q z (.q z (.nil ?_)))))
 refine .cs z h ?_ ?_ <;> intro h
 ·refine .g (.s (fa f62_4 z z z) z (.s (ld t3 s z z z z z) z (.c (.liv [a0.N] (D.int .i64) u23 t3 s z z z z ?_ z (λ_=>z)))))
  intro v1 W s
  cases h
  exact .qn z (.ret (aa v1 (rt z rn) z (s.tk [0])))
 refine .g (.s (fa f62_0 z z z) z (.s (ld t3 s z z z z z) z (.q z (.q z (.cu 6 26 ((a0.Op==5)&&(decide (a0.N<(w64 (a1+1))))) s ?_ ?_)))))
 ·refine .both (a0.Op==5) (λb=>?_) (λb=>?_)
  ·have hg1:=b
   exact .g hg1 (.s (fa f62_4 z z z) z (.g hg1 (.s (ld t3 s z z z z z) z (.g hg1 (.q z (.g hg1 (.q z (.g hg1 (.q z (.s (pkt hg1 z z z) z (.nil (ck 6 s z (bh hg1)))))))))))))
  exact .xx b z (.xx b z (.xx b z (.xx b z (.xx b z (.s (pkf b z z z) z (.nil (ck 6 s z (bi b))))))))
 intro W s
 refine .q z (.nil ?_)
 refine .cs z h ?_ ?_ <;> intro h
 ·refine .g (.s (fa f62_4 z z z) z (.s (ld t3 s z z z z z) z (.q z (.q z (.c (.liv [a0.N,w64 (a1+1)] (D.int .i64) u23 t3 s z z z z ?_ z (λ_=>z)))))))
  intro v2 W s
  cases h
  exact .qn z (.ret (aa v2 (rt z rn) z (s.tk [0])))
 refine .g (.s (fa f62_0 z z z) z (.s (ld t3 s z z z z z) z (.q z (.q z (.cu 6 42 ((a0.Op==5)&&(decide (a0.N>(w64 (a1+1))))) s ?_ ?_)))))
 ·refine .both (a0.Op==5) (λb=>?_) (λb=>?_)
  ·have hg2:=b
   exact .g hg2 (.s (fa f62_4 z z z) z (.g hg2 (.s (ld t3 s z z z z z) z (.g hg2 (.q z (.g hg2 (.q z (.g hg2 (.q z (.s (pkt hg2 z z z) z (.nil (ck 6 s z (bh hg2)))))))))))))
  exact .xx b z (.xx b z (.xx b z (.xx b z (.xx b z (.s (pkf b z z z) z (.nil (ck 6 s z (bi b))))))))
 intro W s
 refine .q z (.nil ?_)
 refine .cs z h ?_ ?_ <;> intro h
 ·refine .g (.q z (.q z (.s (fa f62_4 z z z) z (.s (ld t3 s z z z z z) z (.c (.liv [w64 (a1+1),a0.N] (D.int .i64) u23 t3 s z z z z ?_ z (λ_=>z)))))))
  intro v3 W s
  cases h
  exact .qn z (.ret (aa v3 (rt z rn) z (s.tk [0])))
 refine .skip (.g (.q z (.q z (.c (.liv [w64 (a1+1)] (D.int .i64) u23 t3 s z z z z ?_ z (λ_=>z))))))
 intro v4 W s
 cases h
 exact .qn z (.ret (aa v4 (rt z rn) z (s.tk [0])))
theorem j4 {a0:List ab} {a1:List Int} {a2:Int} {v_0:Hd} {v_1:Hd} {w:World} {r:Int} (h:dz a0 a1 a2=some r) (q_0:RO w v_0 62 5 ah a0) (q_1:RO w v_1 99 1 (D.int .u16) a1):CL 109 #[sv v_0,sv v_1,vi a2] w (RU w (.int .u16 r)):=by
 unfold dz at h
 refine au func109 z z ?_
 have s:=Sep.start w
 refine .g (.qn z (.g (.qn z (.seq (.g (.q z (.q z (bv h λx1 hx1 h=>.s (ixv (s.keep q_0) hx1 u33 t62 z z z) z (.s (lde (RV.flat (s.keep q_0) hx1 z) t62 z z z z z) z (.q z (bv h λy1 hy1 h=>.c (.cV s func105 (kG hy1) z z ?_))))))))))))
 intro v1 W s
 refine .s (aE s.lv u23 z z) z (.qn z (.block (bv h λy2 hy2 h=>?_)))
 refine .via (.iter (λs1 E' W'=>ak E' [(1,(sv v_1)),(7,.int .u16 s1.1),(15,(sv v1)),(16,vi (y1.length:Int)),(17,vi s1.2)]/\Sep No w W' [ac (sv v1) 3 1 (D.int .i64) y1]) (λy3 x E' W'=>x=.exit 0/\ak E' [(7,.int .u16 y3)]/\Sep No w W' [ac (sv v1) 3 1 (D.int .i64) y1]) hy2 ⟨sb z,s.tk [0]⟩ ?_) ?_
 ·intro s1 y4 E W h hI
  obtain ⟨hE,s⟩:=hI
  refine CW.sub hE ?_
  unfold j1 at h
  refine .g (.qn z (.seq ?_))
  refine .cs z h ?_ ?_ <;> intro h
  ·refine .skip (.seq (.block (.g (bv h λx2 hx2 h=>.s (ixv s.lv hx2 u23 t3 z z z) z (.s (lde (RV.flat s.lv hx2 z) t3 z z z z z) z (.qn z (.region (.q z (.q z (.q z (bv h λx3 hx3 h=>.s (ixv (s.keep q_1) hx3 u134 t99 z z z) z (.s (lde (RV.flat (s.keep q_1) hx3 z) t99 z z z z z) z (.q z (.qn z (.region (.q z (.q z (.nil ?_))))))))))))))))))
   cases h
   exact ⟨z,sb z,s.tk [0]⟩
  refine .exit ?_
  cases h
  exact ⟨by simp,z,sb z,s.tk [0]⟩
 intro x E W hJ
 obtain ⟨rfl,hE,s⟩:=hJ
 refine ⟨_,hE.sub,?_⟩
 obtain rfl:=o9 h
 exact .g (.q z (.qn z (.ret (aa () (rt z rn) z (s.to [])))))
theorem mq {a0:List ab} {v_0:Hd} {w:World} {r:(List Int)} (h:dA a0=some r) (q_0:RO w v_0 62 5 ah a0):CL 107 #[sv v_0] w (Ret No w (λs:Hd=>(sv s)) (λs=>[ac (sv s) 99 1 (D.int .u16) r])):=by
 unfold dA at h
 refine au func107 z z ?_
 have s:=Sep.start w
 refine .g (.qn z (.g (.q z (.s (aE (s.keep q_0) u33 z z) z (bv h λr1 hr1 h=>.c (.mkv 0 (D.int .u16) hr1 u134 t99 s z z z z z (λ_=>z) ?_))))))
 intro v1 W s
 refine .qn z (.seq (.g (.qn z (.block (bv h λy1 hy1 h=>?_)))))
 refine .via (.iter (λs1 E' W'=>ak E' [(0,(sv v_0)),(3,(sv v1)),(4,.bool s1.1)]/\Sep No w W' [ac (sv v1) 99 1 (D.int .u16) s1.2]) (λy2 x E' W'=>x=.exit 0/\ak E' [(3,(sv v1))]/\Sep No w W' [ac (sv v1) 99 1 (D.int .u16) y2]) hy1 ⟨sb z,s.tk [0]⟩ ?_) ?_
 ·intro s1 y3 E W h hI
  obtain ⟨hE,s⟩:=hI
  refine CW.sub hE ?_
  unfold bH at h
  refine .seq (.g (.q z (.nil ?_)))
  refine .cs z h ?_ ?_ <;> intro h
  ·refine .skip (.block (.g (.qn z (.g (.q z (.s (aE (s.keep q_0) u33 z z) z (.q z (.qn z (.block (bv h λy4 hy4 h=>?_))))))))))
   refine .via (.iter (λs2 E' W'=>ak E' [(0,(sv v_0)),(3,(sv v1)),(4,.bool s2.1),(5,vi s2.2.1)]/\Sep No w W' [ac (sv v1) 99 1 (D.int .u16) s2.2.2]) (λy5 x E' W'=>x=.exit 2/\ak E' [(0,(sv v_0)),(3,(sv v1)),(4,.bool y5.1)]/\Sep No w W' [ac (sv v1) 99 1 (D.int .u16) y5.2]) hy4 ⟨sb z,s.tk [0]⟩ ?_) ?_
   ·intro s2 y6 E W h hI
    obtain ⟨hE,s⟩:=hI
    refine CW.sub hE ?_
    unfold cT at h
    refine .seq (.g (.q z (.q z (.nil ?_))))
    refine .cs z h ?_ ?_ <;> intro h
    ·refine .skip (bv h λy7 hy7 h=>?_)
     refine .seq (CW.via (R':=λx E' W'=>x=.normal/\ak E' [(0,(sv v_0)),(3,(sv v1)),(4,.bool y7.1),(5,vi s2.2.1)]/\Sep No w W' [ac (sv v1) 99 1 (D.int .u16) y7.2]) ?_ ?_)
     ·have h:=hy7
      refine .block (.g (.q z (.q z (.q z (bv h λy8 hy8 h=>.c (.cO s func109 (j4 hy8 (s.keep q_0) s.lv) z z ?_))))))
      intro W s
      refine .qn z (bv h λy9 hy9 h=>?_)
      refine .seq (CW.via (R':=λx E' W'=>x=.normal/\ak E' [(0,(sv v_0)),(3,(sv v1)),(4,.bool s2.1),(5,vi s2.2.1),(6,.int .u16 y9)]/\Sep No w W' [ac (sv v1) 99 1 (D.int .u16) s2.2.2]) ?_ ?_)
      ·have h:=hy9
       refine .g (.q z (.q z (bv h λx1 hx1 h=>.s (ixv (s.keep q_0) hx1 u33 t62 z z z) z (.s (lde (RV.flat (s.keep q_0) hx1 z) t62 z z z z z) z (bv h λy10 hy10 h=>.c (.cO s func108 (iO hy10) z z ?_))))))
       intro W s
       refine .qn z (.g (.q z (.q z (.nil ?_))))
       refine .cs z h ?_ ?_ <;> intro h
       ·refine .region (.q z (.q z (bv h λd1 hd1 h=>.s (iU hd1 z z z) z (.q z (.q z (.nil ?_))))))
        cases h
        exact ⟨z,sb z,s.tk [0]⟩
       refine .skip ?_
       obtain rfl:=o9 h
       exact ⟨z,sb z,s.tk [0]⟩
      intro x E W hJ
      obtain ⟨rfl,hE,s⟩:=hJ
      refine ⟨_,hE.sub,?_⟩
      refine .g (.q z (.q z (.q z (bv h λx2 hx2 h=>.s (ixv (s.keep q_0) hx2 u33 t62 z z z) z (.s (lde (RV.flat (s.keep q_0) hx2 z) t62 z z z z z) z (bv h λy11 hy11 h=>.c (.cO s func66 (nW hy11) z z ?_)))))))
      intro W s
      refine .q z (.qn z (.g (.q z (.q z (.q z (bv h λx3 hx3 h=>.s (ixv s.lv hx3 u134 t99 z z z) z (.s (lde (RV.flat s.lv hx3 z) t99 z z z z z) z (.q z (.nil ?_)))))))))
      refine .cs z h ?_ ?_ <;> intro h
      ·refine .g (.q z (.q z (.q z (bv h λx4 hx4 h=>.s (ixv s.lv hx4 u134 t99 z z z) z (bv h λr2 hr2 h=>.c (.sev hr2 hx4 s t99 z z z z z z ?_))))))
       intro W s
       refine .nil (.region (.q z (.nil ?_)))
       cases h
       exact ⟨z,sb z,s.tk [0]⟩
      refine .skip ?_
      cases h
      exact ⟨z,sb z,s.tk [0]⟩
     intro x E W hJ
     obtain ⟨rfl,hE,s⟩:=hJ
     refine ⟨_,hE.sub,?_⟩
     refine .region (.q z (.q z (.q z (.nil ?_))))
     cases h
     exact ⟨z,sb z,s.tk [0]⟩
    refine .exit ?_
    cases h
    exact ⟨by simp,z,sb z,s.tk [0]⟩
   intro x E W hJ
   obtain ⟨rfl,hE,s⟩:=hJ
   refine ⟨_,hE.sub,?_⟩
   cases h
   exact ⟨z,sb z,s.tk [0]⟩
  refine .exit ?_
  cases h
  exact ⟨by simp,z,sb z,s.tk [0]⟩
 intro x E W hJ
 obtain ⟨rfl,hE,s⟩:=hJ
 refine ⟨_,hE.sub,?_⟩
 obtain rfl:=o9 h
 exact .g (.q z (.qn z (.ret (aa v1 (rt z rn) z (s.tk [0])))))
theorem gI {a0:Int} {a1:Int} {w:World} {r:Bool} (h:cP a0 a1=some r):CL 73 #[.int .u16 a0,vi a1] w (RU w (.bool r)):=by
 unfold cP at h
 refine au func73 z z ?_
 have s:=Sep.start w
 refine .g (.qn z (.g (.q z (.q z (bv h λd1 hd1 h=>.s (iU hd1 z z z) z (.q z (.q z (.qn z (.ret ?_)))))))))
 cases h
 exact aa () (rt z rn) z (s.to [])
theorem oA {a0:Int} {w:World} {r:(List Int)} (h:fU a0=some r):CL 110 #[.int .u16 a0] w (Ret No w (λs:Hd=>(sv s)) (λs=>[ac (sv s) 3 1 (D.int .i64) r])):=by
 unfold fU at h
 refine au func110 z z ?_
 have s:=Sep.start w
 refine .g (.qn z (.g (.qn z (.seq (.g (.qn z (.block ?_)))))))
 have s:=s.nilv 3 1 (D.int .i64)
 refine bv h λy1 hy1 h=>?_
 refine .via (.iter (λs1 E' W'=>∃ (v3:Hd),ak E' [(0,.int .u16 a0),(3,(sv v3)),(5,vi s1.2)]/\Sep No w W' [ac (sv v3) 3 1 (D.int .i64) s1.1]) (λy2 x E' W'=>x=.exit 0/\∃ (v4:Hd),ak E' [(3,(sv v4))]/\Sep No w W' [ac (sv v4) 3 1 (D.int .i64) y2]) hy1 ⟨aF,sb z,s.tk [0]⟩ ?_) ?_
 ·intro s1 y3 E W h hI
  obtain ⟨v2,hE,s⟩:=hI
  refine CW.sub hE ?_
  unfold jm at h
  refine .g (.qn z (.seq ?_))
  refine .cs z h ?_ ?_ <;> intro h
  ·refine .skip (bv h λy4 hy4 h=>?_)
   refine .seq (CW.via (R':=λx E' W'=>x=.normal/\∃ (v5:Hd),ak E' [(0,.int .u16 a0),(3,(sv v5)),(5,vi s1.2)]/\Sep No w W' [ac (sv v5) 3 1 (D.int .i64) y4]) ?_ ?_)
   ·have h:=hy4
    refine .block (.g (.q z (.qn z (.g (.q z (.q z (bv h λy5 hy5 h=>.c (.cO s func73 (gI hy5) z z ?_))))))))
    intro W s
    refine .nil ?_
    refine .cs z h ?_ ?_ <;> intro h
    ·refine .region (.q z (.q z (.c (.liv [s1.2] (D.int .i64) u23 t3 s z z z z ?_ z (λ_=>z)))))
     intro v6 W s
     refine bv h λr1 hr1 h=>?_
     have hT0:=s.p1
     refine .c (.av hr1 hT0 hT0.p1.lv (λ_=>z) u23 t3 z z z ?_)
     intro v7 W s
     refine .q z (.nil ?_)
     obtain rfl:=o9 h
     exact ⟨z,v7,sb z,s.tk [0]⟩
    refine .skip ?_
    cases h
    exact ⟨z,v2,sb z,s.tk [0]⟩
   intro x E W hJ
   obtain ⟨rfl,v8,hE,s⟩:=hJ
   refine ⟨_,hE.sub,?_⟩
   refine .region (.q z (.q z (.nil ?_)))
   cases h
   exact ⟨z,v8,sb z,s.tk [0]⟩
  refine .exit ?_
  cases h
  exact ⟨by simp,z,v2,sb z,s.tk [0]⟩
 intro x E W hJ
 obtain ⟨rfl,v9,hE,s⟩:=hJ
 refine ⟨_,hE.sub,?_⟩
 obtain rfl:=o9 h
 exact .g (.q z (.qn z (.ret (aa v9 (rt z rn) z (s.tk [0])))))
theorem qS {a0:List ab} {v_0:Hd} {w:World} {r:(Ar Int)} (h:gR a0=some r) (q_0:RO w v_0 62 5 ah a0):CL 72 #[sv v_0] w (RU w (.agg (gL r).toArray)):=by
 unfold gR at h
 refine au func72 z z ?_
 have s:=Sep.start w
 refine .g (.c (.alloc t104 s ?_))
 intro g1 W s
 have s:Sep _ _ _ [.box g1 104 (gL (λ_=>0))]:=id s
 refine .nil (.g (.c (.alloc t104 s ?_)))
 intro g2 W s
 have s:Sep _ _ _ [.box g2 104 (gL (λ_=>0)),.box g1 104 (gL (λ_=>0))]:=id s
 refine .nil (.g (.q z (bv h λy1 hy1 h=>.c (.cV s func107 (mq hy1 (s.keep q_0)) z z ?_))))
 intro v1 W s
 refine .qn z (.seq (.g (.q z (.s (aE (s.keep q_0) u33 z z) z (.qn z (.block (bv h λy2 hy2 h=>?_)))))))
 refine .via (.iter (λs1 E' W'=>ak E' [(0,(sv v_0)),(2,Pt g1),(3,Pt g2),(4,(sv v1)),(13,(sv v_0)),(14,vi (a0.length:Int)),(15,vi s1.1)]/\Sep No w W' [ac (sv v1) 99 1 (D.int .u16) y1,.box g2 104 (gL s1.2),.box g1 104 (gL (λ_=>0))]) (λy3 x E' W'=>x=.exit 0/\ak E' [(2,Pt g1),(3,Pt g2)]/\Sep No w W' [ac (sv v1) 99 1 (D.int .u16) y1,.box g2 104 (gL y3),.box g1 104 (gL (λ_=>0))]) hy2 ⟨sb z,s.tk [0,0,0]⟩ ?_) ?_
 ·intro s1 y4 E W h hI
  obtain ⟨hE,s⟩:=hI
  refine CW.sub hE ?_
  unfold kY at h
  refine .g (.qn z (.seq ?_))
  refine .cs z h ?_ ?_ <;> intro h
  ·refine .skip (bv h λy5 hy5 h=>?_)
   refine .seq (CW.via (R':=λx E' W'=>x=.normal/\ak E' [(0,(sv v_0)),(2,Pt g1),(3,Pt g2),(4,(sv v1)),(13,(sv v_0)),(14,vi (a0.length:Int)),(15,vi s1.1)]/\Sep No w W' [ac (sv v1) 99 1 (D.int .u16) y1,.box g2 104 (gL y5),.box g1 104 (gL (λ_=>0))]) ?_ ?_)
   ·have h:=hy5
    refine .block (.g (.q z (bv h λx1 hx1 h=>.s (ixv (s.keep q_0) hx1 u33 t62 z z z) z (.s (lde (RV.flat (s.keep q_0) hx1 z) t62 z z z z z) z (.c (.alloc t62 s ?_))))))
    intro g3 W s
    refine .q z (.c (.st t62 s z z z ?_))
    intro W s
    refine .nil (.g (.s (ld t62 s z z z z z) z (bv h λy6 hy6 h=>.c (.cO s func108 (iO hy6) z z ?_))))
    intro W s
    refine .qn z (.seq (.g (.q z (.q z (.nil ?_)))))
    refine .cs z h ?_ ?_ <;> intro h
    ·refine .exit ?_
     cases h
     exact ⟨z,sb z,s.tk [1,1,1]⟩
    refine .skip (.seq (.rk 8 s [0,0,0,0] T.mix ?_))
    intro W s
    have t:=s.to [0,0,0,0]
    refine .tp' 0 z z t (.tp' 1 z z t (.tp' 2 z z t (.tp' 4 z z t (bv h λd1 hd1 h=>.ts' 5 z (λW t=>iU hd1 z z z) t z (bv h λy7 hy7 h=>.by1 3 z (.cO s func109 (j4 hy7 (s.keep q_0) s.p1.lv) z z ?_))))))
    intro W s
    refine s.an [0,0,0,0] λt=>.tp' 6 z z t (.tp' 7 z z t (.done (bv h λy8 hy8 h=>?_)))
    refine .seq (CW.via (R':=λx E' W'=>x=.normal/\ak E' [(0,(sv v_0)),(2,Pt g1),(3,Pt g2),(4,(sv v1)),(7,vi y6),(8,.int .u16 y8),(13,(sv v_0)),(14,vi (a0.length:Int)),(15,vi s1.1)]/\Sep No w W' [.box g3 62 [vi x1.Op,vi x1.Dst,vi x1.A,vi x1.B,vi x1.N],ac (sv v1) 99 1 (D.int .u16) y1,.box g2 104 (gL s1.2),.box g1 104 (gL (λ_=>0))]) ?_ ?_)
    ·have h:=hy8
     refine .g (.s (fa f62_0 z z z) z (.s (ld t3 s z z z z z) z (.q z (.nil ?_))))
     refine .cs z h ?_ ?_ <;> intro h
     ·refine .region (.q z (.s (fa f62_2 z z z) z (.s (ld t3 s z z z z z) z (bv h λd2 hd2 h=>.s (iU hd2 z z z) z (.q z (.q z (.nil ?_)))))))
      cases h
      exact ⟨z,sb z,s.tk [0,0,0,0]⟩
     refine .skip ?_
     cases h
     exact ⟨z,sb z,s.tk [0,0,0,0]⟩
    intro x E W hJ
    obtain ⟨rfl,hE,s⟩:=hJ
    refine ⟨_,hE.sub,?_⟩
    refine .g (.q z (bv h λx2 hx2 h=>.s (ixa hx2 u104 t99 z z z) z (.s (ldx s.p2 hx2 (λ_=>z) t99 z z z z z) z (.q z (.q z (bv h λx3 hx3 h=>.s (ixa hx3 u104 t99 z z z) z (.c (.stx (x1:=bq .or .u16 x2 y8) hx3 s.p2 (λ_=>z) t99 z z z z ?_))))))))
    intro W s
    refine .nil (.g (.q z (bv h λy9 hy9 h=>.c (.cV s func110 (oA hy9) z z ?_))))
    intro v2 W s
    refine .s (aE s.lv u23 z z) z (.qn z (.block (bv h λy10 hy10 h=>?_)))
    refine .via (.iter (λs2 E' W'=>ak E' [(0,(sv v_0)),(2,Pt g1),(3,Pt g2),(4,(sv v1)),(7,vi y6),(13,(sv v_0)),(14,vi (a0.length:Int)),(15,vi s1.1),(46,(sv v2)),(47,vi (y9.length:Int)),(48,vi s2.1)]/\Sep No w W' [ac (sv v2) 3 1 (D.int .i64) y9,.box g2 104 (gL s2.2),.box g3 62 [vi x1.Op,vi x1.Dst,vi x1.A,vi x1.B,vi x1.N],ac (sv v1) 99 1 (D.int .u16) y1,.box g1 104 (gL (λ_=>0))]) (λy11 x E' W'=>x=.exit 2/\ak E' [(0,(sv v_0)),(2,Pt g1),(3,Pt g2),(4,(sv v1)),(13,(sv v_0)),(14,vi (a0.length:Int)),(15,vi s1.1)]/\Sep No w W' [ac (sv v2) 3 1 (D.int .i64) y9,.box g2 104 (gL y11),.box g3 62 [vi x1.Op,vi x1.Dst,vi x1.A,vi x1.B,vi x1.N],ac (sv v1) 99 1 (D.int .u16) y1,.box g1 104 (gL (λ_=>0))]) hy10 ⟨sb z,s.tk [0,0,0,0,0]⟩ ?_) ?_
    ·intro s2 y12 E W h hI
     obtain ⟨hE,s⟩:=hI
     refine CW.sub hE ?_
     unfold iX at h
     refine .g (.qn z (.seq ?_))
     refine .cs z h ?_ ?_ <;> intro h
     ·refine .skip (.seq (.block (.g (bv h λx4 hx4 h=>.s (ixv s.lv hx4 u23 t3 z z z) z (.s (lde (RV.flat s.lv hx4 z) t3 z z z z z) z (.qn z (.rk 7 s [0,0,0,0,0] T.mix ?_)))))))
      intro W s
      have t:=s.to [0,0,0,0,0]
      refine .tp' 0 z z t (bv h λx5 hx5 h=>.ts' 1 z (λW t=>ixa hx5 u104 t99 z z z) t z (.ts' 2 z (λW t=>ldx t.p1 hx5 (λ_=>z) t99 z z z z z) t z (.tp' 3 z z t (bv h λd3 hd3 h=>.ts' 4 z (λW t=>iU hd3 z z z) t z (.tp' 5 z z t (bv h λx6 hx6 h=>.ts' 6 z (λW t=>ixa hx6 u104 t99 z z z) t z (.by1 7 z (.stx (x1:=bq .or .u16 x5 d3) hx6 s.p1 (λ_=>z) t99 z z z z ?_))))))))
      intro W s
      refine ⟨λh=>absurd z h,?_⟩
      refine .done (.region (.q z (.q z (.nil ?_))))
      cases h
      exact ⟨z,sb z,s.tk [1,0,0,0,0]⟩
     refine .exit ?_
     cases h
     exact ⟨by simp,z,sb z,s.tk [0,0,0,0,0]⟩
    intro x E W hJ
    obtain ⟨rfl,hE,s⟩:=hJ
    refine ⟨_,hE.sub,?_⟩
    obtain rfl:=o9 h
    exact ⟨z,sb z,s.tk [3,1,2]⟩
   intro x E W hJ
   obtain ⟨rfl,hE,s⟩:=hJ
   refine ⟨_,hE.sub,?_⟩
   refine .region (.q z (.q z (.nil ?_)))
   cases h
   exact ⟨z,sb z,s.tk [0,0,0]⟩
  refine .exit ?_
  cases h
  exact ⟨by simp,z,sb z,s.tk [0,0,0]⟩
 intro x E W hJ
 obtain ⟨rfl,hE,s⟩:=hJ
 refine ⟨_,hE.sub,?_⟩
 refine .g (.s (lda t104 s.p1 (uA _) z z) z (.c (.sta t104 s.p2 uA xO z z z ?_)))
 intro W s
 obtain rfl:=o9 h
 exact .nil (.ret (aa () (rc s t104 z rn (uA _) z) z (s.to [])))
theorem qT {a0:List ab} {v_0:Hd} {w:World} {r:(List Int)} (h:gS a0=some r) (q_0:RO w v_0 62 5 ah a0):CL 38 #[sv v_0] w (Ret No w (λs:Hd=>(sv s)) (λs=>[ac (sv s) 3 1 (D.int .i64) r])):=by
 unfold gS at h
 refine au func38 z z ?_
 have s:=Sep.start w
 refine .g (.qn z (.g (.q z (bv h λy1 hy1 h=>.c (.cO s func72 (qS hy1 (s.keep q_0)) z z ?_)))))
 intro W s
 refine .c (.alloc t104 s ?_)
 intro g1 W s
 have s:Sep _ _ _ [.box g1 104 (gL (λ_=>0))]:=id s
 refine .c (.sta t104 s uA xO z z z ?_)
 intro W s
 refine .nil (.g (bv h λr1 hr1 h=>.c (.mkv 0 (D.int .i64) hr1 u23 t3 s z z z z z (λ_=>z) ?_)))
 intro v1 W s
 refine .qn z (.seq (.g (.q z (.s (aE s.lv u23 z z) z (.qn z (.block (bv h λy2 hy2 h=>?_)))))))
 refine .via (.iter (λs1 E' W'=>ak E' [(3,Pt g1),(4,(sv v1)),(12,vi (r1.length:Int)),(13,vi s1.1)]/\Sep No w W' [ac (sv v1) 3 1 (D.int .i64) s1.2,.box g1 104 (gL y1)]) (λy3 x E' W'=>x=.exit 0/\ak E' [(4,(sv v1))]/\Sep No w W' [ac (sv v1) 3 1 (D.int .i64) y3,.box g1 104 (gL y1)]) hy2 ⟨sb z,s.tk [0,0]⟩ ?_) ?_
 ·intro s1 y4 E W h hI
  obtain ⟨hE,s⟩:=hI
  refine CW.sub hE ?_
  unfold k9 at h
  refine .g (.qn z (.seq ?_))
  refine .cs z h ?_ ?_ <;> intro h
  ·refine .skip (.seq (.block (.g (.q z (.qn z (.g (.qn z (.seq (.g (.q z (.qn z (.block (bv h λy5 hy5 h=>?_)))))))))))))
   refine .via (.iter (λs2 E' W'=>ak E' [(3,Pt g1),(4,(sv v1)),(5,vi s1.1),(6,.int .u16 s2.1),(12,vi (r1.length:Int)),(13,vi s1.1),(16,vi s1.1),(17,vi s2.2)]/\Sep No w W' [ac (sv v1) 3 1 (D.int .i64) s1.2,.box g1 104 (gL y1)]) (λy6 x E' W'=>x=.exit 2/\ak E' [(3,Pt g1),(4,(sv v1)),(5,vi s1.1),(6,.int .u16 y6),(12,vi (r1.length:Int)),(13,vi s1.1)]/\Sep No w W' [ac (sv v1) 3 1 (D.int .i64) s1.2,.box g1 104 (gL y1)]) hy5 ⟨sb z,s.tk [0,0]⟩ ?_) ?_
   ·intro s2 y7 E W h hI
    obtain ⟨hE,s⟩:=hI
    refine CW.sub hE ?_
    unfold kZ at h
    refine .g (.qn z (.seq ?_))
    refine .cs z h ?_ ?_ <;> intro h
    ·refine .skip (bv h λy8 hy8 h=>?_)
     refine .seq (CW.via (R':=λx E' W'=>x=.normal/\ak E' [(3,Pt g1),(4,(sv v1)),(5,vi s1.1),(6,.int .u16 y8),(12,vi (r1.length:Int)),(13,vi s1.1),(16,vi s1.1),(17,vi s2.2)]/\Sep No w W' [ac (sv v1) 3 1 (D.int .i64) s1.2,.box g1 104 (gL y1)]) ?_ ?_)
     ·have h:=hy8
      refine .block (.g (.q z (.qn z (.g (.q z (bv h λx1 hx1 h=>.s (ixa hx1 u104 t99 z z z) z (.s (ldx s.p1 hx1 (λ_=>z) t99 z z z z z) z (.q z (bv h λy9 hy9 h=>.c (.cO s func73 (gI hy9) z z ?_))))))))))
      intro W s
      refine .nil ?_
      refine .cs z h ?_ ?_ <;> intro h
      ·refine .region (.q z (.q z (.q z (bv h λx2 hx2 h=>.s (ixv s.lv hx2 u23 t3 z z z) z (.s (lde (RV.flat s.lv hx2 z) t3 z z z z z) z (bv h λd1 hd1 h=>.s (iU hd1 z z z) z (.q z (.q z (.nil ?_)))))))))
       cases h
       exact ⟨z,sb z,s.tk [0,0]⟩
      refine .skip ?_
      cases h
      exact ⟨z,sb z,s.tk [0,0]⟩
     intro x E W hJ
     obtain ⟨rfl,hE,s⟩:=hJ
     refine ⟨_,hE.sub,?_⟩
     refine .region (.q z (.q z (.nil ?_)))
     cases h
     exact ⟨z,sb z,s.tk [0,0]⟩
    refine .exit ?_
    cases h
    exact ⟨by simp,z,sb z,s.tk [0,0]⟩
   intro x E W hJ
   obtain ⟨rfl,hE,s⟩:=hJ
   refine ⟨_,hE.sub,?_⟩
   refine .block (bv h λy10 hy10 h=>?_)
   refine .via (.iter (λs3 E' W'=>ak E' [(3,Pt g1),(4,(sv v1)),(5,vi s1.1),(6,.int .u16 y5),(12,vi (r1.length:Int)),(13,vi s1.1)]/\Sep No w W' [ac (sv v1) 3 1 (D.int .i64) s3,.box g1 104 (gL y1)]) (λy11 x E' W'=>x=.exit 4/\ak E' [(3,Pt g1),(4,(sv v1)),(12,vi (r1.length:Int)),(13,vi s1.1)]/\Sep No w W' [ac (sv v1) 3 1 (D.int .i64) y11,.box g1 104 (gL y1)]) hy10 ⟨sb z,s.tk [0,0]⟩ ?_) ?_
   ·intro s3 y12 E W h hI
    obtain ⟨hE,s⟩:=hI
    refine CW.sub hE ?_
    unfold k8 at h
    refine .seq (.g (.q z (.q z (.q z (bv h λx3 hx3 h=>.s (ixv s.lv hx3 u23 t3 z z z) z (.s (lde (RV.flat s.lv hx3 z) t3 z z z z z) z (bv h λy13 hy13 h=>.c (.cO s func73 (gI hy13) z z ?_))))))))
    intro W s
    refine .nil ?_
    refine .cs z h ?_ ?_ <;> intro h
    ·refine .skip (.block (.region (.q z (.q z (bv h λx4 hx4 h=>.s (ixv s.lv hx4 u23 t3 z z z) z (.s (lde (RV.flat s.lv hx4 z) t3 z z z z z) z (.q z (bv h λx5 hx5 h=>.s (ixv s.lv hx5 u23 t3 z z z) z (bv h λr2 hr2 h=>.c (.sev hr2 hx5 s t3 z z z z z z ?_))))))))))
     intro W s
     refine .nil ?_
     cases h
     exact ⟨z,sb z,s.tk [0,0]⟩
    refine .exit ?_
    cases h
    exact ⟨by simp,z,sb z,s.tk [0,0]⟩
   intro x E W hJ
   obtain ⟨rfl,hE,s⟩:=hJ
   refine ⟨_,hE.sub,?_⟩
   refine .region (.q z (.q z (.nil ?_)))
   cases h
   exact ⟨z,sb z,s.tk [0,0]⟩
  refine .exit ?_
  cases h
  exact ⟨by simp,z,sb z,s.tk [0,0]⟩
 intro x E W hJ
 obtain ⟨rfl,hE,s⟩:=hJ
 refine ⟨_,hE.sub,?_⟩
 obtain rfl:=o9 h
 exact .g (.q z (.qn z (.ret (aa v1 (rt z rn) z (s.tk [0])))))
theorem mC {a0:List ab} {v_0:Hd} {w:World} {r:(List ab)×Bool} (h:dn a0=some r) (q_0:RO w v_0 62 5 ah a0):CL 11 #[sv v_0] w (Ret No w (λs:Hd=>.tuple #[sv s,.bool r.2]) (λs=>[ac (sv s) 62 5 ah r.1])):=by
 unfold dn at h
 refine au func11 z z ?_
 have s:=Sep.start w
 refine .g (.q z (.qn z (.seq (.g (.q z (bv h λy1 hy1 h=>.c (.cO s func31 (bZ hy1 (s.keep q_0)) z z ?_)))))))
 intro W s
 refine .q z (.nil ?_)
 refine .cs z h ?_ ?_ <;> intro h
 ·refine .g (.q z (.qn z (.ret ?_)))
  have s:=s.nilv 62 5 ah
  cases h
  exact aa (vs:=[_,_]) aF (rt z (rt z rn)) z (s.tk [0])
 refine .skip (.g (.q z (bv h λy2 hy2 h=>.c (.cV s func38 (qT hy2 (s.keep q_0)) z z ?_))))
 intro v1 W s
 refine .qn z (.g (.q z (bv h λy3 hy3 h=>.c (.cV s func32 (aV hy3 (s.keep q_0)) z z ?_))))
 intro v2 W s
 refine .qn z (.seq (.g (.q z (.s (aE (s.keep q_0) u33 z z) z (.qn z (.block (bv h λy4 hy4 h=>?_)))))))
 refine .via (.iter (λs1 E' W'=>ak E' [(4,(sv v1)),(5,(sv v2)),(15,(sv v_0)),(16,vi (a0.length:Int)),(17,vi s1.1)]/\Sep No w W' [ac (sv v2) 62 5 ah s1.2,ac (sv v1) 3 1 (D.int .i64) y2]) (λy5 x E' W'=>x=.exit 0/\ak E' [(5,(sv v2))]/\Sep No w W' [ac (sv v2) 62 5 ah y5,ac (sv v1) 3 1 (D.int .i64) y2]) hy4 ⟨sb z,s.tk [0,0]⟩ ?_) ?_
 ·intro s1 y6 E W h hI
  obtain ⟨hE,s⟩:=hI
  refine CW.sub hE ?_
  unfold fb at h
  refine .g (.qn z (.seq ?_))
  refine .cs z h ?_ ?_ <;> intro h
  ·refine .skip (.seq (.block (.g (.q z (bv h λx1 hx1 h=>.s (ixv (s.keep q_0) hx1 u33 t62 z z z) z (.s (lde (RV.flat (s.keep q_0) hx1 z) t62 z z z z z) z (.c (.alloc t62 s ?_))))))))
   intro g1 W s
   refine .q z (.c (.st t62 s z z z ?_))
   intro W s
   refine .nil (.rk 29 s [0,1] T.mix ?_)
   intro W s
   have t:=s.to [0,1]
   refine .tp' 0 z z t (.tp' 1 z z t (.tp' 2 z z t (.tp' 3 z z t (.tp' 4 z z t (.tp' 5 z z t (.tp' 6 z z t (.ts' 7 z (λW t=>fa f62_1 z z z) t z (.ts' 8 z (λW t=>ld t3 t z z z z z) t z (bv h λx2 hx2 h=>.ts' 9 z (λW t=>ixv s.p2.lv hx2 u23 t3 z z z) t z (.ts' 10 z (λW t=>lde (RV.flat t.p1.lv hx2 z) t3 z z z z z) t z (.tp' 11 z z t (.ts' 12 z (λW t=>fa f62_2 z z z) t z (.ts' 13 z (λW t=>ld t3 t z z z z z) t z (bv h λx3 hx3 h=>.ts' 14 z (λW t=>ixv s.p2.lv hx3 u23 t3 z z z) t z (.ts' 15 z (λW t=>lde (RV.flat t.p1.lv hx3 z) t3 z z z z z) t z (.tp' 16 z z t (.ts' 17 z (λW t=>fa f62_3 z z z) t z (.ts' 18 z (λW t=>ld t3 t z z z z z) t z (bv h λx4 hx4 h=>.ts' 19 z (λW t=>ixv s.p2.lv hx4 u23 t3 z z z) t z (.ts' 20 z (λW t=>lde (RV.flat t.p1.lv hx4 z) t3 z z z z z) t z (bv h λx5 hx5 h=>.ts' 21 z (λW t=>ixv s.p1.lv hx5 u33 t62 z z z) t z (.ts' 22 z (λW t=>fe f62_1 z z z) t z (bv h λr1 hr1 h=>.by1 23 z (.sev hr1 hx5 s.p1 t3 z z z z z z ?_))))))))))))))))))))))))
   intro W s
   refine s.an [1,1] λt=>bv h λx6 hx6 h=>.ts' 24 z (λW t=>ixv s.lv hx6 u33 t62 z z z) t z (.ts' 25 z (λW t=>fe f62_2 z z z) t z (bv h λr2 hr2 h=>.by1 26 z (.sev hr2 hx6 s t3 z z z z z z ?_)))
   intro W s
   refine s.an [1,1] λt=>bv h λx7 hx7 h=>.by1 27 z (.runs (ixv s.lv hx7 u33 t62 z z z) z z ?_)
   refine s.an [1,1] λt=>.ts' 28 z (λW t=>fe f62_3 z z z) t z (bv h λr3 hr3 h=>.by1 29 z (.sev hr3 hx7 s t3 z z z z z z ?_))
   intro W s
   refine ⟨λh=>absurd z h,?_⟩
   refine .done (.region (.q z (.q z (.nil ?_))))
   cases h
   exact ⟨z,sb z,s.tk [0,1]⟩
  refine .exit ?_
  cases h
  exact ⟨by simp,z,sb z,s.tk [0,0]⟩
 intro x E W hJ
 obtain ⟨rfl,hE,s⟩:=hJ
 refine ⟨_,hE.sub,?_⟩
 cases h
 exact .g (.q z (.q z (.qn z (.ret (aa (vs:=[_,_]) v2 (rt z (rt z rn)) z (s.tk [0]))))))
def gJ (F:Expr->Int->List ab->Option ((List ab))):Prop:=∀ {a0:Expr} {a1:Int} {a2:List ab} {bw:Hd} {v_2:Hd} {S:Nat->Prop} {w:World} {r:(List ab)} (h:F a0 a1 a2=some r) (aw:RV w (Old S w) (sv bw) 77 3 aC a0.Args) (hO:bu w [ac (sv v_2) 62 5 ah a2] S) (hlt:∀ b,S b->b<w.heap.size) , CL 131 #[.agg #[vi a0.Op,vi a0.N,sv bw],vi a1,sv v_2] w (Ret S w (λs:Hd=>(sv s)) (λs=>[ac (sv s) 62 5 ah r]))
theorem pG {k:Nat} {ew:Expr->Int->List ab->Option ((List ab))} (lX:gJ ew):gJ (eu k ew):=by
 intro a0 a1 a2 bw v_2 S w r h aw hO hlt
 unfold eu at h
 refine au func131 z z ?_
 have s:=Sep.sm hO hlt
 refine .g (.c (.box s z z ?_))
 intro g1 W s
 refine .qn z (.seq (.g (.s (fa f77_0 z z z) z (.s (ld t3 s z z z z z) z (.nil (.block (.g (.q z (.q z (.nil ?_))))))))))
 refine .cs z h ?_ ?_ <;> intro h
 ·refine .g (.q z (.q z (.s (fa f77_1 z z z) z (.s (ld t3 s z z z z z) z (.s (bs T.s62 z z) z (.c (.liv [(ab.mk 1 a1 0 0 a0.N)] ah u33 t62 s z z z z ?_ z (λ_=>z))))))))
  intro v1 W s
  refine bv h λr1 hr1 h=>?_
  have hT0:=s.p2
  refine .c (.av hr1 hT0 hT0.p1.lv (λ_=>z) u33 t62 z z z ?_)
  intro v2 W s
  obtain rfl:=o9 h
  exact .qn z (.ret (aa v2 (rt z rn) z (s.tk [0])))
 refine .g (.q z (.qn z (.cond z (λb=>?_) (λb=>?_))))
 ·have h:=aJ b h
  refine .g (.q z (.q z (.s (fa f77_1 z z z) z (.s (ld t3 s z z z z z) z (.s (bs T.s62 z z) z (.c (.liv [(ab.mk 2 a1 a0.N 0 0)] ah u33 t62 s z z z z ?_ z (λ_=>z))))))))
  intro v3 W s
  refine bv h λr2 hr2 h=>?_
  have hT0:=s.p2
  refine .c (.av hr2 hT0 hT0.p1.lv (λ_=>z) u33 t62 z z z ?_)
  intro v4 W s
  obtain rfl:=o9 h
  exact .qn z (.ret (aa v4 (rt z rn) z (s.tk [0])))
 have h:=aK b h
 refine .skip (.g (.s (fa f77_2 z z z) z (.s (ld t75 s z z z z z) z (bv h λx1 hx1 h=>?_))))
 obtain ⟨k1,hd,hck1⟩:=RV.el2 aw hx1
 have hd1:=jk (cq _) hd
 obtain ⟨k1,rfl,hd2⟩:=bK aw z hd1
 obtain ⟨k1,rfl,hd3⟩:=bK aw z hd2
 obtain ⟨v5,k1,rfl,q1,hd4⟩:=cw aw hd3
 obtain rfl:=kT aw hd4
 refine .s (ixv (s.keep aw) hx1 u75 t77 z z z) z (.s (lde (hck1 _ s.agree) t77 z z z z z) z (.q z (.q z (bv h λy1 hy1 h=>?_))))
 have s:=s.p1
 refine .c (.cS (L0:=[ac (sv v_2) 62 5 ah a2]) s func131 (λS h1 h2 h3=>(lX hy1 (s.ks (q1 _ aw) h1) h2 (zz h1))) z z ?_)
 rintro v6 W s
 refine .qn z (.g (.s (fa f77_2 z z z) z (.s (ld t75 s.p1 z z z z z) z (bv h λx2 hx2 h=>?_))))
 obtain ⟨k2,hd,hck2⟩:=RV.el2 aw hx2
 have hd1:=jk (cq _) hd
 obtain ⟨k2,rfl,hd2⟩:=bK aw z hd1
 obtain ⟨k2,rfl,hd3⟩:=bK aw z hd2
 obtain ⟨v7,k2,rfl,q2,hd4⟩:=cw aw hd3
 obtain rfl:=kT aw hd4
 refine .s (ixv (s.keep aw) hx2 u75 t77 z z z) z (.s (lde (hck2 _ s.agree) t77 z z z z z) z (.q z (.q z (.q z (bv h λy2 hy2 h=>.c (.cS (L0:=[ac (sv v6) 62 5 ah y1]) s func131 (λS h1 h2 h3=>(lX hy2 (s.ks (q2 _ aw) h1) h2 (zz h1))) z z ?_))))))
 rintro v8 W s
 refine .qn z (.g (.q z (.q z (.q z (.q z (.q z (.s (fa f77_0 z z z) z (.s (ld t3 s.p1 z z z z z) z (.s (bs T.s62 z z) z (.c (.liv [(ab.mk 3 a1 a1 (w64 (a1+1)) a0.Op)] ah u33 t62 s z z z z ?_ z (λ_=>z))))))))))))
 intro v9 W s
 refine bv h λr3 hr3 h=>?_
 have hT0:=s.p1
 refine .c (.av hr3 hT0 hT0.p1.lv (λ_=>z) u33 t62 z z z ?_)
 intro v10 W s
 obtain rfl:=o9 h
 exact .qn z (.ret (aa v10 (rt z rn) z (s.tk [0])))
theorem mY (k:Nat):gJ (d6 k):=by
  induction k with
  | zero=>exact by intro a0 a1 a2 bw v_2 S w r h aw hO hlt; exact no h
  | succ k ih=>exact pG (k:=k) ih
theorem oB {k:Nat}:gJ (d6 k):=(mY k)
def dK (F:List ae->List ab->Option ((List ab))):Prop:=∀ {a0:List ae} {a1:List ab} {v_0:Hd} {v_1:Hd} {S:Nat->Prop} {w:World} {r:(List ab)} (h:F a0 a1=some r) (q_0:RV w (Old S w) (sv v_0) 80 8 aj a0) (hO:bu w [ac (sv v_1) 62 5 ah a1] S) (hlt:∀ b,S b->b<w.heap.size) , CL 61 #[sv v_0,sv v_1] w (Ret S w (λs:Hd=>(sv s)) (λs=>[ac (sv s) 62 5 ah r]))
def gK (F:ae->List ab->Option ((List ab))):Prop:=∀ {a0:ae} {a1:List ab} {ax:Hd} {a7:Hd} {a8:Hd} {v_1:Hd} {S:Nat->Prop} {w:World} {r:(List ab)} (h:F a0 a1=some r) (aq:RV w (Old S w) (sv ax) 77 3 aC a0.Expr.Args) (a9:RV w (Old S w) (sv a7) 80 8 aj a0.Body) (aQ:RV w (Old S w) (sv a8) 80 8 aj a0.Else) (hO:bu w [ac (sv v_1) 62 5 ah a1] S) (hlt:∀ b,S b->b<w.heap.size) , CL 94 #[.agg #[vi a0.Kind,vi a0.Var,vi a0.Box,vi a0.Expr.Op,vi a0.Expr.N,sv ax,sv a7,sv a8],sv v_1] w (Ret S w (λs:Hd=>(sv s)) (λs=>[ac (sv s) 62 5 ah r]))
end
noncomputable section
theorem oC {k:Nat} {bz:List ae->List ab->Option ((List ab))} {br:ae->List ab->Option ((List ab))} (iP:dK bz) (lY:gK br):dK (dG k bz br):=by
 intro a0 a1 v_0 v_1 S w r h q_0 hO hlt
 unfold dG at h
 refine au func61 z z ?_
 have s:=Sep.sm hO hlt
 refine .g (.qn z (.seq (.g (.q z (.s (aE (s.keep q_0) u36 z z) z (.qn z (.block (bv h λy1 hy1 h=>?_))))))))
 refine .via (.iter (λs1 E' W'=>∃ (v3:Hd),ak E' [(1,(sv v3)),(7,(sv v_0)),(8,vi (a0.length:Int)),(9,vi s1.2)]/\Sep S w W' [ac (sv v3) 62 5 ah s1.1]) (λy2 x E' W'=>x=.exit 0/\∃ (v4:Hd),ak E' [(1,(sv v4))]/\Sep S w W' [ac (sv v4) 62 5 ah y2]) hy1 ⟨v_1,sb z,s.tk [0]⟩ ?_) ?_
 ·intro s1 y3 E W h hI
  obtain ⟨v2,hE,s⟩:=hI
  refine CW.sub hE ?_
  unfold ir at h
  refine .g (.qn z (.seq (.cond z (λb=>?_) (λb=>?_))))
  ·have h:=aJ b h
   refine .skip (.seq (.block (.g (bv h λx1 hx1 h=>?_))))
   obtain ⟨k1,hd,hck1⟩:=RV.el2 q_0 hx1
   have hd1:=jk (dT _) hd
   obtain ⟨k1,rfl,hd2⟩:=bK q_0 z hd1
   obtain ⟨k1,rfl,hd3⟩:=bK q_0 z hd2
   obtain ⟨k1,rfl,hd4⟩:=bK q_0 z hd3
   have hd5:=jk (cq _) hd4
   obtain ⟨k1,rfl,hd6⟩:=bK q_0 z hd5
   obtain ⟨k1,rfl,hd7⟩:=bK q_0 z hd6
   obtain ⟨v5,k1,rfl,q5,hd8⟩:=cw q_0 hd7
   obtain ⟨v6,k1,rfl,q6,hd9⟩:=cw q_0 hd8
   obtain ⟨v7,k1,rfl,q7,hd10⟩:=cw q_0 hd9
   obtain rfl:=kT q_0 hd10
   refine .s (ixv (s.keep q_0) hx1 u36 t80 z z z) z (.s (lde (hck1 _ s.agree) t80 z z z z z) z (.c (.alloc t80 s ?_)))
   intro g1 W s
   refine .c (.st t80 s z z z ?_)
   intro W s
   refine .nil (.region (.s (ld t80 s z z z z z) z (.q z (bv h λy4 hy4 h=>?_))))
   have s:=s.p1
   refine .c (.cS (L0:=[ac (sv v2) 62 5 ah s1.1]) s func94 (λS h1 h2 h3=>(lY hy4 (s.ks (q5 _ q_0) h1) (s.ks (q6 _ q_0) h1) (s.ks (q7 _ q_0) h1) h2 (zz h1))) z z ?_)
   rintro v8 W s
   refine .qn z (.region (.q z (.q z (.nil ?_))))
   cases h
   exact ⟨z,v8,sb z,s.tk [0]⟩
  have h:=aK b h
  refine .exit ?_
  cases h
  exact ⟨by simp,z,v2,sb z,s.tk [0]⟩
 intro x E W hJ
 obtain ⟨rfl,v9,hE,s⟩:=hJ
 refine ⟨_,hE.sub,?_⟩
 obtain rfl:=o9 h
 exact .g (.q z (.qn z (.ret (aa v9 (rt z rn) z (s.tk [0])))))
theorem pH {k:Nat} {bz:List ae->List ab->Option ((List ab))} {br:ae->List ab->Option ((List ab))} (iP:dK bz) (lY:gK br):gK (cr k bz br):=by
 intro a0 a1 ax a7 a8 v_1 S w r h aq a9 aQ hO hlt
 unfold cr at h
 refine au func94 z z ?_
 have s:=Sep.sm hO hlt
 refine .g (.c (.box s z z ?_))
 intro g1 W s
 refine .qn z (.g (.q z (.s (aE s.p1.lv u33 z z) z (.qn z (bv h λy1 hy1 h=>?_)))))
 refine .seq (CW.via (R':=λx E' W'=>x=.normal/\∃ (v1:Hd),ak E' [(1,(sv v1)),(2,Pt g1),(5,vi (a1.length:Int))]/\Sep S w W' [.box g1 80 [vi a0.Kind,vi a0.Var,vi a0.Box,vi a0.Expr.Op,vi a0.Expr.N,sv ax,sv a7,sv a8],ac (sv v1) 62 5 ah y1]) ?_ ?_)
 ·have h:=hy1
  refine .g (.s (fa f80_0 z z z) z (.s (ld t3 s z z z z z) z (.q z (.q z (.cu 4 17 ((a0.Kind !=5)&&(a0.Kind !=6)) s ?_ ?_)))))
  ·refine .both (a0.Kind !=5) (λb=>?_) (λb=>?_)
   ·have hg1:=b
    exact .g hg1 (.s (fa f80_0 z z z) z (.g hg1 (.s (ld t3 s z z z z z) z (.g hg1 (.q z (.s (pkt hg1 z z z) z (.nil (ck 4 s z (bh hg1)))))))))
   exact .xx b z (.xx b z (.xx b z (.s (pkf b z z z) z (.nil (ck 4 s z (bi b))))))
  intro W s
  refine .nil (.cond z (λb=>?_) (λb=>?_))
  ·have h:=aJ b h
   refine .region (.s (fa f80_3 z z z) z (.s (ld t77 s z z z z z) z (.q z (bv h λy2 hy2 h=>?_))))
   have s:=s.p1
   refine .c (.cS (L0:=[ac (sv v_1) 62 5 ah a1]) s func131 (λS h1 h2 h3=>(oB hy2 (s.ks aq h1) h2 (zz h1))) z z ?_)
   rintro v2 W s
   refine .q z (.nil ?_)
   obtain rfl:=o9 h
   exact ⟨z,v2,sb z,s.tk [1,0]⟩
  have h:=aK b h
  refine .skip ?_
  obtain rfl:=o9 h
  exact ⟨z,v_1,sb z,s.tk [0,0]⟩
 intro x E W hJ
 obtain ⟨rfl,v3,hE,s⟩:=hJ
 refine ⟨_,hE.sub,?_⟩
 refine .seq (.g (.s (fa f80_0 z z z) z (.s (ld t3 s z z z z z) z (.nil (.block (.g (.q z (.q z (.nil ?_)))))))))
 refine .cs z h ?_ ?_ <;> intro h
 ·refine .g (.q z (.s (fa f80_1 z z z) z (.s (ld t3 s z z z z z) z (.s (bs T.s62 z z) z (.c (.liv [(ab.mk 2 a0.Var 4 0 0)] ah u33 t62 s z z z z ?_ z (λ_=>z)))))))
  intro v4 W s
  refine bv h λr1 hr1 h=>?_
  have hT0:=s.p2
  refine .c (.av hr1 hT0 hT0.p1.lv (λ_=>z) u33 t62 z z z ?_)
  intro v5 W s
  obtain rfl:=o9 h
  exact .qn z (.ret (aa v5 (rt z rn) z (s.tk [0])))
 refine .g (.q z (.q z (.nil ?_)))
 refine .cs z h ?_ ?_ <;> intro h
 ·refine .g (.q z (.s (fa f80_2 z z z) z (.s (ld t3 s z z z z z) z (.s (bs T.s62 z z) z (.c (.liv [(ab.mk 6 0 4 0 a0.Box)] ah u33 t62 s z z z z ?_ z (λ_=>z)))))))
  intro v6 W s
  refine bv h λr2 hr2 h=>?_
  have hT0:=s.p2
  refine .c (.av hr2 hT0 hT0.p1.lv (λ_=>z) u33 t62 z z z ?_)
  intro v7 W s
  obtain rfl:=o9 h
  exact .qn z (.ret (aa v7 (rt z rn) z (s.tk [0])))
 refine .g (.q z (.q z (.nil ?_)))
 refine .cs z h ?_ ?_ <;> intro h
 ·refine .g (.q z (.s (fa f80_1 z z z) z (.s (ld t3 s z z z z z) z (.s (fa f80_2 z z z) z (.s (ld t3 s z z z z z) z (.s (bs T.s62 z z) z (.c (.liv [(ab.mk 7 a0.Var 0 0 a0.Box)] ah u33 t62 s z z z z ?_ z (λ_=>z)))))))))
  intro v8 W s
  refine bv h λr3 hr3 h=>?_
  have hT0:=s.p2
  refine .c (.av hr3 hT0 hT0.p1.lv (λ_=>z) u33 t62 z z z ?_)
  intro v9 W s
  obtain rfl:=o9 h
  exact .qn z (.ret (aa v9 (rt z rn) z (s.tk [0])))
 refine .g (.q z (.q z (.nil ?_)))
 refine .cs z h ?_ ?_ <;> intro h
 ·refine .g (.q z (.s (bs T.s62 z z) z (.c (.liv [(ab.mk 8 0 0 0 0)] ah u33 t62 s z z z z ?_ z (λ_=>z)))))
  intro v10 W s
  refine bv h λr4 hr4 h=>?_
  have hT0:=s.p2
  refine .c (.av hr4 hT0 hT0.p1.lv (λ_=>z) u33 t62 z z z ?_)
  intro v11 W s
  obtain rfl:=o9 h
  exact .qn z (.ret (aa v11 (rt z rn) z (s.tk [0])))
 refine .g (.q z (.qn z (.cond z (λb=>?_) (λb=>?_))))
 ·have h:=aJ b h
  refine .g (.q z (.s (bs T.s62 z z) z (.c (.liv [(ab.mk 9 0 4 0 0)] ah u33 t62 s z z z z ?_ z (λ_=>z)))))
  intro v12 W s
  refine bv h λr5 hr5 h=>?_
  have hT0:=s.p2
  refine .c (.av hr5 hT0 hT0.p1.lv (λ_=>z) u33 t62 z z z ?_)
  intro v13 W s
  obtain rfl:=o9 h
  exact .qn z (.ret (aa v13 (rt z rn) z (s.tk [0])))
 have h:=aK b h
 refine .skip (.g (.q z (.s (aE s.p1.lv u33 z z) z (.qn z (.seq (.rk 8 s [0] T.mix ?_))))))
 intro W s
 have t:=s.to [0]
 refine .ts' 0 z (λW t=>fa f80_4 z z z) t z (.ts' 1 z (λW t=>ld t36 t z z z z z) t z (.tp' 2 z z t (.ts' 3 z (λW t=>bs T.s62 z z) t z (.by1 4 z (.liv [(ab.mk 5 0 4 0 0)] ah u33 t62 s z z z z ?_ z (λ_=>z))))))
 intro v14 W s
 refine s.an [1] λt=>bv h λr6 hr6 h=>?_
 have hT0:=s.p2
 refine .by1 5 z (.av hr6 hT0 hT0.p1.lv (λ_=>z) u33 t62 z z z ?_)
 intro v15 W s
 refine s.an [2] λt=>bv h λy3 hy3 h=>.by1 6 z (.cS (L0:=[ac (sv v15) 62 5 ah r6]) s func61 (λS h1 h2 h3=>(iP hy3 (s.ks a9 h1) h2 (zz h1))) z z ?_)
 rintro v16 W s
 refine s.an [2] λt=>.tp' 7 z z t (.done (bv h λy4 hy4 h=>?_))
 refine .seq (CW.via (R':=λx E' W'=>x=.normal/\∃ (v17:Hd),ak E' [(1,(sv v17)),(2,Pt g1),(6,vi (y1.length:Int))]/\Sep S w W' [ac (sv v14) 62 5 ah [(ab.mk 5 0 4 0 0)],.box g1 80 [vi a0.Kind,vi a0.Var,vi a0.Box,vi a0.Expr.Op,vi a0.Expr.N,sv ax,sv a7,sv a8],ac (sv v17) 62 5 ah y4]) ?_ ?_)
 ·have h:=hy4
  refine .g (.s (fa f80_0 z z z) z (.s (ld t3 s.p2 z z z z z) z (.q z (.nil ?_))))
  refine .cs z h ?_ ?_ <;> intro h
  ·refine .region (.q z (.q z (.s (bs T.s62 z z) z (.c (.liv [(ab.mk 4 0 0 0 (a1.length:Int))] ah u33 t62 s z z z z ?_ z (λ_=>z))))))
   intro v18 W s
   refine bv h λr7 hr7 h=>?_
   have hT0:=s.p1
   refine .c (.av hr7 hT0 hT0.p1.lv (λ_=>z) u33 t62 z z z ?_)
   intro v19 W s
   refine .q z (.nil ?_)
   obtain rfl:=o9 h
   exact ⟨z,v19,sb z,s.tk [2,2,0]⟩
  refine .skip ?_
  obtain rfl:=o9 h
  exact ⟨z,v16,sb z,s.tk [1,1,0]⟩
 intro x E W hJ
 obtain ⟨rfl,v20,hE,s⟩:=hJ
 refine ⟨_,hE.sub,?_⟩
 refine .g (.q z (.s (aE s.p2.lv u33 z z) z (.qn z (bv h λy5 hy5 h=>?_))))
 refine .seq (CW.via (R':=λx E' W'=>x=.normal/\∃ (v21:Hd),ak E' [(1,(sv v21)),(2,Pt g1),(6,vi (y1.length:Int)),(7,vi (y4.length:Int))]/\Sep S w W' [ac (sv v14) 62 5 ah [(ab.mk 5 0 4 0 0)],.box g1 80 [vi a0.Kind,vi a0.Var,vi a0.Box,vi a0.Expr.Op,vi a0.Expr.N,sv ax,sv a7,sv a8],ac (sv v21) 62 5 ah y5]) ?_ ?_)
 ·have h:=hy5
  refine .g (.s (fa f80_5 z z z) z (.s (ld t36 s.p1 z z z z z) z (.s (aE (s.keep aQ) u36 z z) z (.q z (.nil ?_)))))
  refine .cs z h ?_ ?_ <;> intro h
  ·refine .region (.q z (.s (bs T.s62 z z) z (.c (.liv [(ab.mk 4 0 0 0 0)] ah u33 t62 s z z z z ?_ z (λ_=>z)))))
   intro v22 W s
   refine bv h λr8 hr8 h=>?_
   have hT0:=s.p3
   refine .c (.av hr8 hT0 hT0.p1.lv (λ_=>z) u33 t62 z z z ?_)
   intro v23 W s
   refine .q z (.nil ?_)
   obtain rfl:=o9 h
   exact ⟨z,v23,sb z,s.tk [2,2,0]⟩
  refine .skip ?_
  obtain rfl:=o9 h
  exact ⟨z,v20,sb z,s.tk [0,0,0]⟩
 intro x E W hJ
 obtain ⟨rfl,v24,hE,s⟩:=hJ
 refine ⟨_,hE.sub,?_⟩
 refine .g (.q z (.q z (.q z (.s (aE s.p2.lv u33 z z) z (bv h λx1 hx1 h=>.s (ixv s.p2.lv hx1 u33 t62 z z z) z (.s (fe f62_4 z z z) z (bv h λr9 hr9 h=>.c (.sev hr9 hx1 s.p2 t3 z z z z z z ?_))))))))
 intro W s
 refine .nil (.seq (.g (.s (fa f80_5 z z z) z (.s (ld t36 s.p2 z z z z z) z (.s (aE (s.keep aQ) u36 z z) z (.qn z (.cond z (λb=>?_) (λb=>?_))))))))
 ·have h:=aJ b h
  refine .g (.s (fa f80_5 z z z) z (.s (ld t36 s.p2 z z z z z) z (.q z (bv h λy6 hy6 h=>.c (.cS (L0:=[ac (sv v24) 62 5 ah r9]) s func61 (λS h1 h2 h3=>(iP hy6 (s.ks aQ h1) h2 (zz h1))) z z ?_)))))
  rintro v25 W s
  refine .qn z (.region (.q z (.q z (.q z (.s (aE s.lv u33 z z) z (bv h λx2 hx2 h=>.s (ixv s.lv hx2 u33 t62 z z z) z (.s (fe f62_4 z z z) z (bv h λr10 hr10 h=>.c (.sev hr10 hx2 s t3 z z z z z z ?_)))))))))
  intro W s
  obtain rfl:=o9 h
  exact .nil (.g (.q z (.qn z (.ret (aa v25 (rt z rn) z (s.tk [0]))))))
 have h:=aK b h
 obtain rfl:=o9 h
 exact .skip (.g (.q z (.qn z (.ret (aa v24 (rt z rn) z (s.tk [0]))))))
theorem mJ (k:Nat):dK (bW k)/\gK (d7 k):=by
  induction k with
  | zero=>exact ⟨by intro a0 a1 v_0 v_1 S w r h q_0 hO hlt; exact no h,by intro a0 a1 ax a7 a8 v_1 S w r h aq a9 aQ hO hlt; exact no h⟩
  | succ k ih=>exact ⟨oC (k:=k) ih.1 ih.2,pH (k:=k) ih.1 ih.2⟩
theorem nX {k:Nat}:dK (bW k):=(mJ k).1
theorem jp {k:Nat} {a0:List ae} {v_0:Hd} {w:World} {r:(List ab)} (h:cU k a0=some r) (q_0:RO w v_0 80 8 aj a0):CL 30 #[sv v_0] w (Ret No w (λs:Hd=>(sv s)) (λs=>[ac (sv s) 62 5 ah r])):=by
 unfold cU at h
 refine au func30 z z ?_
 have s:=Sep.start w
 refine .g (.qn z (.g (.q z ?_)))
 have s:=s.nilv 62 5 ah
 refine bv h λy1 hy1 h=>.c (.cS (L0:=[ac (sv aF) 62 5 ah []]) s func61 (λS h1 h2 h3=>(nX hy1 (s.ks q_0 h1) h2 (zz h1))) z z ?_)
 rintro v1 W s
 refine .s (bs T.s62 z z) z (.c (.liv [(ab.mk 10 0 0 0 0)] ah u33 t62 s z z z z ?_ z (λ_=>z)))
 intro v2 W s
 refine bv h λr1 hr1 h=>?_
 have hT0:=s.p1
 refine .c (.av hr1 hT0 hT0.p1.lv (λ_=>z) u33 t62 z z z ?_)
 intro v3 W s
 obtain rfl:=o9 h
 exact .qn z (.ret (aa v3 (rt z rn) z (s.tk [0])))
def jh (F:Expr->Int->Option (Bool)):Prop:=∀ {a0:Expr} {a1:Int} {bw:Hd} {w:World} {r:Bool} (h:F a0 a1=some r) (aw:RO w bw 77 3 aC a0.Args) , CL 179 #[.agg #[vi a0.Op,vi a0.N,sv bw],vi a1] w (RU w (.bool r))
theorem qU {k:Nat} {fW:Expr->Int->Option (Bool)} (mD:jh fW):jh (fV k fW):=by
 intro a0 a1 bw w r h aw
 unfold fV at h
 refine au func179 z z ?_
 have s:=Sep.start w
 refine .g (.c (.box s z z ?_))
 intro g1 W s
 refine .qn z (.seq (.block (.g (.s (fa f77_0 z z z) z (.s (ld t3 s z z z z z) z (.q z (.q z (.nil ?_))))))))
 refine .cs z h ?_ ?_ <;> intro h
 ·refine .g (.s (fa f77_1 z z z) z (.s (ld t3 s z z z z z) z (.q z (.q z (.cu 4 16 ((decide (a0.N>=0))&&(decide (a0.N<=99999))) s ?_ ?_)))))
  ·refine .both (decide (a0.N>=0)) (λb=>?_) (λb=>?_)
   ·have hg1:=b
    exact .g hg1 (.s (fa f77_1 z z z) z (.g hg1 (.s (ld t3 s z z z z z) z (.g hg1 (.q z (.s (pkt hg1 z z z) z (.nil (ck 4 s z (bh hg1)))))))))
   exact .xx b z (.xx b z (.xx b z (.s (pkf b z z z) z (.nil (ck 4 s z (bi b))))))
  intro W s
  refine .q z (.cu 5 22 (((decide (a0.N>=0))&&(decide (a0.N<=99999)))&&((a0.Args.length:Int)==0)) s ?_ ?_)
  ·refine .both ((decide (a0.N>=0))&&(decide (a0.N<=99999))) (λb=>?_) (λb=>?_)
   ·have hg2:=b
    exact .g hg2 (.s (fa f77_2 z z z) z (.g hg2 (.s (ld t75 s z z z z z) z (.g hg2 (.s (aE (s.keep aw) u75 z z) z (.g hg2 (.q z (.s (pkt hg2 z z z) z (.nil (ck 5 s z (bh hg2)))))))))))
   exact .xx b z (.xx b z (.xx b z (.xx b z (.s (pkf b z z z) z (.nil (ck 5 s z (bi b)))))))
  intro W s
  refine .q z (.cu 3 26 ((((decide (a0.N>=0))&&(decide (a0.N<=99999)))&&((a0.Args.length:Int)==0))&&(decide (a1>0))) s ?_ ?_)
  ·refine .both (((decide (a0.N>=0))&&(decide (a0.N<=99999)))&&((a0.Args.length:Int)==0)) (λb=>?_) (λb=>?_)
   ·have hg3:=b
    exact .g hg3 (.q z (.g hg3 (.q z (.s (pkt hg3 z z z) z (.nil (ck 3 s z (bh hg3)))))))
   exact .xx b z (.xx b z (.s (pkf b z z z) z (.nil (ck 3 s z (bi b)))))
  intro W s
  cases h
  exact .qn z (.ret (aa () (rt z rn) z (s.to [])))
 refine .g (.s (fa f77_0 z z z) z (.s (ld t3 s z z z z z) z (.q z (.q z (.nil ?_)))))
 refine .cs z h ?_ ?_ <;> intro h
 ·refine .g (.s (fa f77_1 z z z) z (.s (ld t3 s z z z z z) z (.q z (.q z (.cu 4 38 ((decide (a0.N>=0))&&(decide (a0.N<4))) s ?_ ?_)))))
  ·refine .both (decide (a0.N>=0)) (λb=>?_) (λb=>?_)
   ·have hg4:=b
    exact .g hg4 (.s (fa f77_1 z z z) z (.g hg4 (.s (ld t3 s z z z z z) z (.g hg4 (.q z (.s (pkt hg4 z z z) z (.nil (ck 4 s z (bh hg4)))))))))
   exact .xx b z (.xx b z (.xx b z (.s (pkf b z z z) z (.nil (ck 4 s z (bi b))))))
  intro W s
  refine .q z (.cu 5 44 (((decide (a0.N>=0))&&(decide (a0.N<4)))&&((a0.Args.length:Int)==0)) s ?_ ?_)
  ·refine .both ((decide (a0.N>=0))&&(decide (a0.N<4))) (λb=>?_) (λb=>?_)
   ·have hg5:=b
    exact .g hg5 (.s (fa f77_2 z z z) z (.g hg5 (.s (ld t75 s z z z z z) z (.g hg5 (.s (aE (s.keep aw) u75 z z) z (.g hg5 (.q z (.s (pkt hg5 z z z) z (.nil (ck 5 s z (bh hg5)))))))))))
   exact .xx b z (.xx b z (.xx b z (.xx b z (.s (pkf b z z z) z (.nil (ck 5 s z (bi b)))))))
  intro W s
  refine .q z (.cu 3 48 ((((decide (a0.N>=0))&&(decide (a0.N<4)))&&((a0.Args.length:Int)==0))&&(decide (a1>0))) s ?_ ?_)
  ·refine .both (((decide (a0.N>=0))&&(decide (a0.N<4)))&&((a0.Args.length:Int)==0)) (λb=>?_) (λb=>?_)
   ·have hg6:=b
    exact .g hg6 (.q z (.g hg6 (.q z (.s (pkt hg6 z z z) z (.nil (ck 3 s z (bh hg6)))))))
   exact .xx b z (.xx b z (.s (pkf b z z z) z (.nil (ck 3 s z (bi b)))))
  intro W s
  cases h
  exact .qn z (.ret (aa () (rt z rn) z (s.to [])))
 refine .skip (.g (.s (fa f77_0 z z z) z (.s (ld t3 s z z z z z) z (bv h λy1 hy1 h=>.c (.cO s func97 (nq hy1) z z ?_)))))
 intro W s
 refine .q z (.cu 4 56 (y1&&(a0.N==0)) s ?_ ?_)
 ·refine .both (y1) (λb=>?_) (λb=>?_)
  ·have hg7:=b
   exact .g hg7 (.s (fa f77_1 z z z) z (.g hg7 (.s (ld t3 s z z z z z) z (.g hg7 (.q z (.s (pkt hg7 z z z) z (.nil (ck 4 s z (bh hg7)))))))))
  exact .xx b z (.xx b z (.xx b z (.s (pkf b z z z) z (.nil (ck 4 s z (bi b))))))
 intro W s
 refine .q z (.cu 5 62 ((y1&&(a0.N==0))&&((a0.Args.length:Int)==2)) s ?_ ?_)
 ·refine .both (y1&&(a0.N==0)) (λb=>?_) (λb=>?_)
  ·have hg8:=b
   exact .g hg8 (.s (fa f77_2 z z z) z (.g hg8 (.s (ld t75 s z z z z z) z (.g hg8 (.s (aE (s.keep aw) u75 z z) z (.g hg8 (.q z (.s (pkt hg8 z z z) z (.nil (ck 5 s z (bh hg8)))))))))))
  exact .xx b z (.xx b z (.xx b z (.xx b z (.s (pkf b z z z) z (.nil (ck 5 s z (bi b)))))))
 intro W s
 refine .q z (.cu 3 66 (((y1&&(a0.N==0))&&((a0.Args.length:Int)==2))&&(decide (a1>1))) s ?_ ?_)
 ·refine .both ((y1&&(a0.N==0))&&((a0.Args.length:Int)==2)) (λb=>?_) (λb=>?_)
  ·have hg9:=b
   exact .g hg9 (.q z (.g hg9 (.q z (.s (pkt hg9 z z z) z (.nil (ck 3 s z (bh hg9)))))))
  exact .xx b z (.xx b z (.s (pkf b z z z) z (.nil (ck 3 s z (bi b)))))
 intro W s
 refine .q z (bv h λb1 hb1 h=>.cu 8 75 (b1) s ?_ ?_)
 ·refine .both (((y1&&(a0.N==0))&&((a0.Args.length:Int)==2))&&(decide (a1>1))) (λb=>?_) (λb=>?_)
  ·have hg10:=b
   have h:=aJ b hb1
   refine .g hg10 (.s (fa f77_2 z z z) z (.g hg10 (.s (ld t75 s z z z z z) z (bv h λx1 hx1 h=>?_))))
   obtain ⟨k1,hd,hck1⟩:=RV.el2 aw hx1
   have hd1:=jk (cq _) hd
   obtain ⟨k1,rfl,hd2⟩:=bK aw z hd1
   obtain ⟨k1,rfl,hd3⟩:=bK aw z hd2
   obtain ⟨v1,k1,rfl,q1,hd4⟩:=cw aw hd3
   obtain rfl:=kT aw hd4
   refine .g hg10 (.s (ixv (s.keep aw) hx1 u75 t77 z z z) z (.g hg10 (.s (lde (hck1 _ s.agree) t77 z z z z z) z (.g hg10 (.q z (.g hg10 (.q z (bv h λy2 hy2 h=>.g hg10 (.c (.cO s func179 (mD hy2 (s.keep (q1 _ aw))) z z ?_))))))))))
   intro W s
   refine .s (pkt hg10 z z z) z ?_
   cases h
   exact .nil (ck 8 s)
  refine .xx b z (.xx b z (.xx b z (.xx b z (.xx b z (.xx b z (.xx b z ?_))))))
  cases aK b hb1
  exact .s (pkf b z z z) z (.nil (ck 8 s))
 intro W s
 refine .q z (bv h λb2 hb2 h=>.cu 8 84 (b2) s ?_ ?_)
 ·refine .both (b1) (λb=>?_) (λb=>?_)
  ·have hg11:=b
   have h:=aJ b hb2
   refine .g hg11 (.s (fa f77_2 z z z) z (.g hg11 (.s (ld t75 s z z z z z) z (bv h λx2 hx2 h=>?_))))
   obtain ⟨k2,hd,hck2⟩:=RV.el2 aw hx2
   have hd1:=jk (cq _) hd
   obtain ⟨k2,rfl,hd2⟩:=bK aw z hd1
   obtain ⟨k2,rfl,hd3⟩:=bK aw z hd2
   obtain ⟨v2,k2,rfl,q2,hd4⟩:=cw aw hd3
   obtain rfl:=kT aw hd4
   refine .g hg11 (.s (ixv (s.keep aw) hx2 u75 t77 z z z) z (.g hg11 (.s (lde (hck2 _ s.agree) t77 z z z z z) z (.g hg11 (.q z (.g hg11 (.q z (bv h λy3 hy3 h=>.g hg11 (.c (.cO s func179 (mD hy3 (s.keep (q2 _ aw))) z z ?_))))))))))
   intro W s
   refine .s (pkt hg11 z z z) z ?_
   cases h
   exact .nil (ck 8 s)
  refine .xx b z (.xx b z (.xx b z (.xx b z (.xx b z (.xx b z (.xx b z ?_))))))
  cases aK b hb2
  exact .s (pkf b z z z) z (.nil (ck 8 s))
 intro W s
 obtain rfl:=o9 h
 exact .qn z (.ret (aa () (rt z rn) z (s.to [])))
theorem nz (k:Nat):jh (iu k):=by
  induction k with
  | zero=>exact by intro a0 a1 bw w r h aw; exact no h
  | succ k ih=>exact qU (k:=k) ih
theorem qe {k:Nat}:jh (iu k):=(nz k)
theorem qf {k:Nat} {a0:Expr} {bw:Hd} {w:World} {r:Bool} (h:fX k a0=some r) (aw:RO w bw 77 3 aC a0.Args):CL 156 #[.agg #[vi a0.Op,vi a0.N,sv bw]] w (RU w (.bool r)):=by
 unfold fX at h
 refine au func156 z z ?_
 have s:=Sep.start w
 refine .g (.c (.box s z z ?_))
 intro g1 W s
 refine .qn z (.g (.s (ld t77 s z z z z z) z (bv h λy1 hy1 h=>.c (.cO s func179 (qe hy1 (s.keep aw)) z z ?_))))
 intro W s
 obtain rfl:=o9 h
 exact .qn z (.ret (aa () (rt z rn) z (s.to [])))
theorem lZ {a0:Int} {a1:Int} {a2:Bool} {w:World} {r:Bool} (h:cW a0 a1 a2=some r):CL 155 #[vi a0,vi a1,.bool a2] w (RU w (.bool r)):=by
 unfold cW at h
 refine au func155 z z ?_
 have s:=Sep.start w
 refine .g (.qn z (.g (.q z (.q z (.q z (.cu 11 20 ((a0==0)||((a2&&(decide (a0>0)))&&(decide (a0<a1)))) s ?_ ?_))))))
 ·refine .both (a0==0) (λb=>?_) (λb=>?_)
  ·exact .xx b z (.xx b z (.xu (.xu (.xx b z (.xx b z (.xu (.xu (.xu (.xx b z (.s (pkt b z z z) z (.nil (ck 11 s z (jr b)))))))))))))
  have hg1:=b
  refine .g hg1 (.q z (.g hg1 (.q z (.cu 3 14 (a2&&(decide (a0>0))) s ?_ ?_))))
  ·refine .both (a2) (λb=>?_) (λb=>?_)
   ·have hg2:=b
    exact .g hg2 (.q z (.g hg2 (.q z (.g hg1 (.s (pkt hg2 z z z) z (.nil (ck 3 s z (bh hg2))))))))
   exact .xx b z (.xx b z (.g hg1 (.s (pkf b z z z) z (.nil (ck 3 s z (bi b))))))
  intro W s
  refine .g hg1 (.q z (.cu 4 19 ((a2&&(decide (a0>0)))&&(decide (a0<a1))) s ?_ ?_))
  ·refine .both (a2&&(decide (a0>0))) (λb=>?_) (λb=>?_)
   ·have hg3:=b
    exact .g hg3 (.q z (.g hg3 (.q z (.g hg3 (.q z (.g hg1 (.s (pkt hg3 z z z) z (.nil (ck 4 s z (bh hg3))))))))))
   exact .xx b z (.xx b z (.xx b z (.g hg1 (.s (pkf b z z z) z (.nil (ck 4 s z (bi b)))))))
  intro W s
  exact .s (pkf hg1 z z z) z (.nil (ck 6 s z (iR hg1)))
 intro W s
 cases h
 exact .qn z (.ret (aa () (rt z rn) z (s.to [])))
def oD (w:World) (r:Bool):Env->World->Prop:=Fin Tryz.prog Tryz.f130 No w (λs:Unit=>.bool r) (λs=>[]) .ret
theorem nY {k:Nat} {a0:ae} {a1:Int} {ax:Hd} {a7:Hd} {a8:Hd} {h_0:Hd} {k_0:Nat} {w:World} {r:Bool} (h:iv k a0 a1=some r) (aq:RO w ax 77 3 aC a0.Expr.Args) (a9:RO w a7 80 8 aj a0.Body) (aQ:RO w a8 80 8 aj a0.Else) (c_0:EC w (Old No w) (adr (sv h_0)) k_0 [vi a0.Kind,vi a0.Var,vi a0.Box,vi a0.Expr.Op,vi a0.Expr.N,sv ax,sv a7,sv a8]):CL 130 #[.pointer (some (bJ (adr (sv h_0)) (k_0+0))),vi a1] w (RU w (.bool r)):=by
 unfold iv at h
 refine au func130 z z ?_
 have s:=Sep.start w
 refine .g (.qn z (.g (.c (.alloc t175 s ?_))))
 intro g1 W s
 refine .nil (bv h λy1 hy1 h=>?_)
 refine .seq (CW.via (R':=λx E' W'=>(match y1 with | .inl o1=>x=.normal/\ak E' [(0,.pointer (some (bJ (adr (sv h_0)) (k_0+0)))),(1,vi a1),(5,Pt g1)]/\Sep No w W' [.box g1 175 [.bool o1.variable_,.bool o1.box,.bool o1.expr,.bool o1.body,.bool o1.other]] | .inr o2=>x=.ret/\oD w o2 E' W')) ?_ ?_)
 ·have h:=hy1
  refine .g (.q z (.q z (.s (fe f80_0 z z z) z (.s (lde (c_0 _ s.agree) t3 z z z z z) z (.nil (.block (.g (.q z (.q z (.nil ?_))))))))))
  refine .cs z h ?_ ?_ <;> intro h
  ·refine .region (.s (fa f175_0 z z z) z (.c (.st t4 s z z z ?_)))
   intro W s
   refine .s (fa f175_2 z z z) z (.c (.st t4 s z z z ?_))
   intro W s
   refine .nil ?_
   cases h
   exact ⟨z,sb z,s.tk [0]⟩
  refine .g (.q z (.q z (.nil ?_)))
  refine .cs z h ?_ ?_ <;> intro h
  ·refine .region (.s (fa f175_2 z z z) z (.c (.st t4 s z z z ?_)))
   intro W s
   refine .s (fa f175_3 z z z) z (.c (.st t4 s z z z ?_))
   intro W s
   refine .s (fa f175_4 z z z) z (.c (.st t4 s z z z ?_))
   intro W s
   refine .nil ?_
   cases h
   exact ⟨z,sb z,s.tk [0]⟩
  refine .g (.q z (.q z (.nil ?_)))
  refine .cs z h ?_ ?_ <;> intro h
  ·refine .region (.s (fa f175_2 z z z) z (.c (.st t4 s z z z ?_)))
   intro W s
   refine .s (fa f175_3 z z z) z (.c (.st t4 s z z z ?_))
   intro W s
   refine .nil ?_
   cases h
   exact ⟨z,sb z,s.tk [0]⟩
  refine .g (.q z (.q z (.nil ?_)))
  refine .cs z h ?_ ?_ <;> intro h
  ·refine .region (.s (fa f175_1 z z z) z (.c (.st t4 s z z z ?_)))
   intro W s
   refine .s (fa f175_2 z z z) z (.c (.st t4 s z z z ?_))
   intro W s
   refine .nil ?_
   cases h
   exact ⟨z,sb z,s.tk [0]⟩
  refine .g (.q z (.q z (.nil ?_)))
  refine .cs z h ?_ ?_ <;> intro h
  ·refine .region (.s (fa f175_1 z z z) z (.c (.st t4 s z z z ?_)))
   intro W s
   refine .s (fa f175_0 z z z) z (.c (.st t4 s z z z ?_))
   intro W s
   refine .nil ?_
   cases h
   exact ⟨z,sb z,s.tk [0]⟩
  refine .g (.q z (.q z (.nil ?_)))
  refine .cs z h ?_ ?_ <;> intro h
  ·refine .region (.s (fa f175_2 z z z) z (.c (.st t4 s z z z ?_)))
   intro W s
   refine .nil ?_
   cases h
   exact ⟨z,sb z,s.tk [0]⟩
  refine .g (.q z (.q z (.nil ?_)))
  refine .cs z h ?_ ?_ <;> intro h
  ·refine .skip ?_
   cases h
   exact ⟨z,sb z,s.tk [0]⟩
  refine .g (.qn z (.ret ?_))
  cases h
  exact ⟨z,aa (vs:=[_]) () (rt z rn) z (s.to [])⟩
 intro x E W hJ
 rcases y1 with o3 | o4
 ·have h:=dl h
  obtain ⟨rfl,hE,s⟩:=hJ
  refine ⟨_,hE.sub,?_⟩
  refine .g (.qn z (.seq (.seq (bv h λy2 hy2 h=>bv h λb1 hb1 h=>?_))))
  refine .via (R':=λx E' W'=>x=.normal/\ak E' [(0,.pointer (some (bJ (adr (sv h_0)) (k_0+0)))),(5,Pt g1),(69,.bool (b1||(o3.box&&(decide (a0.Box>=a1)))))]/\Sep No w W' [.box g1 175 [.bool o3.variable_,.bool o3.box,.bool o3.expr,.bool o3.body,.bool o3.other]]) ?_ ?_
  ·refine .rk 33 s [0] T.mix ?_
   intro W s
   have t:=s.to [0]
   refine .tp' 0 z z t (.tp' 1 z z t (.tp' 2 z z t (.ts' 3 z (λW t=>fe f80_1 z z z) t z (.ts' 4 z (λW t=>lde (c_0 _ t.agree) t3 z z z z z) t z (.ts' 5 z (λW t=>fa f175_0 z z z) t z (.ts' 6 z (λW t=>ld t4 t z z z z z) t z (.by1 7 z (.callv (vs:=[vi a0.Var,vi 4,.bool o3.variable_]) (cap:=#[]) s ⟨_,func155,z,by kernel_rfl⟩ (lZ hy2) z z z ?_))))))))
   rintro ⟨⟩ W s
   refine s.an [0] λt=>.tp' 8 z z t (.tp' 9 z z t (.both (!y2) (λb=>?_) (λb=>?_)))
   ·refine .off 10 z b t (.off 11 z b t (.off 12 z b t (.off 13 z b t (.off 14 z b t (.off 15 z b t (.off 16 z b t (.off 17 z b t (.off 18 z b t (.off 19 z b t (.ts' 20 z (λW t=>pkt b z z z) t z (.eqv 57 z (lu (aJ b hb1)) (.tp' 21 z z t (.both (b1) (λb=>?_) (λb=>?_))))) (by kernel_rfl) z z) (by kernel_rfl) z z) (by kernel_rfl) z z) (by kernel_rfl) z z) (by kernel_rfl) z z) (by kernel_rfl) z z) (by kernel_rfl) z z) (by kernel_rfl) z z) (by kernel_rfl) z z) (by kernel_rfl) z z
    ·exact .off 22 z b t (.off 23 z b t (.off 24 z b t (.offu 25 z t (.offu 26 z t (.offu 27 z t (.offu 28 z t (.offu 29 z t (.offu 30 z t (.off 31 z b t (.ts' 32 z (λW t=>pkt b z z z) t z (.eqv 69 z (congrArg Value.bool (show true=(b1||(o3.box&&(decide (a0.Box>=a1)))) from jr b)) (.done (⟨z,sb z,s.tk [0]⟩)))) (by kernel_rfl) z z) (by kernel_rfl) z z) (by kernel_rfl) z z) (by kernel_rfl) z z) (by kernel_rfl) z z) (by kernel_rfl) z z) (by kernel_rfl) z z) (by kernel_rfl) z z) (by kernel_rfl) z z) (by kernel_rfl) z z
    have hg2:=b
    refine .t1g 22 z hg2 (λW t=>fa f175_1 z z z) t (.t1g 23 z hg2 (λW t=>ld t4 t z z z z z) t (.t1g 24 z hg2 (λW t=>pr z) t (.both (o3.box) (λb=>?_) (λb=>?_)) (by kernel_rfl) z z) (by kernel_rfl) z z) (by kernel_rfl) z z
    ·have hg3:=b
     exact .t1g 25 z hg3 (λW t=>pr z) t (.t1g 26 z hg3 (λW t=>pr z) t (.t1g 27 z hg3 (λW t=>fe f80_2 z z z) t (.t1g 28 z hg3 (λW t=>lde (c_0 _ t.agree) t3 z z z z z) t (.t1g 29 z hg3 (λW t=>pr z) t (.t1g 30 z hg3 (λW t=>pr z) t (.t1g 31 z hg2 (λW t=>pkt hg3 z z z) t (.eqv 68 z (congrArg Value.bool (bh hg3)) (.ts' 32 z (λW t=>pkf hg2 z z z) t z (.eqv 69 z (congrArg Value.bool (iR hg2)) (.done (⟨z,sb z,s.tk [0]⟩))))) (by kernel_rfl) z z) (by kernel_rfl) z z) (by kernel_rfl) z z) (by kernel_rfl) z z) (by kernel_rfl) z z) (by kernel_rfl) z z) (by kernel_rfl) z z
    exact .off 25 z b t (.off 26 z b t (.off 27 z b t (.off 28 z b t (.off 29 z b t (.off 30 z b t (.t1g 31 z hg2 (λW t=>pkf b z z z) t (.eqv 68 z (congrArg Value.bool (show false=(o3.box&&(decide (a0.Box>=a1))) from bi b)) (.ts' 32 z (λW t=>pkf hg2 z z z) t z (.eqv 69 z (congrArg Value.bool (iR hg2)) (.done (⟨z,sb z,s.tk [0]⟩))))) (by kernel_rfl) z z) (by kernel_rfl) z z) (by kernel_rfl) z z) (by kernel_rfl) z z) (by kernel_rfl) z z) (by kernel_rfl) z z) (by kernel_rfl) z z
   have hg1:=b
   have h_b1:=aK b hb1
   refine .t1g 10 z hg1 (λW t=>pr z) t (.t1g 11 z hg1 (λW t=>pr z) t (.t1g 12 z hg1 (λW t=>pr z) t (.t1g 13 z hg1 (λW t=>fe f80_2 z z z) t (.t1g 14 z hg1 (λW t=>lde (c_0 _ t.agree) t3 z z z z z) t (.t1g 15 z hg1 (λW t=>pr z) t (.t1g 16 z hg1 (λW t=>fa f175_1 z z z) t (.t1g 17 z hg1 (λW t=>ld t4 t z z z z z) t (bv h_b1 λy3 hy3 h_b1=>.by1 18 z (.gd hg1 (.callv (vs:=[vi a0.Box,vi a1,.bool o3.box]) (cap:=#[]) s ⟨_,func155,z,by kernel_rfl⟩ (lZ hy3) z z z ?_))) (by kernel_rfl) z z) (by kernel_rfl) z z) (by kernel_rfl) z z) (by kernel_rfl) z z) (by kernel_rfl) z z) (by kernel_rfl) z z) (by kernel_rfl) z z) (by kernel_rfl) z z
   rintro ⟨⟩ W s
   refine s.an [0] λt=>.t1g 19 z hg1 (λW t=>pr z) t (.ts' 20 z (λW t=>pkf hg1 z z z) t z (.eqv 57 z (lu h_b1) (.tp' 21 z z t (.both (b1) (λb=>?_) (λb=>?_))))) (by kernel_rfl) z z
   ·exact .off 22 z b t (.off 23 z b t (.off 24 z b t (.offu 25 z t (.offu 26 z t (.offu 27 z t (.offu 28 z t (.offu 29 z t (.offu 30 z t (.off 31 z b t (.ts' 32 z (λW t=>pkt b z z z) t z (.eqv 69 z (congrArg Value.bool (show true=(b1||(o3.box&&(decide (a0.Box>=a1)))) from jr b)) (.done (⟨z,sb z,s.tk [0]⟩)))) (by kernel_rfl) z z) (by kernel_rfl) z z) (by kernel_rfl) z z) (by kernel_rfl) z z) (by kernel_rfl) z z) (by kernel_rfl) z z) (by kernel_rfl) z z) (by kernel_rfl) z z) (by kernel_rfl) z z) (by kernel_rfl) z z
   have hg4:=b
   refine .t1g 22 z hg4 (λW t=>fa f175_1 z z z) t (.t1g 23 z hg4 (λW t=>ld t4 t z z z z z) t (.t1g 24 z hg4 (λW t=>pr z) t (.both (o3.box) (λb=>?_) (λb=>?_)) (by kernel_rfl) z z) (by kernel_rfl) z z) (by kernel_rfl) z z
   ·have hg5:=b
    exact .t1g 25 z hg5 (λW t=>pr z) t (.t1g 26 z hg5 (λW t=>pr z) t (.t1g 27 z hg5 (λW t=>fe f80_2 z z z) t (.t1g 28 z hg5 (λW t=>lde (c_0 _ t.agree) t3 z z z z z) t (.t1g 29 z hg5 (λW t=>pr z) t (.t1g 30 z hg5 (λW t=>pr z) t (.t1g 31 z hg4 (λW t=>pkt hg5 z z z) t (.eqv 68 z (congrArg Value.bool (bh hg5)) (.ts' 32 z (λW t=>pkf hg4 z z z) t z (.eqv 69 z (congrArg Value.bool (iR hg4)) (.done (⟨z,sb z,s.tk [0]⟩))))) (by kernel_rfl) z z) (by kernel_rfl) z z) (by kernel_rfl) z z) (by kernel_rfl) z z) (by kernel_rfl) z z) (by kernel_rfl) z z) (by kernel_rfl) z z
   exact .off 25 z b t (.off 26 z b t (.off 27 z b t (.off 28 z b t (.off 29 z b t (.off 30 z b t (.t1g 31 z hg4 (λW t=>pkf b z z z) t (.eqv 68 z (congrArg Value.bool (show false=(o3.box&&(decide (a0.Box>=a1))) from bi b)) (.ts' 32 z (λW t=>pkf hg4 z z z) t z (.eqv 69 z (congrArg Value.bool (iR hg4)) (.done (⟨z,sb z,s.tk [0]⟩))))) (by kernel_rfl) z z) (by kernel_rfl) z z) (by kernel_rfl) z z) (by kernel_rfl) z z) (by kernel_rfl) z z) (by kernel_rfl) z z) (by kernel_rfl) z z
  intro x E W hJ
  obtain ⟨rfl,hE,s⟩:=hJ
  refine ⟨_,hE.sub,?_⟩
  refine .cs z h ?_ ?_ <;> intro h
  ·obtain rfl:=o9 h
   exact .g (.qn z (.ret (aa () (rt z rn) z (s.to []))))
  refine .skip (.seq (.g (.s (fa f175_2 z z z) z (.s (ld t4 s z z z z z) z (.q z (bv h λb2 hb2 h=>.cu 7 79 (b2) s ?_ ?_))))))
  ·refine .both (o3.expr) (λb=>?_) (λb=>?_)
   ·have hg6:=b
    have h:=aJ b hb2
    refine .g hg6 (.q z (.g hg6 (.q z (.g hg6 (.s (fe f80_3 z z z) z (.g hg6 (.s (lde (c_0 _ s.agree) t77 z z z z z) z (bv h λy4 hy4 h=>.g hg6 (.c (.cO s func156 (qf hy4 (s.keep aq)) z z ?_))))))))))
    intro W s
    refine .g hg6 (.q z (.s (pkt hg6 z z z) z ?_))
    cases h
    exact .nil (ck 7 s)
   refine .xx b z (.xx b z (.xx b z (.xx b z (.xx b z (.xx b z ?_)))))
   cases aK b hb2
   exact .s (pkf b z z z) z (.nil (ck 7 s))
  intro W s
  refine .q z (.cu 29 109 (b2||((!o3.expr)&&(((a0.Expr.Op !=0)||(a0.Expr.N !=0))||(decide ((a0.Expr.Args.length:Int)>0))))) s ?_ ?_)
  ·refine .both (b2) (λb=>?_) (λb=>?_)
   ·exact .xx b z (.xx b z (.xx b z (.xx b z (.xu (.xu (.xu (.xu (.xu (.xu (.xu (.xu (.xu (.xu (.xu (.xu (.xu (.xu (.xu (.xu (.xu (.xu (.xu (.xu (.xu (.xu (.xu (.xx b z (.s (pkt b z z z) z (.nil (ck 29 s z (jr b)))))))))))))))))))))))))))))))
   have hg7:=b
   refine .g hg7 (.s (fa f175_2 z z z) z (.g hg7 (.s (ld t4 s z z z z z) z (.g hg7 (.q z (.g hg7 (.q z (.cu 24 108 ((!o3.expr)&&(((a0.Expr.Op !=0)||(a0.Expr.N !=0))||(decide ((a0.Expr.Args.length:Int)>0)))) s ?_ ?_))))))))
   ·refine .both (!o3.expr) (λb=>?_) (λb=>?_)
    ·have hg8:=b
     refine .g hg8 (.q z (.g hg8 (.q z (.g hg8 (.s (fe f80_3 z z z) z (.g hg8 (.s (fe f77_0 z z z) z (.g hg8 (.s (lde (c_0 _ s.agree) t3 z z z z z) z (.g hg8 (.q z (.g hg8 (.q z (.cu 7 98 ((a0.Expr.Op !=0)||(a0.Expr.N !=0)) s ?_ ?_))))))))))))))
     ·refine .both (a0.Expr.Op !=0) (λb=>?_) (λb=>?_)
      ·exact .xx b z (.xx b z (.xx b z (.xx b z (.xx b z (.xx b z (.g hg8 (.s (pkt b z z z) z (.nil (ck 7 s z (jr b))))))))))
      have hg9:=b
      exact .g hg9 (.q z (.g hg9 (.q z (.g hg9 (.s (fe f80_3 z z z) z (.g hg9 (.s (fe f77_1 z z z) z (.g hg9 (.s (lde (c_0 _ s.agree) t3 z z z z z) z (.g hg9 (.q z (.g hg8 (.s (pkf hg9 z z z) z (.nil (ck 7 s z (iR hg9))))))))))))))))
     intro W s
     refine .g hg8 (.q z (.cu 8 107 (((a0.Expr.Op !=0)||(a0.Expr.N !=0))||(decide ((a0.Expr.Args.length:Int)>0))) s ?_ ?_))
     ·refine .both ((a0.Expr.Op !=0)||(a0.Expr.N !=0)) (λb=>?_) (λb=>?_)
      ·exact .xx b z (.xx b z (.xx b z (.xx b z (.xx b z (.xx b z (.xx b z (.g hg8 (.s (pkt b z z z) z (.nil (ck 8 s z (jr b)))))))))))
      have hg10:=b
      exact .g hg10 (.q z (.g hg10 (.q z (.g hg10 (.s (fe f80_3 z z z) z (.g hg10 (.s (fe f77_2 z z z) z (.g hg10 (.s (lde (c_0 _ s.agree) t75 z z z z z) z (.g hg10 (.s (aE (s.keep aq) u75 z z) z (.g hg10 (.q z (.g hg8 (.s (pkf hg10 z z z) z (.nil (ck 8 s z (iR hg10))))))))))))))))))
     intro W s
     exact .g hg7 (.s (pkt hg8 z z z) z (.nil (ck 11 s z (bh hg8))))
    exact .xx b z (.xx b z (.xx b z (.xx b z (.xx b z (.xx b z (.xx b z (.xu (.xu (.xu (.xu (.xu (.xu (.xx b z (.xx b z (.xu (.xu (.xu (.xu (.xu (.xu (.xu (.xx b z (.g hg7 (.s (pkf b z z z) z (.nil (ck 24 s z (bi b)))))))))))))))))))))))))))
   intro W s
   exact .s (pkf hg7 z z z) z (.nil (ck 6 s z (iR hg7)))
  intro W s
  refine .nil ?_
  refine .cs z h ?_ ?_ <;> intro h
  ·obtain rfl:=o9 h
   exact .g (.qn z (.ret (aa () (rt z rn) z (s.to []))))
  refine .skip (.g (.s (fa f175_3 z z z) z (.s (ld t4 s z z z z z) z (.q z (.cu 7 119 (o3.body||((a0.Body.length:Int)==0)) s ?_ ?_)))))
  ·refine .both (o3.body) (λb=>?_) (λb=>?_)
   ·exact .xx b z (.xx b z (.xx b z (.xx b z (.xx b z (.xx b z (.s (pkt b z z z) z (.nil (ck 7 s z (jr b)))))))))
   have hg11:=b
   exact .g hg11 (.q z (.g hg11 (.q z (.g hg11 (.s (fe f80_4 z z z) z (.g hg11 (.s (lde (c_0 _ s.agree) t36 z z z z z) z (.g hg11 (.s (aE (s.keep a9) u36 z z) z (.g hg11 (.q z (.s (pkf hg11 z z z) z (.nil (ck 7 s z (iR hg11)))))))))))))))
  intro W s
  refine .q z (.cu 11 131 ((o3.body||((a0.Body.length:Int)==0))&&(o3.other||((a0.Else.length:Int)==0))) s ?_ ?_)
  ·refine .both (o3.body||((a0.Body.length:Int)==0)) (λb=>?_) (λb=>?_)
   ·have hg12:=b
    refine .g hg12 (.s (fa f175_4 z z z) z (.g hg12 (.s (ld t4 s z z z z z) z (.g hg12 (.q z (.cu 7 130 (o3.other||((a0.Else.length:Int)==0)) s ?_ ?_))))))
    ·refine .both (o3.other) (λb=>?_) (λb=>?_)
     ·exact .xx b z (.xx b z (.xx b z (.xx b z (.xx b z (.xx b z (.g hg12 (.s (pkt b z z z) z (.nil (ck 7 s z (jr b))))))))))
     have hg13:=b
     exact .g hg13 (.q z (.g hg13 (.q z (.g hg13 (.s (fe f80_5 z z z) z (.g hg13 (.s (lde (c_0 _ s.agree) t36 z z z z z) z (.g hg13 (.s (aE (s.keep aQ) u36 z z) z (.g hg13 (.q z (.g hg12 (.s (pkf hg13 z z z) z (.nil (ck 7 s z (iR hg13))))))))))))))))
    intro W s
    exact .s (pkt hg12 z z z) z (.nil (ck 5 s z (bh hg12)))
   exact .xx b z (.xx b z (.xx b z (.xu (.xu (.xu (.xu (.xu (.xu (.xx b z (.s (pkf b z z z) z (.nil (ck 11 s z (bi b)))))))))))))
  intro W s
  cases h
  exact .qn z (.ret (aa () (rt z rn) z (s.to [])))
 have h:=dm h
 obtain ⟨rfl,hF⟩:=hJ
 refine ⟨_,λ_ _ h=>h,?_⟩
 cases h
 exact hF
def ie (F:List ae->Int->Int->Int->Option (Bool×Int)):Prop:=∀ {a0:List ae} {a1:Int} {a2:Int} {a3:Int} {v_0:Hd} {g_3:Nat} {S:Nat->Prop} {w:World} {r:Bool×Int} (h:F a0 a1 a2 a3=some r) (q_0:RV w (Old S w) (sv v_0) 80 8 aj a0) (hO:bu w [.box g_3 3 [vi a3]] S) (hlt:∀ b,S b->b<w.heap.size) , CL 93 #[sv v_0,vi a1,vi a2,Pt g_3] w (Ret S w (λs:Unit=>.bool r.1) (λs=>[.box g_3 3 [vi r.2]]))
def mE (w:World) (S:Nat->Prop) (v_0:Hd) (g_3:Nat) (a0:List ae) (a1:Int) (a2:Int) (a3:Int) (r:Bool×Int):Env->World->Prop:=Fin Tryz.prog Tryz.f93 S w (λs:Unit=>.bool r.1) (λs=>[.box g_3 3 [vi r.2]]) .ret
theorem qg {k:Nat} {cG:List ae->Int->Int->Int->Option (Bool×Int)} (mr:ie cG):ie (fc k cG):=by
 intro a0 a1 a2 a3 v_0 g_3 S w r h q_0 hO hlt
 unfold fc at h
 refine au func93 z z ?_
 have s:=Sep.sm hO hlt
 refine .g (.qn z (.g (.q z (.q z (.s (ld t3 s z z z z z) z (.q z (.s (aE (s.keep q_0) u36 z z) z (.q z (.q z (.c (.st t3 s z z z ?_)))))))))))
 intro W s
 refine .nil (.seq (.g (.q z (.q z (.s (ld t3 s z z z z z) z (.q z (.nil ?_)))))))
 refine .cs z h ?_ ?_ <;> intro h
 ·cases h
  exact .g (.qn z (.ret (aa () (rt z rn) z (s.tk [0]))))
 refine .skip (.seq (.g (.q z (.s (aE (s.keep q_0) u36 z z) z (.qn z (.block (bv h λy1 hy1 h=>?_)))))))
 refine .via (.iter (λs1 E' W'=>ak E' [(0,(sv v_0)),(1,vi a1),(2,vi a2),(3,Pt g_3),(23,vi (a0.length:Int)),(24,vi s1.1)]/\Sep S w W' [.box g_3 3 [vi s1.2]]) (λy2 x E' W'=>(match y2 with | .inl o1=>x=.ret/\mE w S v_0 g_3 a0 a1 a2 a3 o1 E' W' | .inr o2=>x=.exit 0/\ak E' []/\Sep S w W' [.box g_3 3 [vi o2]])) hy1 ⟨sb rfl,s.tk [0]⟩ ?_) ?_
 ·intro s1 y3 E W h hI
  obtain ⟨hE,s⟩:=hI
  refine CW.sub hE ?_
  unfold gx at h
  refine .g (.qn z (.seq ?_))
  refine .cs z h ?_ ?_ <;> intro h
  ·refine .skip (bv h λy4 hy4 h=>?_)
   refine .seq (CW.via (R':=λx E' W'=>(match y4 with | .inl o3=>x=.normal/\ak E' [(0,(sv v_0)),(1,vi a1),(2,vi a2),(3,Pt g_3),(23,vi (a0.length:Int)),(24,vi s1.1)]/\Sep S w W' [.box g_3 3 [vi o3]] | .inr o4=>x=.ret/\mE w S v_0 g_3 a0 a1 a2 a3 o4 E' W')) ?_ ?_)
   ·have h:=hy4
    refine .block (.g (.q z (.qn z (.g (.q z (.q z (bv h λx1 hx1 h=>?_)))))))
    obtain ⟨k1,hd,hck1⟩:=RV.el2 q_0 hx1
    have hd1:=jk (dT _) hd
    obtain ⟨k1,rfl,hd2⟩:=bK q_0 z hd1
    obtain ⟨k1,rfl,hd3⟩:=bK q_0 z hd2
    obtain ⟨k1,rfl,hd4⟩:=bK q_0 z hd3
    have hd5:=jk (cq _) hd4
    obtain ⟨k1,rfl,hd6⟩:=bK q_0 z hd5
    obtain ⟨k1,rfl,hd7⟩:=bK q_0 z hd6
    obtain ⟨v1,k1,rfl,q1,hd8⟩:=cw q_0 hd7
    obtain ⟨v2,k1,rfl,q2,hd9⟩:=cw q_0 hd8
    obtain ⟨v3,k1,rfl,q3,hd10⟩:=cw q_0 hd9
    obtain rfl:=kT q_0 hd10
    refine .s (ixv (s.keep q_0) hx1 u36 t80 z z z) z (.qn z (.seq (.g (.q z (.q z (bv h λy5 hy5 h=>.c (.cO s func130 (nY hy5 (s.keep (q1 _ q_0)) (s.keep (q2 _ q_0)) (s.keep (q3 _ q_0)) (s.keepE hck1)) z z ?_)))))))
    intro W s
    refine .q z (.q z (.cu 3 37 ((!y5)||(decide (a2>3))) s ?_ ?_))
    ·refine .both (!y5) (λb=>?_) (λb=>?_)
     ·exact .xx b z (.xx b z (.s (pkt b z z z) z (.nil (ck 3 s z (jr b)))))
     have hg1:=b
     exact .g hg1 (.q z (.g hg1 (.q z (.s (pkf hg1 z z z) z (.nil (ck 3 s z (iR hg1)))))))
    intro W s
    refine .nil ?_
    refine .cs z h ?_ ?_ <;> intro h
    ·refine .g (.qn z (.ret ?_))
     cases h
     exact ⟨z,aa (vs:=[_]) () (rt z rn) z (s.tk [0])⟩
    refine .skip (.seq (.g (.q z (.q z (.s (fe f80_0 z z z) z (.s (lde (hck1 _ s.agree) t3 z z z z z) z (.q z (.q z (.cu 6 49 ((x1.Kind !=2)&&(x1.Kind !=3)) s ?_ ?_)))))))))
    ·refine .both (x1.Kind !=2) (λb=>?_) (λb=>?_)
     ·have hg2:=b
      exact .g hg2 (.q z (.g hg2 (.q z (.g hg2 (.s (fe f80_0 z z z) z (.g hg2 (.s (lde (hck1 _ s.agree) t3 z z z z z) z (.g hg2 (.q z (.s (pkt hg2 z z z) z (.nil (ck 6 s z (bh hg2)))))))))))))
     exact .xx b z (.xx b z (.xx b z (.xx b z (.xx b z (.s (pkf b z z z) z (.nil (ck 6 s z (bi b))))))))
    intro W s
    refine .nil ?_
    refine .cs z h ?_ ?_ <;> intro h
    ·refine .exit ?_
     cases h
     exact ⟨z,sb z,s.tk [0]⟩
    refine .skip (.g (.q z (.q z (.q z (bv h λb1 hb1 h=>.chunkL 11 63 (b1.1) (M:=S) (w0:=w) (L:=[.box g_3 3 [vi b1.2]]) ?_ ?_)))))
    ·refine .both (decide (a2>=3)) (λb=>?_) (λb=>?_)
     ·refine .xx b z (.xx b z (.xx b z (.xx b z (.xx b z (.xx b z (.xx b z (.xx b z (.xx b z (.xx b z ?_)))))))))
      cases aJ b hb1
      exact .s (pkt b z z z) z (.nil (ck 11 (s.to [0])))
     have hg3:=b
     have h:=aK b hb1
     refine .g hg3 (.q z (.g hg3 (.q z (.g hg3 (.s (fe f80_4 z z z) z (.g hg3 (.s (lde (hck1 _ s.agree) t36 z z z z z) z (.g hg3 (.q z (.g hg3 (.q z (.g hg3 (.q z (.g hg3 (.q z (bv h λy6 hy6 h=>.g hg3 (.c (.cS (L0:=[.box g_3 3 [vi s1.2]]) s func93 (λS h1 h2 h3=>(mr hy6 (s.ks (q2 _ q_0) h1) h2 (zz h1))) z z ?_))))))))))))))))))
     rintro ⟨⟩ W s
     refine .g hg3 (.q z (.s (pkf hg3 z z z) z ?_))
     cases h
     exact .nil (ck 11 (s.to [0]))
    intro W s
    refine .q z (bv h λb2 hb2 h=>.chunkL 11 75 (b2.1) (M:=S) (w0:=w) (L:=[.box g_3 3 [vi b2.2]]) ?_ ?_)
    ·refine .both (b1.1) (λb=>?_) (λb=>?_)
     ·refine .xx b z (.xx b z (.xx b z (.xx b z (.xx b z (.xx b z (.xx b z (.xx b z (.xx b z (.xx b z ?_)))))))))
      cases aJ b hb2
      exact .s (pkt b z z z) z (.nil (ck 11 (s.to [0])))
     have hg4:=b
     have h:=aK b hb2
     refine .g hg4 (.q z (.g hg4 (.q z (.g hg4 (.s (fe f80_5 z z z) z (.g hg4 (.s (lde (hck1 _ s.agree) t36 z z z z z) z (.g hg4 (.q z (.g hg4 (.q z (.g hg4 (.q z (.g hg4 (.q z (bv h λy7 hy7 h=>.g hg4 (.c (.cS (L0:=[.box g_3 3 [vi b1.2]]) s func93 (λS h1 h2 h3=>(mr hy7 (s.ks (q3 _ q_0) h1) h2 (zz h1))) z z ?_))))))))))))))))))
     rintro ⟨⟩ W s
     refine .g hg4 (.q z (.s (pkf hg4 z z z) z ?_))
     cases h
     exact .nil (ck 11 (s.to [0]))
    intro W s
    refine .nil ?_
    refine .cs z h ?_ ?_ <;> intro h
    ·refine .g (.qn z (.ret ?_))
     cases h
     exact ⟨z,aa (vs:=[_]) () (rt z rn) z (s.tk [0])⟩
    refine .skip ?_
    cases h
    exact ⟨z,sb z,s.tk [0]⟩
   intro x E W hJ
   rcases y4 with o5 | o6
   ·have h:=dl h
    obtain ⟨rfl,hE,s⟩:=hJ
    refine ⟨_,hE.sub,?_⟩
    refine .region (.q z (.q z (.nil ?_)))
    cases h
    exact ⟨z,sb z,s.tk [0]⟩
   have h:=dm h
   obtain ⟨rfl,hF⟩:=hJ
   refine ⟨_,λ_ _ h=>h,?_⟩
   cases h
   exact ⟨by simp,z,hF⟩
  refine .exit ?_
  cases h
  exact ⟨by simp,z,sb z,s.tk [0]⟩
 intro x E W hJ
 rcases y1 with o7 | o8
 ·have h:=dl h
  obtain ⟨rfl,hF⟩:=hJ
  refine ⟨_,λ_ _ h=>h,?_⟩
  cases h
  exact hF
 have h:=dm h
 obtain ⟨rfl,hE,s⟩:=hJ
 refine ⟨_,hE.sub,?_⟩
 cases h
 exact .g (.qn z (.ret (aa () (rt z rn) z (s.tk [0]))))
theorem nh (k:Nat):ie (eR k):=by
  induction k with
  | zero=>exact by intro a0 a1 a2 a3 v_0 g_3 S w r h q_0 hO hlt; exact no h
  | succ k ih=>exact qg (k:=k) ih
theorem pI {k:Nat}:ie (eR k):=(nh k)
theorem ms {k:Nat} {a0:List ae} {a1:Int} {v_0:Hd} {w:World} {r:Bool} (h:eS k a0 a1=some r) (q_0:RO w v_0 80 8 aj a0):CL 60 #[sv v_0,vi a1] w (RU w (.bool r)):=by
 unfold eS at h
 refine au func60 z z ?_
 have s:=Sep.start w
 refine .g (.qn z (.g (.c (.alloc t3 s ?_))))
 intro g1 W s
 refine .c (.st t3 s z z z ?_)
 intro W s
 refine .nil (.g (.q z (.q z (bv h λy1 hy1 h=>.c (.cS (L0:=[.box g1 3 [vi 0]]) s func93 (λS h1 h2 h3=>(pI hy1 (s.ks q_0 h1) h2 (zz h1))) z z ?_)))))
 rintro ⟨⟩ W s
 cases h
 exact .qn z (.ret (aa () (rt z rn) z (s.to [])))
def qh (w:World) (r:Bool):Env->World->Prop:=Fin Tryz.prog Tryz.f83 No w (λs:Unit=>.bool r) (λs=>[]) .ret
theorem pJ {a0:List Int} {v_0:Hd} {w:World} {r:Bool} (h:gP a0=some r) (q_0:RO w v_0 3 1 (D.int .i64) a0):CL 83 #[sv v_0] w (RU w (.bool r)):=by
 unfold gP at h
 refine au func83 z z ?_
 have s:=Sep.start w
 refine .g (.qn z (.seq (.g (.q z (.s (aE (s.keep q_0) u23 z z) z (.qn z (.block (bv h λy1 hy1 h=>?_))))))))
 refine .via (.iter (λs1 E' W'=>ak E' [(0,(sv v_0)),(5,(sv v_0)),(6,vi (a0.length:Int)),(7,vi s1)]/\Sep No w W' []) (λy2 x E' W'=>(match y2 with | .inl o1=>x=.ret/\qh w o1 E' W' | .inr o2=>x=.exit 0/\ak E' [(0,(sv v_0))]/\Sep No w W' [])) hy1 ⟨sb rfl,s.to [] rfl⟩ ?_) ?_
 ·intro s1 y3 E W h hI
  obtain ⟨hE,s⟩:=hI
  refine CW.sub hE ?_
  unfold gy at h
  refine .g (.qn z (.seq ?_))
  refine .cs z h ?_ ?_ <;> intro h
  ·refine .skip (.seq (.block (.g (bv h λx1 hx1 h=>.s (ixv (s.keep q_0) hx1 u23 t3 z z z) z (.s (lde (RV.flat (s.keep q_0) hx1 z) t3 z z z z z) z (.qn z (.g (.q z (.q z (.q z (.cu 3 16 ((decide (x1<1))||(decide (x1>4))) s ?_ ?_)))))))))))
   ·refine .both (decide (x1<1)) (λb=>?_) (λb=>?_)
    ·exact .xx b z (.xx b z (.s (pkt b z z z) z (.nil (ck 3 s z (jr b)))))
    have hg1:=b
    exact .g hg1 (.q z (.g hg1 (.q z (.s (pkf hg1 z z z) z (.nil (ck 3 s z (iR hg1)))))))
   intro W s
   refine .nil ?_
   refine .cs z h ?_ ?_ <;> intro h
   ·refine .g (.qn z (.ret ?_))
    cases h
    exact ⟨by simp,z,aa (vs:=[_]) () (rt z rn) z (s.to [])⟩
   refine .skip (.region (.q z (.q z (.nil ?_))))
   cases h
   exact ⟨z,sb z,s.to []⟩
  refine .exit ?_
  cases h
  exact ⟨by simp,z,sb z,s.to []⟩
 intro x E W hJ
 rcases y1 with o3 | o4
 ·have h:=dl h
  obtain ⟨rfl,hF⟩:=hJ
  refine ⟨_,λ_ _ h=>h,?_⟩
  cases h
  exact hF
 have h:=dm h
 obtain ⟨rfl,hE,s⟩:=hJ
 refine ⟨_,hE.sub,?_⟩
 cases h
 exact .g (.q z (.s (aE (s.keep q_0) u23 z z) z (.q z (.qn z (.ret (aa () (rt z rn) z (s.to [])))))))
def oE (w:World) (r:Bool):Env->World->Prop:=Fin Tryz.prog Tryz.f52 No w (λs:Unit=>.bool r) (λs=>[]) .ret
theorem nZ {k:Nat} {a0:aA} {ba:Hd} {a6:Hd} {w:World} {r:Bool} (h:ff k a0=some r) (eg:RO w ba 3 1 (D.int .i64) a0.Rooms) (aH:RO w a6 36 1 (λ(l:List ae)=>D.row 80 8 (l.map aj)) a0.Tasks):CL 52 #[.agg #[sv ba,sv a6]] w (RU w (.bool r)):=by
 unfold ff at h
 refine au func52 z z ?_
 have s:=Sep.start w
 refine .g (.c (.box s z z ?_))
 intro g1 W s
 refine .qn z (.seq (.g (.s (fa f26_0 z z z) z (.s (ld t23 s z z z z z) z (bv h λy1 hy1 h=>.c (.cO s func83 (pJ hy1 (s.keep eg)) z z ?_))))))
 intro W s
 refine .q z (.q z (.cu 5 14 ((!y1)||(decide ((a0.Tasks.length:Int)<1))) s ?_ ?_))
 ·refine .both (!y1) (λb=>?_) (λb=>?_)
  ·exact .xx b z (.xx b z (.xx b z (.xx b z (.s (pkt b z z z) z (.nil (ck 5 s z (jr b)))))))
  have hg1:=b
  exact .g hg1 (.s (fa f26_1 z z z) z (.g hg1 (.s (ld t24 s z z z z z) z (.g hg1 (.s (aE (s.keep aH) u24 z z) z (.g hg1 (.q z (.s (pkf hg1 z z z) z (.nil (ck 5 s z (iR hg1)))))))))))
 intro W s
 refine .q z (.cu 5 20 (((!y1)||(decide ((a0.Tasks.length:Int)<1)))||(decide ((a0.Tasks.length:Int)>3))) s ?_ ?_)
 ·refine .both ((!y1)||(decide ((a0.Tasks.length:Int)<1))) (λb=>?_) (λb=>?_)
  ·exact .xx b z (.xx b z (.xx b z (.xx b z (.s (pkt b z z z) z (.nil (ck 5 s z (jr b)))))))
  have hg2:=b
  exact .g hg2 (.s (fa f26_1 z z z) z (.g hg2 (.s (ld t24 s z z z z z) z (.g hg2 (.s (aE (s.keep aH) u24 z z) z (.g hg2 (.q z (.s (pkf hg2 z z z) z (.nil (ck 5 s z (iR hg2)))))))))))
 intro W s
 refine .nil ?_
 refine .cs z h ?_ ?_ <;> intro h
 ·obtain rfl:=o9 h
  exact .g (.qn z (.ret (aa () (rt z rn) z (s.to []))))
 refine .skip (.seq (.g (.s (fa f26_1 z z z) z (.s (ld t24 s z z z z z) z (.s (aE (s.keep aH) u24 z z) z (.qn z (.block (bv h λy2 hy2 h=>?_))))))))
 refine .via (.iter (λs1 E' W'=>ak E' [(1,Pt g1),(22,(sv a6)),(23,vi (a0.Tasks.length:Int)),(24,vi s1)]/\Sep No w W' [.box g1 26 [sv ba,sv a6]]) (λy3 x E' W'=>(match y3 with | .inl o1=>x=.ret/\oE w o1 E' W' | .inr o2=>x=.exit 0/\ak E' []/\Sep No w W' [.box g1 26 [sv ba,sv a6]])) hy2 ⟨sb rfl,s.tk [0]⟩ ?_) ?_
 ·intro s1 y4 E W h hI
  obtain ⟨hE,s⟩:=hI
  refine CW.sub hE ?_
  unfold fd at h
  refine .g (.qn z (.seq ?_))
  refine .cs z h ?_ ?_ <;> intro h
  ·refine .skip (.seq (.block (.g (bv h λx1 hx1 h=>?_))))
   obtain ⟨k1,hd,hck1⟩:=RV.el2 aH hx1
   obtain ⟨v1,k1,rfl,q1,hd1⟩:=cw aH hd
   obtain rfl:=kT aH hd1
   refine .s (ixv (s.keep aH) hx1 u24 t36 z z z) z (.s (lde (hck1 _ s.agree) t36 z z z z z) z (.qn z (.g (.q z (.s (fa f26_0 z z z) z (.s (ld t23 s z z z z z) z (.s (aE (s.keep eg) u23 z z) z (bv h λy5 hy5 h=>.c (.cO s func60 (ms hy5 (s.keep (q1 _ aH))) z z ?_)))))))))
   intro W s
   refine .q z (.nil ?_)
   refine .cs z h ?_ ?_ <;> intro h
   ·refine .g (.qn z (.ret ?_))
    cases h
    exact ⟨by simp,z,aa (vs:=[_]) () (rt z rn) z (s.to [])⟩
   refine .skip (.region (.q z (.q z (.nil ?_))))
   cases h
   exact ⟨z,sb z,s.tk [0]⟩
  refine .exit ?_
  cases h
  exact ⟨by simp,z,sb z,s.tk [0]⟩
 intro x E W hJ
 rcases y2 with o3 | o4
 ·have h:=dl h
  obtain ⟨rfl,hF⟩:=hJ
  refine ⟨_,λ_ _ h=>h,?_⟩
  cases h
  exact hF
 have h:=dm h
 obtain ⟨rfl,hE,s⟩:=hJ
 refine ⟨_,hE.sub,?_⟩
 obtain rfl:=o9 h
 exact .g (.qn z (.ret (aa () (rt z rn) z (s.to []))))
theorem ni {k:Nat} {a0:aA} {ba:Hd} {a6:Hd} {w:World} {r:(List (List ab))×Bool} (h:cK k a0=some r) (eg:RO w ba 3 1 (D.int .i64) a0.Rooms) (aH:RO w a6 36 1 (λ(l:List ae)=>D.row 80 8 (l.map aj)) a0.Tasks):CL 24 #[.agg #[sv ba,sv a6]] w (Ret No w (λs:Hd=>.tuple #[sv s,.bool r.2]) (λs=>[ac (sv s) 33 1 (λ(l:List ab)=>D.row 62 5 (l.map ah)) r.1])):=by
 unfold cK at h
 refine au func24 z z ?_
 have s:=Sep.start w
 refine .g (.c (.box s z z ?_))
 intro g1 W s
 refine .q z (.qn z (.seq (.g (.s (ld t26 s z z z z z) z (bv h λy1 hy1 h=>.c (.cO s func52 (nZ hy1 (s.keep eg) (s.keep aH)) z z ?_))))))
 intro W s
 refine .q z (.nil ?_)
 refine .cs z h ?_ ?_ <;> intro h
 ·refine .g (.q z (.qn z (.ret ?_)))
  have s:=s.nilv 33 1 (λ(l:List ab)=>D.row 62 5 (l.map ah))
  cases h
  exact aa (vs:=[_,_]) aF (rt z (rt z rn)) z (s.tk [0])
 refine .skip (.g (.qn z (.seq (.g (.s (fa f26_1 z z z) z (.s (ld t24 s z z z z z) z (.s (aE (s.keep aH) u24 z z) z (.qn z (.block ?_)))))))))
 have s:=s.nilv 33 1 (λ(l:List ab)=>D.row 62 5 (l.map ah))
 refine bv h λy2 hy2 h=>?_
 refine .via (.iter (λs1 E' W'=>∃ (v3:Hd),ak E' [(4,(sv v3)),(11,(sv a6)),(12,vi (a0.Tasks.length:Int)),(13,vi s1.2)]/\Sep No w W' [.box g1 26 [sv ba,sv a6],ac (sv v3) 33 1 (λ(l:List ab)=>D.row 62 5 (l.map ah)) s1.1]) (λy3 x E' W'=>x=.exit 0/\∃ (v4:Hd),ak E' [(4,(sv v4))]/\Sep No w W' [.box g1 26 [sv ba,sv a6],ac (sv v4) 33 1 (λ(l:List ab)=>D.row 62 5 (l.map ah)) y3]) hy2 ⟨aF,sb z,s.tk [1,0]⟩ ?_) ?_
 ·intro s1 y4 E W h hI
  obtain ⟨v2,hE,s⟩:=hI
  refine CW.sub hE ?_
  unfold dM at h
  refine .g (.qn z (.seq ?_))
  refine .cs z h ?_ ?_ <;> intro h
  ·refine .skip (.seq (.block (.g (bv h λx1 hx1 h=>?_))))
   obtain ⟨k1,hd,hck1⟩:=RV.el2 aH hx1
   obtain ⟨v5,k1,rfl,q5,hd1⟩:=cw aH hd
   obtain rfl:=kT aH hd1
   refine .s (ixv (s.keep aH) hx1 u24 t36 z z z) z (.s (lde (hck1 _ s.agree) t36 z z z z z) z (.qn z (.region (.q z (.q z (bv h λy5 hy5 h=>.c (.cV s func30 (jp hy5 (s.keep (q5 _ aH))) z z ?_)))))))
   intro v6 W s
   refine .c (.lg (L1:=[ac (sv v6) 62 5 ah y5]) [y5] (λ(l:List ab)=>D.row 62 5 (l.map ah)) u29 t33 (s.to [0,0,0]) z z z (.row (.nil)) ?_ z (λ_=>z))
   intro v7 W s
   refine bv h λr1 hr1 h=>.c (.appv hr1 (s.to [2,0,0]) u29 t33 z z z ?_)
   intro v8 W s
   refine .qn z (.region (.q z (.q z (.nil ?_))))
   cases h
   exact ⟨z,v8,sb z,s.tk [1,0]⟩
  refine .exit ?_
  cases h
  exact ⟨by simp,z,v2,sb z,s.tk [0,0]⟩
 intro x E W hJ
 obtain ⟨rfl,v9,hE,s⟩:=hJ
 refine ⟨_,hE.sub,?_⟩
 cases h
 exact .g (.q z (.q z (.qn z (.ret (aa (vs:=[_,_]) v9 (rt z (rt z rn)) z (s.tk [1]))))))
theorem pg {a0:Bool} {w:World} {r:Int} (h:la a0=some r):CL 157 #[.bool a0] w (RU w (.int .i64 r)):=by
 unfold la at h
 refine au func157 z z ?_
 have s:=Sep.start w
 refine .g (.qn z (.seq (.g (.q z (.nil ?_)))))
 refine .cs z h ?_ ?_ <;> intro h
 ·cases h
  exact .g (.qn z (.ret (aa () (rt z rn) z (s.to []))))
 cases h
 exact .skip (.g (.qn z (.ret (aa () (rt z rn) z (s.to [])))))
theorem kH {a0:Int} {w:World} {r:Int} (h:gU a0=some r):CL 158 #[vi a0] w (RU w (.int .i64 r)):=by
 unfold gU at h
 refine au func158 z z ?_
 have s:=Sep.start w
 cases h
 exact .g (.qn z (.g (.q z (.s (cv u3 u21 z z) z (.s (cv u21 u3 z z) z (.qn z (.ret (aa () (rt z rn) z (s.to [])))))))))
end

end Go.Proofs.YtmjebmhcbnkojaaGreat.N
