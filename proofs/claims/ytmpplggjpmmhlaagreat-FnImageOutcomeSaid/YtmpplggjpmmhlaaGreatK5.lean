/- Printed by a program of mine: that the program's functions compute it. -/
import Derived.Test.YtmpplggjpmmhlaaGreatK4
set_option linter.unusedVariables false
set_option linter.unusedSimpArgs false
set_option maxRecDepth 100000
set_option maxHeartbeats 4000000
namespace Go.Proofs.YtmpplggjpmmhlaaGreat.N
open Go.Proofs.YtmpplggjpmmhlaaGreat.X
theorem z.{u} {α : Sort u} {a : α} : a = a := rfl
theorem zz {A S T : Nat → Prop} (h : ∀ b, S b → A b ∧ T b) : ∀ b, S b → T b := fun b hb => (h b hb).2
end Go.Proofs.YtmpplggjpmmhlaaGreat.N
namespace Go.Proofs.YtmpplggjpmmhlaaGreat.X
theorem CW.g {P : Program} {n id : Nat} {ops : Array Oper} {d : Code} {E : Env} {W : World} {R : Exit → Env → World → Prop} (h : RG P n ops ops.toList E W (fun E' W' => CW P n d E' W' R)) : CW P n (.seq (.region id ops false) d) E W R := .seq (.region h)
theorem RG.qn {P : Program} {n : Nat} {ops : Array Oper} {o : Oper} {E : Env} {W : World} {v : Value} {K : Env → World → Prop} (h : pq n E o = some v) (k : K (put E o.dst v) W) : RG P n ops [o] E W K := .q h (.nil k)
end Go.Proofs.YtmpplggjpmmhlaaGreat.X
namespace Go.Proofs.YtmpplggjpmmhlaaGreat.N
open Go.Proofs.YtmpplggjpmmhlaaGreat.X
theorem ff5 {a0 : List Int} {v_0 : Hd} {w : World} {r : L6Rd} (h : f8u a0 = some r) (q_0 : RV w (Old No w) (sv v_0) 5 1 (D.int .u8) a0) : Calls Tryz.prog 9 #[(sv v_0)] w (Ret No w (fun s : Nat × {x : Hd // ∀ (T : Nat → Prop),RV w T (sv v_0) 5 1 (D.int .u8) a0 → RV w T (sv x) 5 1 (D.int .u8) r.b}=>.pointer (some ⟨s.1,0,none⟩)) (fun s=>[.box s.1 55 [(sv s.2.1),.int .i64 r.p]])):=by
 unfold f8u at h
 refine enter Tryz.func9 z z ?_
 have hS:=Sep.start w
 refine .g (.q z (.nil ?_))
 have ⟨y1,hy1,h⟩:=bnd h
 refine .seq (CW.via (R':=fun x E' W'=>x = .normal ∧ ∃ (v1 : Hd),(∀ (T : Nat → Prop),RV w T (sv v_0) 5 1 (D.int .u8) a0 → RV w T (sv v1) 5 1 (D.int .u8) y1) ∧ SubL E' [(0,(sv v1))] ∧ Sep No w W' []) ?_ ?_)
 ·have h:=hy1
  refine .g (.q z (.s (lenv (hS.keep q_0) T.u22 z z) z (.q z (.nil ?_))))
  refine .cs z h ?_ ?_ <;> intro h
  ·refine .region (.q z ?_)
   have ⟨r1,hr1,h⟩:=bnd h
   refine .s (slv hr1 q_0 T.u22 T.t5 z z z z) z (.q z (.nil ?_))
   obtain rfl:=Option.some.inj h
   exact ⟨z,(cutH v_0 (Int.toNat 0) 1 r1.length),fun _ q_0=>(slv_rd hr1 q_0),sb z,hS.to [] z⟩
  refine .skip ?_
  obtain rfl:=Option.some.inj h
  exact ⟨z,v_0,fun _ q_0=>q_0,sb z,hS.to [] z⟩
 intro x E W hJ
 obtain ⟨rfl,v2,q2,hE,hS⟩:=hJ
 refine ⟨_,hE.sub,?_⟩
 refine .g (.q z (.s (bs T.s55 z z) z (.c (.box hS z z ?_ z z))))
 intro g1 W hS
 cases h
 exact .qn z (.ret (fin_ret (vs:=[_]) (g1,⟨v2,fun _ q_0=>(q2 _ q_0)⟩) (rt z rn) z (hS.to [0] z)))
theorem f00 {a0 : L6Rd} {a1 : Int} {v_0_b : Hd} {g_0 : Nat} {S : Nat → Prop} {w : World} {r : Int × Int} (h : f01 a0 a1 = some r) (q_0_b : RV w (Old S w) (sv v_0_b) 5 1 (D.int .u8) a0.b) (hO : Owns w [.box g_0 55 [(sv v_0_b),.int .i64 a0.p]] S) (hlt : ∀ b,S b → b < w.heap.size) : Calls Tryz.prog 11 #[.pointer (some ⟨g_0,0,none⟩),.int .i64 a1] w (Ret S w (fun s : Unit=>.int .i64 r.1) (fun s=>[.box g_0 55 [(sv v_0_b),.int .i64 r.2]])):=by
 unfold f01 at h
 refine enter Tryz.func11 z z ?_
 have hS:=Sep.startM hO hlt
 refine .g (.qn z (.g (.q z (.q z (.q z (.s (fa T.f55_1 z z z) z (.s (ld T.t3 hS z z z z z) z (.q z (.q z (.s (fa T.f55_1 z z z) z (.c (.st T.t3 hS z z z ?_ z z z z z))))))))))))
 intro W hS
 refine .nil (.seq (.g (.q z (.q z (.q z (.chunk 7 24 ((decide (a1 < 1)) || ((a0.b.length : Int) == 0)) hS ?_ ?_))))))
 ·refine .both (decide (a1 < 1)) (fun hb=>?_) (fun hb=>?_)
  ·exact .xx hb z (.xx hb z (.xx hb z (.xx hb z (.xx hb z (.xx hb z (.s (pkt hb z z z) z (.nil (ck 7 hS z (or_t hb) z z))))))))
  have hg1:=hb
  exact .g hg1 (.q z (.g hg1 (.q z (.g hg1 (.s (fa T.f55_0 z z z) z (.g hg1 (.s (ld T.t22 hS z z z z z) z (.g hg1 (.s (lenv (hS.keep q_0_b) T.u22 z z) z (.g hg1 (.q z (.s (pkf hg1 z z z) z (.nil (ck 7 hS z (or_f hg1) z z)))) z)) z)) z)) z)) z)) z
 intro W hS
 refine .nil ?_
 refine .cs z h ?_ ?_ <;> intro h
 ·cases h
  exact .g (.qn z (.ret (fin_ret (vs:=[_]) () (rt z rn) z (hS.to [0] z))))
 refine .skip (.g (.q z (.q z (.s (fa T.f55_1 z z z) z (.s (ld T.t3 hS z z z z z) z (.q z (.qn z (.seq (.g (.q z (.q z (.q z (.s (fa T.f55_0 z z z) z (.s (ld T.t22 hS z z z z z) z (.s (lenv (hS.keep q_0_b) T.u22 z z) z (.q z (.nil ?_)))))))))))))))))
 refine .cs z h ?_ ?_ <;> intro h
 ·refine .g (.q z (.q z (.s (fa T.f55_0 z z z) z (.s (ld T.t22 hS z z z z z) z (.q z ?_)))))
  have ⟨x1,hx1,h⟩:=bnd h
  refine .s (ixv (hS.keep q_0_b) hx1 T.u22 T.t5 z z z) z (.s (lde (RV.flat (hS.keep q_0_b) hx1 z) T.t5 z z z z z) z (.s (cv T.u5 T.u3 z z) z (.q z ?_)))
  have ⟨d1,hd1,h⟩:=bnd h
  cases h
  exact .s (dr hd1 z z z) z (.qn z (.ret (fin_ret (vs:=[_]) () (rt z rn) z (hS.to [0] z))))
 refine .skip (.seq (.rk 46 hS [0] T.mix ?_))
 intro W hS
 have hT:=hS.to [0] z
 refine .tp 0 z z hT (by kernel_rfl) (.tp 1 z z hT (by kernel_rfl) (.ts 2 z (fun W hT=>fa T.f55_0 z z z) hT z (by kernel_rfl) (.ts 3 z (fun W hT=>ld T.t22 hT z z z z z) hT z (by kernel_rfl) (.tp 4 z z hT (by kernel_rfl) (.tp 5 z z hT (by kernel_rfl) (.tp 6 z z hT (by kernel_rfl) (.ts 7 z (fun W hT=>fa T.f55_0 z z z) hT z (by kernel_rfl) (.ts 8 z (fun W hT=>ld T.t22 hT z z z z z) hT z (by kernel_rfl) (.ts 9 z (fun W hT=>lenv (hS.keep q_0_b) T.u22 z z) hT z (by kernel_rfl) ?_)))))))))
 have ⟨d2,hd2,h⟩:=bnd h
 refine .ts 10 z (fun W hT=>dr hd2 z z z) hT z (by kernel_rfl) ?_
 have ⟨x2,hx2,h⟩:=bnd h
 refine .ts 11 z (fun W hT=>ixv (hS.keep q_0_b) hx2 T.u22 T.t5 z z z) hT z (by kernel_rfl) (.ts 12 z (fun W hT=>lde (RV.flat (hT.keep q_0_b) hx2 z) T.t5 z z z z z) hT z (by kernel_rfl) (.ts 13 z (fun W hT=>cv T.u5 T.u3 z z) hT z (by kernel_rfl) (.tp 14 z z hT (by kernel_rfl) (.tp 15 z z hT (by kernel_rfl) (.tp 16 z z hT (by kernel_rfl) (.ts 17 z (fun W hT=>fa T.f55_0 z z z) hT z (by kernel_rfl) (.ts 18 z (fun W hT=>ld T.t22 hT z z z z z) hT z (by kernel_rfl) (.tp 19 z z hT (by kernel_rfl) (.tp 20 z z hT (by kernel_rfl) (.tp 21 z z hT (by kernel_rfl) (.tp 22 z z hT (by kernel_rfl) (.tp 23 z z hT (by kernel_rfl) (.ts 24 z (fun W hT=>fa T.f55_0 z z z) hT z (by kernel_rfl) (.ts 25 z (fun W hT=>ld T.t22 hT z z z z z) hT z (by kernel_rfl) (.ts 26 z (fun W hT=>lenv (hS.keep q_0_b) T.u22 z z) hT z (by kernel_rfl) ?_)))))))))))))))
 have ⟨d3,hd3,h⟩:=bnd h
 refine .ts 27 z (fun W hT=>dr hd3 z z z) hT z (by kernel_rfl) ?_
 have ⟨x3,hx3,h⟩:=bnd h
 refine .ts 28 z (fun W hT=>ixv (hS.keep q_0_b) hx3 T.u22 T.t5 z z z) hT z (by kernel_rfl) (.ts 29 z (fun W hT=>lde (RV.flat (hT.keep q_0_b) hx3 z) T.t5 z z z z z) hT z (by kernel_rfl) (.ts 30 z (fun W hT=>cv T.u5 T.u3 z z) hT z (by kernel_rfl) (.tp 31 z z hT (by kernel_rfl) (.tp 32 z z hT (by kernel_rfl) (.tp 33 z z hT (by kernel_rfl) (.tp 34 z z hT (by kernel_rfl) (.tp 35 z z hT (by kernel_rfl) (.tp 36 z z hT (by kernel_rfl) (.tp 37 z z hT (by kernel_rfl) (.tp 38 z z hT (by kernel_rfl) (.ts 39 z (fun W hT=>fa T.f55_0 z z z) hT z (by kernel_rfl) (.ts 40 z (fun W hT=>ld T.t22 hT z z z z z) hT z (by kernel_rfl) (.ts 41 z (fun W hT=>lenv (hS.keep q_0_b) T.u22 z z) hT z (by kernel_rfl) ?_)))))))))))))
 have ⟨d4,hd4,h⟩:=bnd h
 refine .ts 42 z (fun W hT=>dq hd4 z z z) hT z (by kernel_rfl) (.tp 43 z z hT (by kernel_rfl) (.tp 44 z z hT (by kernel_rfl) (.tp 45 z z hT (by kernel_rfl) (.done (.g (.q z (.q z (.q z (.q z (.qn z (.g (.q z (.q z ?_))))))))) (by kernel_rfl)))))
 have ⟨d5,hd5,h⟩:=bnd h
 cases h
 exact .s (dr hd5 z z z) z (.qn z (.ret (fin_ret (vs:=[_]) () (rt z rn) z (hS.to [0] z))))
theorem f1n {a0 : L6Rd} {v_0_b : Hd} {g_0 : Nat} {S : Nat → Prop} {w : World} {r : Int × Int} (h : f1g a0 = some r) (q_0_b : RV w (Old S w) (sv v_0_b) 5 1 (D.int .u8) a0.b) (hO : Owns w [.box g_0 55 [(sv v_0_b),.int .i64 a0.p]] S) (hlt : ∀ b,S b → b < w.heap.size) : Calls Tryz.prog 108 #[.pointer (some ⟨g_0,0,none⟩)] w (Ret S w (fun s : Unit=>.int .i64 r.1) (fun s=>[.box g_0 55 [(sv v_0_b),.int .i64 r.2]])):=by
 unfold f1g at h
 refine enter Tryz.func108 z z ?_
 have hS:=Sep.startM hO hlt
 refine .g (.qn z (.g (.q z ?_)))
 have ⟨y1,hy1,h⟩:=bnd h
 refine .c (.callS2 (L0:=[.box g_0 55 [(sv v_0_b),.int .i64 a0.p]]) hS Tryz.func11 (fun S h1 h2 h3=>(f00 hy1 (hS.keepS q_0_b h1) h2 (zz h1))) z z ?_ z z z z)
 rintro ⟨⟩ W hS
 cases h
 exact .qn z (.ret (fin_ret (vs:=[_]) () (rt z rn) z (hS.to [0] z)))
theorem f12 {a0 : Int} {w : World} {r : Int} (h : f0m a0 = some r) : Calls Tryz.prog 45 #[.int .i64 a0] w (Ret No w (fun s : Unit=>.int .i64 r) (fun s=>[])):=by
 unfold f0m at h
 refine enter Tryz.func45 z z ?_
 have hS:=Sep.start w
 refine .g (.qn z (.g (.q z (.q z (.qn z (.seq (.g (.q z (.q z (.nil ?_))))))))))
 refine .cs z h ?_ ?_ <;> intro h
 ·cases h
  exact .g (.q z (.q z (.qn z (.ret (fin_ret (vs:=[_]) () (rt z rn) z (hS.to [] z))))))
 refine .skip (.seq (.g (.q z (.q z (.nil ?_)))))
 refine .cs z h ?_ ?_ <;> intro h
 ·cases h
  exact .g (.q z (.q z (.qn z (.ret (fin_ret (vs:=[_]) () (rt z rn) z (hS.to [] z))))))
 cases h
 exact .skip (.g (.q z (.qn z (.ret (fin_ret (vs:=[_]) () (rt z rn) z (hS.to [] z))))))
theorem fe1 {a0 : L6Rd} {v_0_b : Hd} {g_0 : Nat} {S : Nat → Prop} {w : World} {r : Int × Int} (h : f85 a0 = some r) (q_0_b : RV w (Old S w) (sv v_0_b) 5 1 (D.int .u8) a0.b) (hO : Owns w [.box g_0 55 [(sv v_0_b),.int .i64 a0.p]] S) (hlt : ∀ b,S b → b < w.heap.size) : Calls Tryz.prog 109 #[.pointer (some ⟨g_0,0,none⟩)] w (Ret S w (fun s : Unit=>.int .i64 r.1) (fun s=>[.box g_0 55 [(sv v_0_b),.int .i64 r.2]])):=by
 unfold f85 at h
 refine enter Tryz.func109 z z ?_
 have hS:=Sep.startM hO hlt
 refine .g (.qn z (.seq (.g (.q z ?_))))
 have ⟨y1,hy1,h⟩:=bnd h
 refine .c (.callS2 (L0:=[.box g_0 55 [(sv v_0_b),.int .i64 a0.p]]) hS Tryz.func11 (fun S h1 h2 h3=>(f00 hy1 (hS.keepS q_0_b h1) h2 (zz h1))) z z ?_ z z z z)
 rintro ⟨⟩ W hS
 refine .nil (.block (.g (.q z (.qn z (.cond z (fun hb=>?_) (fun hb=>?_))))))
 ·have h:=sel_t hb h
  refine .g (.c (.liv [(-2147483648),2147483647,(-1),0,1,(-2147483647),65536,(-65536)] (D.int .i64) T.u23 T.t3 hS z z z z ?_ z (fun _=>z) z z z z))
  intro v1 W hS
  refine .q z ?_
  have ⟨y2,hy2,h⟩:=bnd h
  have hS:=hS.p1
  refine .c (.callS2 (L0:=[.box g_0 55 [(sv v_0_b),.int .i64 y1.2]]) hS Tryz.func11 (fun S h1 h2 h3=>(f00 hy2 (hS.keepS q_0_b h1) h2 (zz h1))) z z ?_ z z z z)
  rintro ⟨⟩ W hS
  have ⟨x1,hx1,h⟩:=bnd h
  cases h
  exact .s (ixv hS.p1.lendv hx1 T.u23 T.t3 z z z) z (.s (lde (RV.flat hS.p1.lendv hx1 z) T.t3 z z z z z) z (.qn z (.ret (fin_ret (vs:=[_]) () (rt z rn) z (hS.to [0] z)))))
 have h:=sel_f hb h
 refine .g (.q z (.qn z (.cond z (fun hb=>?_) (fun hb=>?_))))
 ·have h:=sel_t hb h
  refine .g (.q z ?_)
  have ⟨y3,hy3,h⟩:=bnd h
  refine .c (.callS2 (L0:=[.box g_0 55 [(sv v_0_b),.int .i64 y1.2]]) hS Tryz.func11 (fun S h1 h2 h3=>(f00 hy3 (hS.keepS q_0_b h1) h2 (zz h1))) z z ?_ z z z z)
  rintro ⟨⟩ W hS
  refine .q z (.q z ?_)
  have ⟨y4,hy4,h⟩:=bnd h
  refine .c (.callS2 (L0:=[.box g_0 55 [(sv v_0_b),.int .i64 y3.2]]) hS Tryz.func11 (fun S h1 h2 h3=>(f00 hy4 (hS.keepS q_0_b h1) h2 (zz h1))) z z ?_ z z z z)
  rintro ⟨⟩ W hS
  refine .q z (.q z (.q z ?_))
  have ⟨y5,hy5,h⟩:=bnd h
  refine .c (.callS2 (L0:=[.box g_0 55 [(sv v_0_b),.int .i64 y4.2]]) hS Tryz.func11 (fun S h1 h2 h3=>(f00 hy5 (hS.keepS q_0_b h1) h2 (zz h1))) z z ?_ z z z z)
  rintro ⟨⟩ W hS
  refine .q z (.q z ?_)
  have ⟨y6,hy6,h⟩:=bnd h
  refine .c (.callS2 (L0:=[.box g_0 55 [(sv v_0_b),.int .i64 y5.2]]) hS Tryz.func11 (fun S h1 h2 h3=>(f00 hy6 (hS.keepS q_0_b h1) h2 (zz h1))) z z ?_ z z z z)
  rintro ⟨⟩ W hS
  refine .q z (.q z ?_)
  have ⟨y7,hy7,h⟩:=bnd h
  refine .c (.call0 hS Tryz.func45 (f12 hy7) z z ?_ z z z z)
  intro W hS
  cases h
  exact .qn z (.ret (fin_ret (vs:=[_]) () (rt z rn) z (hS.to [0] z)))
 have h:=sel_f hb h
 refine .g (.q z (.qn z (.cond z (fun hb=>?_) (fun hb=>?_))))
 ·have h:=sel_t hb h
  refine .g (.q z ?_)
  have ⟨y8,hy8,h⟩:=bnd h
  refine .c (.callS2 (L0:=[.box g_0 55 [(sv v_0_b),.int .i64 y1.2]]) hS Tryz.func11 (fun S h1 h2 h3=>(f00 hy8 (hS.keepS q_0_b h1) h2 (zz h1))) z z ?_ z z z z)
  rintro ⟨⟩ W hS
  cases h
  exact .q z (.qn z (.ret (fin_ret (vs:=[_]) () (rt z rn) z (hS.to [0] z))))
 have h:=sel_f hb h
 refine .skip (.g (.q z ?_))
 have ⟨y9,hy9,h⟩:=bnd h
 refine .c (.callS2 (L0:=[.box g_0 55 [(sv v_0_b),.int .i64 y1.2]]) hS Tryz.func11 (fun S h1 h2 h3=>(f00 hy9 (hS.keepS q_0_b h1) h2 (zz h1))) z z ?_ z z z z)
 rintro ⟨⟩ W hS
 cases h
 exact .qn z (.ret (fin_ret (vs:=[_]) () (rt z rn) z (hS.to [0] z)))
theorem fc3 {a0 : L6Rd} {v_0_b : Hd} {g_0 : Nat} {S : Nat → Prop} {w : World} {r : Int × Int} (h : f8g a0 = some r) (q_0_b : RV w (Old S w) (sv v_0_b) 5 1 (D.int .u8) a0.b) (hO : Owns w [.box g_0 55 [(sv v_0_b),.int .i64 a0.p]] S) (hlt : ∀ b,S b → b < w.heap.size) : Calls Tryz.prog 110 #[.pointer (some ⟨g_0,0,none⟩)] w (Ret S w (fun s : Unit=>.int .i64 r.1) (fun s=>[.box g_0 55 [(sv v_0_b),.int .i64 r.2]])):=by
 unfold f8g at h
 refine enter Tryz.func110 z z ?_
 have hS:=Sep.startM hO hlt
 refine .g (.qn z (.g (.q z ?_)))
 have ⟨y1,hy1,h⟩:=bnd h
 refine .c (.callS2 (L0:=[.box g_0 55 [(sv v_0_b),.int .i64 a0.p]]) hS Tryz.func11 (fun S h1 h2 h3=>(f00 hy1 (hS.keepS q_0_b h1) h2 (zz h1))) z z ?_ z z z z)
 rintro ⟨⟩ W hS
 cases h
 exact .q z (.qn z (.ret (fin_ret (vs:=[_]) () (rt z rn) z (hS.to [0] z))))
theorem fe4 {a0 : L6Rd} {a1 : Int} {v_0_b : Hd} {g_0 : Nat} {S : Nat → Prop} {w : World} {r : Quad × Int} (h : f7u a0 a1 = some r) (q_0_b : RV w (Old S w) (sv v_0_b) 5 1 (D.int .u8) a0.b) (hO : Owns w [.box g_0 55 [(sv v_0_b),.int .i64 a0.p]] S) (hlt : ∀ b,S b → b < w.heap.size) : Calls Tryz.prog 87 #[.pointer (some ⟨g_0,0,none⟩),.int .i64 a1] w (Ret S w (fun s : Unit=>.agg #[.int .i64 r.1.Op,.int .i64 r.1.Dst,.int .i64 r.1.A,.int .i64 r.1.B,.int .i64 r.1.N]) (fun s=>[.box g_0 55 [(sv v_0_b),.int .i64 r.2]])):=by
 unfold f7u at h
 refine enter Tryz.func87 z z ?_
 have hS:=Sep.startM hO hlt
 refine .g (.c (.alloc T.t82 hS ?_ z z z))
 intro g1 W hS
 refine .nil (.seq (.g (.q z ?_)))
 have ⟨y1,hy1,h⟩:=bnd h
 have hS:=hS.p1
 refine .c (.callS2 (L0:=[.box g_0 55 [(sv v_0_b),.int .i64 a0.p]]) hS Tryz.func11 (fun S h1 h2 h3=>(f00 hy1 (hS.keepS q_0_b h1) h2 (zz h1))) z z ?_ z z z z)
 rintro ⟨⟩ W hS
 refine .nil (.block ?_)
 have ⟨y2,hy2,h⟩:=bnd h
 refine .seq (CW.via (R':=fun x E' W'=>x = .normal ∧ SubL E' [(0,.pointer (some ⟨g_0,0,none⟩)),(1,.int .i64 a1),(4,.pointer (some ⟨g1,0,none⟩)),(13,.int .i64 y1.1),(14,.bool y2)] ∧ Sep S w W' [.box g_0 55 [(sv v_0_b),.int .i64 y1.2],.box g1 82 [.int .i64 0,.int .i64 0,.int .i64 0,.int .i64 0,.int .i64 0]]) ?_ ?_)
 ·have h:=hy2
  refine .g (.q z (.q z (.nil ?_)))
  refine .cs z h ?_ ?_ <;> intro h
  ·refine .skip ?_
   cases h
   exact ⟨z,sb z,hS.to [0,0] z⟩
  refine .region (.q z (.q z (.nil ?_)))
  cases h
  exact ⟨z,sb z,hS.to [0,0] z⟩
 intro x E W hJ
 obtain ⟨rfl,hE,hS⟩:=hJ
 refine ⟨_,hE.sub,?_⟩
 refine .cond z (fun hb=>?_) (fun hb=>?_)
 ·have h:=sel_t hb h
  refine .g (.q z ?_)
  have ⟨y3,hy3,h⟩:=bnd h
  refine .c (.callS2 (L0:=[.box g_0 55 [(sv v_0_b),.int .i64 y1.2]]) hS Tryz.func108 (fun S h1 h2 h3=>(f1n hy3 (hS.keepS q_0_b h1) h2 (zz h1))) z z ?_ z z z z)
  rintro ⟨⟩ W hS
  refine .q z ?_
  have ⟨y4,hy4,h⟩:=bnd h
  refine .c (.callS2 (L0:=[.box g_0 55 [(sv v_0_b),.int .i64 y3.2]]) hS Tryz.func109 (fun S h1 h2 h3=>(fe1 hy4 (hS.keepS q_0_b h1) h2 (zz h1))) z z ?_ z z z z)
  rintro ⟨⟩ W hS
  refine .c (.liv [0,1,2,y4.1] (D.int .i64) T.u23 T.t3 hS z z z z ?_ z (fun _=>z) z z z z)
  intro v1 W hS
  refine .q z ?_
  have ⟨y5,hy5,h⟩:=bnd h
  have hS:=hS.p1
  refine .c (.callS2 (L0:=[.box g_0 55 [(sv v_0_b),.int .i64 y4.2]]) hS Tryz.func11 (fun S h1 h2 h3=>(f00 hy5 (hS.keepS q_0_b h1) h2 (zz h1))) z z ?_ z z z z)
  rintro ⟨⟩ W hS
  have ⟨x1,hx1,h⟩:=bnd h
  refine .s (ixv hS.p1.lendv hx1 T.u23 T.t3 z z z) z (.s (lde (RV.flat hS.p1.lendv hx1 z) T.t3 z z z z z) z (.s (bs T.s82 z z) z (.c (.st T.t82 hS.p2 z z z ?_ z z z z z))))
  intro W hS
  cases h
  exact .nil (.ret (fin_ret (vs:=[_]) () (rc hS T.t82 z rn z z) z (hS.to [1] z)))
 have h:=sel_f hb h
 have ⟨y6,hy6,h⟩:=bnd h
 refine .seq (CW.via (R':=fun x E' W'=>x = .normal ∧ SubL E' [(0,.pointer (some ⟨g_0,0,none⟩)),(1,.int .i64 a1),(4,.pointer (some ⟨g1,0,none⟩)),(13,.int .i64 y1.1),(27,.bool y6)] ∧ Sep S w W' [.box g_0 55 [(sv v_0_b),.int .i64 y1.2],.box g1 82 [.int .i64 0,.int .i64 0,.int .i64 0,.int .i64 0,.int .i64 0]]) ?_ ?_)
 ·have h:=hy6
  refine .g (.q z (.q z (.nil ?_)))
  refine .cs z h ?_ ?_ <;> intro h
  ·refine .skip ?_
   cases h
   exact ⟨z,sb z,hS.to [0,0] z⟩
  refine .region (.q z (.q z (.nil ?_)))
  cases h
  exact ⟨z,sb z,hS.to [0,0] z⟩
 intro x E W hJ
 obtain ⟨rfl,hE,hS⟩:=hJ
 refine ⟨_,hE.sub,?_⟩
 refine .cond z (fun hb=>?_) (fun hb=>?_)
 ·have h:=sel_t hb h
  refine .g (.q z ?_)
  have ⟨y7,hy7,h⟩:=bnd h
  refine .c (.callS2 (L0:=[.box g_0 55 [(sv v_0_b),.int .i64 y1.2]]) hS Tryz.func108 (fun S h1 h2 h3=>(f1n hy7 (hS.keepS q_0_b h1) h2 (zz h1))) z z ?_ z z z z)
  rintro ⟨⟩ W hS
  refine .qn z (.g (.q z (.q z ?_)))
  have ⟨y8,hy8,h⟩:=bnd h
  refine .c (.callS2 (L0:=[.box g_0 55 [(sv v_0_b),.int .i64 y7.2]]) hS Tryz.func108 (fun S h1 h2 h3=>(f1n hy8 (hS.keepS q_0_b h1) h2 (zz h1))) z z ?_ z z z z)
  rintro ⟨⟩ W hS
  refine .s (bs T.s82 z z) z (.c (.st T.t82 hS.p1 z z z ?_ z z z z z))
  intro W hS
  cases h
  exact .nil (.ret (fin_ret (vs:=[_]) () (rc hS T.t82 z rn z z) z (hS.to [1] z)))
 have h:=sel_f hb h
 have ⟨y9,hy9,h⟩:=bnd h
 refine .seq (CW.via (R':=fun x E' W'=>x = .normal ∧ SubL E' [(0,.pointer (some ⟨g_0,0,none⟩)),(1,.int .i64 a1),(4,.pointer (some ⟨g1,0,none⟩)),(13,.int .i64 y1.1),(36,.bool y9)] ∧ Sep S w W' [.box g_0 55 [(sv v_0_b),.int .i64 y1.2],.box g1 82 [.int .i64 0,.int .i64 0,.int .i64 0,.int .i64 0,.int .i64 0]]) ?_ ?_)
 ·have h:=hy9
  refine .g (.q z (.q z (.nil ?_)))
  refine .cs z h ?_ ?_ <;> intro h
  ·refine .skip ?_
   cases h
   exact ⟨z,sb z,hS.to [0,0] z⟩
  refine .g (.q z (.q z (.nil ?_)))
  refine .cs z h ?_ ?_ <;> intro h
  ·refine .skip ?_
   cases h
   exact ⟨z,sb z,hS.to [0,0] z⟩
  refine .region (.q z (.q z (.nil ?_)))
  cases h
  exact ⟨z,sb z,hS.to [0,0] z⟩
 intro x E W hJ
 obtain ⟨rfl,hE,hS⟩:=hJ
 refine ⟨_,hE.sub,?_⟩
 refine .cond z (fun hb=>?_) (fun hb=>?_)
 ·have h:=sel_t hb h
  refine .g (.q z ?_)
  have ⟨y10,hy10,h⟩:=bnd h
  refine .c (.callS2 (L0:=[.box g_0 55 [(sv v_0_b),.int .i64 y1.2]]) hS Tryz.func108 (fun S h1 h2 h3=>(f1n hy10 (hS.keepS q_0_b h1) h2 (zz h1))) z z ?_ z z z z)
  rintro ⟨⟩ W hS
  refine .qn z (.g (.q z ?_))
  have ⟨y11,hy11,h⟩:=bnd h
  refine .c (.callS2 (L0:=[.box g_0 55 [(sv v_0_b),.int .i64 y10.2]]) hS Tryz.func108 (fun S h1 h2 h3=>(f1n hy11 (hS.keepS q_0_b h1) h2 (zz h1))) z z ?_ z z z z)
  rintro ⟨⟩ W hS
  refine .qn z (.g (.q z ?_))
  have ⟨y12,hy12,h⟩:=bnd h
  refine .c (.callS2 (L0:=[.box g_0 55 [(sv v_0_b),.int .i64 y11.2]]) hS Tryz.func108 (fun S h1 h2 h3=>(f1n hy12 (hS.keepS q_0_b h1) h2 (zz h1))) z z ?_ z z z z)
  rintro ⟨⟩ W hS
  refine .qn z (.g (.q z (.q z (.q z (.q z ?_)))))
  have ⟨y13,hy13,h⟩:=bnd h
  refine .c (.callS2 (L0:=[.box g_0 55 [(sv v_0_b),.int .i64 y12.2]]) hS Tryz.func110 (fun S h1 h2 h3=>(fc3 hy13 (hS.keepS q_0_b h1) h2 (zz h1))) z z ?_ z z z z)
  rintro ⟨⟩ W hS
  refine .s (bs T.s82 z z) z (.c (.st T.t82 hS.p1 z z z ?_ z z z z z))
  intro W hS
  cases h
  exact .nil (.ret (fin_ret (vs:=[_]) () (rc hS T.t82 z rn z z) z (hS.to [1] z)))
 have h:=sel_f hb h
 refine .g (.q z (.qn z (.cond z (fun hb=>?_) (fun hb=>?_))))
 ·have h:=sel_t hb h
  refine .g (.q z (.q z ?_))
  have ⟨y14,hy14,h⟩:=bnd h
  refine .c (.callS2 (L0:=[.box g_0 55 [(sv v_0_b),.int .i64 y1.2]]) hS Tryz.func11 (fun S h1 h2 h3=>(f00 hy14 (hS.keepS q_0_b h1) h2 (zz h1))) z z ?_ z z z z)
  rintro ⟨⟩ W hS
  refine .s (bs T.s82 z z) z (.c (.st T.t82 hS.p1 z z z ?_ z z z z z))
  intro W hS
  cases h
  exact .nil (.ret (fin_ret (vs:=[_]) () (rc hS T.t82 z rn z z) z (hS.to [1] z)))
 have h:=sel_f hb h
 refine .g (.q z (.qn z (.cond z (fun hb=>?_) (fun hb=>?_))))
 ·have h:=sel_t hb h
  refine .g (.q z ?_)
  have ⟨y15,hy15,h⟩:=bnd h
  refine .c (.callS2 (L0:=[.box g_0 55 [(sv v_0_b),.int .i64 y1.2]]) hS Tryz.func108 (fun S h1 h2 h3=>(f1n hy15 (hS.keepS q_0_b h1) h2 (zz h1))) z z ?_ z z z z)
  rintro ⟨⟩ W hS
  refine .qn z (.g (.q z (.q z (.q z ?_))))
  have ⟨y16,hy16,h⟩:=bnd h
  refine .c (.callS2 (L0:=[.box g_0 55 [(sv v_0_b),.int .i64 y15.2]]) hS Tryz.func11 (fun S h1 h2 h3=>(f00 hy16 (hS.keepS q_0_b h1) h2 (zz h1))) z z ?_ z z z z)
  rintro ⟨⟩ W hS
  refine .s (bs T.s82 z z) z (.c (.st T.t82 hS.p1 z z z ?_ z z z z z))
  intro W hS
  cases h
  exact .nil (.ret (fin_ret (vs:=[_]) () (rc hS T.t82 z rn z z) z (hS.to [1] z)))
 have h:=sel_f hb h
 refine .g (.q z (.qn z (.cond z (fun hb=>?_) (fun hb=>?_))))
 ·have h:=sel_t hb h
  refine .g (.q z ?_)
  have ⟨y17,hy17,h⟩:=bnd h
  refine .c (.callS2 (L0:=[.box g_0 55 [(sv v_0_b),.int .i64 y1.2]]) hS Tryz.func108 (fun S h1 h2 h3=>(f1n hy17 (hS.keepS q_0_b h1) h2 (zz h1))) z z ?_ z z z z)
  rintro ⟨⟩ W hS
  refine .qn z (.g (.q z (.q z ?_)))
  have ⟨y18,hy18,h⟩:=bnd h
  refine .c (.callS2 (L0:=[.box g_0 55 [(sv v_0_b),.int .i64 y17.2]]) hS Tryz.func11 (fun S h1 h2 h3=>(f00 hy18 (hS.keepS q_0_b h1) h2 (zz h1))) z z ?_ z z z z)
  rintro ⟨⟩ W hS
  refine .s (bs T.s82 z z) z (.c (.st T.t82 hS.p1 z z z ?_ z z z z z))
  intro W hS
  cases h
  exact .nil (.ret (fin_ret (vs:=[_]) () (rc hS T.t82 z rn z z) z (hS.to [1] z)))
 have h:=sel_f hb h
 refine .g (.q z (.qn z (.cond z (fun hb=>?_) (fun hb=>?_))))
 ·have h:=sel_t hb h
  refine .g (.q z ?_)
  have ⟨y19,hy19,h⟩:=bnd h
  refine .c (.callS2 (L0:=[.box g_0 55 [(sv v_0_b),.int .i64 y1.2]]) hS Tryz.func108 (fun S h1 h2 h3=>(f1n hy19 (hS.keepS q_0_b h1) h2 (zz h1))) z z ?_ z z z z)
  rintro ⟨⟩ W hS
  refine .qn z (.g (.q z (.q z ?_)))
  have ⟨y20,hy20,h⟩:=bnd h
  refine .c (.callS2 (L0:=[.box g_0 55 [(sv v_0_b),.int .i64 y19.2]]) hS Tryz.func11 (fun S h1 h2 h3=>(f00 hy20 (hS.keepS q_0_b h1) h2 (zz h1))) z z ?_ z z z z)
  rintro ⟨⟩ W hS
  refine .s (bs T.s82 z z) z (.c (.st T.t82 hS.p1 z z z ?_ z z z z z))
  intro W hS
  cases h
  exact .nil (.ret (fin_ret (vs:=[_]) () (rc hS T.t82 z rn z z) z (hS.to [1] z)))
 have h:=sel_f hb h
 refine .skip (.seq (.g (.q z ?_)))
 have ⟨y21,hy21,h⟩:=bnd h
 refine .c (.callS2 (L0:=[.box g_0 55 [(sv v_0_b),.int .i64 y1.2]]) hS Tryz.func11 (fun S h1 h2 h3=>(f00 hy21 (hS.keepS q_0_b h1) h2 (zz h1))) z z ?_ z z z z)
 rintro ⟨⟩ W hS
 refine .qn z (.cond z (fun hb=>?_) (fun hb=>?_))
 ·have h:=sel_t hb h
  refine .g (.s (bs T.s82 z z) z (.c (.st T.t82 hS.p1 z z z ?_ z z z z z)))
  intro W hS
  cases h
  exact .nil (.ret (fin_ret (vs:=[_]) () (rc hS T.t82 z rn z z) z (hS.to [1] z)))
 have h:=sel_f hb h
 refine .skip (.g (.q z ?_))
 have ⟨y22,hy22,h⟩:=bnd h
 refine .c (.callS2 (L0:=[.box g_0 55 [(sv v_0_b),.int .i64 y21.2]]) hS Tryz.func108 (fun S h1 h2 h3=>(f1n hy22 (hS.keepS q_0_b h1) h2 (zz h1))) z z ?_ z z z z)
 rintro ⟨⟩ W hS
 refine .s (bs T.s82 z z) z (.c (.st T.t82 hS.p1 z z z ?_ z z z z z))
 intro W hS
 cases h
 exact .nil (.ret (fin_ret (vs:=[_]) () (rc hS T.t82 z rn z z) z (hS.to [1] z)))
theorem faq {a0 : L6Rd} {v_0_b : Hd} {g_0 : Nat} {S : Nat → Prop} {w : World} {r : (List Quad) × Int} (h : f4a a0 = some r) (q_0_b : RV w (Old S w) (sv v_0_b) 5 1 (D.int .u8) a0.b) (hO : Owns w [.box g_0 55 [(sv v_0_b),.int .i64 a0.p]] S) (hlt : ∀ b,S b → b < w.heap.size) : Calls Tryz.prog 57 #[.pointer (some ⟨g_0,0,none⟩)] w (Ret S w (fun s : Hd=>(sv s)) (fun s=>[.box g_0 55 [(sv v_0_b),.int .i64 r.2],rowV (sv s) 82 5 dQuad r.1])):=by
 unfold f4a at h
 refine enter Tryz.func57 z z ?_
 have hS:=Sep.startM hO hlt
 refine .g (.qn z (.g (.q z ?_)))
 have ⟨y1,hy1,h⟩:=bnd h
 refine .c (.callS2 (L0:=[.box g_0 55 [(sv v_0_b),.int .i64 a0.p]]) hS Tryz.func11 (fun S h1 h2 h3=>(f00 hy1 (hS.keepS q_0_b h1) h2 (zz h1))) z z ?_ z z z z)
 rintro ⟨⟩ W hS
 refine .q z (.qn z (.g (.c (.liv [] dQuad T.u70 T.t82 hS z z z z ?_ z (fun _=>z) z z z z))))
 intro v1 W hS
 refine .qn z (.seq (.g (.qn z (.block ?_))))
 have ⟨y2,hy2,h⟩:=bnd h
 refine .via (.iter (fun s1 E' W'=>∃ (v4 : Hd),SubL E' [(0,.pointer (some ⟨g_0,0,none⟩)),(3,.int .i64 (w64 (1 + y1.1))),(4,(sv v4)),(5,.int .i64 s1.2.1)] ∧ Sep S w W' [.box g_0 55 [(sv v_0_b),.int .i64 s1.2.2],rowV (sv v4) 82 5 dQuad s1.1]) (fun y3 x E' W'=>x = .exit 0 ∧ ∃ (v5 : Hd),SubL E' [(0,.pointer (some ⟨g_0,0,none⟩)),(3,.int .i64 (w64 (1 + y1.1))),(4,(sv v5))] ∧ Sep S w W' [.box g_0 55 [(sv v_0_b),.int .i64 y3.2],rowV (sv v5) 82 5 dQuad y3.1]) hy2 ⟨v1,sb z,hS.to [1,0] z⟩ ?_) ?_
 ·intro s1 y4 E W h hI
  obtain ⟨v3,hE,hS⟩:=hI
  refine CW.sub hE ?_
  unfold f8n at h
  refine .seq (.g (.q z (.q z (.q z (.qn z (.cond z (fun hb=>?_) (fun hb=>?_)))))))
  ·have h:=sel_t hb h
   refine .skip (.seq (.block (.region (.q z (.q z (.q z ?_))))))
   have ⟨y5,hy5,h⟩:=bnd h
   refine .c (.callS2 (L0:=[.box g_0 55 [(sv v_0_b),.int .i64 s1.2.2]]) hS Tryz.func87 (fun S h1 h2 h3=>(fe4 hy5 (hS.keepS q_0_b h1) h2 (zz h1))) z z ?_ z z z z)
   rintro ⟨⟩ W hS
   refine .c (.liv [y5.1] dQuad T.u70 T.t82 hS z z z z ?_ z (fun _=>z) z z z z)
   intro v6 W hS
   have ⟨r1,hr1,h⟩:=bnd h
   have hT0:=hS.p2
   refine .c (.apprv hr1 hT0 hT0.p1.lendv (fun _=>z) T.u70 T.t82 z z z ?_ z z z z z)
   intro v7 W hS
   refine .qn z (.region (.q z (.q z (.q z (.nil ?_)))))
   cases h
   exact ⟨z,v7,sb z,hS.to [2,0] z⟩
  have h:=sel_f hb h
  refine .exit ?_
  cases h
  exact ⟨by simp,z,v3,sb z,hS.to [0,0] z⟩
 intro x E W hJ
 obtain ⟨rfl,v8,hE,hS⟩:=hJ
 refine ⟨_,hE.sub,?_⟩
 refine .seq (.g (.q z ?_))
 have ⟨y6,hy6,h⟩:=bnd h
 refine .c (.callS2 (L0:=[.box g_0 55 [(sv v_0_b),.int .i64 y2.2]]) hS Tryz.func11 (fun S h1 h2 h3=>(f00 hy6 (hS.keepS q_0_b h1) h2 (zz h1))) z z ?_ z z z z)
 rintro ⟨⟩ W hS
 refine .qn z (.cond z (fun hb=>?_) (fun hb=>?_))
 ·have h:=sel_t hb h
  refine .g (.q z (.q z (.q z ?_)))
  have ⟨y7,hy7,h⟩:=bnd h
  refine .c (.callS2 (L0:=[.box g_0 55 [(sv v_0_b),.int .i64 y6.2]]) hS Tryz.func11 (fun S h1 h2 h3=>(f00 hy7 (hS.keepS q_0_b h1) h2 (zz h1))) z z ?_ z z z z)
  rintro ⟨⟩ W hS
  refine .s (bs T.s82 z z) z (.c (.liv [(Quad.mk 4 0 0 0 y7.1)] dQuad T.u70 T.t82 hS z z z z ?_ z (fun _=>z) z z z z))
  intro v9 W hS
  have ⟨r2,hr2,h⟩:=bnd h
  have hT0:=hS.p2
  refine .c (.apprv hr2 hT0 hT0.p1.lendv (fun _=>z) T.u70 T.t82 z z z ?_ z z z z z)
  intro v10 W hS
  cases h
  exact .qn z (.ret (fin_ret (vs:=[_]) v10 (rt z rn) z (hS.to [2,0] z)))
 have h:=sel_f hb h
 refine .skip (.g (.q z (.s (bs T.s82 z z) z (.c (.liv [(Quad.mk 10 0 0 0 0)] dQuad T.u70 T.t82 hS z z z z ?_ z (fun _=>z) z z z z)))))
 intro v11 W hS
 have ⟨r3,hr3,h⟩:=bnd h
 have hT0:=hS.p2
 refine .c (.apprv hr3 hT0 hT0.p1.lendv (fun _=>z) T.u70 T.t82 z z z ?_ z z z z z)
 intro v12 W hS
 cases h
 exact .qn z (.ret (fin_ret (vs:=[_]) v12 (rt z rn) z (hS.to [2,0] z)))
def f7f (F : List Stmt → Option (Int)) : Prop:=∀ {a0 : List Stmt} {v_0 : Hd} {w : World} {r : Int} (h : F a0 = some r) (q_0 : RV w (Old No w) (sv v_0) 131 8 dStmt a0) , Calls Tryz.prog 91 #[(sv v_0)] w (Ret No w (fun s : Unit=>.int .i64 r) (fun s=>[]))
theorem fe9 {k : Nat} {f2j : List Stmt → Option (Int)} (faz : f7f f2j) : f7f (f2n k f2j):=by
 intro a0 v_0 w r h q_0
 unfold f2n at h
 refine enter Tryz.func91 z z ?_
 have hS:=Sep.start w
 refine .g (.qn z (.g (.qn z (.seq (.g (.qn z (.block ?_)))))))
 have ⟨y1,hy1,h⟩:=bnd h
 refine .via (.iter (fun s1 E' W'=>SubL E' [(0,(sv v_0)),(3,.int .i64 s1.1),(4,.int .i64 s1.2)] ∧ Sep No w W' []) (fun y2 x E' W'=>x = .exit 0 ∧ SubL E' [(3,.int .i64 y2)] ∧ Sep No w W' []) hy1 ⟨sb z,hS.to [] z⟩ ?_) ?_
 ·intro s1 y3 E W h hI
  obtain ⟨hE,hS⟩:=hI
  refine CW.sub hE ?_
  unfold f6c at h
  refine .seq (.g (.q z (.q z (.s (lenv (hS.keep q_0) T.u94 z z) z (.q z (.nil ?_))))))
  refine .cs z h ?_ ?_ <;> intro h
  ·refine .skip (.seq (.block (.rk 17 hS [] T.mix ?_)))
   intro W hS
   have hT:=hS.to [] z
   refine .tp 0 z z hT (by kernel_rfl) (.tp 1 z z hT (by kernel_rfl) (.tp 2 z z hT (by kernel_rfl) (.tp 3 z z hT (by kernel_rfl) ?_)))
   have ⟨x1,hx1,h⟩:=bnd h
   obtain ⟨k1,hd,hck1⟩:=RV.el2 q_0 hx1
   have hd1:=raggE (eStmt _) hd
   obtain ⟨k1,rfl,hd2⟩:=rflat q_0 z hd1
   obtain ⟨k1,rfl,hd3⟩:=rflat q_0 z hd2
   obtain ⟨k1,rfl,hd4⟩:=rflat q_0 z hd3
   have hd5:=raggE (eExpr _) hd4
   obtain ⟨k1,rfl,hd6⟩:=rflat q_0 z hd5
   obtain ⟨k1,rfl,hd7⟩:=rflat q_0 z hd6
   obtain ⟨v1,k1,rfl,q1,hd8⟩:=rrowv q_0 hd7
   obtain ⟨v2,k1,rfl,q2,hd9⟩:=rrowv q_0 hd8
   obtain ⟨v3,k1,rfl,q3,hd10⟩:=rrowv q_0 hd9
   obtain rfl:=rnil q_0 hd10
   refine .ts 4 z (fun W hT=>ixv (hS.keep q_0) hx1 T.u94 T.t131 z z z) hT z (by kernel_rfl) (.ts 5 z (fun W hT=>fe T.f131_4 z z z) hT z (by kernel_rfl) (.ts 6 z (fun W hT=>lde (hck1 _ hT.agree) T.t94 z z z z z) hT z (by kernel_rfl) (.tp 9 z z hT (by kernel_rfl) (.tp 10 z z hT (by kernel_rfl) ?_))))
   have ⟨x2,hx2,h⟩:=bnd h
   obtain ⟨k2,hd,hck2⟩:=RV.el2 q_0 hx2
   have hd1:=raggE (eStmt _) hd
   obtain ⟨k2,rfl,hd2⟩:=rflat q_0 z hd1
   obtain ⟨k2,rfl,hd3⟩:=rflat q_0 z hd2
   obtain ⟨k2,rfl,hd4⟩:=rflat q_0 z hd3
   have hd5:=raggE (eExpr _) hd4
   obtain ⟨k2,rfl,hd6⟩:=rflat q_0 z hd5
   obtain ⟨k2,rfl,hd7⟩:=rflat q_0 z hd6
   obtain ⟨v4,k2,rfl,q4,hd8⟩:=rrowv q_0 hd7
   obtain ⟨v5,k2,rfl,q5,hd9⟩:=rrowv q_0 hd8
   obtain ⟨v6,k2,rfl,q6,hd10⟩:=rrowv q_0 hd9
   obtain rfl:=rnil q_0 hd10
   refine .ts 11 z (fun W hT=>ixv (hS.keep q_0) hx2 T.u94 T.t131 z z z) hT z (by kernel_rfl) (.ts 12 z (fun W hT=>fe T.f131_5 z z z) hT z (by kernel_rfl) (.ts 13 z (fun W hT=>lde (hck2 _ hT.agree) T.t94 z z z z z) hT z (by kernel_rfl) ?_))
   have ⟨y4,hy4,h⟩:=bnd h
   refine .by1 7 z (.call0 hS Tryz.func91 (faz hy4 (hS.keep (q2 _ q_0))) z z ?_ z z z z) (by kernel_rfl)
   intro W hS
   have hT:=hS.to [] z
   refine ⟨fun _=>hT,.tp 8 z z hT (by kernel_rfl) ?_⟩
   have ⟨y5,hy5,h⟩:=bnd h
   refine .by1 14 z (.call0 hS Tryz.func91 (faz hy5 (hS.keep (q6 _ q_0))) z z ?_ z z z z) (by kernel_rfl)
   intro W hS
   have hT:=hS.to [] z
   refine ⟨fun _=>hT,.tp 15 z z hT (by kernel_rfl) (.tp 16 z z hT (by kernel_rfl) (.done (.region (.q z (.q z (.q z (.nil ?_))))) (by kernel_rfl)))⟩
   cases h
   exact ⟨z,sb z,hS.to [] z⟩
  refine .exit ?_
  cases h
  exact ⟨by simp,z,sb z,hS.to [] z⟩
 intro x E W hJ
 obtain ⟨rfl,hE,hS⟩:=hJ
 refine ⟨_,hE.sub,?_⟩
 obtain rfl:=Option.some.inj h
 exact .g (.q z (.qn z (.ret (fin_ret (vs:=[_]) () (rt z rn) z (hS.to [] z)))))
theorem fbu (k : Nat) : f7f (f2d k):=by
  induction k with
  | zero=>exact by intro a0 v_0 w r h q_0; exact no h
  | succ k ih=>exact fe9 (k:=k) ih
theorem fb7 {k : Nat} : f7f (f2d k):=(fbu k)
theorem f06 {a0 : Int} {a1 : Int} {a2 : Int} {w : World} {r : Bool} (h : f02 a0 a1 a2 = some r) : Calls Tryz.prog 28 #[.int .i64 a0,.int .i64 a1,.int .i64 a2] w (Ret No w (fun s : Unit=>.bool r) (fun s=>[])):=by
 unfold f02 at h
 refine enter Tryz.func28 z z ?_
 have hS:=Sep.start w
 refine .g (.qn z (.g (.q z (.q z (.q z (.q z (.chunk 4 14 ((decide (a0 ≥ a1)) && (decide (a0 ≤ a2))) hS ?_ ?_)))))))
 ·refine .both (decide (a0 ≥ a1)) (fun hb=>?_) (fun hb=>?_)
  ·have hg1:=hb
   exact .g hg1 (.q z (.g hg1 (.q z (.g hg1 (.q z (.s (pkt hg1 z z z) z (.nil (ck 4 hS z (and_t hg1) z z)))) z)) z)) z
  exact .xx hb z (.xx hb z (.xx hb z (.s (pkf hb z z z) z (.nil (ck 4 hS z (and_f hb) z z)))))
 intro W hS
 cases h
 exact .qn z (.ret (fin_ret (vs:=[_]) () (rt z rn) z (hS.to [] z)))
theorem f46 {a0 : Stmt} {a1 : Bool} {v_0_Expr_Args : Hd} {v_0_Body : Hd} {v_0_Else : Hd} {w : World} {r : Bool} (h : f3b a0 a1 = some r) (q_0_Expr_Args : RV w (Old No w) (sv v_0_Expr_Args) 129 3 dExpr a0.Expr.Args) (q_0_Body : RV w (Old No w) (sv v_0_Body) 131 8 dStmt a0.Body) (q_0_Else : RV w (Old No w) (sv v_0_Else) 131 8 dStmt a0.Else) : Calls Tryz.prog 147 #[.agg #[.int .i64 a0.Kind,.int .i64 a0.Var,.int .i64 a0.Box,.int .i64 a0.Expr.Op,.int .i64 a0.Expr.N,(sv v_0_Expr_Args),(sv v_0_Body),(sv v_0_Else)],.bool a1] w (Ret No w (fun s : Unit=>.bool r) (fun s=>[])):=by
 unfold f3b at h
 refine enter Tryz.func147 z z ?_
 have hS:=Sep.start w
 refine .g (.c (.box hS z z ?_ z z))
 intro g1 W hS
 refine .qn z (.seq (.g (.q z (.nil ?_))))
 refine .cs z h ?_ ?_ <;> intro h
 ·refine .g (.s (fa T.f131_1 z z z) z (.s (ld T.t3 hS z z z z z) z ?_))
  have ⟨y1,hy1,h⟩:=bnd h
  refine .c (.call0 hS Tryz.func28 (f06 hy1) z z ?_ z z z z)
  intro W hS
  obtain rfl:=Option.some.inj h
  exact .qn z (.ret (fin_ret (vs:=[_]) () (rt z rn) z (hS.to [] z)))
 cases h
 exact .skip (.g (.s (fa T.f131_1 z z z) z (.s (ld T.t3 hS z z z z z) z (.q z (.qn z (.ret (fin_ret (vs:=[_]) () (rt z rn) z (hS.to [] z))))))))
theorem f4d {a0 : Stmt} {a1 : Bool} {v_0_Expr_Args : Hd} {v_0_Body : Hd} {v_0_Else : Hd} {w : World} {r : Bool} (h : f39 a0 a1 = some r) (q_0_Expr_Args : RV w (Old No w) (sv v_0_Expr_Args) 129 3 dExpr a0.Expr.Args) (q_0_Body : RV w (Old No w) (sv v_0_Body) 131 8 dStmt a0.Body) (q_0_Else : RV w (Old No w) (sv v_0_Else) 131 8 dStmt a0.Else) : Calls Tryz.prog 148 #[.agg #[.int .i64 a0.Kind,.int .i64 a0.Var,.int .i64 a0.Box,.int .i64 a0.Expr.Op,.int .i64 a0.Expr.N,(sv v_0_Expr_Args),(sv v_0_Body),(sv v_0_Else)],.bool a1] w (Ret No w (fun s : Unit=>.bool r) (fun s=>[])):=by
 unfold f39 at h
 refine enter Tryz.func148 z z ?_
 have hS:=Sep.start w
 refine .g (.c (.box hS z z ?_ z z))
 intro g1 W hS
 refine .qn z (.seq (.g (.q z (.nil ?_))))
 refine .cs z h ?_ ?_ <;> intro h
 ·refine .g (.s (fa T.f131_2 z z z) z (.s (ld T.t3 hS z z z z z) z ?_))
  have ⟨y1,hy1,h⟩:=bnd h
  refine .c (.call0 hS Tryz.func28 (f06 hy1) z z ?_ z z z z)
  intro W hS
  obtain rfl:=Option.some.inj h
  exact .qn z (.ret (fin_ret (vs:=[_]) () (rt z rn) z (hS.to [] z)))
 cases h
 exact .skip (.g (.s (fa T.f131_2 z z z) z (.s (ld T.t3 hS z z z z z) z (.q z (.qn z (.ret (fin_ret (vs:=[_]) () (rt z rn) z (hS.to [] z))))))))
theorem fa3 {a0 : Int} {w : World} {r : Bool} (h : f3i a0 = some r) : Calls Tryz.prog 121 #[.int .i64 a0] w (Ret No w (fun s : Unit=>.bool r) (fun s=>[])):=by
 unfold f3i at h
 refine enter Tryz.func121 z z ?_
 have hS:=Sep.start w
 refine .g (.qn z (.g (.q z ?_)))
 have ⟨y1,hy1,h⟩:=bnd h
 refine .c (.call0 hS Tryz.func28 (f06 hy1) z z ?_ z z z z)
 intro W hS
 obtain rfl:=Option.some.inj h
 exact .qn z (.ret (fin_ret (vs:=[_]) () (rt z rn) z (hS.to [] z)))
def faj (F : Expr → Int → Option (Bool)) : Prop:=∀ {a0 : Expr} {a1 : Int} {v_0_Args : Hd} {w : World} {r : Bool} (h : F a0 a1 = some r) (q_0_Args : RV w (Old No w) (sv v_0_Args) 129 3 dExpr a0.Args) , Calls Tryz.prog 163 #[.agg #[.int .i64 a0.Op,.int .i64 a0.N,(sv v_0_Args)],.int .i64 a1] w (Ret No w (fun s : Unit=>.bool r) (fun s=>[]))
theorem ffp {k : Nat} {f8y : Expr → Int → Option (Bool)} (fch : faj f8y) : faj (f8v k f8y):=by
 intro a0 a1 v_0_Args w r h q_0_Args
 unfold f8v at h
 refine enter Tryz.func163 z z ?_
 have hS:=Sep.start w
 refine .g (.c (.box hS z z ?_ z z))
 intro g1 W hS
 refine .qn z (.seq (.g (.q z (.q z (.nil ?_)))))
 refine .cs z h ?_ ?_ <;> intro h
 ·obtain rfl:=Option.some.inj h
  exact .g (.qn z (.ret (fin_ret (vs:=[_]) () (rt z rn) z (hS.to [] z))))
 refine .skip (.seq (.g (.s (fa T.f129_0 z z z) z (.s (ld T.t3 hS z z z z z) z (.q z (.nil ?_))))))
 refine .cs z h ?_ ?_ <;> intro h
 ·refine .g (.s (fa T.f129_1 z z z) z (.s (ld T.t3 hS z z z z z) z ?_))
  have ⟨y1,hy1,h⟩:=bnd h
  refine .c (.call0 hS Tryz.func28 (f06 hy1) z z ?_ z z z z)
  intro W hS
  refine .q z (.chunk 5 18 (y1 && ((a0.Args.length : Int) == 0)) hS ?_ ?_)
  ·refine .both (y1) (fun hb=>?_) (fun hb=>?_)
   ·have hg1:=hb
    exact .g hg1 (.s (fa T.f129_2 z z z) z (.g hg1 (.s (ld T.t127 hS z z z z z) z (.g hg1 (.s (lenv (hS.keep q_0_Args) T.u127 z z) z (.g hg1 (.q z (.s (pkt hg1 z z z) z (.nil (ck 5 hS z (and_t hg1) z z)))) z)) z)) z)) z
   exact .xx hb z (.xx hb z (.xx hb z (.xx hb z (.s (pkf hb z z z) z (.nil (ck 5 hS z (and_f hb) z z))))))
  intro W hS
  cases h
  exact .qn z (.ret (fin_ret (vs:=[_]) () (rt z rn) z (hS.to [] z)))
 refine .skip (.seq (.g (.s (fa T.f129_0 z z z) z (.s (ld T.t3 hS z z z z z) z (.q z (.nil ?_))))))
 refine .cs z h ?_ ?_ <;> intro h
 ·refine .g (.s (fa T.f129_1 z z z) z (.s (ld T.t3 hS z z z z z) z ?_))
  have ⟨y2,hy2,h⟩:=bnd h
  refine .c (.call0 hS Tryz.func28 (f06 hy2) z z ?_ z z z z)
  intro W hS
  refine .q z (.chunk 5 30 (y2 && ((a0.Args.length : Int) == 0)) hS ?_ ?_)
  ·refine .both (y2) (fun hb=>?_) (fun hb=>?_)
   ·have hg2:=hb
    exact .g hg2 (.s (fa T.f129_2 z z z) z (.g hg2 (.s (ld T.t127 hS z z z z z) z (.g hg2 (.s (lenv (hS.keep q_0_Args) T.u127 z z) z (.g hg2 (.q z (.s (pkt hg2 z z z) z (.nil (ck 5 hS z (and_t hg2) z z)))) z)) z)) z)) z
   exact .xx hb z (.xx hb z (.xx hb z (.xx hb z (.s (pkf hb z z z) z (.nil (ck 5 hS z (and_f hb) z z))))))
  intro W hS
  cases h
  exact .qn z (.ret (fin_ret (vs:=[_]) () (rt z rn) z (hS.to [] z)))
 refine .skip (.g (.s (fa T.f129_0 z z z) z (.s (ld T.t3 hS z z z z z) z ?_)))
 have ⟨y3,hy3,h⟩:=bnd h
 refine .c (.call0 hS Tryz.func121 (fa3 hy3) z z ?_ z z z z)
 intro W hS
 refine .q z (.chunk 4 38 (y3 && (a0.N == 0)) hS ?_ ?_)
 ·refine .both (y3) (fun hb=>?_) (fun hb=>?_)
  ·have hg3:=hb
   exact .g hg3 (.s (fa T.f129_1 z z z) z (.g hg3 (.s (ld T.t3 hS z z z z z) z (.g hg3 (.q z (.s (pkt hg3 z z z) z (.nil (ck 4 hS z (and_t hg3) z z)))) z)) z)) z
  exact .xx hb z (.xx hb z (.xx hb z (.s (pkf hb z z z) z (.nil (ck 4 hS z (and_f hb) z z)))))
 intro W hS
 refine .q z (.chunk 5 44 ((y3 && (a0.N == 0)) && ((a0.Args.length : Int) == 2)) hS ?_ ?_)
 ·refine .both (y3 && (a0.N == 0)) (fun hb=>?_) (fun hb=>?_)
  ·have hg4:=hb
   exact .g hg4 (.s (fa T.f129_2 z z z) z (.g hg4 (.s (ld T.t127 hS z z z z z) z (.g hg4 (.s (lenv (hS.keep q_0_Args) T.u127 z z) z (.g hg4 (.q z (.s (pkt hg4 z z z) z (.nil (ck 5 hS z (and_t hg4) z z)))) z)) z)) z)) z
  exact .xx hb z (.xx hb z (.xx hb z (.xx hb z (.s (pkf hb z z z) z (.nil (ck 5 hS z (and_f hb) z z))))))
 intro W hS
 refine .q z ?_
 have ⟨b1,hb1,h⟩:=bnd h
 refine .chunk 8 53 (b1) hS ?_ ?_
 ·refine .both ((y3 && (a0.N == 0)) && ((a0.Args.length : Int) == 2)) (fun hb=>?_) (fun hb=>?_)
  ·have hg5:=hb
   have h:=sel_t hb hb1
   refine .g hg5 (.s (fa T.f129_2 z z z) z (.g hg5 (.s (ld T.t127 hS z z z z z) z ?_) z)) z
   have ⟨x1,hx1,h⟩:=bnd h
   obtain ⟨k1,hd,hck1⟩:=RV.el2 q_0_Args hx1
   have hd1:=raggE (eExpr _) hd
   obtain ⟨k1,rfl,hd2⟩:=rflat q_0_Args z hd1
   obtain ⟨k1,rfl,hd3⟩:=rflat q_0_Args z hd2
   obtain ⟨v1,k1,rfl,q1,hd4⟩:=rrowv q_0_Args hd3
   obtain rfl:=rnil q_0_Args hd4
   refine .g hg5 (.s (ixv (hS.keep q_0_Args) hx1 T.u127 T.t129 z z z) z (.g hg5 (.s (lde (hck1 _ hS.agree) T.t129 z z z z z) z (.g hg5 (.q z (.g hg5 (.q z ?_) z)) z)) z)) z
   have ⟨y4,hy4,h⟩:=bnd h
   refine .g hg5 (.c (.call0 hS Tryz.func163 (fch hy4 (hS.keep (q1 _ q_0_Args))) z z ?_ z z z z)) z
   intro W hS
   refine .s (pkt hg5 z z z) z ?_
   cases h
   exact .nil (ck 8 hS z z z z)
  refine .xx hb z (.xx hb z (.xx hb z (.xx hb z (.xx hb z (.xx hb z (.xx hb z ?_))))))
  cases sel_f hb hb1
  exact .s (pkf hb z z z) z (.nil (ck 8 hS z z z z))
 intro W hS
 refine .q z ?_
 have ⟨b2,hb2,h⟩:=bnd h
 refine .chunk 8 62 (b2) hS ?_ ?_
 ·refine .both (b1) (fun hb=>?_) (fun hb=>?_)
  ·have hg6:=hb
   have h:=sel_t hb hb2
   refine .g hg6 (.s (fa T.f129_2 z z z) z (.g hg6 (.s (ld T.t127 hS z z z z z) z ?_) z)) z
   have ⟨x2,hx2,h⟩:=bnd h
   obtain ⟨k2,hd,hck2⟩:=RV.el2 q_0_Args hx2
   have hd1:=raggE (eExpr _) hd
   obtain ⟨k2,rfl,hd2⟩:=rflat q_0_Args z hd1
   obtain ⟨k2,rfl,hd3⟩:=rflat q_0_Args z hd2
   obtain ⟨v2,k2,rfl,q2,hd4⟩:=rrowv q_0_Args hd3
   obtain rfl:=rnil q_0_Args hd4
   refine .g hg6 (.s (ixv (hS.keep q_0_Args) hx2 T.u127 T.t129 z z z) z (.g hg6 (.s (lde (hck2 _ hS.agree) T.t129 z z z z z) z (.g hg6 (.q z (.g hg6 (.q z ?_) z)) z)) z)) z
   have ⟨y5,hy5,h⟩:=bnd h
   refine .g hg6 (.c (.call0 hS Tryz.func163 (fch hy5 (hS.keep (q2 _ q_0_Args))) z z ?_ z z z z)) z
   intro W hS
   refine .s (pkt hg6 z z z) z ?_
   cases h
   exact .nil (ck 8 hS z z z z)
  refine .xx hb z (.xx hb z (.xx hb z (.xx hb z (.xx hb z (.xx hb z (.xx hb z ?_))))))
  cases sel_f hb hb2
  exact .s (pkf hb z z z) z (.nil (ck 8 hS z z z z))
 intro W hS
 obtain rfl:=Option.some.inj h
 exact .qn z (.ret (fin_ret (vs:=[_]) () (rt z rn) z (hS.to [] z)))
theorem fdp (k : Nat) : faj (fal k):=by
  induction k with
  | zero=>exact by intro a0 a1 v_0_Args w r h q_0_Args; exact no h
  | succ k ih=>exact ffp (k:=k) ih
theorem ffl {k : Nat} : faj (fal k):=(fdp k)
theorem f5b {k : Nat} {a0 : Expr} {v_0_Args : Hd} {w : World} {r : Bool} (h : f1y k a0 = some r) (q_0_Args : RV w (Old No w) (sv v_0_Args) 129 3 dExpr a0.Args) : Calls Tryz.prog 149 #[.agg #[.int .i64 a0.Op,.int .i64 a0.N,(sv v_0_Args)]] w (Ret No w (fun s : Unit=>.bool r) (fun s=>[])):=by
 unfold f1y at h
 refine enter Tryz.func149 z z ?_
 have hS:=Sep.start w
 refine .g (.c (.box hS z z ?_ z z))
 intro g1 W hS
 refine .qn z (.g (.s (ld T.t129 hS z z z z z) z ?_))
 have ⟨y1,hy1,h⟩:=bnd h
 refine .c (.call0 hS Tryz.func163 (ffl hy1 (hS.keep q_0_Args)) z z ?_ z z z z)
 intro W hS
 obtain rfl:=Option.some.inj h
 exact .qn z (.ret (fin_ret (vs:=[_]) () (rt z rn) z (hS.to [] z)))
theorem faw {a0 : Expr} {v_0_Args : Hd} {w : World} {r : Bool} (h : f4q a0 = some r) (q_0_Args : RV w (Old No w) (sv v_0_Args) 129 3 dExpr a0.Args) : Calls Tryz.prog 162 #[.agg #[.int .i64 a0.Op,.int .i64 a0.N,(sv v_0_Args)]] w (Ret No w (fun s : Unit=>.bool r) (fun s=>[])):=by
 unfold f4q at h
 refine enter Tryz.func162 z z ?_
 have hS:=Sep.start w
 refine .g (.c (.box hS z z ?_ z z))
 intro g1 W hS
 refine .qn z (.g (.s (fa T.f129_0 z z z) z (.s (ld T.t3 hS z z z z z) z (.q z (.q z (.chunk 4 10 ((a0.Op == 0) && (a0.N == 0)) hS ?_ ?_))))))
 ·refine .both (a0.Op == 0) (fun hb=>?_) (fun hb=>?_)
  ·have hg1:=hb
   exact .g hg1 (.s (fa T.f129_1 z z z) z (.g hg1 (.s (ld T.t3 hS z z z z z) z (.g hg1 (.q z (.s (pkt hg1 z z z) z (.nil (ck 4 hS z (and_t hg1) z z)))) z)) z)) z
  exact .xx hb z (.xx hb z (.xx hb z (.s (pkf hb z z z) z (.nil (ck 4 hS z (and_f hb) z z)))))
 intro W hS
 refine .q z (.chunk 5 16 (((a0.Op == 0) && (a0.N == 0)) && ((a0.Args.length : Int) == 0)) hS ?_ ?_)
 ·refine .both ((a0.Op == 0) && (a0.N == 0)) (fun hb=>?_) (fun hb=>?_)
  ·have hg2:=hb
   exact .g hg2 (.s (fa T.f129_2 z z z) z (.g hg2 (.s (ld T.t127 hS z z z z z) z (.g hg2 (.s (lenv (hS.keep q_0_Args) T.u127 z z) z (.g hg2 (.q z (.s (pkt hg2 z z z) z (.nil (ck 5 hS z (and_t hg2) z z)))) z)) z)) z)) z
  exact .xx hb z (.xx hb z (.xx hb z (.xx hb z (.s (pkf hb z z z) z (.nil (ck 5 hS z (and_f hb) z z))))))
 intro W hS
 cases h
 exact .qn z (.ret (fin_ret (vs:=[_]) () (rt z rn) z (hS.to [] z)))
theorem fcm {k : Nat} {a0 : Stmt} {v_0_Expr_Args : Hd} {v_0_Body : Hd} {v_0_Else : Hd} {w : World} {r : Bool} (h : f49 k a0 = some r) (q_0_Expr_Args : RV w (Old No w) (sv v_0_Expr_Args) 129 3 dExpr a0.Expr.Args) (q_0_Body : RV w (Old No w) (sv v_0_Body) 131 8 dStmt a0.Body) (q_0_Else : RV w (Old No w) (sv v_0_Else) 131 8 dStmt a0.Else) : Calls Tryz.prog 146 #[.agg #[.int .i64 a0.Kind,.int .i64 a0.Var,.int .i64 a0.Box,.int .i64 a0.Expr.Op,.int .i64 a0.Expr.N,(sv v_0_Expr_Args),(sv v_0_Body),(sv v_0_Else)]] w (Ret No w (fun s : Unit=>.bool r) (fun s=>[])):=by
 unfold f49 at h
 refine enter Tryz.func146 z z ?_
 have hS:=Sep.start w
 refine .g (.c (.box hS z z ?_ z z))
 intro g1 W hS
 refine .qn z (.seq (.g (.s (fa T.f131_4 z z z) z (.s (ld T.t94 hS z z z z z) z (.s (lenv (hS.keep q_0_Body) T.u94 z z) z (.q z (.q z (.chunk 5 12 ((decide ((a0.Body.length : Int) > 0)) || (decide ((a0.Else.length : Int) > 0))) hS ?_ ?_))))))))
 ·refine .both (decide ((a0.Body.length : Int) > 0)) (fun hb=>?_) (fun hb=>?_)
  ·exact .xx hb z (.xx hb z (.xx hb z (.xx hb z (.s (pkt hb z z z) z (.nil (ck 5 hS z (or_t hb) z z))))))
  have hg1:=hb
  exact .g hg1 (.s (fa T.f131_5 z z z) z (.g hg1 (.s (ld T.t94 hS z z z z z) z (.g hg1 (.s (lenv (hS.keep q_0_Else) T.u94 z z) z (.g hg1 (.q z (.s (pkf hg1 z z z) z (.nil (ck 5 hS z (or_f hg1) z z)))) z)) z)) z)) z
 intro W hS
 refine .nil ?_
 refine .cs z h ?_ ?_ <;> intro h
 ·obtain rfl:=Option.some.inj h
  exact .g (.qn z (.ret (fin_ret (vs:=[_]) () (rt z rn) z (hS.to [] z))))
 refine .skip (.seq (.g (.s (fa T.f131_0 z z z) z (.s (ld T.t3 hS z z z z z) z (.nil (.block (.g (.q z (.q z (.nil ?_))))))))))
 refine .cs z h ?_ ?_ <;> intro h
 ·refine .g (.s (ld T.t131 hS z z z z z) z ?_)
  have ⟨y1,hy1,h⟩:=bnd h
  refine .c (.call0 hS Tryz.func147 (f46 hy1 (hS.keep q_0_Expr_Args) (hS.keep q_0_Body) (hS.keep q_0_Else)) z z ?_ z z z z)
  intro W hS
  refine .q z ?_
  have ⟨b1,hb1,h⟩:=bnd h
  refine .chunk 3 22 (b1) hS ?_ ?_
  ·refine .both (y1) (fun hb=>?_) (fun hb=>?_)
   ·have hg2:=hb
    have h:=sel_t hb hb1
    refine .g hg2 (.s (ld T.t131 hS z z z z z) z ?_) z
    have ⟨y2,hy2,h⟩:=bnd h
    refine .g hg2 (.c (.call0 hS Tryz.func148 (f4d hy2 (hS.keep q_0_Expr_Args) (hS.keep q_0_Body) (hS.keep q_0_Else)) z z ?_ z z z z)) z
    intro W hS
    refine .s (pkt hg2 z z z) z ?_
    cases h
    exact .nil (ck 3 hS z z z z)
   refine .xx hb z (.xx hb z ?_)
   cases sel_f hb hb1
   exact .s (pkf hb z z z) z (.nil (ck 3 hS z z z z))
  intro W hS
  refine .q z ?_
  have ⟨b2,hb2,h⟩:=bnd h
  refine .chunk 4 27 (b2) hS ?_ ?_
  ·refine .both (b1) (fun hb=>?_) (fun hb=>?_)
   ·have hg3:=hb
    have h:=sel_t hb hb2
    refine .g hg3 (.s (fa T.f131_3 z z z) z (.g hg3 (.s (ld T.t129 hS z z z z z) z ?_) z)) z
    have ⟨y3,hy3,h⟩:=bnd h
    refine .g hg3 (.c (.call0 hS Tryz.func149 (f5b hy3 (hS.keep q_0_Expr_Args)) z z ?_ z z z z)) z
    intro W hS
    refine .s (pkt hg3 z z z) z ?_
    cases h
    exact .nil (ck 4 hS z z z z)
   refine .xx hb z (.xx hb z (.xx hb z ?_))
   cases sel_f hb hb2
   exact .s (pkf hb z z z) z (.nil (ck 4 hS z z z z))
  intro W hS
  obtain rfl:=Option.some.inj h
  exact .qn z (.ret (fin_ret (vs:=[_]) () (rt z rn) z (hS.to [] z)))
 refine .g (.q z (.q z (.nil ?_)))
 refine .cs z h ?_ ?_ <;> intro h
 ·refine .g (.s (ld T.t131 hS z z z z z) z ?_)
  have ⟨y4,hy4,h⟩:=bnd h
  refine .c (.call0 hS Tryz.func147 (f46 hy4 (hS.keep q_0_Expr_Args) (hS.keep q_0_Body) (hS.keep q_0_Else)) z z ?_ z z z z)
  intro W hS
  refine .q z ?_
  have ⟨b3,hb3,h⟩:=bnd h
  refine .chunk 3 35 (b3) hS ?_ ?_
  ·refine .both (y4) (fun hb=>?_) (fun hb=>?_)
   ·have hg4:=hb
    have h:=sel_t hb hb3
    refine .g hg4 (.s (ld T.t131 hS z z z z z) z ?_) z
    have ⟨y5,hy5,h⟩:=bnd h
    refine .g hg4 (.c (.call0 hS Tryz.func148 (f4d hy5 (hS.keep q_0_Expr_Args) (hS.keep q_0_Body) (hS.keep q_0_Else)) z z ?_ z z z z)) z
    intro W hS
    refine .s (pkt hg4 z z z) z ?_
    cases h
    exact .nil (ck 3 hS z z z z)
   refine .xx hb z (.xx hb z ?_)
   cases sel_f hb hb3
   exact .s (pkf hb z z z) z (.nil (ck 3 hS z z z z))
  intro W hS
  refine .q z ?_
  have ⟨b4,hb4,h⟩:=bnd h
  refine .chunk 4 40 (b4) hS ?_ ?_
  ·refine .both (b3) (fun hb=>?_) (fun hb=>?_)
   ·have hg5:=hb
    have h:=sel_t hb hb4
    refine .g hg5 (.s (fa T.f131_3 z z z) z (.g hg5 (.s (ld T.t129 hS z z z z z) z ?_) z)) z
    have ⟨y6,hy6,h⟩:=bnd h
    refine .g hg5 (.c (.call0 hS Tryz.func149 (f5b hy6 (hS.keep q_0_Expr_Args)) z z ?_ z z z z)) z
    intro W hS
    refine .s (pkt hg5 z z z) z ?_
    cases h
    exact .nil (ck 4 hS z z z z)
   refine .xx hb z (.xx hb z (.xx hb z ?_))
   cases sel_f hb hb4
   exact .s (pkf hb z z z) z (.nil (ck 4 hS z z z z))
  intro W hS
  obtain rfl:=Option.some.inj h
  exact .qn z (.ret (fin_ret (vs:=[_]) () (rt z rn) z (hS.to [] z)))
 refine .g (.q z (.q z (.nil ?_)))
 refine .cs z h ?_ ?_ <;> intro h
 ·refine .g (.s (ld T.t131 hS z z z z z) z ?_)
  have ⟨y7,hy7,h⟩:=bnd h
  refine .c (.call0 hS Tryz.func147 (f46 hy7 (hS.keep q_0_Expr_Args) (hS.keep q_0_Body) (hS.keep q_0_Else)) z z ?_ z z z z)
  intro W hS
  refine .q z ?_
  have ⟨b5,hb5,h⟩:=bnd h
  refine .chunk 3 48 (b5) hS ?_ ?_
  ·refine .both (y7) (fun hb=>?_) (fun hb=>?_)
   ·have hg6:=hb
    have h:=sel_t hb hb5
    refine .g hg6 (.s (ld T.t131 hS z z z z z) z ?_) z
    have ⟨y8,hy8,h⟩:=bnd h
    refine .g hg6 (.c (.call0 hS Tryz.func148 (f4d hy8 (hS.keep q_0_Expr_Args) (hS.keep q_0_Body) (hS.keep q_0_Else)) z z ?_ z z z z)) z
    intro W hS
    refine .s (pkt hg6 z z z) z ?_
    cases h
    exact .nil (ck 3 hS z z z z)
   refine .xx hb z (.xx hb z ?_)
   cases sel_f hb hb5
   exact .s (pkf hb z z z) z (.nil (ck 3 hS z z z z))
  intro W hS
  refine .q z ?_
  have ⟨b6,hb6,h⟩:=bnd h
  refine .chunk 4 53 (b6) hS ?_ ?_
  ·refine .both (b5) (fun hb=>?_) (fun hb=>?_)
   ·have hg7:=hb
    have h:=sel_t hb hb6
    refine .g hg7 (.s (fa T.f131_3 z z z) z (.g hg7 (.s (ld T.t129 hS z z z z z) z ?_) z)) z
    have ⟨y9,hy9,h⟩:=bnd h
    refine .g hg7 (.c (.call0 hS Tryz.func162 (faw hy9 (hS.keep q_0_Expr_Args)) z z ?_ z z z z)) z
    intro W hS
    refine .s (pkt hg7 z z z) z ?_
    cases h
    exact .nil (ck 4 hS z z z z)
   refine .xx hb z (.xx hb z (.xx hb z ?_))
   cases sel_f hb hb6
   exact .s (pkf hb z z z) z (.nil (ck 4 hS z z z z))
  intro W hS
  obtain rfl:=Option.some.inj h
  exact .qn z (.ret (fin_ret (vs:=[_]) () (rt z rn) z (hS.to [] z)))
 refine .g (.q z (.q z (.nil ?_)))
 refine .cs z h ?_ ?_ <;> intro h
 ·refine .g (.s (ld T.t131 hS z z z z z) z ?_)
  have ⟨y10,hy10,h⟩:=bnd h
  refine .c (.call0 hS Tryz.func147 (f46 hy10 (hS.keep q_0_Expr_Args) (hS.keep q_0_Body) (hS.keep q_0_Else)) z z ?_ z z z z)
  intro W hS
  refine .q z ?_
  have ⟨b7,hb7,h⟩:=bnd h
  refine .chunk 3 61 (b7) hS ?_ ?_
  ·refine .both (y10) (fun hb=>?_) (fun hb=>?_)
   ·have hg8:=hb
    have h:=sel_t hb hb7
    refine .g hg8 (.s (ld T.t131 hS z z z z z) z ?_) z
    have ⟨y11,hy11,h⟩:=bnd h
    refine .g hg8 (.c (.call0 hS Tryz.func148 (f4d hy11 (hS.keep q_0_Expr_Args) (hS.keep q_0_Body) (hS.keep q_0_Else)) z z ?_ z z z z)) z
    intro W hS
    refine .s (pkt hg8 z z z) z ?_
    cases h
    exact .nil (ck 3 hS z z z z)
   refine .xx hb z (.xx hb z ?_)
   cases sel_f hb hb7
   exact .s (pkf hb z z z) z (.nil (ck 3 hS z z z z))
  intro W hS
  refine .q z ?_
  have ⟨b8,hb8,h⟩:=bnd h
  refine .chunk 4 66 (b8) hS ?_ ?_
  ·refine .both (b7) (fun hb=>?_) (fun hb=>?_)
   ·have hg9:=hb
    have h:=sel_t hb hb8
    refine .g hg9 (.s (fa T.f131_3 z z z) z (.g hg9 (.s (ld T.t129 hS z z z z z) z ?_) z)) z
    have ⟨y12,hy12,h⟩:=bnd h
    refine .g hg9 (.c (.call0 hS Tryz.func162 (faw hy12 (hS.keep q_0_Expr_Args)) z z ?_ z z z z)) z
    intro W hS
    refine .s (pkt hg9 z z z) z ?_
    cases h
    exact .nil (ck 4 hS z z z z)
   refine .xx hb z (.xx hb z (.xx hb z ?_))
   cases sel_f hb hb8
   exact .s (pkf hb z z z) z (.nil (ck 4 hS z z z z))
  intro W hS
  obtain rfl:=Option.some.inj h
  exact .qn z (.ret (fin_ret (vs:=[_]) () (rt z rn) z (hS.to [] z)))
 refine .g (.q z (.q z (.nil ?_)))
 refine .cs z h ?_ ?_ <;> intro h
 ·refine .g (.s (ld T.t131 hS z z z z z) z ?_)
  have ⟨y13,hy13,h⟩:=bnd h
  refine .c (.call0 hS Tryz.func147 (f46 hy13 (hS.keep q_0_Expr_Args) (hS.keep q_0_Body) (hS.keep q_0_Else)) z z ?_ z z z z)
  intro W hS
  refine .q z ?_
  have ⟨b9,hb9,h⟩:=bnd h
  refine .chunk 3 74 (b9) hS ?_ ?_
  ·refine .both (y13) (fun hb=>?_) (fun hb=>?_)
   ·have hg10:=hb
    have h:=sel_t hb hb9
    refine .g hg10 (.s (ld T.t131 hS z z z z z) z ?_) z
    have ⟨y14,hy14,h⟩:=bnd h
    refine .g hg10 (.c (.call0 hS Tryz.func148 (f4d hy14 (hS.keep q_0_Expr_Args) (hS.keep q_0_Body) (hS.keep q_0_Else)) z z ?_ z z z z)) z
    intro W hS
    refine .s (pkt hg10 z z z) z ?_
    cases h
    exact .nil (ck 3 hS z z z z)
   refine .xx hb z (.xx hb z ?_)
   cases sel_f hb hb9
   exact .s (pkf hb z z z) z (.nil (ck 3 hS z z z z))
  intro W hS
  refine .q z ?_
  have ⟨b10,hb10,h⟩:=bnd h
  refine .chunk 4 79 (b10) hS ?_ ?_
  ·refine .both (b9) (fun hb=>?_) (fun hb=>?_)
   ·have hg11:=hb
    have h:=sel_t hb hb10
    refine .g hg11 (.s (fa T.f131_3 z z z) z (.g hg11 (.s (ld T.t129 hS z z z z z) z ?_) z)) z
    have ⟨y15,hy15,h⟩:=bnd h
    refine .g hg11 (.c (.call0 hS Tryz.func149 (f5b hy15 (hS.keep q_0_Expr_Args)) z z ?_ z z z z)) z
    intro W hS
    refine .s (pkt hg11 z z z) z ?_
    cases h
    exact .nil (ck 4 hS z z z z)
   refine .xx hb z (.xx hb z (.xx hb z ?_))
   cases sel_f hb hb10
   exact .s (pkf hb z z z) z (.nil (ck 4 hS z z z z))
  intro W hS
  obtain rfl:=Option.some.inj h
  exact .qn z (.ret (fin_ret (vs:=[_]) () (rt z rn) z (hS.to [] z)))
 obtain rfl:=Option.some.inj h
 exact .skip (.g (.qn z (.ret (fin_ret (vs:=[_]) () (rt z rn) z (hS.to [] z)))))
def f4k (F : List Stmt → Int → Option (Bool)) : Prop:=∀ {a0 : List Stmt} {a1 : Int} {v_0 : Hd} {w : World} {r : Bool} (h : F a0 a1 = some r) (q_0 : RV w (Old No w) (sv v_0) 131 8 dStmt a0) , Calls Tryz.prog 111 #[(sv v_0),.int .i64 a1] w (Ret No w (fun s : Unit=>.bool r) (fun s=>[]))
def f9x (F : Stmt → Int → Option (Bool)) : Prop:=∀ {a0 : Stmt} {a1 : Int} {v_0_Expr_Args : Hd} {v_0_Body : Hd} {v_0_Else : Hd} {w : World} {r : Bool} (h : F a0 a1 = some r) (q_0_Expr_Args : RV w (Old No w) (sv v_0_Expr_Args) 129 3 dExpr a0.Expr.Args) (q_0_Body : RV w (Old No w) (sv v_0_Body) 131 8 dStmt a0.Body) (q_0_Else : RV w (Old No w) (sv v_0_Else) 131 8 dStmt a0.Else) , Calls Tryz.prog 125 #[.agg #[.int .i64 a0.Kind,.int .i64 a0.Var,.int .i64 a0.Box,.int .i64 a0.Expr.Op,.int .i64 a0.Expr.N,(sv v_0_Expr_Args),(sv v_0_Body),(sv v_0_Else)],.int .i64 a1] w (Ret No w (fun s : Unit=>.bool r) (fun s=>[]))
def fcy (w : World) (r : Bool) : Env → World → Prop:=Fin Tryz.prog Tryz.f111 No w (fun s : Unit=>.bool r) (fun s=>[]) .ret
theorem fda {k : Nat} {f1j : List Stmt → Int → Option (Bool)} {f29 : Stmt → Int → Option (Bool)} (f8j : f4k f1j) (fc5 : f9x f29) : f4k (f4l k f1j f29):=by
 intro a0 a1 v_0 w r h q_0
 unfold f4l at h
 refine enter Tryz.func111 z z ?_
 have hS:=Sep.start w
 refine .g (.qn z (.seq (.g (.qn z (.block ?_)))))
 have ⟨y1,hy1,h⟩:=bnd h
 refine .via (.iter (fun s1 E' W'=>SubL E' [(0,(sv v_0)),(1,.int .i64 a1),(5,.int .i64 s1)] ∧ Sep No w W' []) (fun y2 x E' W'=>(match y2 with | .inl o1=>x = .ret ∧ fcy w o1 E' W' | .inr o2=>x = .exit 0 ∧ SubL E' [] ∧ Sep No w W' [])) hy1 ⟨sb rfl,hS.to [] rfl⟩ ?_) ?_
 ·intro s1 y3 E W h hI
  obtain ⟨hE,hS⟩:=hI
  refine CW.sub hE ?_
  unfold f8l at h
  refine .seq (.g (.q z (.q z (.s (lenv (hS.keep q_0) T.u94 z z) z (.q z (.nil ?_))))))
  refine .cs z h ?_ ?_ <;> intro h
  ·refine .skip (.seq (.block (.g (.q z (.q z ?_)))))
   have ⟨x1,hx1,h⟩:=bnd h
   obtain ⟨k1,hd,hck1⟩:=RV.el2 q_0 hx1
   have hd1:=raggE (eStmt _) hd
   obtain ⟨k1,rfl,hd2⟩:=rflat q_0 z hd1
   obtain ⟨k1,rfl,hd3⟩:=rflat q_0 z hd2
   obtain ⟨k1,rfl,hd4⟩:=rflat q_0 z hd3
   have hd5:=raggE (eExpr _) hd4
   obtain ⟨k1,rfl,hd6⟩:=rflat q_0 z hd5
   obtain ⟨k1,rfl,hd7⟩:=rflat q_0 z hd6
   obtain ⟨v1,k1,rfl,q1,hd8⟩:=rrowv q_0 hd7
   obtain ⟨v2,k1,rfl,q2,hd9⟩:=rrowv q_0 hd8
   obtain ⟨v3,k1,rfl,q3,hd10⟩:=rrowv q_0 hd9
   obtain rfl:=rnil q_0 hd10
   refine .s (ixv (hS.keep q_0) hx1 T.u94 T.t131 z z z) z (.s (lde (hck1 _ hS.agree) T.t131 z z z z z) z (.q z ?_))
   have ⟨y4,hy4,h⟩:=bnd h
   refine .c (.call0 hS Tryz.func125 (fc5 hy4 (hS.keep (q1 _ q_0)) (hS.keep (q2 _ q_0)) (hS.keep (q3 _ q_0))) z z ?_ z z z z)
   intro W hS
   refine .q z (.nil ?_)
   refine .cs z h ?_ ?_ <;> intro h
   ·refine .g (.qn z (.ret ?_))
    cases h
    exact ⟨by simp,z,fin_ret (vs:=[_]) () (rt z rn) z (hS.to [] z)⟩
   refine .skip (.region (.q z (.q z (.q z (.nil ?_)))))
   cases h
   exact ⟨z,sb z,hS.to [] z⟩
  refine .exit ?_
  cases h
  exact ⟨by simp,z,sb z,hS.to [] z⟩
 intro x E W hJ
 rcases y1 with o3 | o4
 ·obtain ⟨rfl,hF⟩:=hJ
  refine ⟨_,fun _ _ h=>h,?_⟩
  cases h
  exact hF
 obtain ⟨rfl,hE,hS⟩:=hJ
 refine ⟨_,hE.sub,?_⟩
 obtain rfl:=Option.some.inj h
 exact .g (.qn z (.ret (fin_ret (vs:=[_]) () (rt z rn) z (hS.to [] z))))
theorem ffj {k : Nat} {f1j : List Stmt → Int → Option (Bool)} {f29 : Stmt → Int → Option (Bool)} (f8j : f4k f1j) (fc5 : f9x f29) : f9x (f88 k f1j f29):=by
 intro a0 a1 v_0_Expr_Args v_0_Body v_0_Else w r h q_0_Expr_Args q_0_Body q_0_Else
 unfold f88 at h
 refine enter Tryz.func125 z z ?_
 have hS:=Sep.start w
 refine .g (.c (.box hS z z ?_ z z))
 intro g1 W hS
 refine .qn z (.seq (.g (.s (fa T.f131_0 z z z) z (.s (ld T.t3 hS z z z z z) z (.q z (.q z (.chunk 4 12 ((a0.Kind != 2) && (a0.Kind != 3)) hS ?_ ?_)))))))
 ·refine .both (a0.Kind != 2) (fun hb=>?_) (fun hb=>?_)
  ·have hg1:=hb
   exact .g hg1 (.s (fa T.f131_0 z z z) z (.g hg1 (.s (ld T.t3 hS z z z z z) z (.g hg1 (.q z (.s (pkt hg1 z z z) z (.nil (ck 4 hS z (and_t hg1) z z)))) z)) z)) z
  exact .xx hb z (.xx hb z (.xx hb z (.s (pkf hb z z z) z (.nil (ck 4 hS z (and_f hb) z z)))))
 intro W hS
 refine .nil ?_
 refine .cs z h ?_ ?_ <;> intro h
 ·refine .g (.s (ld T.t131 hS z z z z z) z ?_)
  have ⟨y1,hy1,h⟩:=bnd h
  refine .c (.call0 hS Tryz.func146 (fcm hy1 (hS.keep q_0_Expr_Args) (hS.keep q_0_Body) (hS.keep q_0_Else)) z z ?_ z z z z)
  intro W hS
  obtain rfl:=Option.some.inj h
  exact .qn z (.ret (fin_ret (vs:=[_]) () (rt z rn) z (hS.to [] z)))
 refine .skip (.seq (.g (.q z (.q z (.q z (.chunk 10 27 ((decide (a1 < 1)) || ((a0.Kind == 3) && (decide ((a0.Else.length : Int) > 0)))) hS ?_ ?_))))))
 ·refine .both (decide (a1 < 1)) (fun hb=>?_) (fun hb=>?_)
  ·exact .xx hb z (.xx hb z (.xx hb z (.xx hb z (.xu (.xu (.xu (.xu (.xx hb z (.s (pkt hb z z z) z (.nil (ck 10 hS z (or_t hb) z z)))) z z) z z) z z) z z))))
  have hg2:=hb
  refine .g hg2 (.s (fa T.f131_0 z z z) z (.g hg2 (.s (ld T.t3 hS z z z z z) z (.g hg2 (.q z (.g hg2 (.q z (.chunk 5 26 ((a0.Kind == 3) && (decide ((a0.Else.length : Int) > 0))) hS ?_ ?_)) z)) z)) z)) z
  ·refine .both (a0.Kind == 3) (fun hb=>?_) (fun hb=>?_)
   ·have hg3:=hb
    exact .g hg3 (.s (fa T.f131_5 z z z) z (.g hg3 (.s (ld T.t94 hS z z z z z) z (.g hg3 (.s (lenv (hS.keep q_0_Else) T.u94 z z) z (.g hg3 (.q z (.g hg2 (.s (pkt hg3 z z z) z (.nil (ck 5 hS z (and_t hg3) z z))) z)) z)) z)) z)) z
   exact .xx hb z (.xx hb z (.xx hb z (.xx hb z (.g hg2 (.s (pkf hb z z z) z (.nil (ck 5 hS z (and_f hb) z z))) z))))
  intro W hS
  exact .s (pkf hg2 z z z) z (.nil (ck 6 hS z (or_f hg2) z z))
 intro W hS
 refine .nil ?_
 refine .cs z h ?_ ?_ <;> intro h
 ·obtain rfl:=Option.some.inj h
  exact .g (.qn z (.ret (fin_ret (vs:=[_]) () (rt z rn) z (hS.to [] z))))
 refine .skip (.g (.s (ld T.t131 hS z z z z z) z ?_))
 have ⟨y2,hy2,h⟩:=bnd h
 refine .c (.call0 hS Tryz.func147 (f46 hy2 (hS.keep q_0_Expr_Args) (hS.keep q_0_Body) (hS.keep q_0_Else)) z z ?_ z z z z)
 intro W hS
 refine .q z ?_
 have ⟨b1,hb1,h⟩:=bnd h
 refine .chunk 3 33 (b1) hS ?_ ?_
 ·refine .both (y2) (fun hb=>?_) (fun hb=>?_)
  ·have hg4:=hb
   have h:=sel_t hb hb1
   refine .g hg4 (.s (ld T.t131 hS z z z z z) z ?_) z
   have ⟨y3,hy3,h⟩:=bnd h
   refine .g hg4 (.c (.call0 hS Tryz.func148 (f4d hy3 (hS.keep q_0_Expr_Args) (hS.keep q_0_Body) (hS.keep q_0_Else)) z z ?_ z z z z)) z
   intro W hS
   refine .s (pkt hg4 z z z) z ?_
   cases h
   exact .nil (ck 3 hS z z z z)
  refine .xx hb z (.xx hb z ?_)
  cases sel_f hb hb1
  exact .s (pkf hb z z z) z (.nil (ck 3 hS z z z z))
 intro W hS
 refine .q z ?_
 have ⟨b2,hb2,h⟩:=bnd h
 refine .chunk 4 38 (b2) hS ?_ ?_
 ·refine .both (b1) (fun hb=>?_) (fun hb=>?_)
  ·have hg5:=hb
   have h:=sel_t hb hb2
   refine .g hg5 (.s (fa T.f131_3 z z z) z (.g hg5 (.s (ld T.t129 hS z z z z z) z ?_) z)) z
   have ⟨y4,hy4,h⟩:=bnd h
   refine .g hg5 (.c (.call0 hS Tryz.func149 (f5b hy4 (hS.keep q_0_Expr_Args)) z z ?_ z z z z)) z
   intro W hS
   refine .s (pkt hg5 z z z) z ?_
   cases h
   exact .nil (ck 4 hS z z z z)
  refine .xx hb z (.xx hb z (.xx hb z ?_))
  cases sel_f hb hb2
  exact .s (pkf hb z z z) z (.nil (ck 4 hS z z z z))
 intro W hS
 refine .q z ?_
 have ⟨b3,hb3,h⟩:=bnd h
 refine .chunk 6 45 (b3) hS ?_ ?_
 ·refine .both (b2) (fun hb=>?_) (fun hb=>?_)
  ·have hg6:=hb
   have h:=sel_t hb hb3
   refine .g hg6 (.s (fa T.f131_4 z z z) z (.g hg6 (.s (ld T.t94 hS z z z z z) z (.g hg6 (.q z (.g hg6 (.q z ?_) z)) z)) z)) z
   have ⟨y5,hy5,h⟩:=bnd h
   refine .g hg6 (.c (.call0 hS Tryz.func111 (f8j hy5 (hS.keep q_0_Body)) z z ?_ z z z z)) z
   intro W hS
   refine .s (pkt hg6 z z z) z ?_
   cases h
   exact .nil (ck 6 hS z z z z)
  refine .xx hb z (.xx hb z (.xx hb z (.xx hb z (.xx hb z ?_))))
  cases sel_f hb hb3
  exact .s (pkf hb z z z) z (.nil (ck 6 hS z z z z))
 intro W hS
 refine .q z ?_
 have ⟨b4,hb4,h⟩:=bnd h
 refine .chunk 6 52 (b4) hS ?_ ?_
 ·refine .both (b3) (fun hb=>?_) (fun hb=>?_)
  ·have hg7:=hb
   have h:=sel_t hb hb4
   refine .g hg7 (.s (fa T.f131_5 z z z) z (.g hg7 (.s (ld T.t94 hS z z z z z) z (.g hg7 (.q z (.g hg7 (.q z ?_) z)) z)) z)) z
   have ⟨y6,hy6,h⟩:=bnd h
   refine .g hg7 (.c (.call0 hS Tryz.func111 (f8j hy6 (hS.keep q_0_Else)) z z ?_ z z z z)) z
   intro W hS
   refine .s (pkt hg7 z z z) z ?_
   cases h
   exact .nil (ck 6 hS z z z z)
  refine .xx hb z (.xx hb z (.xx hb z (.xx hb z (.xx hb z ?_))))
  cases sel_f hb hb4
  exact .s (pkf hb z z z) z (.nil (ck 6 hS z z z z))
 intro W hS
 obtain rfl:=Option.some.inj h
 exact .qn z (.ret (fin_ret (vs:=[_]) () (rt z rn) z (hS.to [] z)))
theorem fbr (k : Nat) : f4k (f1o k) ∧ f9x (fc0 k):=by
  induction k with
  | zero=>exact ⟨by intro a0 a1 v_0 w r h q_0; exact no h,by intro a0 a1 v_0_Expr_Args v_0_Body v_0_Else w r h q_0_Expr_Args q_0_Body q_0_Else; exact no h⟩
  | succ k ih=>exact ⟨fda (k:=k) ih.1 ih.2,ffj (k:=k) ih.1 ih.2⟩
theorem fcw {k : Nat} : f4k (f1o k):=(fbr k).1
theorem fcj {k : Nat} {a0 : List Stmt} {v_0 : Hd} {w : World} {r : Bool} (h : f52 k a0 = some r) (q_0 : RV w (Old No w) (sv v_0) 131 8 dStmt a0) : Calls Tryz.prog 88 #[(sv v_0)] w (Ret No w (fun s : Unit=>.bool r) (fun s=>[])):=by
 unfold f52 at h
 refine enter Tryz.func88 z z ?_
 have hS:=Sep.start w
 refine .g (.qn z (.g (.q z ?_)))
 have ⟨y1,hy1,h⟩:=bnd h
 refine .c (.call0 hS Tryz.func111 (fcw hy1 (hS.keep q_0)) z z ?_ z z z z)
 intro W hS
 refine .q z ?_
 have ⟨b1,hb1,h⟩:=bnd h
 refine .chunk 4 9 (b1) hS ?_ ?_
 ·refine .both (y1) (fun hb=>?_) (fun hb=>?_)
  ·have hg1:=hb
   have h:=sel_t hb hb1
   refine .g hg1 (.q z ?_) z
   have ⟨y2,hy2,h⟩:=bnd h
   refine .g hg1 (.c (.call0 hS Tryz.func91 (fb7 hy2 (hS.keep q_0)) z z ?_ z z z z)) z
   intro W hS
   refine .g hg1 (.q z (.s (pkt hg1 z z z) z ?_)) z
   cases h
   exact .nil (ck 4 hS z z z z)
  refine .xx hb z (.xx hb z (.xx hb z ?_))
  cases sel_f hb hb1
  exact .s (pkf hb z z z) z (.nil (ck 4 hS z z z z))
 intro W hS
 obtain rfl:=Option.some.inj h
 exact .qn z (.ret (fin_ret (vs:=[_]) () (rt z rn) z (hS.to [] z)))
def f8d (F : Expr → Int → Option ((List Quad))) : Prop:=∀ {a0 : Expr} {a1 : Int} {v_0_Args : Hd} {w : World} {r : (List Quad)} (h : F a0 a1 = some r) (q_0_Args : RV w (Old No w) (sv v_0_Args) 129 3 dExpr a0.Args) , Calls Tryz.prog 126 #[.agg #[.int .i64 a0.Op,.int .i64 a0.N,(sv v_0_Args)],.int .i64 a1] w (Ret No w (fun s : Hd=>(sv s)) (fun s=>[rowV (sv s) 82 5 dQuad r]))
theorem ffb {k : Nat} {f5m : Expr → Int → Option ((List Quad))} (fb9 : f8d f5m) : f8d (f5r k f5m):=by
 intro a0 a1 v_0_Args w r h q_0_Args
 unfold f5r at h
 refine enter Tryz.func126 z z ?_
 have hS:=Sep.start w
 refine .g (.c (.box hS z z ?_ z z))
 intro g1 W hS
 refine .qn z (.seq (.g (.s (fa T.f129_0 z z z) z (.s (ld T.t3 hS z z z z z) z (.q z (.nil ?_))))))
 refine .cs z h ?_ ?_ <;> intro h
 ·refine .g (.q z (.s (fa T.f129_1 z z z) z (.s (ld T.t3 hS z z z z z) z (.s (bs T.s82 z z) z (.c (.liv [(Quad.mk 1 a1 0 0 a0.N)] dQuad T.u70 T.t82 hS z z z z ?_ z (fun _=>z) z z z z))))))
  intro v1 W hS
  cases h
  exact .qn z (.ret (fin_ret (vs:=[_]) v1 (rt z rn) z (hS.to [0] z)))
 refine .skip (.seq (.g (.s (fa T.f129_0 z z z) z (.s (ld T.t3 hS z z z z z) z (.q z (.nil ?_))))))
 refine .cs z h ?_ ?_ <;> intro h
 ·refine .g (.q z (.s (fa T.f129_1 z z z) z (.s (ld T.t3 hS z z z z z) z (.s (bs T.s82 z z) z (.c (.liv [(Quad.mk 2 a1 a0.N 0 0)] dQuad T.u70 T.t82 hS z z z z ?_ z (fun _=>z) z z z z))))))
  intro v2 W hS
  cases h
  exact .qn z (.ret (fin_ret (vs:=[_]) v2 (rt z rn) z (hS.to [0] z)))
 refine .skip (.seq (.rk 15 hS [0] T.mix ?_))
 intro W hS
 have hT:=hS.to [0] z
 refine .ts 0 z (fun W hT=>fa T.f129_2 z z z) hT z (by kernel_rfl) (.ts 1 z (fun W hT=>ld T.t127 hT z z z z z) hT z (by kernel_rfl) ?_)
 have ⟨x1,hx1,h⟩:=bnd h
 obtain ⟨k1,hd,hck1⟩:=RV.el2 q_0_Args hx1
 have hd1:=raggE (eExpr _) hd
 obtain ⟨k1,rfl,hd2⟩:=rflat q_0_Args z hd1
 obtain ⟨k1,rfl,hd3⟩:=rflat q_0_Args z hd2
 obtain ⟨v3,k1,rfl,q1,hd4⟩:=rrowv q_0_Args hd3
 obtain rfl:=rnil q_0_Args hd4
 refine .ts 2 z (fun W hT=>ixv (hS.keep q_0_Args) hx1 T.u127 T.t129 z z z) hT z (by kernel_rfl) (.ts 3 z (fun W hT=>lde (hck1 _ hT.agree) T.t129 z z z z z) hT z (by kernel_rfl) (.tp 4 z z hT (by kernel_rfl) (.ts 6 z (fun W hT=>fa T.f129_2 z z z) hT z (by kernel_rfl) (.ts 7 z (fun W hT=>ld T.t127 hT z z z z z) hT z (by kernel_rfl) ?_))))
 have ⟨x2,hx2,h⟩:=bnd h
 obtain ⟨k2,hd,hck2⟩:=RV.el2 q_0_Args hx2
 have hd1:=raggE (eExpr _) hd
 obtain ⟨k2,rfl,hd2⟩:=rflat q_0_Args z hd1
 obtain ⟨k2,rfl,hd3⟩:=rflat q_0_Args z hd2
 obtain ⟨v4,k2,rfl,q2,hd4⟩:=rrowv q_0_Args hd3
 obtain rfl:=rnil q_0_Args hd4
 refine .ts 8 z (fun W hT=>ixv (hS.keep q_0_Args) hx2 T.u127 T.t129 z z z) hT z (by kernel_rfl) (.ts 9 z (fun W hT=>lde (hck2 _ hT.agree) T.t129 z z z z z) hT z (by kernel_rfl) (.tp 10 z z hT (by kernel_rfl) (.tp 11 z z hT (by kernel_rfl) ?_)))
 have ⟨y1,hy1,h⟩:=bnd h
 refine .by1 5 z (.call1v hS Tryz.func126 (fb9 hy1 (hS.keep (q1 _ q_0_Args))) z z ?_ z z z z) (by kernel_rfl)
 intro v5 W hS
 have hT:=hS.to [1] z
 refine ⟨fun _=>hT,?_⟩
 have ⟨y2,hy2,h⟩:=bnd h
 refine .by1 12 z (.call1v hS Tryz.func126 (fb9 hy2 (hS.keep (q2 _ q_0_Args))) z z ?_ z z z z) (by kernel_rfl)
 intro v6 W hS
 have hT:=hS.to [2] z
 refine ⟨fun _=>hT,?_⟩
 have ⟨r1,hr1,h⟩:=bnd h
 have hT0:=hS.p1
 refine .by1 13 z (.apprv hr1 hT0 hT0.p1.lendv (fun _=>z) T.u70 T.t82 z z z ?_ z z z z z) (by kernel_rfl)
 intro v7 W hS
 have hT:=hS.to [2] z
 refine ⟨fun _=>hT,.tp 14 z z hT (by kernel_rfl) (.done (.g (.q z (.q z (.q z (.q z (.q z (.s (fa T.f129_0 z z z) z (.s (ld T.t3 hS.p2 z z z z z) z (.s (bs T.s82 z z) z (.c (.liv [(Quad.mk 3 a1 a1 (w64 (a1 + 1)) a0.Op)] dQuad T.u70 T.t82 hS z z z z ?_ z (fun _=>z) z z z z))))))))))) (by kernel_rfl))⟩
 intro v8 W hS
 have ⟨r2,hr2,h⟩:=bnd h
 have hT0:=hS.p1
 refine .c (.apprv hr2 hT0 hT0.p1.lendv (fun _=>z) T.u70 T.t82 z z z ?_ z z z z z)
 intro v9 W hS
 obtain rfl:=Option.some.inj h
 exact .qn z (.ret (fin_ret (vs:=[_]) v9 (rt z rn) z (hS.to [0] z)))
theorem fc9 (k : Nat) : f8d (f2a k):=by
  induction k with
  | zero=>exact by intro a0 a1 v_0_Args w r h q_0_Args; exact no h
  | succ k ih=>exact ffb (k:=k) ih
theorem f9s {k : Nat} : f8d (f2a k):=(fc9 k)
def f2z (F : List Stmt → Int → Option ((List Quad))) : Prop:=∀ {a0 : List Stmt} {a1 : Int} {v_0 : Hd} {w : World} {r : (List Quad)} (h : F a0 a1 = some r) (q_0 : RV w (Old No w) (sv v_0) 131 8 dStmt a0) , Calls Tryz.prog 89 #[(sv v_0),.int .i64 a1] w (Ret No w (fun s : Hd=>(sv s)) (fun s=>[rowV (sv s) 82 5 dQuad r]))
def f48 (F : Stmt → Int → Option ((List Quad))) : Prop:=∀ {a0 : Stmt} {a1 : Int} {v_0_Expr_Args : Hd} {v_0_Body : Hd} {v_0_Else : Hd} {w : World} {r : (List Quad)} (h : F a0 a1 = some r) (q_0_Expr_Args : RV w (Old No w) (sv v_0_Expr_Args) 129 3 dExpr a0.Expr.Args) (q_0_Body : RV w (Old No w) (sv v_0_Body) 131 8 dStmt a0.Body) (q_0_Else : RV w (Old No w) (sv v_0_Else) 131 8 dStmt a0.Else) , Calls Tryz.prog 112 #[.agg #[.int .i64 a0.Kind,.int .i64 a0.Var,.int .i64 a0.Box,.int .i64 a0.Expr.Op,.int .i64 a0.Expr.N,(sv v_0_Expr_Args),(sv v_0_Body),(sv v_0_Else)],.int .i64 a1] w (Ret No w (fun s : Hd=>(sv s)) (fun s=>[rowV (sv s) 82 5 dQuad r]))
def f5f (F : Stmt → Int → Option ((List Quad))) : Prop:=∀ {a0 : Stmt} {a1 : Int} {v_0_Expr_Args : Hd} {v_0_Body : Hd} {v_0_Else : Hd} {w : World} {r : (List Quad)} (h : F a0 a1 = some r) (q_0_Expr_Args : RV w (Old No w) (sv v_0_Expr_Args) 129 3 dExpr a0.Expr.Args) (q_0_Body : RV w (Old No w) (sv v_0_Body) 131 8 dStmt a0.Body) (q_0_Else : RV w (Old No w) (sv v_0_Else) 131 8 dStmt a0.Else) , Calls Tryz.prog 127 #[.agg #[.int .i64 a0.Kind,.int .i64 a0.Var,.int .i64 a0.Box,.int .i64 a0.Expr.Op,.int .i64 a0.Expr.N,(sv v_0_Expr_Args),(sv v_0_Body),(sv v_0_Else)],.int .i64 a1] w (Ret No w (fun s : Hd=>(sv s)) (fun s=>[rowV (sv s) 82 5 dQuad r]))
def f3n (F : Stmt → Int → Option ((List Quad))) : Prop:=∀ {a0 : Stmt} {a1 : Int} {v_0_Expr_Args : Hd} {v_0_Body : Hd} {v_0_Else : Hd} {w : World} {r : (List Quad)} (h : F a0 a1 = some r) (q_0_Expr_Args : RV w (Old No w) (sv v_0_Expr_Args) 129 3 dExpr a0.Expr.Args) (q_0_Body : RV w (Old No w) (sv v_0_Body) 131 8 dStmt a0.Body) (q_0_Else : RV w (Old No w) (sv v_0_Else) 131 8 dStmt a0.Else) , Calls Tryz.prog 128 #[.agg #[.int .i64 a0.Kind,.int .i64 a0.Var,.int .i64 a0.Box,.int .i64 a0.Expr.Op,.int .i64 a0.Expr.N,(sv v_0_Expr_Args),(sv v_0_Body),(sv v_0_Else)],.int .i64 a1] w (Ret No w (fun s : Hd=>(sv s)) (fun s=>[rowV (sv s) 82 5 dQuad r]))
theorem ff8 {k : Nat} {f0i : List Stmt → Int → Option ((List Quad))} {f0h : Stmt → Int → Option ((List Quad))} {f0x : Stmt → Int → Option ((List Quad))} {f0l : Stmt → Int → Option ((List Quad))} (f3j : f2z f0i) (f7h : f48 f0h) (f94 : f5f f0x) (f6d : f3n f0l) : f2z (f5v k f0i f0h f0x f0l):=by
 intro a0 a1 v_0 w r h q_0
 unfold f5v at h
 refine enter Tryz.func89 z z ?_
 have hS:=Sep.start w
 refine .g (.qn z (.g (.c (.liv [] dQuad T.u70 T.t82 hS z z z z ?_ z (fun _=>z) z z z z))))
 intro v1 W hS
 refine .qn z (.seq (.g (.qn z (.block ?_))))
 have ⟨y1,hy1,h⟩:=bnd h
 refine .via (.iter (fun s1 E' W'=>∃ (v4 : Hd),SubL E' [(0,(sv v_0)),(1,.int .i64 a1),(5,(sv v4)),(6,.int .i64 s1.2)] ∧ Sep No w W' [rowV (sv v4) 82 5 dQuad s1.1]) (fun y2 x E' W'=>x = .exit 0 ∧ ∃ (v5 : Hd),SubL E' [(5,(sv v5))] ∧ Sep No w W' [rowV (sv v5) 82 5 dQuad y2]) hy1 ⟨v1,sb z,hS.to [0] z⟩ ?_) ?_
 ·intro s1 y3 E W h hI
  obtain ⟨v3,hE,hS⟩:=hI
  refine CW.sub hE ?_
  unfold fa0 at h
  refine .seq (.g (.q z (.q z (.s (lenv (hS.keep q_0) T.u94 z z) z (.q z (.nil ?_))))))
  refine .cs z h ?_ ?_ <;> intro h
  ·refine .skip (.seq (.block (.region (.q z (.q z (.q z ?_))))))
   have ⟨x1,hx1,h⟩:=bnd h
   obtain ⟨k1,hd,hck1⟩:=RV.el2 q_0 hx1
   have hd1:=raggE (eStmt _) hd
   obtain ⟨k1,rfl,hd2⟩:=rflat q_0 z hd1
   obtain ⟨k1,rfl,hd3⟩:=rflat q_0 z hd2
   obtain ⟨k1,rfl,hd4⟩:=rflat q_0 z hd3
   have hd5:=raggE (eExpr _) hd4
   obtain ⟨k1,rfl,hd6⟩:=rflat q_0 z hd5
   obtain ⟨k1,rfl,hd7⟩:=rflat q_0 z hd6
   obtain ⟨v6,k1,rfl,q5,hd8⟩:=rrowv q_0 hd7
   obtain ⟨v7,k1,rfl,q6,hd9⟩:=rrowv q_0 hd8
   obtain ⟨v8,k1,rfl,q7,hd10⟩:=rrowv q_0 hd9
   obtain rfl:=rnil q_0 hd10
   refine .s (ixv (hS.keep q_0) hx1 T.u94 T.t131 z z z) z (.s (lde (hck1 _ hS.agree) T.t131 z z z z z) z (.q z (.q z (.s (lenv hS.lendv T.u70 z z) z (.q z ?_)))))
   have ⟨y4,hy4,h⟩:=bnd h
   refine .c (.call1v hS Tryz.func112 (f7h hy4 (hS.keep (q5 _ q_0)) (hS.keep (q6 _ q_0)) (hS.keep (q7 _ q_0))) z z ?_ z z z z)
   intro v9 W hS
   have ⟨r1,hr1,h⟩:=bnd h
   have hT0:=hS.p1
   refine .c (.apprv hr1 hT0 hT0.p1.lendv (fun _=>z) T.u70 T.t82 z z z ?_ z z z z z)
   intro v10 W hS
   refine .qn z (.region (.q z (.q z (.q z (.nil ?_)))))
   cases h
   exact ⟨z,v10,sb z,hS.to [0] z⟩
  refine .exit ?_
  cases h
  exact ⟨by simp,z,v3,sb z,hS.to [0] z⟩
 intro x E W hJ
 obtain ⟨rfl,v11,hE,hS⟩:=hJ
 refine ⟨_,hE.sub,?_⟩
 obtain rfl:=Option.some.inj h
 exact .g (.q z (.qn z (.ret (fin_ret (vs:=[_]) v11 (rt z rn) z (hS.to [0] z)))))
theorem ff4 {k : Nat} {f0i : List Stmt → Int → Option ((List Quad))} {f0h : Stmt → Int → Option ((List Quad))} {f0x : Stmt → Int → Option ((List Quad))} {f0l : Stmt → Int → Option ((List Quad))} (f3j : f2z f0i) (f7h : f48 f0h) (f94 : f5f f0x) (f6d : f3n f0l) : f48 (f5n k f0i f0h f0x f0l):=by
 intro a0 a1 v_0_Expr_Args v_0_Body v_0_Else w r h q_0_Expr_Args q_0_Body q_0_Else
 unfold f5n at h
 refine enter Tryz.func112 z z ?_
 have hS:=Sep.start w
 refine .g (.c (.box hS z z ?_ z z))
 intro g1 W hS
 refine .qn z (.g (.s (fa T.f131_3 z z z) z (.s (ld T.t129 hS z z z z z) z ?_)))
 have ⟨y1,hy1,h⟩:=bnd h
 refine .c (.call1v hS Tryz.func126 (f9s hy1 (hS.keep q_0_Expr_Args)) z z ?_ z z z z)
 intro v1 W hS
 refine .qn z (.seq (.g (.s (fa T.f131_0 z z z) z (.s (ld T.t3 hS.p1 z z z z z) z (.nil (.block (.g (.q z (.q z (.nil ?_))))))))))
 refine .cs z h ?_ ?_ <;> intro h
 ·refine .g (.s (ld T.t131 hS.p1 z z z z z) z (.q z ?_))
  have ⟨y2,hy2,h⟩:=bnd h
  refine .c (.call1v hS Tryz.func127 (f94 hy2 (hS.keep q_0_Expr_Args) (hS.keep q_0_Body) (hS.keep q_0_Else)) z z ?_ z z z z)
  intro v2 W hS
  obtain rfl:=Option.some.inj h
  exact .qn z (.ret (fin_ret (vs:=[_]) v2 (rt z rn) z (hS.to [0] z)))
 refine .g (.q z (.q z (.nil ?_)))
 refine .cs z h ?_ ?_ <;> intro h
 ·refine .g (.s (ld T.t131 hS.p1 z z z z z) z (.q z ?_))
  have ⟨y3,hy3,h⟩:=bnd h
  refine .c (.call1v hS Tryz.func128 (f6d hy3 (hS.keep q_0_Expr_Args) (hS.keep q_0_Body) (hS.keep q_0_Else)) z z ?_ z z z z)
  intro v3 W hS
  obtain rfl:=Option.some.inj h
  exact .qn z (.ret (fin_ret (vs:=[_]) v3 (rt z rn) z (hS.to [0] z)))
 refine .g (.q z (.q z (.nil ?_)))
 refine .cs z h ?_ ?_ <;> intro h
 ·refine .g (.q z (.s (fa T.f131_1 z z z) z (.s (ld T.t3 hS.p1 z z z z z) z (.s (bs T.s82 z z) z (.c (.liv [(Quad.mk 2 a0.Var 4 0 0)] dQuad T.u70 T.t82 hS z z z z ?_ z (fun _=>z) z z z z))))))
  intro v4 W hS
  have ⟨r1,hr1,h⟩:=bnd h
  have hT0:=hS.p1
  refine .c (.apprv hr1 hT0 hT0.p1.lendv (fun _=>z) T.u70 T.t82 z z z ?_ z z z z z)
  intro v5 W hS
  obtain rfl:=Option.some.inj h
  exact .qn z (.ret (fin_ret (vs:=[_]) v5 (rt z rn) z (hS.to [0] z)))
 refine .g (.q z (.q z (.nil ?_)))
 refine .cs z h ?_ ?_ <;> intro h
 ·refine .g (.q z (.s (fa T.f131_2 z z z) z (.s (ld T.t3 hS.p1 z z z z z) z (.s (bs T.s82 z z) z (.c (.liv [(Quad.mk 6 0 4 0 a0.Box)] dQuad T.u70 T.t82 hS z z z z ?_ z (fun _=>z) z z z z))))))
  intro v6 W hS
  have ⟨r2,hr2,h⟩:=bnd h
  have hT0:=hS.p1
  refine .c (.apprv hr2 hT0 hT0.p1.lendv (fun _=>z) T.u70 T.t82 z z z ?_ z z z z z)
  intro v7 W hS
  obtain rfl:=Option.some.inj h
  exact .qn z (.ret (fin_ret (vs:=[_]) v7 (rt z rn) z (hS.to [0] z)))
 refine .g (.q z (.q z (.nil ?_)))
 refine .cs z h ?_ ?_ <;> intro h
 ·refine .g (.q z (.s (bs T.s82 z z) z (.c (.liv [(Quad.mk 9 0 4 0 0)] dQuad T.u70 T.t82 hS z z z z ?_ z (fun _=>z) z z z z))))
  intro v8 W hS
  have ⟨r3,hr3,h⟩:=bnd h
  have hT0:=hS.p1
  refine .c (.apprv hr3 hT0 hT0.p1.lendv (fun _=>z) T.u70 T.t82 z z z ?_ z z z z z)
  intro v9 W hS
  obtain rfl:=Option.some.inj h
  exact .qn z (.ret (fin_ret (vs:=[_]) v9 (rt z rn) z (hS.to [0] z)))
 refine .g (.q z (.q z (.nil ?_)))
 refine .cs z h ?_ ?_ <;> intro h
 ·refine .g (.s (fa T.f131_1 z z z) z (.s (ld T.t3 hS.p1 z z z z z) z (.s (fa T.f131_2 z z z) z (.s (ld T.t3 hS.p1 z z z z z) z (.s (bs T.s82 z z) z (.c (.liv [(Quad.mk 7 a0.Var 0 0 a0.Box)] dQuad T.u70 T.t82 hS z z z z ?_ z (fun _=>z) z z z z)))))))
  intro v10 W hS
  cases h
  exact .qn z (.ret (fin_ret (vs:=[_]) v10 (rt z rn) z (hS.to [0] z)))
 refine .skip (.g (.s (bs T.s82 z z) z (.c (.liv [(Quad.mk 8 0 0 0 0)] dQuad T.u70 T.t82 hS z z z z ?_ z (fun _=>z) z z z z))))
 intro v11 W hS
 cases h
 exact .qn z (.ret (fin_ret (vs:=[_]) v11 (rt z rn) z (hS.to [0] z)))
theorem ffk {k : Nat} {f0i : List Stmt → Int → Option ((List Quad))} {f0h : Stmt → Int → Option ((List Quad))} {f0x : Stmt → Int → Option ((List Quad))} {f0l : Stmt → Int → Option ((List Quad))} (f3j : f2z f0i) (f7h : f48 f0h) (f94 : f5f f0x) (f6d : f3n f0l) : f5f (f86 k f0i f0h f0x f0l):=by
 intro a0 a1 v_0_Expr_Args v_0_Body v_0_Else w r h q_0_Expr_Args q_0_Body q_0_Else
 unfold f86 at h
 refine enter Tryz.func127 z z ?_
 have hS:=Sep.start w
 refine .g (.c (.box hS z z ?_ z z))
 intro g1 W hS
 refine .qn z (.g (.s (fa T.f131_3 z z z) z (.s (ld T.t129 hS z z z z z) z ?_)))
 have ⟨y1,hy1,h⟩:=bnd h
 refine .c (.call1v hS Tryz.func126 (f9s hy1 (hS.keep q_0_Expr_Args)) z z ?_ z z z z)
 intro v1 W hS
 refine .qn z (.g (.s (fa T.f131_4 z z z) z (.s (ld T.t94 hS.p1 z z z z z) z (.q z (.q z (.s (lenv hS.lendv T.u70 z z) z (.q z (.q z ?_))))))))
 have ⟨y2,hy2,h⟩:=bnd h
 refine .c (.call1v hS Tryz.func89 (f3j hy2 (hS.keep q_0_Body)) z z ?_ z z z z)
 intro v2 W hS
 refine .qn z (.g (.q z (.q z (.s (lenv hS.p1.lendv T.u70 z z) z (.q z (.q z (.q z (.s (lenv hS.lendv T.u70 z z) z (.q z (.qn z (.seq (.g (.s (fa T.f131_5 z z z) z (.s (ld T.t94 hS.p2 z z z z z) z (.s (lenv (hS.keep q_0_Else) T.u94 z z) z (.q z (.nil ?_)))))))))))))))))
 refine .cs z h ?_ ?_ <;> intro h
 ·refine .g (.q z (.q z (.s (bs T.s82 z z) z (.c (.liv [(Quad.mk 5 0 4 0 (w64 ((w64 ((w64 (a1 + (y1.length : Int))) + 1)) + (y2.length : Int))))] dQuad T.u70 T.t82 hS z z z z ?_ z (fun _=>z) z z z z)))))
  intro v3 W hS
  have ⟨r1,hr1,h⟩:=bnd h
  have hT0:=hS.p2
  refine .c (.apprv hr1 hT0 hT0.p1.lendv (fun _=>z) T.u70 T.t82 z z z ?_ z z z z z)
  intro v4 W hS
  refine .qn z (.g (.q z (.q z ?_)))
  have ⟨r2,hr2,h⟩:=bnd h
  have hT0:=hS
  refine .c (.apprv hr2 hT0 hT0.p2.lendv (fun _=>z) T.u70 T.t82 z z z ?_ z z z z z)
  intro v5 W hS
  obtain rfl:=Option.some.inj h
  exact .qn z (.ret (fin_ret (vs:=[_]) v5 (rt z rn) z (hS.to [0] z)))
 refine .skip (.g (.s (fa T.f131_5 z z z) z (.s (ld T.t94 hS.p2 z z z z z) z (.q z (.q z ?_)))))
 have ⟨y3,hy3,h⟩:=bnd h
 refine .c (.call1v hS Tryz.func89 (f3j hy3 (hS.keep q_0_Else)) z z ?_ z z z z)
 intro v6 W hS
 refine .qn z (.g (.q z (.q z (.q z (.s (bs T.s82 z z) z (.c (.liv [(Quad.mk 5 0 4 0 (w64 ((w64 ((w64 ((w64 (a1 + (y1.length : Int))) + 1)) + (y2.length : Int))) + 1)))] dQuad T.u70 T.t82 hS z z z z ?_ z (fun _=>z) z z z z)))))))
 intro v7 W hS
 have ⟨r3,hr3,h⟩:=bnd h
 have hT0:=hS.p3
 refine .c (.apprv hr3 hT0 hT0.p1.lendv (fun _=>z) T.u70 T.t82 z z z ?_ z z z z z)
 intro v8 W hS
 refine .qn z (.g (.q z (.q z ?_)))
 have ⟨r4,hr4,h⟩:=bnd h
 have hT0:=hS
 refine .c (.apprv hr4 hT0 hT0.p3.lendv (fun _=>z) T.u70 T.t82 z z z ?_ z z z z z)
 intro v9 W hS
 refine .qn z (.g (.q z (.q z (.q z (.q z (.s (lenv hS.p2.lendv T.u70 z z) z (.q z (.s (bs T.s82 z z) z (.c (.liv [(Quad.mk 4 0 0 0 (w64 ((w64 ((w64 ((w64 ((w64 (a1 + (y1.length : Int))) + 1)) + (y2.length : Int))) + 1)) + (y3.length : Int))))] dQuad T.u70 T.t82 hS z z z z ?_ z (fun _=>z) z z z z))))))))))
 intro v10 W hS
 have ⟨r5,hr5,h⟩:=bnd h
 have hT0:=hS.p1
 refine .c (.apprv hr5 hT0 hT0.p1.lendv (fun _=>z) T.u70 T.t82 z z z ?_ z z z z z)
 intro v11 W hS
 refine .qn z (.g (.q z (.q z ?_)))
 have ⟨r6,hr6,h⟩:=bnd h
 have hT0:=hS
 refine .c (.apprv hr6 hT0 hT0.p3.lendv (fun _=>z) T.u70 T.t82 z z z ?_ z z z z z)
 intro v12 W hS
 obtain rfl:=Option.some.inj h
 exact .qn z (.ret (fin_ret (vs:=[_]) v12 (rt z rn) z (hS.to [0] z)))
theorem fey {k : Nat} {f0i : List Stmt → Int → Option ((List Quad))} {f0h : Stmt → Int → Option ((List Quad))} {f0x : Stmt → Int → Option ((List Quad))} {f0l : Stmt → Int → Option ((List Quad))} (f3j : f2z f0i) (f7h : f48 f0h) (f94 : f5f f0x) (f6d : f3n f0l) : f3n (f50 k f0i f0h f0x f0l):=by
 intro a0 a1 v_0_Expr_Args v_0_Body v_0_Else w r h q_0_Expr_Args q_0_Body q_0_Else
 unfold f50 at h
 refine enter Tryz.func128 z z ?_
 have hS:=Sep.start w
 refine .g (.c (.box hS z z ?_ z z))
 intro g1 W hS
 refine .qn z (.g (.s (fa T.f131_3 z z z) z (.s (ld T.t129 hS z z z z z) z ?_)))
 have ⟨y1,hy1,h⟩:=bnd h
 refine .c (.call1v hS Tryz.func126 (f9s hy1 (hS.keep q_0_Expr_Args)) z z ?_ z z z z)
 intro v1 W hS
 refine .qn z (.g (.s (fa T.f131_4 z z z) z (.s (ld T.t94 hS.p1 z z z z z) z (.q z (.q z (.s (lenv hS.lendv T.u70 z z) z (.q z (.q z ?_))))))))
 have ⟨y2,hy2,h⟩:=bnd h
 refine .c (.call1v hS Tryz.func89 (f3j hy2 (hS.keep q_0_Body)) z z ?_ z z z z)
 intro v2 W hS
 refine .qn z (.g (.q z (.q z (.q z (.s (lenv hS.p1.lendv T.u70 z z) z (.q z (.q z (.q z (.s (lenv hS.lendv T.u70 z z) z (.q z (.q z (.s (bs T.s82 z z) z (.c (.liv [(Quad.mk 5 0 4 0 (w64 ((w64 ((w64 ((w64 (a1 + (y1.length : Int))) + 1)) + (y2.length : Int))) + 1)))] dQuad T.u70 T.t82 hS z z z z ?_ z (fun _=>z) z z z z))))))))))))))
 intro v3 W hS
 have ⟨r1,hr1,h⟩:=bnd h
 have hT0:=hS.p2
 refine .c (.apprv hr1 hT0 hT0.p1.lendv (fun _=>z) T.u70 T.t82 z z z ?_ z z z z z)
 intro v4 W hS
 refine .qn z (.g (.q z (.q z ?_)))
 have ⟨r2,hr2,h⟩:=bnd h
 have hT0:=hS
 refine .c (.apprv hr2 hT0 hT0.p2.lendv (fun _=>z) T.u70 T.t82 z z z ?_ z z z z z)
 intro v5 W hS
 refine .qn z (.g (.q z (.q z (.s (bs T.s82 z z) z (.c (.liv [(Quad.mk 4 0 0 0 a1)] dQuad T.u70 T.t82 hS z z z z ?_ z (fun _=>z) z z z z))))))
 intro v6 W hS
 have ⟨r3,hr3,h⟩:=bnd h
 have hT0:=hS.p1
 refine .c (.apprv hr3 hT0 hT0.p1.lendv (fun _=>z) T.u70 T.t82 z z z ?_ z z z z z)
 intro v7 W hS
 obtain rfl:=Option.some.inj h
 exact .qn z (.ret (fin_ret (vs:=[_]) v7 (rt z rn) z (hS.to [0] z)))
theorem fc8 (k : Nat) : f2z (f3g k) ∧ f48 (f62 k) ∧ f5f (faa k) ∧ f3n (f6v k):=by
  induction k with
  | zero=>exact ⟨by intro a0 a1 v_0 w r h q_0; exact no h,by intro a0 a1 v_0_Expr_Args v_0_Body v_0_Else w r h q_0_Expr_Args q_0_Body q_0_Else; exact no h,by intro a0 a1 v_0_Expr_Args v_0_Body v_0_Else w r h q_0_Expr_Args q_0_Body q_0_Else; exact no h,by intro a0 a1 v_0_Expr_Args v_0_Body v_0_Else w r h q_0_Expr_Args q_0_Body q_0_Else; exact no h⟩
  | succ k ih=>exact ⟨ff8 (k:=k) ih.1 ih.2.1 ih.2.2.1 ih.2.2.2,ff4 (k:=k) ih.1 ih.2.1 ih.2.2.1 ih.2.2.2,ffk (k:=k) ih.1 ih.2.1 ih.2.2.1 ih.2.2.2,fey (k:=k) ih.1 ih.2.1 ih.2.2.1 ih.2.2.2⟩
theorem fej {k : Nat} : f2z (f3g k):=(fc8 k).1
theorem fcb {k : Nat} {a0 : List Stmt} {v_0 : Hd} {w : World} {r : (List Quad) × Bool} (h : f4n k a0 = some r) (q_0 : RV w (Old No w) (sv v_0) 131 8 dStmt a0) : Calls Tryz.prog 58 #[(sv v_0)] w (Ret No w (fun s : Hd=>.tuple #[(sv s),.bool r.2]) (fun s=>[rowV (sv s) 82 5 dQuad r.1])):=by
 unfold f4n at h
 refine enter Tryz.func58 z z ?_
 have hS:=Sep.start w
 refine .g (.q z (.qn z (.seq (.g (.q z ?_)))))
 have ⟨y1,hy1,h⟩:=bnd h
 refine .c (.call0 hS Tryz.func88 (fcj hy1 (hS.keep q_0)) z z ?_ z z z z)
 intro W hS
 refine .q z (.nil ?_)
 refine .cs z h ?_ ?_ <;> intro h
 ·refine .g (.c (.liv [] dQuad T.u70 T.t82 hS z z z z ?_ z (fun _=>z) z z z z))
  intro v1 W hS
  cases h
  exact .q z (.qn z (.ret (fin_ret (vs:=[_,_]) v1 (rt z (rt z rn)) z (hS.to [0] z))))
 refine .skip (.g (.q z ?_))
 have ⟨y2,hy2,h⟩:=bnd h
 refine .c (.call1v hS Tryz.func89 (fej hy2 (hS.keep q_0)) z z ?_ z z z z)
 intro v2 W hS
 refine .s (bs T.s82 z z) z (.c (.liv [(Quad.mk 10 0 0 0 0)] dQuad T.u70 T.t82 hS z z z z ?_ z (fun _=>z) z z z z))
 intro v3 W hS
 have ⟨r1,hr1,h⟩:=bnd h
 have hT0:=hS.p1
 refine .c (.apprv hr1 hT0 hT0.p1.lendv (fun _=>z) T.u70 T.t82 z z z ?_ z z z z z)
 intro v4 W hS
 cases h
 exact .q z (.qn z (.ret (fin_ret (vs:=[_,_]) v4 (rt z (rt z rn)) z (hS.to [0] z))))
theorem f04 {a0 : Int} {a1 : Expr} {a2 : Expr} {v_1_Args : Hd} {v_2_Args : Hd} {S : Nat → Prop} {w : World} {r : Expr} (h : f76 a0 a1 a2 = some r) (hO : Owns w [rowV (sv v_1_Args) 129 3 dExpr a1.Args,rowV (sv v_2_Args) 129 3 dExpr a2.Args] S) (hlt : ∀ b,S b → b < w.heap.size) : Calls Tryz.prog 150 #[.int .i64 a0,.agg #[.int .i64 a1.Op,.int .i64 a1.N,(sv v_1_Args)],.agg #[.int .i64 a2.Op,.int .i64 a2.N,(sv v_2_Args)]] w (Ret S w (fun s : Hd=>.agg #[.int .i64 r.Op,.int .i64 r.N,(sv s)]) (fun s=>[rowV (sv s) 129 3 dExpr r.Args])):=by
 unfold f76 at h
 refine enter Tryz.func150 z z ?_
 have hS:=Sep.startM hO hlt
 refine .g (.c (.box hS z z ?_ z z))
 intro g1 W hS
 refine .c (.box hS z z ?_ z z)
 intro g2 W hS
 refine .c (.alloc T.t129 hS ?_ z z z)
 intro g3 W hS
 refine .nil (.g (.q z (.s (ld T.t129 hS.p2 z z z z z) z (.s (ld T.t129 hS.p1 z z z z z) z (.c (.ligv (L1:=[rowV (sv v_1_Args) 129 3 dExpr a1.Args,rowV (sv v_2_Args) 129 3 dExpr a2.Args]) [(Expr.mk a1.Op a1.N a1.Args),(Expr.mk a2.Op a2.N a2.Args)] dExpr T.u127 T.t129 (hS.to [3,3,0,0,0] z) z z z (.aggE (eExpr _) (.flat (c1:=[.int .i64 a1.Op]) z (.flat (c1:=[.int .i64 a1.N]) z (.row (.aggE (eExpr _) (.flat (c1:=[.int .i64 a2.Op]) z (.flat (c1:=[.int .i64 a2.N]) z (.row .nil)))))))) ?_ z zExpr z z z z z))))))
 intro v1 W hS
 refine .s (bs T.s129 z z) z (.c (.st T.t129 hS.p1 z z z ?_ z z z z z))
 intro W hS
 cases h
 exact .nil (.ret (fin_ret (vs:=[_]) v1 (rc hS T.t129 z rn z z) z (hS.to [1] z)))
theorem f05 {a0 : Int} {a1 : Int} {w : World} {r : Expr} (h : f26 a0 a1 = some r) : Calls Tryz.prog 151 #[.int .i64 a0,.int .i64 a1] w (Ret No w (fun s : Hd=>.agg #[.int .i64 r.Op,.int .i64 r.N,(sv s)]) (fun s=>[rowV (sv s) 129 3 dExpr r.Args])):=by
 unfold f26 at h
 refine enter Tryz.func151 z z ?_
 have hS:=Sep.start w
 refine .g (.c (.alloc T.t129 hS ?_ z z z))
 intro g1 W hS
 refine .nil (.g (.q z (.q z (.c (.ligv (L1:=[]) [] dExpr T.u127 T.t129 (hS.to [0] z) z z z (.nil) ?_ z zExpr z z z z z)))))
 intro v1 W hS
 refine .s (bs T.s129 z z) z (.c (.st T.t129 hS.p1 z z z ?_ z z z z z))
 intro W hS
 cases h
 exact .nil (.ret (fin_ret (vs:=[_]) v1 (rc hS T.t129 z rn z z) z (hS.to [1] z)))
theorem feo {a0 : L6Rd} {v_0_b : Hd} {g_0 : Nat} {S : Nat → Prop} {w : World} {r : Expr × Int} (h : f5e a0 = some r) (q_0_b : RV w (Old S w) (sv v_0_b) 5 1 (D.int .u8) a0.b) (hO : Owns w [.box g_0 55 [(sv v_0_b),.int .i64 a0.p]] S) (hlt : ∀ b,S b → b < w.heap.size) : Calls Tryz.prog 152 #[.pointer (some ⟨g_0,0,none⟩)] w (Ret S w (fun s : Hd=>.agg #[.int .i64 r.1.Op,.int .i64 r.1.N,(sv s)]) (fun s=>[.box g_0 55 [(sv v_0_b),.int .i64 r.2],rowV (sv s) 129 3 dExpr r.1.Args])):=by
 unfold f5e at h
 refine enter Tryz.func152 z z ?_
 have hS:=Sep.startM hO hlt
 refine .g (.c (.alloc T.t129 hS ?_ z z z))
 intro g1 W hS
 refine .nil (.seq (.g (.q z ?_)))
 have ⟨y1,hy1,h⟩:=bnd h
 have hS:=hS.p1
 refine .c (.callS2 (L0:=[.box g_0 55 [(sv v_0_b),.int .i64 a0.p]]) hS Tryz.func11 (fun S h1 h2 h3=>(f00 hy1 (hS.keepS q_0_b h1) h2 (zz h1))) z z ?_ z z z z)
 rintro ⟨⟩ W hS
 refine .nil (.block (.g (.q z (.qn z (.cond z (fun hb=>?_) (fun hb=>?_))))))
 ·have h:=sel_t hb h
  refine .g (.q z ?_)
  have ⟨y2,hy2,h⟩:=bnd h
  refine .c (.callS2 (L0:=[.box g_0 55 [(sv v_0_b),.int .i64 y1.2]]) hS Tryz.func11 (fun S h1 h2 h3=>(f00 hy2 (hS.keepS q_0_b h1) h2 (zz h1))) z z ?_ z z z z)
  rintro ⟨⟩ W hS
  have ⟨y3,hy3,h⟩:=bnd h
  refine .c (.call1v hS Tryz.func151 (f05 hy3) z z ?_ z z z z)
  intro v1 W hS
  refine .c (.st T.t129 hS.p2 z z z ?_ z z z z z)
  intro W hS
  cases h
  exact .nil (.ret (fin_ret (vs:=[_]) v1 (rc hS T.t129 z rn z z) z (hS.to [2,1] z)))
 have h:=sel_f hb h
 refine .g (.q z (.qn z (.cond z (fun hb=>?_) (fun hb=>?_))))
 ·have h:=sel_t hb h
  refine .g (.c (.liv [5,31,32,100,2047,2048,65536,99999] (D.int .i64) T.u23 T.t3 hS z z z z ?_ z (fun _=>z) z z z z))
  intro v2 W hS
  refine .q z ?_
  have ⟨y4,hy4,h⟩:=bnd h
  have hS:=hS.p1
  refine .c (.callS2 (L0:=[.box g_0 55 [(sv v_0_b),.int .i64 y1.2]]) hS Tryz.func11 (fun S h1 h2 h3=>(f00 hy4 (hS.keepS q_0_b h1) h2 (zz h1))) z z ?_ z z z z)
  rintro ⟨⟩ W hS
  have ⟨x1,hx1,h⟩:=bnd h
  refine .s (ixv hS.p1.lendv hx1 T.u23 T.t3 z z z) z (.s (lde (RV.flat hS.p1.lendv hx1 z) T.t3 z z z z z) z ?_)
  have ⟨y5,hy5,h⟩:=bnd h
  refine .c (.call1v hS Tryz.func151 (f05 hy5) z z ?_ z z z z)
  intro v3 W hS
  refine .c (.st T.t129 hS.p3 z z z ?_ z z z z z)
  intro W hS
  cases h
  exact .nil (.ret (fin_ret (vs:=[_]) v3 (rc hS T.t129 z rn z z) z (hS.to [2,1] z)))
 have h:=sel_f hb h
 refine .skip (.g (.q z ?_))
 have ⟨y6,hy6,h⟩:=bnd h
 refine .c (.callS2 (L0:=[.box g_0 55 [(sv v_0_b),.int .i64 y1.2]]) hS Tryz.func11 (fun S h1 h2 h3=>(f00 hy6 (hS.keepS q_0_b h1) h2 (zz h1))) z z ?_ z z z z)
 rintro ⟨⟩ W hS
 have ⟨y7,hy7,h⟩:=bnd h
 refine .c (.call1v hS Tryz.func151 (f05 hy7) z z ?_ z z z z)
 intro v4 W hS
 refine .c (.st T.t129 hS.p2 z z z ?_ z z z z z)
 intro W hS
 cases h
 exact .nil (.ret (fin_ret (vs:=[_]) v4 (rc hS T.t129 z rn z z) z (hS.to [2,1] z)))
def f8f (F : L6Rd → Int → Option (Expr × Int)) : Prop:=∀ {a0 : L6Rd} {a1 : Int} {v_0_b : Hd} {g_0 : Nat} {S : Nat → Prop} {w : World} {r : Expr × Int} (h : F a0 a1 = some r) (q_0_b : RV w (Old S w) (sv v_0_b) 5 1 (D.int .u8) a0.b) (hO : Owns w [.box g_0 55 [(sv v_0_b),.int .i64 a0.p]] S) (hlt : ∀ b,S b → b < w.heap.size) , Calls Tryz.prog 133 #[.pointer (some ⟨g_0,0,none⟩),.int .i64 a1] w (Ret S w (fun s : Hd=>.agg #[.int .i64 r.1.Op,.int .i64 r.1.N,(sv s)]) (fun s=>[.box g_0 55 [(sv v_0_b),.int .i64 r.2],rowV (sv s) 129 3 dExpr r.1.Args]))
end Go.Proofs.YtmpplggjpmmhlaaGreat.N
namespace Go.Proofs.YtmpplggjpmmhlaaGreat.N
open Go.Proofs.YtmpplggjpmmhlaaGreat.X
theorem ff3 {k : Nat} {f5x : L6Rd → Int → Option (Expr × Int)} (fbd : f8f f5x) : f8f (f5g k f5x):=by
 intro a0 a1 v_0_b g_0 S w r h q_0_b hO hlt
 unfold f5g at h
 refine enter Tryz.func133 z z ?_
 have hS:=Sep.startM hO hlt
 refine .g (.c (.alloc T.t129 hS ?_ z z z))
 intro g1 W hS
 refine .nil (.seq (.g (.q z (.q z (.q z ?_)))))
 have ⟨b1,hb1,h⟩:=bnd h
 refine .chunkL 4 13 (b1.1) (M:=S) (w0:=w) (L:=[.box g1 129 [.int .i64 0,.int .i64 0,(sv nilH)],.box g_0 55 [(sv v_0_b),.int .i64 b1.2]]) ?_ ?_
 ·refine .both (decide (a1 < 2)) (fun hb=>?_) (fun hb=>?_)
  ·refine .xx hb z (.xx hb z (.xx hb z ?_))
   cases sel_t hb hb1
   exact .s (pkt hb z z z) z (.nil (ck 4 (hS.to [0,0] z) z z z z))
  have hg1:=hb
  have h:=sel_f hb hb1
  refine .g hg1 (.q z ?_) z
  have ⟨y1,hy1,h⟩:=bnd h
  have hS:=hS.p1
  refine .g hg1 (.c (.callS2 (L0:=[.box g_0 55 [(sv v_0_b),.int .i64 a0.p]]) hS Tryz.func11 (fun S h1 h2 h3=>(f00 hy1 (hS.keepS q_0_b h1) h2 (zz h1))) z z ?_ z z z z)) z
  rintro ⟨⟩ W hS
  refine .g hg1 (.q z (.s (pkf hg1 z z z) z ?_)) z
  cases h
  exact .nil (ck 4 (hS.to [1,0] z) z z z z)
 intro W hS
 refine .nil (.cond z (fun hb=>?_) (fun hb=>?_))
 ·have h:=sel_t hb h
  refine .g (.q z ?_)
  have ⟨y2,hy2,h⟩:=bnd h
  have hS:=hS.p1
  refine .c (.callS2 (L0:=[.box g_0 55 [(sv v_0_b),.int .i64 b1.2]]) hS Tryz.func152 (fun S h1 h2 h3=>(feo hy2 (hS.keepS q_0_b h1) h2 (zz h1))) z z ?_ z z z z)
  rintro v1 W hS
  refine .c (.st T.t129 hS.p2 z z z ?_ z z z z z)
  intro W hS
  cases h
  exact .nil (.ret (fin_ret (vs:=[_]) v1 (rc hS T.t129 z rn z z) z (hS.to [1,1] z)))
 have h:=sel_f hb h
 refine .skip (.g (.q z ?_))
 have ⟨y3,hy3,h⟩:=bnd h
 have hS:=hS.p1
 refine .c (.callS2 (L0:=[.box g_0 55 [(sv v_0_b),.int .i64 b1.2]]) hS Tryz.func110 (fun S h1 h2 h3=>(fc3 hy3 (hS.keepS q_0_b h1) h2 (zz h1))) z z ?_ z z z z)
 rintro ⟨⟩ W hS
 refine .qn z (.g (.q z (.q z (.q z ?_))))
 have ⟨y4,hy4,h⟩:=bnd h
 refine .c (.callS2 (L0:=[.box g_0 55 [(sv v_0_b),.int .i64 y3.2]]) hS Tryz.func133 (fun S h1 h2 h3=>(fbd hy4 (hS.keepS q_0_b h1) h2 (zz h1))) z z ?_ z z z z)
 rintro v2 W hS
 refine .c (.alloc T.t129 hS ?_ z z z)
 intro g2 W hS
 refine .c (.st T.t129 hS z z z ?_ z z z z z)
 intro W hS
 refine .nil (.seq (.rk 7 hS [0,2] T.mix ?_))
 intro W hS
 have hT:=hS.to [0,2] z
 refine .tp 0 z z hT (by kernel_rfl) (.ts 1 z (fun W hT=>ld T.t129 hT z z z z z) hT z (by kernel_rfl) (.tp 2 z z hT (by kernel_rfl) (.tp 3 z z hT (by kernel_rfl) (.tp 4 z z hT (by kernel_rfl) ?_))))
 have ⟨y5,hy5,h⟩:=bnd h
 have hS:=hS.p1
 refine .by1 5 z (.callS2 (L0:=[.box g_0 55 [(sv v_0_b),.int .i64 y4.2]]) hS Tryz.func133 (fun S h1 h2 h3=>(fbd hy5 (hS.keepS q_0_b h1) h2 (zz h1))) z z ?_ z z z z) (by kernel_rfl)
 rintro v3 W hS
 have hT:=hS.to [2,3] z
 refine ⟨fun _=>hT,?_⟩
 have ⟨y6,hy6,h⟩:=bnd h
 have hS:=hS.p1
 have hS:=hS.p3
 refine .by1 6 z (.callS2 (L0:=[rowV (sv v2) 129 3 dExpr y4.1.Args,rowV (sv v3) 129 3 dExpr y5.1.Args]) hS Tryz.func150 (fun S h1 h2 h3=>(f04 hy6 h2 (zz h1))) z z ?_ z z z z) (by kernel_rfl)
 rintro v4 W hS
 have hT:=hS.to [2,2] z
 refine ⟨fun _=>hT,.by1 7 z (.st T.t129 hS.p3 z z z ?_ z z z z z) (by kernel_rfl)⟩
 intro W hS
 refine ⟨fun h=>absurd z h,?_⟩
 cases h
 exact .done (.ret (fin_ret (vs:=[_]) v4 (rc hS T.t129 z rn z z) z (hS.to [2,1] z))) (by kernel_rfl)
theorem fcg (k : Nat) : f8f (f2k k):=by
  induction k with
  | zero=>exact by intro a0 a1 v_0_b g_0 S w r h q_0_b hO hlt; exact no h
  | succ k ih=>exact ff3 (k:=k) ih
theorem f7c {k : Nat} : f8f (f2k k):=(fcg k)
theorem fbp {k : Nat} {a0 : L6Rd} {v_0_b : Hd} {g_0 : Nat} {S : Nat → Prop} {w : World} {r : Stmt × Int} (h : f75 k a0 = some r) (q_0_b : RV w (Old S w) (sv v_0_b) 5 1 (D.int .u8) a0.b) (hO : Owns w [.box g_0 55 [(sv v_0_b),.int .i64 a0.p]] S) (hlt : ∀ b,S b → b < w.heap.size) : Calls Tryz.prog 129 #[.pointer (some ⟨g_0,0,none⟩)] w (Ret S w (fun s : Hd × Hd × Hd=>.agg #[.int .i64 r.1.Kind,.int .i64 r.1.Var,.int .i64 r.1.Box,.int .i64 r.1.Expr.Op,.int .i64 r.1.Expr.N,(sv s.1),(sv s.2.1),(sv s.2.2)]) (fun s=>[.box g_0 55 [(sv v_0_b),.int .i64 r.2],rowV (sv s.1) 129 3 dExpr r.1.Expr.Args,rowV (sv s.2.1) 131 8 dStmt r.1.Body,rowV (sv s.2.2) 131 8 dStmt r.1.Else])):=by
 unfold f75 at h
 refine enter Tryz.func129 z z ?_
 have hS:=Sep.startM hO hlt
 refine .g (.c (.alloc T.t131 hS ?_ z z z))
 intro g1 W hS
 refine .nil (.g (.q z ?_))
 have ⟨y1,hy1,h⟩:=bnd h
 have hS:=hS.p1
 refine .c (.callS2 (L0:=[.box g_0 55 [(sv v_0_b),.int .i64 a0.p]]) hS Tryz.func11 (fun S h1 h2 h3=>(f00 hy1 (hS.keepS q_0_b h1) h2 (zz h1))) z z ?_ z z z z)
 rintro ⟨⟩ W hS
 refine .qn z (.g (.q z (.q z (.q z ?_))))
 have ⟨y2,hy2,h⟩:=bnd h
 refine .c (.callS2 (L0:=[.box g_0 55 [(sv v_0_b),.int .i64 y1.2]]) hS Tryz.func11 (fun S h1 h2 h3=>(f00 hy2 (hS.keepS q_0_b h1) h2 (zz h1))) z z ?_ z z z z)
 rintro ⟨⟩ W hS
 refine .q z ?_
 have ⟨y3,hy3,h⟩:=bnd h
 refine .c (.callS2 (L0:=[.box g_0 55 [(sv v_0_b),.int .i64 y2.2]]) hS Tryz.func133 (fun S h1 h2 h3=>(f7c hy3 (hS.keepS q_0_b h1) h2 (zz h1))) z z ?_ z z z z)
 rintro v1 W hS
 refine .s (bs T.s131 z z) z (.c (.st T.t131 hS.p2 z z z ?_ z z z z z))
 intro W hS
 refine .nil (.ret ?_)
 have hS:=hS.nilv 131 8 dStmt
 have hS:=hS.nilv 131 8 dStmt
 cases h
 exact fin_ret (vs:=[_]) (v1,nilH,nilH) (rc hS.p2 T.t131 z rn z z) z (hS.to [3,3,1,0] z)
theorem feb {k : Nat} {a0 : L6Rd} {a1 : Int} {v_0_b : Hd} {g_0 : Nat} {S : Nat → Prop} {w : World} {r : Stmt × Int} (h : f7p k a0 a1 = some r) (q_0_b : RV w (Old S w) (sv v_0_b) 5 1 (D.int .u8) a0.b) (hO : Owns w [.box g_0 55 [(sv v_0_b),.int .i64 a0.p]] S) (hlt : ∀ b,S b → b < w.heap.size) : Calls Tryz.prog 132 #[.pointer (some ⟨g_0,0,none⟩),.int .i64 a1] w (Ret S w (fun s : Hd × Hd × Hd=>.agg #[.int .i64 r.1.Kind,.int .i64 r.1.Var,.int .i64 r.1.Box,.int .i64 r.1.Expr.Op,.int .i64 r.1.Expr.N,(sv s.1),(sv s.2.1),(sv s.2.2)]) (fun s=>[.box g_0 55 [(sv v_0_b),.int .i64 r.2],rowV (sv s.1) 129 3 dExpr r.1.Expr.Args,rowV (sv s.2.1) 131 8 dStmt r.1.Body,rowV (sv s.2.2) 131 8 dStmt r.1.Else])):=by
 unfold f7p at h
 refine enter Tryz.func132 z z ?_
 have hS:=Sep.startM hO hlt
 refine .g (.c (.alloc T.t131 hS ?_ z z z))
 intro g1 W hS
 refine .nil (.seq (.g (.q z (.qn z (.cond z (fun hb=>?_) (fun hb=>?_))))))
 ·have h:=sel_t hb h
  refine .g (.q z ?_)
  have ⟨y1,hy1,h⟩:=bnd h
  have hS:=hS.p1
  refine .c (.callS2 (L0:=[.box g_0 55 [(sv v_0_b),.int .i64 a0.p]]) hS Tryz.func129 (fun S h1 h2 h3=>(fbp hy1 (hS.keepS q_0_b h1) h2 (zz h1))) z z ?_ z z z z)
  rintro ⟨v1,v2,v3⟩ W hS
  refine .c (.st T.t131 hS.p4 z z z ?_ z z z z z)
  intro W hS
  cases h
  exact .nil (.ret (fin_ret (vs:=[_]) (v1,v2,v3) (rc hS T.t131 z rn z z) z (hS.to [1,1,1,1] z)))
 have h:=sel_f hb h
 refine .skip (.g (.q z (.q z ?_)))
 have ⟨y2,hy2,h⟩:=bnd h
 have hS:=hS.p1
 refine .c (.callS2 (L0:=[.box g_0 55 [(sv v_0_b),.int .i64 a0.p]]) hS Tryz.func11 (fun S h1 h2 h3=>(f00 hy2 (hS.keepS q_0_b h1) h2 (zz h1))) z z ?_ z z z z)
 rintro ⟨⟩ W hS
 refine .qn z (.seq (.g (.q z ?_)))
 have ⟨y3,hy3,h⟩:=bnd h
 refine .c (.callS2 (L0:=[.box g_0 55 [(sv v_0_b),.int .i64 y2.2]]) hS Tryz.func11 (fun S h1 h2 h3=>(f00 hy3 (hS.keepS q_0_b h1) h2 (zz h1))) z z ?_ z z z z)
 rintro ⟨⟩ W hS
 refine .qn z (.cond z (fun hb=>?_) (fun hb=>?_))
 ·have h:=sel_t hb h
  refine .g (.q z (.q z (.q z ?_)))
  have ⟨y4,hy4,h⟩:=bnd h
  refine .c (.callS2 (L0:=[.box g_0 55 [(sv v_0_b),.int .i64 y3.2]]) hS Tryz.func11 (fun S h1 h2 h3=>(f00 hy4 (hS.keepS q_0_b h1) h2 (zz h1))) z z ?_ z z z z)
  rintro ⟨⟩ W hS
  refine .q z ?_
  have ⟨y5,hy5,h⟩:=bnd h
  refine .c (.callS2 (L0:=[.box g_0 55 [(sv v_0_b),.int .i64 y4.2]]) hS Tryz.func133 (fun S h1 h2 h3=>(f7c hy5 (hS.keepS q_0_b h1) h2 (zz h1))) z z ?_ z z z z)
  rintro v4 W hS
  refine .s (bs T.s131 z z) z (.c (.st T.t131 hS.p2 z z z ?_ z z z z z))
  intro W hS
  refine .nil (.ret ?_)
  have hS:=hS.nilv 131 8 dStmt
  have hS:=hS.nilv 131 8 dStmt
  cases h
  exact fin_ret (vs:=[_]) (v4,nilH,nilH) (rc hS.p2 T.t131 z rn z z) z (hS.to [3,3,1,0] z)
 have h:=sel_f hb h
 refine .skip (.g (.q z (.q z ?_)))
 have ⟨y6,hy6,h⟩:=bnd h
 refine .c (.callS2 (L0:=[.box g_0 55 [(sv v_0_b),.int .i64 y3.2]]) hS Tryz.func11 (fun S h1 h2 h3=>(f00 hy6 (hS.keepS q_0_b h1) h2 (zz h1))) z z ?_ z z z z)
 rintro ⟨⟩ W hS
 refine .s (bs T.s131 z z) z (.c (.st T.t131 hS.p1 z z z ?_ z z z z z))
 intro W hS
 refine .nil (.ret ?_)
 have hS:=hS.nilv 129 3 dExpr
 have hS:=hS.nilv 131 8 dStmt
 have hS:=hS.nilv 131 8 dStmt
 cases h
 exact fin_ret (vs:=[_]) (nilH,nilH,nilH) (rc hS.p3 T.t131 z rn z z) z (hS.to [4,2,1,0] z)
def f2r (F : L6Rd → Int → Int → Int → Bool → Option ((List Stmt) × Int)) : Prop:=∀ {a0 : L6Rd} {a1 : Int} {a2 : Int} {a3 : Int} {a4 : Bool} {v_0_b : Hd} {g_0 : Nat} {S : Nat → Prop} {w : World} {r : (List Stmt) × Int} (h : F a0 a1 a2 a3 a4 = some r) (q_0_b : RV w (Old S w) (sv v_0_b) 5 1 (D.int .u8) a0.b) (hO : Owns w [.box g_0 55 [(sv v_0_b),.int .i64 a0.p]] S) (hlt : ∀ b,S b → b < w.heap.size) , Calls Tryz.prog 90 #[.pointer (some ⟨g_0,0,none⟩),.int .i64 a1,.int .i64 a2,.int .i64 a3,.bool a4] w (Ret S w (fun s : Hd=>(sv s)) (fun s=>[.box g_0 55 [(sv v_0_b),.int .i64 r.2],rowV (sv s) 131 8 dStmt r.1]))
def f4b (F : L6Rd → Int → Int → Bool → Option ((List Stmt) × Int)) : Prop:=∀ {a0 : L6Rd} {a1 : Int} {a2 : Int} {a3 : Bool} {v_0_b : Hd} {g_0 : Nat} {S : Nat → Prop} {w : World} {r : (List Stmt) × Int} (h : F a0 a1 a2 a3 = some r) (q_0_b : RV w (Old S w) (sv v_0_b) 5 1 (D.int .u8) a0.b) (hO : Owns w [.box g_0 55 [(sv v_0_b),.int .i64 a0.p]] S) (hlt : ∀ b,S b → b < w.heap.size) , Calls Tryz.prog 113 #[.pointer (some ⟨g_0,0,none⟩),.int .i64 a1,.int .i64 a2,.bool a3] w (Ret S w (fun s : Hd=>(sv s)) (fun s=>[.box g_0 55 [(sv v_0_b),.int .i64 r.2],rowV (sv s) 131 8 dStmt r.1]))
def f5k (F : L6Rd → Int → Int → Bool → Option (Stmt × Int)) : Prop:=∀ {a0 : L6Rd} {a1 : Int} {a2 : Int} {a3 : Bool} {v_0_b : Hd} {g_0 : Nat} {S : Nat → Prop} {w : World} {r : Stmt × Int} (h : F a0 a1 a2 a3 = some r) (q_0_b : RV w (Old S w) (sv v_0_b) 5 1 (D.int .u8) a0.b) (hO : Owns w [.box g_0 55 [(sv v_0_b),.int .i64 a0.p]] S) (hlt : ∀ b,S b → b < w.heap.size) , Calls Tryz.prog 130 #[.pointer (some ⟨g_0,0,none⟩),.int .i64 a1,.int .i64 a2,.bool a3] w (Ret S w (fun s : Hd × Hd × Hd=>.agg #[.int .i64 r.1.Kind,.int .i64 r.1.Var,.int .i64 r.1.Box,.int .i64 r.1.Expr.Op,.int .i64 r.1.Expr.N,(sv s.1),(sv s.2.1),(sv s.2.2)]) (fun s=>[.box g_0 55 [(sv v_0_b),.int .i64 r.2],rowV (sv s.1) 129 3 dExpr r.1.Expr.Args,rowV (sv s.2.1) 131 8 dStmt r.1.Body,rowV (sv s.2.2) 131 8 dStmt r.1.Else]))
def f47 (F : L6Rd → Int → Int → Option ((List Stmt) × Int)) : Prop:=∀ {a0 : L6Rd} {a1 : Int} {a2 : Int} {v_0_b : Hd} {g_0 : Nat} {S : Nat → Prop} {w : World} {r : (List Stmt) × Int} (h : F a0 a1 a2 = some r) (q_0_b : RV w (Old S w) (sv v_0_b) 5 1 (D.int .u8) a0.b) (hO : Owns w [.box g_0 55 [(sv v_0_b),.int .i64 a0.p]] S) (hlt : ∀ b,S b → b < w.heap.size) , Calls Tryz.prog 131 #[.pointer (some ⟨g_0,0,none⟩),.int .i64 a1,.int .i64 a2] w (Ret S w (fun s : Hd=>(sv s)) (fun s=>[.box g_0 55 [(sv v_0_b),.int .i64 r.2],rowV (sv s) 131 8 dStmt r.1]))
theorem fee {k : Nat} {f0f : L6Rd → Int → Int → Int → Bool → Option ((List Stmt) × Int)} {f0g : L6Rd → Int → Int → Bool → Option ((List Stmt) × Int)} {f0y : L6Rd → Int → Int → Bool → Option (Stmt × Int)} {f0o : L6Rd → Int → Int → Option ((List Stmt) × Int)} (f35 : f2r f0f) (f7d : f4b f0g) (f90 : f5k f0y) (f7g : f47 f0o) : f2r (f54 k f0f f0g f0y f0o):=by
 intro a0 a1 a2 a3 a4 v_0_b g_0 S w r h q_0_b hO hlt
 unfold f54 at h
 refine enter Tryz.func90 z z ?_
 have hS:=Sep.startM hO hlt
 refine .g (.qn z (.g (.c (.ligv (L1:=[]) [] dStmt T.u94 T.t131 (hS.to [0] z) z z z (.nil) ?_ z zStmt z z z z z))))
 intro v1 W hS
 refine .qn z (.seq (.g (.qn z (.block ?_))))
 have ⟨y1,hy1,h⟩:=bnd h
 refine .via (.iter (fun s1 E' W'=>∃ (v4 : Hd),SubL E' [(0,.pointer (some ⟨g_0,0,none⟩)),(1,.int .i64 a1),(2,.int .i64 a2),(3,.int .i64 a3),(4,.bool a4),(11,(sv v4)),(12,.int .i64 s1.2.1)] ∧ Sep S w W' [.box g_0 55 [(sv v_0_b),.int .i64 s1.2.2],rowV (sv v4) 131 8 dStmt s1.1]) (fun y2 x E' W'=>x = .exit 0 ∧ ∃ (v5 : Hd),SubL E' [(11,(sv v5))] ∧ Sep S w W' [.box g_0 55 [(sv v_0_b),.int .i64 y2.2],rowV (sv v5) 131 8 dStmt y2.1]) hy1 ⟨v1,sb z,hS.to [1,0] z⟩ ?_) ?_
 ·intro s1 y3 E W h hI
  obtain ⟨v3,hE,hS⟩:=hI
  refine CW.sub hE ?_
  unfold f96 at h
  refine .seq (.g (.q z (.q z (.qn z (.cond z (fun hb=>?_) (fun hb=>?_))))))
  ·have h:=sel_t hb h
   refine .skip (.seq (.block (.region (.q z (.q z (.q z (.q z (.q z ?_))))))))
   have ⟨y4,hy4,h⟩:=bnd h
   refine .c (.callS2 (L0:=[.box g_0 55 [(sv v_0_b),.int .i64 s1.2.2]]) hS Tryz.func113 (fun S h1 h2 h3=>(f7d hy4 (hS.keepS q_0_b h1) h2 (zz h1))) z z ?_ z z z z)
   rintro v6 W hS
   have ⟨r1,hr1,h⟩:=bnd h
   refine .c (.appv hr1 (hS.to [2,1,0] z) T.u94 T.t131 z z z ?_ z z z z z)
   intro v7 W hS
   refine .qn z (.region (.q z (.q z (.q z (.nil ?_)))))
   cases h
   exact ⟨z,v7,sb z,hS.to [1,0] z⟩
  have h:=sel_f hb h
  refine .exit ?_
  cases h
  exact ⟨by simp,z,v3,sb z,hS.to [0,0] z⟩
 intro x E W hJ
 obtain ⟨rfl,v8,hE,hS⟩:=hJ
 refine ⟨_,hE.sub,?_⟩
 cases h
 exact .g (.q z (.qn z (.ret (fin_ret (vs:=[_]) v8 (rt z rn) z (hS.to [0,0] z)))))
def ff9 (w : World) (S : Nat → Prop) (v_0_b : Hd) (g_0 : Nat) (a0 : L6Rd) (a1 : Int) (a2 : Int) (a3 : Bool) (r : (List Stmt) × Int) : Env → World → Prop:=Fin Tryz.prog Tryz.f113 S w (fun s : Hd=>(sv s)) (fun s=>[.box g_0 55 [(sv v_0_b),.int .i64 r.2],rowV (sv s) 131 8 dStmt r.1]) .ret
theorem ff7 {k : Nat} {f0f : L6Rd → Int → Int → Int → Bool → Option ((List Stmt) × Int)} {f0g : L6Rd → Int → Int → Bool → Option ((List Stmt) × Int)} {f0y : L6Rd → Int → Int → Bool → Option (Stmt × Int)} {f0o : L6Rd → Int → Int → Option ((List Stmt) × Int)} (f35 : f2r f0f) (f7d : f4b f0g) (f90 : f5k f0y) (f7g : f47 f0o) : f4b (f60 k f0f f0g f0y f0o):=by
 intro a0 a1 a2 a3 v_0_b g_0 S w r h q_0_b hO hlt
 unfold f60 at h
 refine enter Tryz.func113 z z ?_
 have hS:=Sep.startM hO hlt
 refine .g (.q z (.nil ?_))
 have ⟨y1,hy1,h⟩:=bnd h
 refine .seq (CW.via (R':=fun x E' W'=>(match y1 with | .inl o1=>x = .normal ∧ SubL E' [(0,.pointer (some ⟨g_0,0,none⟩))] ∧ Sep S w W' [.box g_0 55 [(sv v_0_b),.int .i64 o1]] | .inr o2=>x = .ret ∧ ff9 w S v_0_b g_0 a0 a1 a2 a3 o2 E' W')) ?_ ?_)
 ·have h:=hy1
  refine .g (.q z ?_)
  have ⟨y2,hy2,h⟩:=bnd h
  refine .c (.callS2 (L0:=[.box g_0 55 [(sv v_0_b),.int .i64 a0.p]]) hS Tryz.func11 (fun S h1 h2 h3=>(f00 hy2 (hS.keepS q_0_b h1) h2 (zz h1))) z z ?_ z z z z)
  rintro ⟨⟩ W hS
  refine .nil (.block ?_)
  have ⟨y3,hy3,h⟩:=bnd h
  refine .seq (CW.via (R':=fun x E' W'=>x = .normal ∧ SubL E' [(0,.pointer (some ⟨g_0,0,none⟩)),(1,.int .i64 a1),(2,.int .i64 a2),(3,.bool a3),(10,.int .i64 y2.1),(11,.bool y3)] ∧ Sep S w W' [.box g_0 55 [(sv v_0_b),.int .i64 y2.2]]) ?_ ?_)
  ·have h:=hy3
   refine .g (.q z (.q z (.nil ?_)))
   refine .cs z h ?_ ?_ <;> intro h
   ·refine .skip ?_
    cases h
    exact ⟨z,sb z,hS.to [0] z⟩
   refine .region (.q z (.q z (.nil ?_)))
   cases h
   exact ⟨z,sb z,hS.to [0] z⟩
  intro x E W hJ
  obtain ⟨rfl,hE,hS⟩:=hJ
  refine ⟨_,hE.sub,?_⟩
  refine .cond z (fun hb=>?_) (fun hb=>?_)
  ·have h:=sel_t hb h
   refine .g (.q z ?_)
   have ⟨y4,hy4,h⟩:=bnd h
   refine .c (.callS2 (L0:=[.box g_0 55 [(sv v_0_b),.int .i64 y2.2]]) hS Tryz.func129 (fun S h1 h2 h3=>(fbp hy4 (hS.keepS q_0_b h1) h2 (zz h1))) z z ?_ z z z z)
   rintro ⟨v1,v2,v3⟩ W hS
   refine .c (.ligv (L1:=[rowV (sv v1) 129 3 dExpr y4.1.Expr.Args,rowV (sv v2) 131 8 dStmt y4.1.Body,rowV (sv v3) 131 8 dStmt y4.1.Else]) [(Stmt.mk y4.1.Kind y4.1.Var y4.1.Box (Expr.mk y4.1.Expr.Op y4.1.Expr.N y4.1.Expr.Args) y4.1.Body y4.1.Else)] dStmt T.u94 T.t131 (hS.to [1,1,1,0] z) z z z (.aggE (eStmt _) (.flat (c1:=[.int .i64 y4.1.Kind]) z (.flat (c1:=[.int .i64 y4.1.Var]) z (.flat (c1:=[.int .i64 y4.1.Box]) z (.aggE (eExpr _) (.flat (c1:=[.int .i64 y4.1.Expr.Op]) z (.flat (c1:=[.int .i64 y4.1.Expr.N]) z (.row (.row (.row .nil)))))))))) ?_ z zStmt z z z z z)
   intro v4 W hS
   refine .qn z (.ret ?_)
   cases h
   exact ⟨z,fin_ret (vs:=[_]) v4 (rt z rn) z (hS.to [1,0] z)⟩
  have h:=sel_f hb h
  refine .g (.q z (.q z (.nil ?_)))
  refine .cs z h ?_ ?_ <;> intro h
  ·refine .g (.q z (.qn z (.cond z (fun hb=>?_) (fun hb=>?_))))
   ·have h:=sel_t hb h
    refine .g (.q z (.q z (.q z (.q z ?_))))
    have ⟨y5,hy5,h⟩:=bnd h
    refine .c (.callS2 (L0:=[.box g_0 55 [(sv v_0_b),.int .i64 y2.2]]) hS Tryz.func130 (fun S h1 h2 h3=>(f90 hy5 (hS.keepS q_0_b h1) h2 (zz h1))) z z ?_ z z z z)
    rintro ⟨v5,v6,v7⟩ W hS
    refine .c (.ligv (L1:=[rowV (sv v5) 129 3 dExpr y5.1.Expr.Args,rowV (sv v6) 131 8 dStmt y5.1.Body,rowV (sv v7) 131 8 dStmt y5.1.Else]) [(Stmt.mk y5.1.Kind y5.1.Var y5.1.Box (Expr.mk y5.1.Expr.Op y5.1.Expr.N y5.1.Expr.Args) y5.1.Body y5.1.Else)] dStmt T.u94 T.t131 (hS.to [1,1,1,0] z) z z z (.aggE (eStmt _) (.flat (c1:=[.int .i64 y5.1.Kind]) z (.flat (c1:=[.int .i64 y5.1.Var]) z (.flat (c1:=[.int .i64 y5.1.Box]) z (.aggE (eExpr _) (.flat (c1:=[.int .i64 y5.1.Expr.Op]) z (.flat (c1:=[.int .i64 y5.1.Expr.N]) z (.row (.row (.row .nil)))))))))) ?_ z zStmt z z z z z)
    intro v8 W hS
    refine .qn z (.ret ?_)
    cases h
    exact ⟨z,fin_ret (vs:=[_]) v8 (rt z rn) z (hS.to [1,0] z)⟩
   have h:=sel_f hb h
   refine .skip ?_
   cases h
   exact ⟨z,sb z,hS.to [0] z⟩
  refine .g (.q z (.q z (.nil ?_)))
  refine .cs z h ?_ ?_ <;> intro h
  ·refine .g (.q z (.q z (.q z (.chunk 2 33 ((decide (a2 > 0)) && a3) hS ?_ ?_))))
   ·refine .both (decide (a2 > 0)) (fun hb=>?_) (fun hb=>?_)
    ·have hg1:=hb
     exact .g hg1 (.q z (.s (pkt hg1 z z z) z (.nil (ck 2 hS z (and_t hg1) z z)))) z
    exact .xx hb z (.s (pkf hb z z z) z (.nil (ck 2 hS z (and_f hb) z z)))
   intro W hS
   refine .nil (.cond z (fun hb=>?_) (fun hb=>?_))
   ·have h:=sel_t hb h
    refine .g (.q z (.q z (.q z ?_)))
    have ⟨y6,hy6,h⟩:=bnd h
    refine .c (.callS2 (L0:=[.box g_0 55 [(sv v_0_b),.int .i64 y2.2]]) hS Tryz.func131 (fun S h1 h2 h3=>(f7g hy6 (hS.keepS q_0_b h1) h2 (zz h1))) z z ?_ z z z z)
    rintro v9 W hS
    refine .qn z (.ret ?_)
    cases h
    exact ⟨z,fin_ret (vs:=[_]) v9 (rt z rn) z (hS.to [0,0] z)⟩
   have h:=sel_f hb h
   refine .skip ?_
   cases h
   exact ⟨z,sb z,hS.to [0] z⟩
  have ⟨y7,hy7,h⟩:=bnd h
  refine .seq (CW.via (R':=fun x E' W'=>x = .normal ∧ SubL E' [(0,.pointer (some ⟨g_0,0,none⟩)),(1,.int .i64 a1),(10,.int .i64 y2.1),(38,.bool y7)] ∧ Sep S w W' [.box g_0 55 [(sv v_0_b),.int .i64 y2.2]]) ?_ ?_)
  ·have h:=hy7
   refine .g (.q z (.q z (.nil ?_)))
   refine .cs z h ?_ ?_ <;> intro h
   ·refine .skip ?_
    cases h
    exact ⟨z,sb z,hS.to [0] z⟩
   refine .g (.q z (.q z (.nil ?_)))
   refine .cs z h ?_ ?_ <;> intro h
   ·refine .skip ?_
    cases h
    exact ⟨z,sb z,hS.to [0] z⟩
   refine .region (.q z (.q z (.nil ?_)))
   cases h
   exact ⟨z,sb z,hS.to [0] z⟩
  intro x E W hJ
  obtain ⟨rfl,hE,hS⟩:=hJ
  refine ⟨_,hE.sub,?_⟩
  refine .cond z (fun hb=>?_) (fun hb=>?_)
  ·have h:=sel_t hb h
   refine .g (.q z (.q z ?_))
   have ⟨y8,hy8,h⟩:=bnd h
   refine .c (.callS2 (L0:=[.box g_0 55 [(sv v_0_b),.int .i64 y2.2]]) hS Tryz.func132 (fun S h1 h2 h3=>(feb hy8 (hS.keepS q_0_b h1) h2 (zz h1))) z z ?_ z z z z)
   rintro ⟨v10,v11,v12⟩ W hS
   refine .c (.ligv (L1:=[rowV (sv v10) 129 3 dExpr y8.1.Expr.Args,rowV (sv v11) 131 8 dStmt y8.1.Body,rowV (sv v12) 131 8 dStmt y8.1.Else]) [(Stmt.mk y8.1.Kind y8.1.Var y8.1.Box (Expr.mk y8.1.Expr.Op y8.1.Expr.N y8.1.Expr.Args) y8.1.Body y8.1.Else)] dStmt T.u94 T.t131 (hS.to [1,1,1,0] z) z z z (.aggE (eStmt _) (.flat (c1:=[.int .i64 y8.1.Kind]) z (.flat (c1:=[.int .i64 y8.1.Var]) z (.flat (c1:=[.int .i64 y8.1.Box]) z (.aggE (eExpr _) (.flat (c1:=[.int .i64 y8.1.Expr.Op]) z (.flat (c1:=[.int .i64 y8.1.Expr.N]) z (.row (.row (.row .nil)))))))))) ?_ z zStmt z z z z z)
   intro v13 W hS
   refine .qn z (.ret ?_)
   cases h
   exact ⟨z,fin_ret (vs:=[_]) v13 (rt z rn) z (hS.to [1,0] z)⟩
  have h:=sel_f hb h
  refine .g (.q z (.q z (.nil ?_)))
  refine .cs z h ?_ ?_ <;> intro h
  ·refine .g (.s (bs T.s131 z z) z ?_)
   have hS:=hS.nilv 129 3 dExpr
   have hS:=hS.nilv 131 8 dStmt
   have hS:=hS.nilv 131 8 dStmt
   refine .c (.ligv (L1:=[rowV (sv nilH) 129 3 dExpr [],rowV (sv nilH) 131 8 dStmt [],rowV (sv nilH) 131 8 dStmt []]) [(Stmt.mk 6 0 0 (Expr.mk 0 0 []) [] [])] dStmt T.u94 T.t131 (hS.to [2,1,0,0] z) z z z (.aggE (eStmt _) (.flat (c1:=[.int .i64 6]) z (.flat (c1:=[.int .i64 0]) z (.flat (c1:=[.int .i64 0]) z (.aggE (eExpr _) (.flat (c1:=[.int .i64 0]) z (.flat (c1:=[.int .i64 0]) z (.row (.row (.row .nil)))))))))) ?_ z zStmt z z z z z)
   intro v14 W hS
   refine .qn z (.ret ?_)
   cases h
   exact ⟨z,fin_ret (vs:=[_]) v14 (rt z rn) z (hS.to [1,0] z)⟩
  refine .skip ?_
  cases h
  exact ⟨z,sb z,hS.to [0] z⟩
 intro x E W hJ
 rcases y1 with o3 | o4
 ·obtain ⟨rfl,hE,hS⟩:=hJ
  refine ⟨_,hE.sub,?_⟩
  refine .g (.q z (.q z ?_))
  have ⟨y9,hy9,h⟩:=bnd h
  refine .c (.callS2 (L0:=[.box g_0 55 [(sv v_0_b),.int .i64 o3]]) hS Tryz.func11 (fun S h1 h2 h3=>(f00 hy9 (hS.keepS q_0_b h1) h2 (zz h1))) z z ?_ z z z z)
  rintro ⟨⟩ W hS
  refine .q z ?_
  have ⟨y10,hy10,h⟩:=bnd h
  refine .c (.callS2 (L0:=[.box g_0 55 [(sv v_0_b),.int .i64 y9.2]]) hS Tryz.func133 (fun S h1 h2 h3=>(f7c hy10 (hS.keepS q_0_b h1) h2 (zz h1))) z z ?_ z z z z)
  rintro v15 W hS
  refine .s (bs T.s131 z z) z ?_
  have hS:=hS.nilv 131 8 dStmt
  have hS:=hS.nilv 131 8 dStmt
  refine .c (.ligv (L1:=[rowV (sv v15) 129 3 dExpr y10.1.Args,rowV (sv nilH) 131 8 dStmt [],rowV (sv nilH) 131 8 dStmt []]) [(Stmt.mk 7 0 0 (Expr.mk y10.1.Op y10.1.N y10.1.Args) [] [])] dStmt T.u94 T.t131 (hS.to [3,1,0,0] z) z z z (.aggE (eStmt _) (.flat (c1:=[.int .i64 7]) z (.flat (c1:=[.int .i64 0]) z (.flat (c1:=[.int .i64 0]) z (.aggE (eExpr _) (.flat (c1:=[.int .i64 y10.1.Op]) z (.flat (c1:=[.int .i64 y10.1.N]) z (.row (.row (.row .nil)))))))))) ?_ z zStmt z z z z z)
  intro v16 W hS
  cases h
  exact .qn z (.ret (fin_ret (vs:=[_]) v16 (rt z rn) z (hS.to [1,0] z)))
 obtain ⟨rfl,hF⟩:=hJ
 refine ⟨_,fun _ _ h=>h,?_⟩
 cases h
 exact hF
theorem ffo {k : Nat} {f0f : L6Rd → Int → Int → Int → Bool → Option ((List Stmt) × Int)} {f0g : L6Rd → Int → Int → Bool → Option ((List Stmt) × Int)} {f0y : L6Rd → Int → Int → Bool → Option (Stmt × Int)} {f0o : L6Rd → Int → Int → Option ((List Stmt) × Int)} (f35 : f2r f0f) (f7d : f4b f0g) (f90 : f5k f0y) (f7g : f47 f0o) : f5k (f8b k f0f f0g f0y f0o):=by
 intro a0 a1 a2 a3 v_0_b g_0 S w r h q_0_b hO hlt
 unfold f8b at h
 refine enter Tryz.func130 z z ?_
 have hS:=Sep.startM hO hlt
 refine .g (.c (.alloc T.t131 hS ?_ z z z))
 intro g1 W hS
 refine .nil (.g (.q z (.q z ?_)))
 have ⟨y1,hy1,h⟩:=bnd h
 have hS:=hS.p1
 refine .c (.callS2 (L0:=[.box g_0 55 [(sv v_0_b),.int .i64 a0.p]]) hS Tryz.func11 (fun S h1 h2 h3=>(f00 hy1 (hS.keepS q_0_b h1) h2 (zz h1))) z z ?_ z z z z)
 rintro ⟨⟩ W hS
 refine .q z ?_
 have ⟨y2,hy2,h⟩:=bnd h
 refine .c (.callS2 (L0:=[.box g_0 55 [(sv v_0_b),.int .i64 y1.2]]) hS Tryz.func133 (fun S h1 h2 h3=>(f7c hy2 (hS.keepS q_0_b h1) h2 (zz h1))) z z ?_ z z z z)
 rintro v1 W hS
 refine .c (.alloc T.t129 hS ?_ z z z)
 intro g2 W hS
 refine .c (.st T.t129 hS z z z ?_ z z z z z)
 intro W hS
 refine .nil (.g (.q z (.q z (.q z (.q z (.q z ?_))))))
 have ⟨y3,hy3,h⟩:=bnd h
 have hS:=hS.p1
 refine .c (.callS2 (L0:=[.box g_0 55 [(sv v_0_b),.int .i64 y2.2]]) hS Tryz.func11 (fun S h1 h2 h3=>(f00 hy3 (hS.keepS q_0_b h1) h2 (zz h1))) z z ?_ z z z z)
 rintro ⟨⟩ W hS
 refine .q z ?_
 have ⟨y4,hy4,h⟩:=bnd h
 refine .c (.callS2 (L0:=[.box g_0 55 [(sv v_0_b),.int .i64 y3.2]]) hS Tryz.func90 (fun S h1 h2 h3=>(f35 hy4 (hS.keepS q_0_b h1) h2 (zz h1))) z z ?_ z z z z)
 rintro v2 W hS
 refine .qn z (.seq (.rk 11 hS [1,1,1,1] T.mix ?_))
 intro W hS
 have hT:=hS.to [1,1,1,1] z
 refine .ts 0 z (fun W hT=>ld T.t129 hT.p1 z z z z z) hT z (by kernel_rfl) (.tp 1 z z hT (by kernel_rfl) (.tp 2 z z hT (by kernel_rfl) (.tp 3 z z hT (by kernel_rfl) (.tp 4 z z hT (by kernel_rfl) (.tp 5 z z hT (by kernel_rfl) (.tp 6 z z hT (by kernel_rfl) (.tp 8 z z hT (by kernel_rfl) ?_)))))))
 have ⟨y5,hy5,h⟩:=bnd h
 refine .by1 7 z (.callS2 (L0:=[.box g_0 55 [(sv v_0_b),.int .i64 y4.2]]) hS Tryz.func11 (fun S h1 h2 h3=>(f00 hy5 (hS.keepS q_0_b h1) h2 (zz h1))) z z ?_ z z z z) (by kernel_rfl)
 rintro ⟨⟩ W hS
 have hT:=hS.to [1,1,1,1] z
 refine ⟨fun _=>hT,?_⟩
 have ⟨y6,hy6,h⟩:=bnd h
 refine .by1 9 z (.callS2 (L0:=[.box g_0 55 [(sv v_0_b),.int .i64 y5.2]]) hS Tryz.func90 (fun S h1 h2 h3=>(f35 hy6 (hS.keepS q_0_b h1) h2 (zz h1))) z z ?_ z z z z) (by kernel_rfl)
 rintro v3 W hS
 have hT:=hS.to [2,2,2,2] z
 refine ⟨fun _=>hT,.ts 10 z (fun W hT=>bs T.s131 z z) hT z (by kernel_rfl) (.by1 11 z (.st T.t131 hS.p5 z z z ?_ z z z z z) (by kernel_rfl))⟩
 intro W hS
 refine ⟨fun h=>absurd z h,?_⟩
 cases h
 exact .done (.ret (fin_ret (vs:=[_]) (v1,v2,v3) (rc hS T.t131 z rn z z) z (hS.to [1,4,2,1] z))) (by kernel_rfl)
end Go.Proofs.YtmpplggjpmmhlaaGreat.N
namespace Go.Proofs.YtmpplggjpmmhlaaGreat.N
open Go.Proofs.YtmpplggjpmmhlaaGreat.X
theorem ff2 {k : Nat} {f0f : L6Rd → Int → Int → Int → Bool → Option ((List Stmt) × Int)} {f0g : L6Rd → Int → Int → Bool → Option ((List Stmt) × Int)} {f0y : L6Rd → Int → Int → Bool → Option (Stmt × Int)} {f0o : L6Rd → Int → Int → Option ((List Stmt) × Int)} (f35 : f2r f0f) (f7d : f4b f0g) (f90 : f5k f0y) (f7g : f47 f0o) : f47 (f63 k f0f f0g f0y f0o):=by
 intro a0 a1 a2 v_0_b g_0 S w r h q_0_b hO hlt
 unfold f63 at h
 refine enter Tryz.func131 z z ?_
 have hS:=Sep.startM hO hlt
 refine .g (.qn z (.g (.qn z (.g (.q z (.q z (.q z (.q z (.q z ?_)))))))))
 have ⟨y1,hy1,h⟩:=bnd h
 refine .c (.callS2 (L0:=[.box g_0 55 [(sv v_0_b),.int .i64 a0.p]]) hS Tryz.func11 (fun S h1 h2 h3=>(f00 hy1 (hS.keepS q_0_b h1) h2 (zz h1))) z z ?_ z z z z)
 rintro ⟨⟩ W hS
 have ⟨y2,hy2,h⟩:=bnd h
 refine .c (.callS2 (L0:=[.box g_0 55 [(sv v_0_b),.int .i64 y1.2]]) hS Tryz.func90 (fun S h1 h2 h3=>(f35 hy2 (hS.keepS q_0_b h1) h2 (zz h1))) z z ?_ z z z z)
 rintro v1 W hS
 refine .qn z (.g (.q z (.q z ?_)))
 have ⟨y3,hy3,h⟩:=bnd h
 refine .c (.call1v hS Tryz.func151 (f05 hy3) z z ?_ z z z z)
 intro v2 W hS
 have ⟨y4,hy4,h⟩:=bnd h
 refine .c (.call1v hS Tryz.func151 (f05 hy4) z z ?_ z z z z)
 intro v3 W hS
 have ⟨y5,hy5,h⟩:=bnd h
 have hS:=hS.p1
 refine .c (.callS2 (L0:=[rowV (sv v2) 129 3 dExpr y3.Args,rowV (sv v3) 129 3 dExpr y4.Args]) hS Tryz.func150 (fun S h1 h2 h3=>(f04 hy5 h2 (zz h1))) z z ?_ z z z z)
 rintro v4 W hS
 refine .s (bs T.s131 z z) z (.c (.alloc T.t131 hS ?_ z z z))
 intro g1 W hS
 refine .c (.st T.t131 hS z z z ?_ z z z z z)
 intro W hS
 refine .nil (.seq ?_)
 have ⟨y6,hy6,h⟩:=bnd h
 have ⟨y7,hy7,h⟩:=bnd h
 have ⟨y8,hy8,h⟩:=bnd h
 have ⟨y9,hy9,h⟩:=bnd h
 have ⟨r1,hr1,h⟩:=bnd h
 refine .via (R':=fun x E' W'=>x = .normal ∧ ∃ (g2 : Nat) (v5 : Hd) (v6 : Hd) (v7 : Hd),SubL E' [(7,.int .i64 3),(10,.pointer (some ⟨g2,0,none⟩))] ∧ Sep S w W' [.box g_0 55 [(sv v_0_b),.int .i64 y7.2],.box g2 131 [.int .i64 3,.int .i64 0,.int .i64 0,.int .i64 y9.Op,.int .i64 y9.N,(sv v5),(sv v6),(sv v7)],rowV (sv v5) 129 3 dExpr y9.Args,rowV (sv v6) 131 8 dStmt r1,rowV (sv v7) 131 8 dStmt []]) ?_ ?_
 ·refine .rk 13 hS [0] T.mix ?_
  intro W hS
  have hT:=hS.to [0] z
  refine .tp 0 z z hT (by kernel_rfl) (.tp 2 z z hT (by kernel_rfl) (.tp 7 z z hT (by kernel_rfl) (.ts 8 z (fun W hT=>ld T.t131 hT z z z z z) hT z (by kernel_rfl) (.by [1,9,12] ⟨⟨_,z,?_⟩,⟨_,z,?_⟩,⟨_,z,?_⟩,trivial⟩ (by kernel_rfl) z))))
  ·refine (.call1v hS Tryz.func151 (f05 hy6) z z ?_ z z z z)
   intro v8 W hS
   have hT:=hS.to [1] z
   refine ⟨fun _=>hT,.by [3,9,12] ⟨⟨_,z,?_⟩,⟨_,z,?_⟩,⟨_,z,?_⟩,trivial⟩ (by kernel_rfl) z⟩
   ·have hS:=hS.p3
    refine (.callS2 (L0:=[.box g_0 55 [(sv v_0_b),.int .i64 y2.2]]) hS Tryz.func11 (fun S h1 h2 h3=>(f00 hy7 (hS.keepS q_0_b h1) h2 (zz h1))) z z ?_ z z z z)
    rintro ⟨⟩ W hS
    have hT:=hS.to [2] z
    refine ⟨fun _=>hT,.tp 4 z z hT (by kernel_rfl) (.by [5,9,12] ⟨⟨_,z,?_⟩,⟨_,z,?_⟩,⟨_,z,?_⟩,trivial⟩ (by kernel_rfl) z)⟩
    ·refine (.call1v hS Tryz.func151 (f05 hy8) z z ?_ z z z z)
     intro v9 W hS
     have hT:=hS.to [3] z
     refine ⟨fun _=>hT,.by [6,9,12] ⟨⟨_,z,?_⟩,⟨_,z,?_⟩,⟨_,z,?_⟩,trivial⟩ (by kernel_rfl) z⟩
     ·have hS:=hS.p2
      refine (.callS2 (L0:=[rowV (sv v8) 129 3 dExpr y6.Args,rowV (sv v9) 129 3 dExpr y8.Args]) hS Tryz.func150 (fun S h1 h2 h3=>(f04 hy9 h2 (zz h1))) z z ?_ z z z z)
      rintro v10 W hS
      have hT:=hS.to [2] z
      refine ⟨fun _=>hT,.by [9,12] ⟨⟨_,z,?_⟩,⟨_,z,?_⟩,trivial⟩ (by kernel_rfl) z⟩
      ·have hS:=hS.nilv 131 8 dStmt
       have hS:=hS.nilv 131 8 dStmt
       refine (.ligv (L1:=[rowV (sv v4) 129 3 dExpr y5.Args,rowV (sv nilH) 131 8 dStmt [],rowV (sv nilH) 131 8 dStmt []]) [(Stmt.mk 1 3 0 (Expr.mk y5.Op y5.N y5.Args) [] [])] dStmt T.u94 T.t131 (hS.to [5,1,0,0,0,0,0] z) z z z (.aggE (eStmt _) (.flat (c1:=[.int .i64 1]) z (.flat (c1:=[.int .i64 3]) z (.flat (c1:=[.int .i64 0]) z (.aggE (eExpr _) (.flat (c1:=[.int .i64 y5.Op]) z (.flat (c1:=[.int .i64 y5.N]) z (.row (.row (.row .nil)))))))))) ?_ z zStmt z z z z z)
       intro v11 W hS
       have hT:=hS.to [3] z
       refine ⟨fun _=>hT,.by [10,12] ⟨⟨_,z,?_⟩,⟨_,z,?_⟩,trivial⟩ (by kernel_rfl) z⟩
       ·refine (.appv hr1 (hS.to [4,0,0,0,0] z) T.u94 T.t131 z z z ?_ z z z z z)
        intro v12 W hS
        have hT:=hS.to [3] z
        refine ⟨fun _=>hT,.ts 11 z (fun W hT=>bs T.s131 z z) hT z (by kernel_rfl) (.by1 12 z (.alloc T.t131 hS ?_ z z z) (by kernel_rfl))⟩
        intro g3 W hS
        have hT:=hS.to [4] z
        refine ⟨fun _=>hT,.by1 13 z (.st T.t131 hS z z z ?_ z z z z z) (by kernel_rfl)⟩
        intro W hS
        refine ⟨fun h=>absurd z h,?_⟩
        refine .done ?_ (by kernel_rfl)
        have hS:=hS.nilv 131 8 dStmt
        exact ⟨z,g3,v10,v12,nilH,sb z,hS.to [4,1,2,1,0] z⟩
       refine (.alloc T.t131 hS ?_ z z z)
       intro g4 W hS
       have hT:=hS.to [4] z
       refine ⟨fun _=>hT,.by1 10 z (.appv hr1 (hS.to [5,1,0,0,0,0] z) T.u94 T.t131 z z z ?_ z z z z z) (by kernel_rfl)⟩
       intro v13 W hS
       have hT:=hS.to [4] z
       refine ⟨fun _=>hT,.ts 11 z (fun W hT=>bs T.s131 z z) hT z (by kernel_rfl) (.by1 13 z (.st T.t131 hS.p1 z z z ?_ z z z z z) (by kernel_rfl))⟩
       intro W hS
       refine ⟨fun h=>absurd z h,?_⟩
       refine .done ?_ (by kernel_rfl)
       have hS:=hS.nilv 131 8 dStmt
       exact ⟨z,g4,v10,v13,nilH,sb z,hS.to [4,1,2,1,0] z⟩
      refine (.alloc T.t131 hS ?_ z z z)
      intro g5 W hS
      have hT:=hS.to [3] z
      refine ⟨fun _=>hT,?_⟩
      have hS:=hS.nilv 131 8 dStmt
      have hS:=hS.nilv 131 8 dStmt
      refine .by1 9 z (.ligv (L1:=[rowV (sv v4) 129 3 dExpr y5.Args,rowV (sv nilH) 131 8 dStmt [],rowV (sv nilH) 131 8 dStmt []]) [(Stmt.mk 1 3 0 (Expr.mk y5.Op y5.N y5.Args) [] [])] dStmt T.u94 T.t131 (hS.to [6,1,0,0,0,0,0,0] z) z z z (.aggE (eStmt _) (.flat (c1:=[.int .i64 1]) z (.flat (c1:=[.int .i64 3]) z (.flat (c1:=[.int .i64 0]) z (.aggE (eExpr _) (.flat (c1:=[.int .i64 y5.Op]) z (.flat (c1:=[.int .i64 y5.N]) z (.row (.row (.row .nil)))))))))) ?_ z zStmt z z z z z) (by kernel_rfl)
      intro v14 W hS
      have hT:=hS.to [4] z
      refine ⟨fun _=>hT,.by1 10 z (.appv hr1 (hS.to [5,0,0,0,0,0] z) T.u94 T.t131 z z z ?_ z z z z z) (by kernel_rfl)⟩
      intro v15 W hS
      have hT:=hS.to [4] z
      refine ⟨fun _=>hT,.ts 11 z (fun W hT=>bs T.s131 z z) hT z (by kernel_rfl) (.by1 13 z (.st T.t131 hS.p1 z z z ?_ z z z z z) (by kernel_rfl))⟩
      intro W hS
      refine ⟨fun h=>absurd z h,?_⟩
      refine .done ?_ (by kernel_rfl)
      have hS:=hS.nilv 131 8 dStmt
      exact ⟨z,g5,v10,v15,nilH,sb z,hS.to [4,1,2,1,0] z⟩
     ·have hS:=hS.nilv 131 8 dStmt
      have hS:=hS.nilv 131 8 dStmt
      refine (.ligv (L1:=[rowV (sv v4) 129 3 dExpr y5.Args,rowV (sv nilH) 131 8 dStmt [],rowV (sv nilH) 131 8 dStmt []]) [(Stmt.mk 1 3 0 (Expr.mk y5.Op y5.N y5.Args) [] [])] dStmt T.u94 T.t131 (hS.to [6,1,0,0,0,0,0,0] z) z z z (.aggE (eStmt _) (.flat (c1:=[.int .i64 1]) z (.flat (c1:=[.int .i64 3]) z (.flat (c1:=[.int .i64 0]) z (.aggE (eExpr _) (.flat (c1:=[.int .i64 y5.Op]) z (.flat (c1:=[.int .i64 y5.N]) z (.row (.row (.row .nil)))))))))) ?_ z zStmt z z z z z)
      intro v16 W hS
      have hT:=hS.to [4] z
      refine ⟨fun _=>hT,.by [6,12] ⟨⟨_,z,?_⟩,⟨_,z,?_⟩,trivial⟩ (by kernel_rfl) z⟩
      ·have hS:=hS.p1
       have hS:=hS.p3
       refine (.callS2 (L0:=[rowV (sv v8) 129 3 dExpr y6.Args,rowV (sv v9) 129 3 dExpr y8.Args]) hS Tryz.func150 (fun S h1 h2 h3=>(f04 hy9 h2 (zz h1))) z z ?_ z z z z)
       rintro v17 W hS
       have hT:=hS.to [3] z
       refine ⟨fun _=>hT,.by [10,12] ⟨⟨_,z,?_⟩,⟨_,z,?_⟩,trivial⟩ (by kernel_rfl) z⟩
       ·refine (.appv hr1 (hS.to [4,1,0,0,0] z) T.u94 T.t131 z z z ?_ z z z z z)
        intro v18 W hS
        have hT:=hS.to [3] z
        refine ⟨fun _=>hT,.ts 11 z (fun W hT=>bs T.s131 z z) hT z (by kernel_rfl) (.by1 12 z (.alloc T.t131 hS ?_ z z z) (by kernel_rfl))⟩
        intro g6 W hS
        have hT:=hS.to [4] z
        refine ⟨fun _=>hT,.by1 13 z (.st T.t131 hS z z z ?_ z z z z z) (by kernel_rfl)⟩
        intro W hS
        refine ⟨fun h=>absurd z h,?_⟩
        refine .done ?_ (by kernel_rfl)
        have hS:=hS.nilv 131 8 dStmt
        exact ⟨z,g6,v17,v18,nilH,sb z,hS.to [4,1,2,1,0] z⟩
       refine (.alloc T.t131 hS ?_ z z z)
       intro g7 W hS
       have hT:=hS.to [4] z
       refine ⟨fun _=>hT,.by1 10 z (.appv hr1 (hS.to [5,2,0,0,0,0] z) T.u94 T.t131 z z z ?_ z z z z z) (by kernel_rfl)⟩
       intro v19 W hS
       have hT:=hS.to [4] z
       refine ⟨fun _=>hT,.ts 11 z (fun W hT=>bs T.s131 z z) hT z (by kernel_rfl) (.by1 13 z (.st T.t131 hS.p1 z z z ?_ z z z z z) (by kernel_rfl))⟩
       intro W hS
       refine ⟨fun h=>absurd z h,?_⟩
       refine .done ?_ (by kernel_rfl)
       have hS:=hS.nilv 131 8 dStmt
       exact ⟨z,g7,v17,v19,nilH,sb z,hS.to [4,1,2,1,0] z⟩
      refine (.alloc T.t131 hS ?_ z z z)
      intro g8 W hS
      have hT:=hS.to [5] z
      refine ⟨fun _=>hT,?_⟩
      have hS:=hS.p2
      have hS:=hS.p4
      refine .by1 6 z (.callS2 (L0:=[rowV (sv v8) 129 3 dExpr y6.Args,rowV (sv v9) 129 3 dExpr y8.Args]) hS Tryz.func150 (fun S h1 h2 h3=>(f04 hy9 h2 (zz h1))) z z ?_ z z z z) (by kernel_rfl)
      rintro v20 W hS
      have hT:=hS.to [4] z
      refine ⟨fun _=>hT,.by1 10 z (.appv hr1 (hS.to [5,2,0,0,0,0] z) T.u94 T.t131 z z z ?_ z z z z z) (by kernel_rfl)⟩
      intro v21 W hS
      have hT:=hS.to [4] z
      refine ⟨fun _=>hT,.ts 11 z (fun W hT=>bs T.s131 z z) hT z (by kernel_rfl) (.by1 13 z (.st T.t131 hS.p2 z z z ?_ z z z z z) (by kernel_rfl))⟩
      intro W hS
      refine ⟨fun h=>absurd z h,?_⟩
      refine .done ?_ (by kernel_rfl)
      have hS:=hS.nilv 131 8 dStmt
      exact ⟨z,g8,v20,v21,nilH,sb z,hS.to [4,1,2,1,0] z⟩
     refine (.alloc T.t131 hS ?_ z z z)
     intro g9 W hS
     have hT:=hS.to [4] z
     refine ⟨fun _=>hT,.by [6,9] ⟨⟨_,z,?_⟩,⟨_,z,?_⟩,trivial⟩ (by kernel_rfl) z⟩
     ·have hS:=hS.p1
      have hS:=hS.p3
      refine (.callS2 (L0:=[rowV (sv v8) 129 3 dExpr y6.Args,rowV (sv v9) 129 3 dExpr y8.Args]) hS Tryz.func150 (fun S h1 h2 h3=>(f04 hy9 h2 (zz h1))) z z ?_ z z z z)
      rintro v22 W hS
      have hT:=hS.to [3] z
      refine ⟨fun _=>hT,?_⟩
      have hS:=hS.nilv 131 8 dStmt
      have hS:=hS.nilv 131 8 dStmt
      refine .by1 9 z (.ligv (L1:=[rowV (sv v4) 129 3 dExpr y5.Args,rowV (sv nilH) 131 8 dStmt [],rowV (sv nilH) 131 8 dStmt []]) [(Stmt.mk 1 3 0 (Expr.mk y5.Op y5.N y5.Args) [] [])] dStmt T.u94 T.t131 (hS.to [6,1,0,0,0,0,0,0] z) z z z (.aggE (eStmt _) (.flat (c1:=[.int .i64 1]) z (.flat (c1:=[.int .i64 3]) z (.flat (c1:=[.int .i64 0]) z (.aggE (eExpr _) (.flat (c1:=[.int .i64 y5.Op]) z (.flat (c1:=[.int .i64 y5.N]) z (.row (.row (.row .nil)))))))))) ?_ z zStmt z z z z z) (by kernel_rfl)
      intro v23 W hS
      have hT:=hS.to [4] z
      refine ⟨fun _=>hT,.by1 10 z (.appv hr1 (hS.to [5,0,0,0,0,0] z) T.u94 T.t131 z z z ?_ z z z z z) (by kernel_rfl)⟩
      intro v24 W hS
      have hT:=hS.to [4] z
      refine ⟨fun _=>hT,.ts 11 z (fun W hT=>bs T.s131 z z) hT z (by kernel_rfl) (.by1 13 z (.st T.t131 hS.p2 z z z ?_ z z z z z) (by kernel_rfl))⟩
      intro W hS
      refine ⟨fun h=>absurd z h,?_⟩
      refine .done ?_ (by kernel_rfl)
      have hS:=hS.nilv 131 8 dStmt
      exact ⟨z,g9,v22,v24,nilH,sb z,hS.to [4,1,2,1,0] z⟩
     have hS:=hS.nilv 131 8 dStmt
     have hS:=hS.nilv 131 8 dStmt
     refine (.ligv (L1:=[rowV (sv v4) 129 3 dExpr y5.Args,rowV (sv nilH) 131 8 dStmt [],rowV (sv nilH) 131 8 dStmt []]) [(Stmt.mk 1 3 0 (Expr.mk y5.Op y5.N y5.Args) [] [])] dStmt T.u94 T.t131 (hS.to [7,1,0,0,0,0,0,0,0] z) z z z (.aggE (eStmt _) (.flat (c1:=[.int .i64 1]) z (.flat (c1:=[.int .i64 3]) z (.flat (c1:=[.int .i64 0]) z (.aggE (eExpr _) (.flat (c1:=[.int .i64 y5.Op]) z (.flat (c1:=[.int .i64 y5.N]) z (.row (.row (.row .nil)))))))))) ?_ z zStmt z z z z z)
     intro v25 W hS
     have hT:=hS.to [5] z
     refine ⟨fun _=>hT,?_⟩
     have hS:=hS.p2
     have hS:=hS.p4
     refine .by1 6 z (.callS2 (L0:=[rowV (sv v8) 129 3 dExpr y6.Args,rowV (sv v9) 129 3 dExpr y8.Args]) hS Tryz.func150 (fun S h1 h2 h3=>(f04 hy9 h2 (zz h1))) z z ?_ z z z z) (by kernel_rfl)
     rintro v26 W hS
     have hT:=hS.to [4] z
     refine ⟨fun _=>hT,.by1 10 z (.appv hr1 (hS.to [5,1,0,0,0,0] z) T.u94 T.t131 z z z ?_ z z z z z) (by kernel_rfl)⟩
     intro v27 W hS
     have hT:=hS.to [4] z
     refine ⟨fun _=>hT,.ts 11 z (fun W hT=>bs T.s131 z z) hT z (by kernel_rfl) (.by1 13 z (.st T.t131 hS.p2 z z z ?_ z z z z z) (by kernel_rfl))⟩
     intro W hS
     refine ⟨fun h=>absurd z h,?_⟩
     refine .done ?_ (by kernel_rfl)
     have hS:=hS.nilv 131 8 dStmt
     exact ⟨z,g9,v26,v27,nilH,sb z,hS.to [4,1,2,1,0] z⟩
    ·have hS:=hS.nilv 131 8 dStmt
     have hS:=hS.nilv 131 8 dStmt
     refine (.ligv (L1:=[rowV (sv v4) 129 3 dExpr y5.Args,rowV (sv nilH) 131 8 dStmt [],rowV (sv nilH) 131 8 dStmt []]) [(Stmt.mk 1 3 0 (Expr.mk y5.Op y5.N y5.Args) [] [])] dStmt T.u94 T.t131 (hS.to [5,1,0,0,0,0,0] z) z z z (.aggE (eStmt _) (.flat (c1:=[.int .i64 1]) z (.flat (c1:=[.int .i64 3]) z (.flat (c1:=[.int .i64 0]) z (.aggE (eExpr _) (.flat (c1:=[.int .i64 y5.Op]) z (.flat (c1:=[.int .i64 y5.N]) z (.row (.row (.row .nil)))))))))) ?_ z zStmt z z z z z)
     intro v28 W hS
     have hT:=hS.to [3] z
     refine ⟨fun _=>hT,.by [5,12] ⟨⟨_,z,?_⟩,⟨_,z,?_⟩,trivial⟩ (by kernel_rfl) z⟩
     ·refine (.call1v hS Tryz.func151 (f05 hy8) z z ?_ z z z z)
      intro v29 W hS
      have hT:=hS.to [4] z
      refine ⟨fun _=>hT,.by [6,12] ⟨⟨_,z,?_⟩,⟨_,z,?_⟩,trivial⟩ (by kernel_rfl) z⟩
      ·have hS:=hS.p3
       refine (.callS2 (L0:=[rowV (sv v8) 129 3 dExpr y6.Args,rowV (sv v29) 129 3 dExpr y8.Args]) hS Tryz.func150 (fun S h1 h2 h3=>(f04 hy9 h2 (zz h1))) z z ?_ z z z z)
       rintro v30 W hS
       have hT:=hS.to [3] z
       refine ⟨fun _=>hT,.by [10,12] ⟨⟨_,z,?_⟩,⟨_,z,?_⟩,trivial⟩ (by kernel_rfl) z⟩
       ·refine (.appv hr1 (hS.to [4,1,0,0,0] z) T.u94 T.t131 z z z ?_ z z z z z)
        intro v31 W hS
        have hT:=hS.to [3] z
        refine ⟨fun _=>hT,.ts 11 z (fun W hT=>bs T.s131 z z) hT z (by kernel_rfl) (.by1 12 z (.alloc T.t131 hS ?_ z z z) (by kernel_rfl))⟩
        intro g10 W hS
        have hT:=hS.to [4] z
        refine ⟨fun _=>hT,.by1 13 z (.st T.t131 hS z z z ?_ z z z z z) (by kernel_rfl)⟩
        intro W hS
        refine ⟨fun h=>absurd z h,?_⟩
        refine .done ?_ (by kernel_rfl)
        have hS:=hS.nilv 131 8 dStmt
        exact ⟨z,g10,v30,v31,nilH,sb z,hS.to [4,1,2,1,0] z⟩
       refine (.alloc T.t131 hS ?_ z z z)
       intro g11 W hS
       have hT:=hS.to [4] z
       refine ⟨fun _=>hT,.by1 10 z (.appv hr1 (hS.to [5,2,0,0,0,0] z) T.u94 T.t131 z z z ?_ z z z z z) (by kernel_rfl)⟩
       intro v32 W hS
       have hT:=hS.to [4] z
       refine ⟨fun _=>hT,.ts 11 z (fun W hT=>bs T.s131 z z) hT z (by kernel_rfl) (.by1 13 z (.st T.t131 hS.p1 z z z ?_ z z z z z) (by kernel_rfl))⟩
       intro W hS
       refine ⟨fun h=>absurd z h,?_⟩
       refine .done ?_ (by kernel_rfl)
       have hS:=hS.nilv 131 8 dStmt
       exact ⟨z,g11,v30,v32,nilH,sb z,hS.to [4,1,2,1,0] z⟩
      refine (.alloc T.t131 hS ?_ z z z)
      intro g12 W hS
      have hT:=hS.to [5] z
      refine ⟨fun _=>hT,?_⟩
      have hS:=hS.p1
      have hS:=hS.p4
      refine .by1 6 z (.callS2 (L0:=[rowV (sv v8) 129 3 dExpr y6.Args,rowV (sv v29) 129 3 dExpr y8.Args]) hS Tryz.func150 (fun S h1 h2 h3=>(f04 hy9 h2 (zz h1))) z z ?_ z z z z) (by kernel_rfl)
      rintro v33 W hS
      have hT:=hS.to [4] z
      refine ⟨fun _=>hT,.by1 10 z (.appv hr1 (hS.to [5,2,0,0,0,0] z) T.u94 T.t131 z z z ?_ z z z z z) (by kernel_rfl)⟩
      intro v34 W hS
      have hT:=hS.to [4] z
      refine ⟨fun _=>hT,.ts 11 z (fun W hT=>bs T.s131 z z) hT z (by kernel_rfl) (.by1 13 z (.st T.t131 hS.p2 z z z ?_ z z z z z) (by kernel_rfl))⟩
      intro W hS
      refine ⟨fun h=>absurd z h,?_⟩
      refine .done ?_ (by kernel_rfl)
      have hS:=hS.nilv 131 8 dStmt
      exact ⟨z,g12,v33,v34,nilH,sb z,hS.to [4,1,2,1,0] z⟩
     refine (.alloc T.t131 hS ?_ z z z)
     intro g13 W hS
     have hT:=hS.to [4] z
     refine ⟨fun _=>hT,.by1 5 z (.call1v hS Tryz.func151 (f05 hy8) z z ?_ z z z z) (by kernel_rfl)⟩
     intro v35 W hS
     have hT:=hS.to [5] z
     refine ⟨fun _=>hT,?_⟩
     have hS:=hS.p4
     refine .by1 6 z (.callS2 (L0:=[rowV (sv v8) 129 3 dExpr y6.Args,rowV (sv v35) 129 3 dExpr y8.Args]) hS Tryz.func150 (fun S h1 h2 h3=>(f04 hy9 h2 (zz h1))) z z ?_ z z z z) (by kernel_rfl)
     rintro v36 W hS
     have hT:=hS.to [4] z
     refine ⟨fun _=>hT,.by1 10 z (.appv hr1 (hS.to [5,2,0,0,0,0] z) T.u94 T.t131 z z z ?_ z z z z z) (by kernel_rfl)⟩
     intro v37 W hS
     have hT:=hS.to [4] z
     refine ⟨fun _=>hT,.ts 11 z (fun W hT=>bs T.s131 z z) hT z (by kernel_rfl) (.by1 13 z (.st T.t131 hS.p2 z z z ?_ z z z z z) (by kernel_rfl))⟩
     intro W hS
     refine ⟨fun h=>absurd z h,?_⟩
     refine .done ?_ (by kernel_rfl)
     have hS:=hS.nilv 131 8 dStmt
     exact ⟨z,g13,v36,v37,nilH,sb z,hS.to [4,1,2,1,0] z⟩
    refine (.alloc T.t131 hS ?_ z z z)
    intro g14 W hS
    have hT:=hS.to [3] z
    refine ⟨fun _=>hT,.by [5,9] ⟨⟨_,z,?_⟩,⟨_,z,?_⟩,trivial⟩ (by kernel_rfl) z⟩
    ·refine (.call1v hS Tryz.func151 (f05 hy8) z z ?_ z z z z)
     intro v38 W hS
     have hT:=hS.to [4] z
     refine ⟨fun _=>hT,.by [6,9] ⟨⟨_,z,?_⟩,⟨_,z,?_⟩,trivial⟩ (by kernel_rfl) z⟩
     ·have hS:=hS.p3
      refine (.callS2 (L0:=[rowV (sv v8) 129 3 dExpr y6.Args,rowV (sv v38) 129 3 dExpr y8.Args]) hS Tryz.func150 (fun S h1 h2 h3=>(f04 hy9 h2 (zz h1))) z z ?_ z z z z)
      rintro v39 W hS
      have hT:=hS.to [3] z
      refine ⟨fun _=>hT,?_⟩
      have hS:=hS.nilv 131 8 dStmt
      have hS:=hS.nilv 131 8 dStmt
      refine .by1 9 z (.ligv (L1:=[rowV (sv v4) 129 3 dExpr y5.Args,rowV (sv nilH) 131 8 dStmt [],rowV (sv nilH) 131 8 dStmt []]) [(Stmt.mk 1 3 0 (Expr.mk y5.Op y5.N y5.Args) [] [])] dStmt T.u94 T.t131 (hS.to [6,1,0,0,0,0,0,0] z) z z z (.aggE (eStmt _) (.flat (c1:=[.int .i64 1]) z (.flat (c1:=[.int .i64 3]) z (.flat (c1:=[.int .i64 0]) z (.aggE (eExpr _) (.flat (c1:=[.int .i64 y5.Op]) z (.flat (c1:=[.int .i64 y5.N]) z (.row (.row (.row .nil)))))))))) ?_ z zStmt z z z z z) (by kernel_rfl)
      intro v40 W hS
      have hT:=hS.to [4] z
      refine ⟨fun _=>hT,.by1 10 z (.appv hr1 (hS.to [5,0,0,0,0,0] z) T.u94 T.t131 z z z ?_ z z z z z) (by kernel_rfl)⟩
      intro v41 W hS
      have hT:=hS.to [4] z
      refine ⟨fun _=>hT,.ts 11 z (fun W hT=>bs T.s131 z z) hT z (by kernel_rfl) (.by1 13 z (.st T.t131 hS.p2 z z z ?_ z z z z z) (by kernel_rfl))⟩
      intro W hS
      refine ⟨fun h=>absurd z h,?_⟩
      refine .done ?_ (by kernel_rfl)
      have hS:=hS.nilv 131 8 dStmt
      exact ⟨z,g14,v39,v41,nilH,sb z,hS.to [4,1,2,1,0] z⟩
     have hS:=hS.nilv 131 8 dStmt
     have hS:=hS.nilv 131 8 dStmt
     refine (.ligv (L1:=[rowV (sv v4) 129 3 dExpr y5.Args,rowV (sv nilH) 131 8 dStmt [],rowV (sv nilH) 131 8 dStmt []]) [(Stmt.mk 1 3 0 (Expr.mk y5.Op y5.N y5.Args) [] [])] dStmt T.u94 T.t131 (hS.to [7,1,0,0,0,0,0,0,0] z) z z z (.aggE (eStmt _) (.flat (c1:=[.int .i64 1]) z (.flat (c1:=[.int .i64 3]) z (.flat (c1:=[.int .i64 0]) z (.aggE (eExpr _) (.flat (c1:=[.int .i64 y5.Op]) z (.flat (c1:=[.int .i64 y5.N]) z (.row (.row (.row .nil)))))))))) ?_ z zStmt z z z z z)
     intro v42 W hS
     have hT:=hS.to [5] z
     refine ⟨fun _=>hT,?_⟩
     have hS:=hS.p1
     have hS:=hS.p4
     refine .by1 6 z (.callS2 (L0:=[rowV (sv v8) 129 3 dExpr y6.Args,rowV (sv v38) 129 3 dExpr y8.Args]) hS Tryz.func150 (fun S h1 h2 h3=>(f04 hy9 h2 (zz h1))) z z ?_ z z z z) (by kernel_rfl)
     rintro v43 W hS
     have hT:=hS.to [4] z
     refine ⟨fun _=>hT,.by1 10 z (.appv hr1 (hS.to [5,1,0,0,0,0] z) T.u94 T.t131 z z z ?_ z z z z z) (by kernel_rfl)⟩
     intro v44 W hS
     have hT:=hS.to [4] z
     refine ⟨fun _=>hT,.ts 11 z (fun W hT=>bs T.s131 z z) hT z (by kernel_rfl) (.by1 13 z (.st T.t131 hS.p2 z z z ?_ z z z z z) (by kernel_rfl))⟩
     intro W hS
     refine ⟨fun h=>absurd z h,?_⟩
     refine .done ?_ (by kernel_rfl)
     have hS:=hS.nilv 131 8 dStmt
     exact ⟨z,g14,v43,v44,nilH,sb z,hS.to [4,1,2,1,0] z⟩
    have hS:=hS.nilv 131 8 dStmt
    have hS:=hS.nilv 131 8 dStmt
    refine (.ligv (L1:=[rowV (sv v4) 129 3 dExpr y5.Args,rowV (sv nilH) 131 8 dStmt [],rowV (sv nilH) 131 8 dStmt []]) [(Stmt.mk 1 3 0 (Expr.mk y5.Op y5.N y5.Args) [] [])] dStmt T.u94 T.t131 (hS.to [6,1,0,0,0,0,0,0] z) z z z (.aggE (eStmt _) (.flat (c1:=[.int .i64 1]) z (.flat (c1:=[.int .i64 3]) z (.flat (c1:=[.int .i64 0]) z (.aggE (eExpr _) (.flat (c1:=[.int .i64 y5.Op]) z (.flat (c1:=[.int .i64 y5.N]) z (.row (.row (.row .nil)))))))))) ?_ z zStmt z z z z z)
    intro v45 W hS
    have hT:=hS.to [4] z
    refine ⟨fun _=>hT,.by1 5 z (.call1v hS Tryz.func151 (f05 hy8) z z ?_ z z z z) (by kernel_rfl)⟩
    intro v46 W hS
    have hT:=hS.to [5] z
    refine ⟨fun _=>hT,?_⟩
    have hS:=hS.p4
    refine .by1 6 z (.callS2 (L0:=[rowV (sv v8) 129 3 dExpr y6.Args,rowV (sv v46) 129 3 dExpr y8.Args]) hS Tryz.func150 (fun S h1 h2 h3=>(f04 hy9 h2 (zz h1))) z z ?_ z z z z) (by kernel_rfl)
    rintro v47 W hS
    have hT:=hS.to [4] z
    refine ⟨fun _=>hT,.by1 10 z (.appv hr1 (hS.to [5,1,0,0,0,0] z) T.u94 T.t131 z z z ?_ z z z z z) (by kernel_rfl)⟩
    intro v48 W hS
    have hT:=hS.to [4] z
    refine ⟨fun _=>hT,.ts 11 z (fun W hT=>bs T.s131 z z) hT z (by kernel_rfl) (.by1 13 z (.st T.t131 hS.p2 z z z ?_ z z z z z) (by kernel_rfl))⟩
    intro W hS
    refine ⟨fun h=>absurd z h,?_⟩
    refine .done ?_ (by kernel_rfl)
    have hS:=hS.nilv 131 8 dStmt
    exact ⟨z,g14,v47,v48,nilH,sb z,hS.to [4,1,2,1,0] z⟩
   ·have hS:=hS.nilv 131 8 dStmt
    have hS:=hS.nilv 131 8 dStmt
    refine (.ligv (L1:=[rowV (sv v4) 129 3 dExpr y5.Args,rowV (sv nilH) 131 8 dStmt [],rowV (sv nilH) 131 8 dStmt []]) [(Stmt.mk 1 3 0 (Expr.mk y5.Op y5.N y5.Args) [] [])] dStmt T.u94 T.t131 (hS.to [4,1,0,0,0,0,0] z) z z z (.aggE (eStmt _) (.flat (c1:=[.int .i64 1]) z (.flat (c1:=[.int .i64 3]) z (.flat (c1:=[.int .i64 0]) z (.aggE (eExpr _) (.flat (c1:=[.int .i64 y5.Op]) z (.flat (c1:=[.int .i64 y5.N]) z (.row (.row (.row .nil)))))))))) ?_ z zStmt z z z z z)
    intro v49 W hS
    have hT:=hS.to [2] z
    refine ⟨fun _=>hT,.by [3,12] ⟨⟨_,z,?_⟩,⟨_,z,?_⟩,trivial⟩ (by kernel_rfl) z⟩
    ·have hS:=hS.p3
     refine (.callS2 (L0:=[.box g_0 55 [(sv v_0_b),.int .i64 y2.2]]) hS Tryz.func11 (fun S h1 h2 h3=>(f00 hy7 (hS.keepS q_0_b h1) h2 (zz h1))) z z ?_ z z z z)
     rintro ⟨⟩ W hS
     have hT:=hS.to [3] z
     refine ⟨fun _=>hT,.tp 4 z z hT (by kernel_rfl) (.by [5,12] ⟨⟨_,z,?_⟩,⟨_,z,?_⟩,trivial⟩ (by kernel_rfl) z)⟩
     ·refine (.call1v hS Tryz.func151 (f05 hy8) z z ?_ z z z z)
      intro v50 W hS
      have hT:=hS.to [4] z
      refine ⟨fun _=>hT,.by [6,12] ⟨⟨_,z,?_⟩,⟨_,z,?_⟩,trivial⟩ (by kernel_rfl) z⟩
      ·have hS:=hS.p3
       refine (.callS2 (L0:=[rowV (sv v8) 129 3 dExpr y6.Args,rowV (sv v50) 129 3 dExpr y8.Args]) hS Tryz.func150 (fun S h1 h2 h3=>(f04 hy9 h2 (zz h1))) z z ?_ z z z z)
       rintro v51 W hS
       have hT:=hS.to [3] z
       refine ⟨fun _=>hT,.by [10,12] ⟨⟨_,z,?_⟩,⟨_,z,?_⟩,trivial⟩ (by kernel_rfl) z⟩
       ·refine (.appv hr1 (hS.to [4,2,0,0,0] z) T.u94 T.t131 z z z ?_ z z z z z)
        intro v52 W hS
        have hT:=hS.to [3] z
        refine ⟨fun _=>hT,.ts 11 z (fun W hT=>bs T.s131 z z) hT z (by kernel_rfl) (.by1 12 z (.alloc T.t131 hS ?_ z z z) (by kernel_rfl))⟩
        intro g15 W hS
        have hT:=hS.to [4] z
        refine ⟨fun _=>hT,.by1 13 z (.st T.t131 hS z z z ?_ z z z z z) (by kernel_rfl)⟩
        intro W hS
        refine ⟨fun h=>absurd z h,?_⟩
        refine .done ?_ (by kernel_rfl)
        have hS:=hS.nilv 131 8 dStmt
        exact ⟨z,g15,v51,v52,nilH,sb z,hS.to [4,1,2,1,0] z⟩
       refine (.alloc T.t131 hS ?_ z z z)
       intro g16 W hS
       have hT:=hS.to [4] z
       refine ⟨fun _=>hT,.by1 10 z (.appv hr1 (hS.to [5,3,0,0,0,0] z) T.u94 T.t131 z z z ?_ z z z z z) (by kernel_rfl)⟩
       intro v53 W hS
       have hT:=hS.to [4] z
       refine ⟨fun _=>hT,.ts 11 z (fun W hT=>bs T.s131 z z) hT z (by kernel_rfl) (.by1 13 z (.st T.t131 hS.p1 z z z ?_ z z z z z) (by kernel_rfl))⟩
       intro W hS
       refine ⟨fun h=>absurd z h,?_⟩
       refine .done ?_ (by kernel_rfl)
       have hS:=hS.nilv 131 8 dStmt
       exact ⟨z,g16,v51,v53,nilH,sb z,hS.to [4,1,2,1,0] z⟩
      refine (.alloc T.t131 hS ?_ z z z)
      intro g17 W hS
      have hT:=hS.to [5] z
      refine ⟨fun _=>hT,?_⟩
      have hS:=hS.p1
      have hS:=hS.p4
      refine .by1 6 z (.callS2 (L0:=[rowV (sv v8) 129 3 dExpr y6.Args,rowV (sv v50) 129 3 dExpr y8.Args]) hS Tryz.func150 (fun S h1 h2 h3=>(f04 hy9 h2 (zz h1))) z z ?_ z z z z) (by kernel_rfl)
      rintro v54 W hS
      have hT:=hS.to [4] z
      refine ⟨fun _=>hT,.by1 10 z (.appv hr1 (hS.to [5,3,0,0,0,0] z) T.u94 T.t131 z z z ?_ z z z z z) (by kernel_rfl)⟩
      intro v55 W hS
      have hT:=hS.to [4] z
      refine ⟨fun _=>hT,.ts 11 z (fun W hT=>bs T.s131 z z) hT z (by kernel_rfl) (.by1 13 z (.st T.t131 hS.p2 z z z ?_ z z z z z) (by kernel_rfl))⟩
      intro W hS
      refine ⟨fun h=>absurd z h,?_⟩
      refine .done ?_ (by kernel_rfl)
      have hS:=hS.nilv 131 8 dStmt
      exact ⟨z,g17,v54,v55,nilH,sb z,hS.to [4,1,2,1,0] z⟩
     refine (.alloc T.t131 hS ?_ z z z)
     intro g18 W hS
     have hT:=hS.to [4] z
     refine ⟨fun _=>hT,.by1 5 z (.call1v hS Tryz.func151 (f05 hy8) z z ?_ z z z z) (by kernel_rfl)⟩
     intro v56 W hS
     have hT:=hS.to [5] z
     refine ⟨fun _=>hT,?_⟩
     have hS:=hS.p4
     refine .by1 6 z (.callS2 (L0:=[rowV (sv v8) 129 3 dExpr y6.Args,rowV (sv v56) 129 3 dExpr y8.Args]) hS Tryz.func150 (fun S h1 h2 h3=>(f04 hy9 h2 (zz h1))) z z ?_ z z z z) (by kernel_rfl)
     rintro v57 W hS
     have hT:=hS.to [4] z
     refine ⟨fun _=>hT,.by1 10 z (.appv hr1 (hS.to [5,3,0,0,0,0] z) T.u94 T.t131 z z z ?_ z z z z z) (by kernel_rfl)⟩
     intro v58 W hS
     have hT:=hS.to [4] z
     refine ⟨fun _=>hT,.ts 11 z (fun W hT=>bs T.s131 z z) hT z (by kernel_rfl) (.by1 13 z (.st T.t131 hS.p2 z z z ?_ z z z z z) (by kernel_rfl))⟩
     intro W hS
     refine ⟨fun h=>absurd z h,?_⟩
     refine .done ?_ (by kernel_rfl)
     have hS:=hS.nilv 131 8 dStmt
     exact ⟨z,g18,v57,v58,nilH,sb z,hS.to [4,1,2,1,0] z⟩
    refine (.alloc T.t131 hS ?_ z z z)
    intro g19 W hS
    have hT:=hS.to [3] z
    refine ⟨fun _=>hT,?_⟩
    have hS:=hS.p4
    refine .by1 3 z (.callS2 (L0:=[.box g_0 55 [(sv v_0_b),.int .i64 y2.2]]) hS Tryz.func11 (fun S h1 h2 h3=>(f00 hy7 (hS.keepS q_0_b h1) h2 (zz h1))) z z ?_ z z z z) (by kernel_rfl)
    rintro ⟨⟩ W hS
    have hT:=hS.to [4] z
    refine ⟨fun _=>hT,.tp 4 z z hT (by kernel_rfl) (.by1 5 z (.call1v hS Tryz.func151 (f05 hy8) z z ?_ z z z z) (by kernel_rfl))⟩
    intro v59 W hS
    have hT:=hS.to [5] z
    refine ⟨fun _=>hT,?_⟩
    have hS:=hS.p4
    refine .by1 6 z (.callS2 (L0:=[rowV (sv v8) 129 3 dExpr y6.Args,rowV (sv v59) 129 3 dExpr y8.Args]) hS Tryz.func150 (fun S h1 h2 h3=>(f04 hy9 h2 (zz h1))) z z ?_ z z z z) (by kernel_rfl)
    rintro v60 W hS
    have hT:=hS.to [4] z
    refine ⟨fun _=>hT,.by1 10 z (.appv hr1 (hS.to [5,3,0,0,0,0] z) T.u94 T.t131 z z z ?_ z z z z z) (by kernel_rfl)⟩
    intro v61 W hS
    have hT:=hS.to [4] z
    refine ⟨fun _=>hT,.ts 11 z (fun W hT=>bs T.s131 z z) hT z (by kernel_rfl) (.by1 13 z (.st T.t131 hS.p3 z z z ?_ z z z z z) (by kernel_rfl))⟩
    intro W hS
    refine ⟨fun h=>absurd z h,?_⟩
    refine .done ?_ (by kernel_rfl)
    have hS:=hS.nilv 131 8 dStmt
    exact ⟨z,g19,v60,v61,nilH,sb z,hS.to [4,1,2,1,0] z⟩
   refine (.alloc T.t131 hS ?_ z z z)
   intro g20 W hS
   have hT:=hS.to [2] z
   refine ⟨fun _=>hT,.by [3,9] ⟨⟨_,z,?_⟩,⟨_,z,?_⟩,trivial⟩ (by kernel_rfl) z⟩
   ·have hS:=hS.p4
    refine (.callS2 (L0:=[.box g_0 55 [(sv v_0_b),.int .i64 y2.2]]) hS Tryz.func11 (fun S h1 h2 h3=>(f00 hy7 (hS.keepS q_0_b h1) h2 (zz h1))) z z ?_ z z z z)
    rintro ⟨⟩ W hS
    have hT:=hS.to [3] z
    refine ⟨fun _=>hT,.tp 4 z z hT (by kernel_rfl) (.by [5,9] ⟨⟨_,z,?_⟩,⟨_,z,?_⟩,trivial⟩ (by kernel_rfl) z)⟩
    ·refine (.call1v hS Tryz.func151 (f05 hy8) z z ?_ z z z z)
     intro v62 W hS
     have hT:=hS.to [4] z
     refine ⟨fun _=>hT,.by [6,9] ⟨⟨_,z,?_⟩,⟨_,z,?_⟩,trivial⟩ (by kernel_rfl) z⟩
     ·have hS:=hS.p3
      refine (.callS2 (L0:=[rowV (sv v8) 129 3 dExpr y6.Args,rowV (sv v62) 129 3 dExpr y8.Args]) hS Tryz.func150 (fun S h1 h2 h3=>(f04 hy9 h2 (zz h1))) z z ?_ z z z z)
      rintro v63 W hS
      have hT:=hS.to [3] z
      refine ⟨fun _=>hT,?_⟩
      have hS:=hS.nilv 131 8 dStmt
      have hS:=hS.nilv 131 8 dStmt
      refine .by1 9 z (.ligv (L1:=[rowV (sv v4) 129 3 dExpr y5.Args,rowV (sv nilH) 131 8 dStmt [],rowV (sv nilH) 131 8 dStmt []]) [(Stmt.mk 1 3 0 (Expr.mk y5.Op y5.N y5.Args) [] [])] dStmt T.u94 T.t131 (hS.to [6,1,0,0,0,0,0,0] z) z z z (.aggE (eStmt _) (.flat (c1:=[.int .i64 1]) z (.flat (c1:=[.int .i64 3]) z (.flat (c1:=[.int .i64 0]) z (.aggE (eExpr _) (.flat (c1:=[.int .i64 y5.Op]) z (.flat (c1:=[.int .i64 y5.N]) z (.row (.row (.row .nil)))))))))) ?_ z zStmt z z z z z) (by kernel_rfl)
      intro v64 W hS
      have hT:=hS.to [4] z
      refine ⟨fun _=>hT,.by1 10 z (.appv hr1 (hS.to [5,0,0,0,0,0] z) T.u94 T.t131 z z z ?_ z z z z z) (by kernel_rfl)⟩
      intro v65 W hS
      have hT:=hS.to [4] z
      refine ⟨fun _=>hT,.ts 11 z (fun W hT=>bs T.s131 z z) hT z (by kernel_rfl) (.by1 13 z (.st T.t131 hS.p3 z z z ?_ z z z z z) (by kernel_rfl))⟩
      intro W hS
      refine ⟨fun h=>absurd z h,?_⟩
      refine .done ?_ (by kernel_rfl)
      have hS:=hS.nilv 131 8 dStmt
      exact ⟨z,g20,v63,v65,nilH,sb z,hS.to [4,1,2,1,0] z⟩
     have hS:=hS.nilv 131 8 dStmt
     have hS:=hS.nilv 131 8 dStmt
     refine (.ligv (L1:=[rowV (sv v4) 129 3 dExpr y5.Args,rowV (sv nilH) 131 8 dStmt [],rowV (sv nilH) 131 8 dStmt []]) [(Stmt.mk 1 3 0 (Expr.mk y5.Op y5.N y5.Args) [] [])] dStmt T.u94 T.t131 (hS.to [7,1,0,0,0,0,0,0,0] z) z z z (.aggE (eStmt _) (.flat (c1:=[.int .i64 1]) z (.flat (c1:=[.int .i64 3]) z (.flat (c1:=[.int .i64 0]) z (.aggE (eExpr _) (.flat (c1:=[.int .i64 y5.Op]) z (.flat (c1:=[.int .i64 y5.N]) z (.row (.row (.row .nil)))))))))) ?_ z zStmt z z z z z)
     intro v66 W hS
     have hT:=hS.to [5] z
     refine ⟨fun _=>hT,?_⟩
     have hS:=hS.p1
     have hS:=hS.p4
     refine .by1 6 z (.callS2 (L0:=[rowV (sv v8) 129 3 dExpr y6.Args,rowV (sv v62) 129 3 dExpr y8.Args]) hS Tryz.func150 (fun S h1 h2 h3=>(f04 hy9 h2 (zz h1))) z z ?_ z z z z) (by kernel_rfl)
     rintro v67 W hS
     have hT:=hS.to [4] z
     refine ⟨fun _=>hT,.by1 10 z (.appv hr1 (hS.to [5,1,0,0,0,0] z) T.u94 T.t131 z z z ?_ z z z z z) (by kernel_rfl)⟩
     intro v68 W hS
     have hT:=hS.to [4] z
     refine ⟨fun _=>hT,.ts 11 z (fun W hT=>bs T.s131 z z) hT z (by kernel_rfl) (.by1 13 z (.st T.t131 hS.p3 z z z ?_ z z z z z) (by kernel_rfl))⟩
     intro W hS
     refine ⟨fun h=>absurd z h,?_⟩
     refine .done ?_ (by kernel_rfl)
     have hS:=hS.nilv 131 8 dStmt
     exact ⟨z,g20,v67,v68,nilH,sb z,hS.to [4,1,2,1,0] z⟩
    have hS:=hS.nilv 131 8 dStmt
    have hS:=hS.nilv 131 8 dStmt
    refine (.ligv (L1:=[rowV (sv v4) 129 3 dExpr y5.Args,rowV (sv nilH) 131 8 dStmt [],rowV (sv nilH) 131 8 dStmt []]) [(Stmt.mk 1 3 0 (Expr.mk y5.Op y5.N y5.Args) [] [])] dStmt T.u94 T.t131 (hS.to [6,1,0,0,0,0,0,0] z) z z z (.aggE (eStmt _) (.flat (c1:=[.int .i64 1]) z (.flat (c1:=[.int .i64 3]) z (.flat (c1:=[.int .i64 0]) z (.aggE (eExpr _) (.flat (c1:=[.int .i64 y5.Op]) z (.flat (c1:=[.int .i64 y5.N]) z (.row (.row (.row .nil)))))))))) ?_ z zStmt z z z z z)
    intro v69 W hS
    have hT:=hS.to [4] z
    refine ⟨fun _=>hT,.by1 5 z (.call1v hS Tryz.func151 (f05 hy8) z z ?_ z z z z) (by kernel_rfl)⟩
    intro v70 W hS
    have hT:=hS.to [5] z
    refine ⟨fun _=>hT,?_⟩
    have hS:=hS.p4
    refine .by1 6 z (.callS2 (L0:=[rowV (sv v8) 129 3 dExpr y6.Args,rowV (sv v70) 129 3 dExpr y8.Args]) hS Tryz.func150 (fun S h1 h2 h3=>(f04 hy9 h2 (zz h1))) z z ?_ z z z z) (by kernel_rfl)
    rintro v71 W hS
    have hT:=hS.to [4] z
    refine ⟨fun _=>hT,.by1 10 z (.appv hr1 (hS.to [5,1,0,0,0,0] z) T.u94 T.t131 z z z ?_ z z z z z) (by kernel_rfl)⟩
    intro v72 W hS
    have hT:=hS.to [4] z
    refine ⟨fun _=>hT,.ts 11 z (fun W hT=>bs T.s131 z z) hT z (by kernel_rfl) (.by1 13 z (.st T.t131 hS.p3 z z z ?_ z z z z z) (by kernel_rfl))⟩
    intro W hS
    refine ⟨fun h=>absurd z h,?_⟩
    refine .done ?_ (by kernel_rfl)
    have hS:=hS.nilv 131 8 dStmt
    exact ⟨z,g20,v71,v72,nilH,sb z,hS.to [4,1,2,1,0] z⟩
   have hS:=hS.nilv 131 8 dStmt
   have hS:=hS.nilv 131 8 dStmt
   refine (.ligv (L1:=[rowV (sv v4) 129 3 dExpr y5.Args,rowV (sv nilH) 131 8 dStmt [],rowV (sv nilH) 131 8 dStmt []]) [(Stmt.mk 1 3 0 (Expr.mk y5.Op y5.N y5.Args) [] [])] dStmt T.u94 T.t131 (hS.to [5,1,0,0,0,0,0,0] z) z z z (.aggE (eStmt _) (.flat (c1:=[.int .i64 1]) z (.flat (c1:=[.int .i64 3]) z (.flat (c1:=[.int .i64 0]) z (.aggE (eExpr _) (.flat (c1:=[.int .i64 y5.Op]) z (.flat (c1:=[.int .i64 y5.N]) z (.row (.row (.row .nil)))))))))) ?_ z zStmt z z z z z)
   intro v73 W hS
   have hT:=hS.to [3] z
   refine ⟨fun _=>hT,?_⟩
   have hS:=hS.p4
   refine .by1 3 z (.callS2 (L0:=[.box g_0 55 [(sv v_0_b),.int .i64 y2.2]]) hS Tryz.func11 (fun S h1 h2 h3=>(f00 hy7 (hS.keepS q_0_b h1) h2 (zz h1))) z z ?_ z z z z) (by kernel_rfl)
   rintro ⟨⟩ W hS
   have hT:=hS.to [4] z
   refine ⟨fun _=>hT,.tp 4 z z hT (by kernel_rfl) (.by1 5 z (.call1v hS Tryz.func151 (f05 hy8) z z ?_ z z z z) (by kernel_rfl))⟩
   intro v74 W hS
   have hT:=hS.to [5] z
   refine ⟨fun _=>hT,?_⟩
   have hS:=hS.p4
   refine .by1 6 z (.callS2 (L0:=[rowV (sv v8) 129 3 dExpr y6.Args,rowV (sv v74) 129 3 dExpr y8.Args]) hS Tryz.func150 (fun S h1 h2 h3=>(f04 hy9 h2 (zz h1))) z z ?_ z z z z) (by kernel_rfl)
   rintro v75 W hS
   have hT:=hS.to [4] z
   refine ⟨fun _=>hT,.by1 10 z (.appv hr1 (hS.to [5,2,0,0,0,0] z) T.u94 T.t131 z z z ?_ z z z z z) (by kernel_rfl)⟩
   intro v76 W hS
   have hT:=hS.to [4] z
   refine ⟨fun _=>hT,.ts 11 z (fun W hT=>bs T.s131 z z) hT z (by kernel_rfl) (.by1 13 z (.st T.t131 hS.p3 z z z ?_ z z z z z) (by kernel_rfl))⟩
   intro W hS
   refine ⟨fun h=>absurd z h,?_⟩
   refine .done ?_ (by kernel_rfl)
   have hS:=hS.nilv 131 8 dStmt
   exact ⟨z,g20,v75,v76,nilH,sb z,hS.to [4,1,2,1,0] z⟩
  ·have hS:=hS.nilv 131 8 dStmt
   have hS:=hS.nilv 131 8 dStmt
   refine (.ligv (L1:=[rowV (sv v4) 129 3 dExpr y5.Args,rowV (sv nilH) 131 8 dStmt [],rowV (sv nilH) 131 8 dStmt []]) [(Stmt.mk 1 3 0 (Expr.mk y5.Op y5.N y5.Args) [] [])] dStmt T.u94 T.t131 (hS.to [3,1,0,0,0,0] z) z z z (.aggE (eStmt _) (.flat (c1:=[.int .i64 1]) z (.flat (c1:=[.int .i64 3]) z (.flat (c1:=[.int .i64 0]) z (.aggE (eExpr _) (.flat (c1:=[.int .i64 y5.Op]) z (.flat (c1:=[.int .i64 y5.N]) z (.row (.row (.row .nil)))))))))) ?_ z zStmt z z z z z)
   intro v77 W hS
   have hT:=hS.to [1] z
   refine ⟨fun _=>hT,.by [1,12] ⟨⟨_,z,?_⟩,⟨_,z,?_⟩,trivial⟩ (by kernel_rfl) z⟩
   ·refine (.call1v hS Tryz.func151 (f05 hy6) z z ?_ z z z z)
    intro v78 W hS
    have hT:=hS.to [2] z
    refine ⟨fun _=>hT,.by [3,12] ⟨⟨_,z,?_⟩,⟨_,z,?_⟩,trivial⟩ (by kernel_rfl) z⟩
    ·have hS:=hS.p3
     refine (.callS2 (L0:=[.box g_0 55 [(sv v_0_b),.int .i64 y2.2]]) hS Tryz.func11 (fun S h1 h2 h3=>(f00 hy7 (hS.keepS q_0_b h1) h2 (zz h1))) z z ?_ z z z z)
     rintro ⟨⟩ W hS
     have hT:=hS.to [3] z
     refine ⟨fun _=>hT,.tp 4 z z hT (by kernel_rfl) (.by [5,12] ⟨⟨_,z,?_⟩,⟨_,z,?_⟩,trivial⟩ (by kernel_rfl) z)⟩
     ·refine (.call1v hS Tryz.func151 (f05 hy8) z z ?_ z z z z)
      intro v79 W hS
      have hT:=hS.to [4] z
      refine ⟨fun _=>hT,.by [6,12] ⟨⟨_,z,?_⟩,⟨_,z,?_⟩,trivial⟩ (by kernel_rfl) z⟩
      ·have hS:=hS.p2
       refine (.callS2 (L0:=[rowV (sv v78) 129 3 dExpr y6.Args,rowV (sv v79) 129 3 dExpr y8.Args]) hS Tryz.func150 (fun S h1 h2 h3=>(f04 hy9 h2 (zz h1))) z z ?_ z z z z)
       rintro v80 W hS
       have hT:=hS.to [3] z
       refine ⟨fun _=>hT,.by [10,12] ⟨⟨_,z,?_⟩,⟨_,z,?_⟩,trivial⟩ (by kernel_rfl) z⟩
       ·refine (.appv hr1 (hS.to [4,2,0,0,0] z) T.u94 T.t131 z z z ?_ z z z z z)
        intro v81 W hS
        have hT:=hS.to [3] z
        refine ⟨fun _=>hT,.ts 11 z (fun W hT=>bs T.s131 z z) hT z (by kernel_rfl) (.by1 12 z (.alloc T.t131 hS ?_ z z z) (by kernel_rfl))⟩
        intro g21 W hS
        have hT:=hS.to [4] z
        refine ⟨fun _=>hT,.by1 13 z (.st T.t131 hS z z z ?_ z z z z z) (by kernel_rfl)⟩
        intro W hS
        refine ⟨fun h=>absurd z h,?_⟩
        refine .done ?_ (by kernel_rfl)
        have hS:=hS.nilv 131 8 dStmt
        exact ⟨z,g21,v80,v81,nilH,sb z,hS.to [4,1,2,1,0] z⟩
       refine (.alloc T.t131 hS ?_ z z z)
       intro g22 W hS
       have hT:=hS.to [4] z
       refine ⟨fun _=>hT,.by1 10 z (.appv hr1 (hS.to [5,3,0,0,0,0] z) T.u94 T.t131 z z z ?_ z z z z z) (by kernel_rfl)⟩
       intro v82 W hS
       have hT:=hS.to [4] z
       refine ⟨fun _=>hT,.ts 11 z (fun W hT=>bs T.s131 z z) hT z (by kernel_rfl) (.by1 13 z (.st T.t131 hS.p1 z z z ?_ z z z z z) (by kernel_rfl))⟩
       intro W hS
       refine ⟨fun h=>absurd z h,?_⟩
       refine .done ?_ (by kernel_rfl)
       have hS:=hS.nilv 131 8 dStmt
       exact ⟨z,g22,v80,v82,nilH,sb z,hS.to [4,1,2,1,0] z⟩
      refine (.alloc T.t131 hS ?_ z z z)
      intro g23 W hS
      have hT:=hS.to [5] z
      refine ⟨fun _=>hT,?_⟩
      have hS:=hS.p1
      have hS:=hS.p3
      refine .by1 6 z (.callS2 (L0:=[rowV (sv v78) 129 3 dExpr y6.Args,rowV (sv v79) 129 3 dExpr y8.Args]) hS Tryz.func150 (fun S h1 h2 h3=>(f04 hy9 h2 (zz h1))) z z ?_ z z z z) (by kernel_rfl)
      rintro v83 W hS
      have hT:=hS.to [4] z
      refine ⟨fun _=>hT,.by1 10 z (.appv hr1 (hS.to [5,3,0,0,0,0] z) T.u94 T.t131 z z z ?_ z z z z z) (by kernel_rfl)⟩
      intro v84 W hS
      have hT:=hS.to [4] z
      refine ⟨fun _=>hT,.ts 11 z (fun W hT=>bs T.s131 z z) hT z (by kernel_rfl) (.by1 13 z (.st T.t131 hS.p2 z z z ?_ z z z z z) (by kernel_rfl))⟩
      intro W hS
      refine ⟨fun h=>absurd z h,?_⟩
      refine .done ?_ (by kernel_rfl)
      have hS:=hS.nilv 131 8 dStmt
      exact ⟨z,g23,v83,v84,nilH,sb z,hS.to [4,1,2,1,0] z⟩
     refine (.alloc T.t131 hS ?_ z z z)
     intro g24 W hS
     have hT:=hS.to [4] z
     refine ⟨fun _=>hT,.by1 5 z (.call1v hS Tryz.func151 (f05 hy8) z z ?_ z z z z) (by kernel_rfl)⟩
     intro v85 W hS
     have hT:=hS.to [5] z
     refine ⟨fun _=>hT,?_⟩
     have hS:=hS.p3
     refine .by1 6 z (.callS2 (L0:=[rowV (sv v78) 129 3 dExpr y6.Args,rowV (sv v85) 129 3 dExpr y8.Args]) hS Tryz.func150 (fun S h1 h2 h3=>(f04 hy9 h2 (zz h1))) z z ?_ z z z z) (by kernel_rfl)
     rintro v86 W hS
     have hT:=hS.to [4] z
     refine ⟨fun _=>hT,.by1 10 z (.appv hr1 (hS.to [5,3,0,0,0,0] z) T.u94 T.t131 z z z ?_ z z z z z) (by kernel_rfl)⟩
     intro v87 W hS
     have hT:=hS.to [4] z
     refine ⟨fun _=>hT,.ts 11 z (fun W hT=>bs T.s131 z z) hT z (by kernel_rfl) (.by1 13 z (.st T.t131 hS.p2 z z z ?_ z z z z z) (by kernel_rfl))⟩
     intro W hS
     refine ⟨fun h=>absurd z h,?_⟩
     refine .done ?_ (by kernel_rfl)
     have hS:=hS.nilv 131 8 dStmt
     exact ⟨z,g24,v86,v87,nilH,sb z,hS.to [4,1,2,1,0] z⟩
    refine (.alloc T.t131 hS ?_ z z z)
    intro g25 W hS
    have hT:=hS.to [3] z
    refine ⟨fun _=>hT,?_⟩
    have hS:=hS.p4
    refine .by1 3 z (.callS2 (L0:=[.box g_0 55 [(sv v_0_b),.int .i64 y2.2]]) hS Tryz.func11 (fun S h1 h2 h3=>(f00 hy7 (hS.keepS q_0_b h1) h2 (zz h1))) z z ?_ z z z z) (by kernel_rfl)
    rintro ⟨⟩ W hS
    have hT:=hS.to [4] z
    refine ⟨fun _=>hT,.tp 4 z z hT (by kernel_rfl) (.by1 5 z (.call1v hS Tryz.func151 (f05 hy8) z z ?_ z z z z) (by kernel_rfl))⟩
    intro v88 W hS
    have hT:=hS.to [5] z
    refine ⟨fun _=>hT,?_⟩
    have hS:=hS.p3
    refine .by1 6 z (.callS2 (L0:=[rowV (sv v78) 129 3 dExpr y6.Args,rowV (sv v88) 129 3 dExpr y8.Args]) hS Tryz.func150 (fun S h1 h2 h3=>(f04 hy9 h2 (zz h1))) z z ?_ z z z z) (by kernel_rfl)
    rintro v89 W hS
    have hT:=hS.to [4] z
    refine ⟨fun _=>hT,.by1 10 z (.appv hr1 (hS.to [5,3,0,0,0,0] z) T.u94 T.t131 z z z ?_ z z z z z) (by kernel_rfl)⟩
    intro v90 W hS
    have hT:=hS.to [4] z
    refine ⟨fun _=>hT,.ts 11 z (fun W hT=>bs T.s131 z z) hT z (by kernel_rfl) (.by1 13 z (.st T.t131 hS.p3 z z z ?_ z z z z z) (by kernel_rfl))⟩
    intro W hS
    refine ⟨fun h=>absurd z h,?_⟩
    refine .done ?_ (by kernel_rfl)
    have hS:=hS.nilv 131 8 dStmt
    exact ⟨z,g25,v89,v90,nilH,sb z,hS.to [4,1,2,1,0] z⟩
   refine (.alloc T.t131 hS ?_ z z z)
   intro g26 W hS
   have hT:=hS.to [2] z
   refine ⟨fun _=>hT,.by1 1 z (.call1v hS Tryz.func151 (f05 hy6) z z ?_ z z z z) (by kernel_rfl)⟩
   intro v91 W hS
   have hT:=hS.to [3] z
   refine ⟨fun _=>hT,?_⟩
   have hS:=hS.p4
   refine .by1 3 z (.callS2 (L0:=[.box g_0 55 [(sv v_0_b),.int .i64 y2.2]]) hS Tryz.func11 (fun S h1 h2 h3=>(f00 hy7 (hS.keepS q_0_b h1) h2 (zz h1))) z z ?_ z z z z) (by kernel_rfl)
   rintro ⟨⟩ W hS
   have hT:=hS.to [4] z
   refine ⟨fun _=>hT,.tp 4 z z hT (by kernel_rfl) (.by1 5 z (.call1v hS Tryz.func151 (f05 hy8) z z ?_ z z z z) (by kernel_rfl))⟩
   intro v92 W hS
   have hT:=hS.to [5] z
   refine ⟨fun _=>hT,?_⟩
   have hS:=hS.p2
   refine .by1 6 z (.callS2 (L0:=[rowV (sv v91) 129 3 dExpr y6.Args,rowV (sv v92) 129 3 dExpr y8.Args]) hS Tryz.func150 (fun S h1 h2 h3=>(f04 hy9 h2 (zz h1))) z z ?_ z z z z) (by kernel_rfl)
   rintro v93 W hS
   have hT:=hS.to [4] z
   refine ⟨fun _=>hT,.by1 10 z (.appv hr1 (hS.to [5,3,0,0,0,0] z) T.u94 T.t131 z z z ?_ z z z z z) (by kernel_rfl)⟩
   intro v94 W hS
   have hT:=hS.to [4] z
   refine ⟨fun _=>hT,.ts 11 z (fun W hT=>bs T.s131 z z) hT z (by kernel_rfl) (.by1 13 z (.st T.t131 hS.p3 z z z ?_ z z z z z) (by kernel_rfl))⟩
   intro W hS
   refine ⟨fun h=>absurd z h,?_⟩
   refine .done ?_ (by kernel_rfl)
   have hS:=hS.nilv 131 8 dStmt
   exact ⟨z,g26,v93,v94,nilH,sb z,hS.to [4,1,2,1,0] z⟩
  refine (.alloc T.t131 hS ?_ z z z)
  intro g27 W hS
  have hT:=hS.to [1] z
  refine ⟨fun _=>hT,.by [1,9] ⟨⟨_,z,?_⟩,⟨_,z,?_⟩,trivial⟩ (by kernel_rfl) z⟩
  ·refine (.call1v hS Tryz.func151 (f05 hy6) z z ?_ z z z z)
   intro v95 W hS
   have hT:=hS.to [2] z
   refine ⟨fun _=>hT,.by [3,9] ⟨⟨_,z,?_⟩,⟨_,z,?_⟩,trivial⟩ (by kernel_rfl) z⟩
   ·have hS:=hS.p4
    refine (.callS2 (L0:=[.box g_0 55 [(sv v_0_b),.int .i64 y2.2]]) hS Tryz.func11 (fun S h1 h2 h3=>(f00 hy7 (hS.keepS q_0_b h1) h2 (zz h1))) z z ?_ z z z z)
    rintro ⟨⟩ W hS
    have hT:=hS.to [3] z
    refine ⟨fun _=>hT,.tp 4 z z hT (by kernel_rfl) (.by [5,9] ⟨⟨_,z,?_⟩,⟨_,z,?_⟩,trivial⟩ (by kernel_rfl) z)⟩
    ·refine (.call1v hS Tryz.func151 (f05 hy8) z z ?_ z z z z)
     intro v96 W hS
     have hT:=hS.to [4] z
     refine ⟨fun _=>hT,.by [6,9] ⟨⟨_,z,?_⟩,⟨_,z,?_⟩,trivial⟩ (by kernel_rfl) z⟩
     ·have hS:=hS.p2
      refine (.callS2 (L0:=[rowV (sv v95) 129 3 dExpr y6.Args,rowV (sv v96) 129 3 dExpr y8.Args]) hS Tryz.func150 (fun S h1 h2 h3=>(f04 hy9 h2 (zz h1))) z z ?_ z z z z)
      rintro v97 W hS
      have hT:=hS.to [3] z
      refine ⟨fun _=>hT,?_⟩
      have hS:=hS.nilv 131 8 dStmt
      have hS:=hS.nilv 131 8 dStmt
      refine .by1 9 z (.ligv (L1:=[rowV (sv v4) 129 3 dExpr y5.Args,rowV (sv nilH) 131 8 dStmt [],rowV (sv nilH) 131 8 dStmt []]) [(Stmt.mk 1 3 0 (Expr.mk y5.Op y5.N y5.Args) [] [])] dStmt T.u94 T.t131 (hS.to [6,1,0,0,0,0,0,0] z) z z z (.aggE (eStmt _) (.flat (c1:=[.int .i64 1]) z (.flat (c1:=[.int .i64 3]) z (.flat (c1:=[.int .i64 0]) z (.aggE (eExpr _) (.flat (c1:=[.int .i64 y5.Op]) z (.flat (c1:=[.int .i64 y5.N]) z (.row (.row (.row .nil)))))))))) ?_ z zStmt z z z z z) (by kernel_rfl)
      intro v98 W hS
      have hT:=hS.to [4] z
      refine ⟨fun _=>hT,.by1 10 z (.appv hr1 (hS.to [5,0,0,0,0,0] z) T.u94 T.t131 z z z ?_ z z z z z) (by kernel_rfl)⟩
      intro v99 W hS
      have hT:=hS.to [4] z
      refine ⟨fun _=>hT,.ts 11 z (fun W hT=>bs T.s131 z z) hT z (by kernel_rfl) (.by1 13 z (.st T.t131 hS.p3 z z z ?_ z z z z z) (by kernel_rfl))⟩
      intro W hS
      refine ⟨fun h=>absurd z h,?_⟩
      refine .done ?_ (by kernel_rfl)
      have hS:=hS.nilv 131 8 dStmt
      exact ⟨z,g27,v97,v99,nilH,sb z,hS.to [4,1,2,1,0] z⟩
     have hS:=hS.nilv 131 8 dStmt
     have hS:=hS.nilv 131 8 dStmt
     refine (.ligv (L1:=[rowV (sv v4) 129 3 dExpr y5.Args,rowV (sv nilH) 131 8 dStmt [],rowV (sv nilH) 131 8 dStmt []]) [(Stmt.mk 1 3 0 (Expr.mk y5.Op y5.N y5.Args) [] [])] dStmt T.u94 T.t131 (hS.to [7,1,0,0,0,0,0,0,0] z) z z z (.aggE (eStmt _) (.flat (c1:=[.int .i64 1]) z (.flat (c1:=[.int .i64 3]) z (.flat (c1:=[.int .i64 0]) z (.aggE (eExpr _) (.flat (c1:=[.int .i64 y5.Op]) z (.flat (c1:=[.int .i64 y5.N]) z (.row (.row (.row .nil)))))))))) ?_ z zStmt z z z z z)
     intro v100 W hS
     have hT:=hS.to [5] z
     refine ⟨fun _=>hT,?_⟩
     have hS:=hS.p1
     have hS:=hS.p3
     refine .by1 6 z (.callS2 (L0:=[rowV (sv v95) 129 3 dExpr y6.Args,rowV (sv v96) 129 3 dExpr y8.Args]) hS Tryz.func150 (fun S h1 h2 h3=>(f04 hy9 h2 (zz h1))) z z ?_ z z z z) (by kernel_rfl)
     rintro v101 W hS
     have hT:=hS.to [4] z
     refine ⟨fun _=>hT,.by1 10 z (.appv hr1 (hS.to [5,1,0,0,0,0] z) T.u94 T.t131 z z z ?_ z z z z z) (by kernel_rfl)⟩
     intro v102 W hS
     have hT:=hS.to [4] z
     refine ⟨fun _=>hT,.ts 11 z (fun W hT=>bs T.s131 z z) hT z (by kernel_rfl) (.by1 13 z (.st T.t131 hS.p3 z z z ?_ z z z z z) (by kernel_rfl))⟩
     intro W hS
     refine ⟨fun h=>absurd z h,?_⟩
     refine .done ?_ (by kernel_rfl)
     have hS:=hS.nilv 131 8 dStmt
     exact ⟨z,g27,v101,v102,nilH,sb z,hS.to [4,1,2,1,0] z⟩
    have hS:=hS.nilv 131 8 dStmt
    have hS:=hS.nilv 131 8 dStmt
    refine (.ligv (L1:=[rowV (sv v4) 129 3 dExpr y5.Args,rowV (sv nilH) 131 8 dStmt [],rowV (sv nilH) 131 8 dStmt []]) [(Stmt.mk 1 3 0 (Expr.mk y5.Op y5.N y5.Args) [] [])] dStmt T.u94 T.t131 (hS.to [6,1,0,0,0,0,0,0] z) z z z (.aggE (eStmt _) (.flat (c1:=[.int .i64 1]) z (.flat (c1:=[.int .i64 3]) z (.flat (c1:=[.int .i64 0]) z (.aggE (eExpr _) (.flat (c1:=[.int .i64 y5.Op]) z (.flat (c1:=[.int .i64 y5.N]) z (.row (.row (.row .nil)))))))))) ?_ z zStmt z z z z z)
    intro v103 W hS
    have hT:=hS.to [4] z
    refine ⟨fun _=>hT,.by1 5 z (.call1v hS Tryz.func151 (f05 hy8) z z ?_ z z z z) (by kernel_rfl)⟩
    intro v104 W hS
    have hT:=hS.to [5] z
    refine ⟨fun _=>hT,?_⟩
    have hS:=hS.p3
    refine .by1 6 z (.callS2 (L0:=[rowV (sv v95) 129 3 dExpr y6.Args,rowV (sv v104) 129 3 dExpr y8.Args]) hS Tryz.func150 (fun S h1 h2 h3=>(f04 hy9 h2 (zz h1))) z z ?_ z z z z) (by kernel_rfl)
    rintro v105 W hS
    have hT:=hS.to [4] z
    refine ⟨fun _=>hT,.by1 10 z (.appv hr1 (hS.to [5,1,0,0,0,0] z) T.u94 T.t131 z z z ?_ z z z z z) (by kernel_rfl)⟩
    intro v106 W hS
    have hT:=hS.to [4] z
    refine ⟨fun _=>hT,.ts 11 z (fun W hT=>bs T.s131 z z) hT z (by kernel_rfl) (.by1 13 z (.st T.t131 hS.p3 z z z ?_ z z z z z) (by kernel_rfl))⟩
    intro W hS
    refine ⟨fun h=>absurd z h,?_⟩
    refine .done ?_ (by kernel_rfl)
    have hS:=hS.nilv 131 8 dStmt
    exact ⟨z,g27,v105,v106,nilH,sb z,hS.to [4,1,2,1,0] z⟩
   have hS:=hS.nilv 131 8 dStmt
   have hS:=hS.nilv 131 8 dStmt
   refine (.ligv (L1:=[rowV (sv v4) 129 3 dExpr y5.Args,rowV (sv nilH) 131 8 dStmt [],rowV (sv nilH) 131 8 dStmt []]) [(Stmt.mk 1 3 0 (Expr.mk y5.Op y5.N y5.Args) [] [])] dStmt T.u94 T.t131 (hS.to [5,1,0,0,0,0,0,0] z) z z z (.aggE (eStmt _) (.flat (c1:=[.int .i64 1]) z (.flat (c1:=[.int .i64 3]) z (.flat (c1:=[.int .i64 0]) z (.aggE (eExpr _) (.flat (c1:=[.int .i64 y5.Op]) z (.flat (c1:=[.int .i64 y5.N]) z (.row (.row (.row .nil)))))))))) ?_ z zStmt z z z z z)
   intro v107 W hS
   have hT:=hS.to [3] z
   refine ⟨fun _=>hT,?_⟩
   have hS:=hS.p4
   refine .by1 3 z (.callS2 (L0:=[.box g_0 55 [(sv v_0_b),.int .i64 y2.2]]) hS Tryz.func11 (fun S h1 h2 h3=>(f00 hy7 (hS.keepS q_0_b h1) h2 (zz h1))) z z ?_ z z z z) (by kernel_rfl)
   rintro ⟨⟩ W hS
   have hT:=hS.to [4] z
   refine ⟨fun _=>hT,.tp 4 z z hT (by kernel_rfl) (.by1 5 z (.call1v hS Tryz.func151 (f05 hy8) z z ?_ z z z z) (by kernel_rfl))⟩
   intro v108 W hS
   have hT:=hS.to [5] z
   refine ⟨fun _=>hT,?_⟩
   have hS:=hS.p3
   refine .by1 6 z (.callS2 (L0:=[rowV (sv v95) 129 3 dExpr y6.Args,rowV (sv v108) 129 3 dExpr y8.Args]) hS Tryz.func150 (fun S h1 h2 h3=>(f04 hy9 h2 (zz h1))) z z ?_ z z z z) (by kernel_rfl)
   rintro v109 W hS
   have hT:=hS.to [4] z
   refine ⟨fun _=>hT,.by1 10 z (.appv hr1 (hS.to [5,2,0,0,0,0] z) T.u94 T.t131 z z z ?_ z z z z z) (by kernel_rfl)⟩
   intro v110 W hS
   have hT:=hS.to [4] z
   refine ⟨fun _=>hT,.ts 11 z (fun W hT=>bs T.s131 z z) hT z (by kernel_rfl) (.by1 13 z (.st T.t131 hS.p3 z z z ?_ z z z z z) (by kernel_rfl))⟩
   intro W hS
   refine ⟨fun h=>absurd z h,?_⟩
   refine .done ?_ (by kernel_rfl)
   have hS:=hS.nilv 131 8 dStmt
   exact ⟨z,g27,v109,v110,nilH,sb z,hS.to [4,1,2,1,0] z⟩
  have hS:=hS.nilv 131 8 dStmt
  have hS:=hS.nilv 131 8 dStmt
  refine (.ligv (L1:=[rowV (sv v4) 129 3 dExpr y5.Args,rowV (sv nilH) 131 8 dStmt [],rowV (sv nilH) 131 8 dStmt []]) [(Stmt.mk 1 3 0 (Expr.mk y5.Op y5.N y5.Args) [] [])] dStmt T.u94 T.t131 (hS.to [4,1,0,0,0,0,0] z) z z z (.aggE (eStmt _) (.flat (c1:=[.int .i64 1]) z (.flat (c1:=[.int .i64 3]) z (.flat (c1:=[.int .i64 0]) z (.aggE (eExpr _) (.flat (c1:=[.int .i64 y5.Op]) z (.flat (c1:=[.int .i64 y5.N]) z (.row (.row (.row .nil)))))))))) ?_ z zStmt z z z z z)
  intro v111 W hS
  have hT:=hS.to [2] z
  refine ⟨fun _=>hT,.by1 1 z (.call1v hS Tryz.func151 (f05 hy6) z z ?_ z z z z) (by kernel_rfl)⟩
  intro v112 W hS
  have hT:=hS.to [3] z
  refine ⟨fun _=>hT,?_⟩
  have hS:=hS.p4
  refine .by1 3 z (.callS2 (L0:=[.box g_0 55 [(sv v_0_b),.int .i64 y2.2]]) hS Tryz.func11 (fun S h1 h2 h3=>(f00 hy7 (hS.keepS q_0_b h1) h2 (zz h1))) z z ?_ z z z z) (by kernel_rfl)
  rintro ⟨⟩ W hS
  have hT:=hS.to [4] z
  refine ⟨fun _=>hT,.tp 4 z z hT (by kernel_rfl) (.by1 5 z (.call1v hS Tryz.func151 (f05 hy8) z z ?_ z z z z) (by kernel_rfl))⟩
  intro v113 W hS
  have hT:=hS.to [5] z
  refine ⟨fun _=>hT,?_⟩
  have hS:=hS.p2
  refine .by1 6 z (.callS2 (L0:=[rowV (sv v112) 129 3 dExpr y6.Args,rowV (sv v113) 129 3 dExpr y8.Args]) hS Tryz.func150 (fun S h1 h2 h3=>(f04 hy9 h2 (zz h1))) z z ?_ z z z z) (by kernel_rfl)
  rintro v114 W hS
  have hT:=hS.to [4] z
  refine ⟨fun _=>hT,.by1 10 z (.appv hr1 (hS.to [5,2,0,0,0,0] z) T.u94 T.t131 z z z ?_ z z z z z) (by kernel_rfl)⟩
  intro v115 W hS
  have hT:=hS.to [4] z
  refine ⟨fun _=>hT,.ts 11 z (fun W hT=>bs T.s131 z z) hT z (by kernel_rfl) (.by1 13 z (.st T.t131 hS.p3 z z z ?_ z z z z z) (by kernel_rfl))⟩
  intro W hS
  refine ⟨fun h=>absurd z h,?_⟩
  refine .done ?_ (by kernel_rfl)
  have hS:=hS.nilv 131 8 dStmt
  exact ⟨z,g27,v114,v115,nilH,sb z,hS.to [4,1,2,1,0] z⟩
 intro x E W hJ
 obtain ⟨rfl,g28,v116,v117,v118,hE,hS⟩:=hJ
 refine ⟨_,hE.sub,?_⟩
 refine .seq (.rk 6 hS [0,0] T.mix ?_)
 intro W hS
 have hT:=hS.to [0,0] z
 refine .tp 0 z z hT (by kernel_rfl) (.ts 3 z (fun W hT=>ld T.t131 hT.p1 z z z z z) hT z (by kernel_rfl) ?_)
 have ⟨y10,hy10,h⟩:=bnd h
 refine .by1 1 z (.call1v hS Tryz.func151 (f05 hy10) z z ?_ z z z z) (by kernel_rfl)
 intro v119 W hS
 have hT:=hS.to [1,1] z
 refine ⟨fun _=>hT,.ts 2 z (fun W hT=>bs T.s131 z z) hT z (by kernel_rfl) ?_⟩
 have hS:=hS.nilv 131 8 dStmt
 have hS:=hS.nilv 131 8 dStmt
 refine .by1 4 z (.ligv (L1:=[rowV (sv v119) 129 3 dExpr y10.Args,rowV (sv nilH) 131 8 dStmt [],rowV (sv nilH) 131 8 dStmt [],rowV (sv v116) 129 3 dExpr y9.Args,rowV (sv v117) 131 8 dStmt r1,rowV (sv v118) 131 8 dStmt []]) [(Stmt.mk 1 3 0 (Expr.mk y10.Op y10.N y10.Args) [] []),(Stmt.mk 3 0 0 (Expr.mk y9.Op y9.N y9.Args) r1 [])] dStmt T.u94 T.t131 (hS.to [2,1,0,2,2,2,0,0] z) z z z (.aggE (eStmt _) (.flat (c1:=[.int .i64 1]) z (.flat (c1:=[.int .i64 3]) z (.flat (c1:=[.int .i64 0]) z (.aggE (eExpr _) (.flat (c1:=[.int .i64 y10.Op]) z (.flat (c1:=[.int .i64 y10.N]) z (.row (.row (.row (.aggE (eStmt _) (.flat (c1:=[.int .i64 3]) z (.flat (c1:=[.int .i64 0]) z (.flat (c1:=[.int .i64 0]) z (.aggE (eExpr _) (.flat (c1:=[.int .i64 y9.Op]) z (.flat (c1:=[.int .i64 y9.N]) z (.row (.row (.row .nil)))))))))))))))))))) ?_ z zStmt z z z z z) (by kernel_rfl)
 intro v120 W hS
 have hT:=hS.to [1,1] z
 refine ⟨fun _=>hT,?_⟩
 cases h
 exact .tp 5 z z hT (by kernel_rfl) (.done (.ret (fin_ret (vs:=[_]) v120 (rt z rn) z (hS.to [1,0] z))) (by kernel_rfl))
theorem fbw (k : Nat) : f2r (f2e k) ∧ f4b (f5p k) ∧ f5k (f9r k) ∧ f47 (f81 k):=by
  induction k with
  | zero=>exact ⟨by intro a0 a1 a2 a3 a4 v_0_b g_0 S w r h q_0_b hO hlt; exact no h,by intro a0 a1 a2 a3 v_0_b g_0 S w r h q_0_b hO hlt; exact no h,by intro a0 a1 a2 a3 v_0_b g_0 S w r h q_0_b hO hlt; exact no h,by intro a0 a1 a2 v_0_b g_0 S w r h q_0_b hO hlt; exact no h⟩
  | succ k ih=>exact ⟨fee (k:=k) ih.1 ih.2.1 ih.2.2.1 ih.2.2.2,ff7 (k:=k) ih.1 ih.2.1 ih.2.2.1 ih.2.2.2,ffo (k:=k) ih.1 ih.2.1 ih.2.2.1 ih.2.2.2,ff2 (k:=k) ih.1 ih.2.1 ih.2.2.1 ih.2.2.2⟩
theorem fds {k : Nat} : f2r (f2e k):=(fbw k).1
theorem fd2 {k : Nat} {a0 : L6Rd} {a1 : Int} {v_0_b : Hd} {g_0 : Nat} {S : Nat → Prop} {w : World} {r : (List Stmt) × Int} (h : f6l k a0 a1 = some r) (q_0_b : RV w (Old S w) (sv v_0_b) 5 1 (D.int .u8) a0.b) (hO : Owns w [.box g_0 55 [(sv v_0_b),.int .i64 a0.p]] S) (hlt : ∀ b,S b → b < w.heap.size) : Calls Tryz.prog 59 #[.pointer (some ⟨g_0,0,none⟩),.int .i64 a1] w (Ret S w (fun s : Hd=>(sv s)) (fun s=>[.box g_0 55 [(sv v_0_b),.int .i64 r.2],rowV (sv s) 131 8 dStmt r.1])):=by
 unfold f6l at h
 refine enter Tryz.func59 z z ?_
 have hS:=Sep.startM hO hlt
 refine .g (.qn z (.g (.q z (.q z (.q z ?_)))))
 have ⟨y1,hy1,h⟩:=bnd h
 refine .c (.callS2 (L0:=[.box g_0 55 [(sv v_0_b),.int .i64 a0.p]]) hS Tryz.func11 (fun S h1 h2 h3=>(f00 hy1 (hS.keepS q_0_b h1) h2 (zz h1))) z z ?_ z z z z)
 rintro ⟨⟩ W hS
 refine .q z ?_
 have ⟨y2,hy2,h⟩:=bnd h
 refine .c (.callS2 (L0:=[.box g_0 55 [(sv v_0_b),.int .i64 y1.2]]) hS Tryz.func90 (fun S h1 h2 h3=>(fds hy2 (hS.keepS q_0_b h1) h2 (zz h1))) z z ?_ z z z z)
 rintro v1 W hS
 refine .qn z (.seq (.block ?_))
 have ⟨y3,hy3,h⟩:=bnd h
 refine .via (.iter (fun s1 E' W'=>∃ (v4 : Hd),SubL E' [(5,(sv v4))] ∧ Sep S w W' [.box g_0 55 [(sv v_0_b),.int .i64 y2.2],rowV (sv v4) 131 8 dStmt s1]) (fun y4 x E' W'=>x = .exit 0 ∧ ∃ (v5 : Hd),SubL E' [(5,(sv v5))] ∧ Sep S w W' [.box g_0 55 [(sv v_0_b),.int .i64 y2.2],rowV (sv v5) 131 8 dStmt y4]) hy3 ⟨v1,sb z,hS.to [0,0] z⟩ ?_) ?_
 ·intro s1 y5 E W h hI
  obtain ⟨v3,hE,hS⟩:=hI
  refine CW.sub hE ?_
  unfold f97 at h
  refine .seq (.g (.q z ?_))
  have ⟨y6,hy6,h⟩:=bnd h
  refine .c (.call0 hS Tryz.func91 (fb7 hy6 hS.p1.lendv) z z ?_ z z z z)
  intro W hS
  refine .q z (.nil ?_)
  refine .cs z h ?_ ?_ <;> intro h
  ·refine .skip (.block (.region (.q z (.q z (.s (lenv hS.p1.lendv T.u94 z z) z (.q z ?_))))))
   have ⟨r1,hr1,h⟩:=bnd h
   refine .c (.cuto hr1 hS.p1 T.u94 T.t131 z z z z ?_ z z)
   intro v6 hS
   refine .q z (.nil ?_)
   cases h
   exact ⟨z,v6,sb z,hS.to [1,0] z⟩
  refine .exit ?_
  cases h
  exact ⟨by simp,z,v3,sb z,hS.to [0,0] z⟩
 intro x E W hJ
 obtain ⟨rfl,v7,hE,hS⟩:=hJ
 refine ⟨_,hE.sub,?_⟩
 cases h
 exact .g (.q z (.qn z (.ret (fin_ret (vs:=[_]) v7 (rt z rn) z (hS.to [0,0] z)))))
theorem f2u {a0 : Int} {w : World} {r : Bool} (h : f0u a0 = some r) : Calls Tryz.prog 27 #[.int .i64 a0] w (Ret No w (fun s : Unit=>.bool r) (fun s=>[])):=by
 unfold f0u at h
 refine enter Tryz.func27 z z ?_
 have hS:=Sep.start w
 refine .g (.qn z (.g (.q z ?_)))
 have ⟨y1,hy1,h⟩:=bnd h
 refine .c (.call0 hS Tryz.func28 (f06 hy1) z z ?_ z z z z)
 intro W hS
 obtain rfl:=Option.some.inj h
 exact .qn z (.ret (fin_ret (vs:=[_]) () (rt z rn) z (hS.to [] z)))
theorem fad {a0 : Int} {a1 : Bool} {w : World} {r : Bool} (h : f59 a0 a1 = some r) : Calls Tryz.prog 153 #[.int .i64 a0,.bool a1] w (Ret No w (fun s : Unit=>.bool r) (fun s=>[])):=by
 unfold f59 at h
 refine enter Tryz.func153 z z ?_
 have hS:=Sep.start w
 refine .g (.qn z (.seq (.g (.q z (.nil ?_)))))
 refine .cs z h ?_ ?_ <;> intro h
 ·refine .g (.q z ?_)
  have ⟨y1,hy1,h⟩:=bnd h
  refine .c (.call0 hS Tryz.func28 (f06 hy1) z z ?_ z z z z)
  intro W hS
  obtain rfl:=Option.some.inj h
  exact .qn z (.ret (fin_ret (vs:=[_]) () (rt z rn) z (hS.to [] z)))
 cases h
 exact .skip (.g (.q z (.q z (.qn z (.ret (fin_ret (vs:=[_]) () (rt z rn) z (hS.to [] z)))))))
theorem f1q {a0 : Quad} {a1 : Bool} {a2 : Bool} {a3 : Bool} {w : World} {r : Bool} (h : f1f a0 a1 a2 a3 = some r) : Calls Tryz.prog 134 #[.agg #[.int .i64 a0.Op,.int .i64 a0.Dst,.int .i64 a0.A,.int .i64 a0.B,.int .i64 a0.N],.bool a1,.bool a2,.bool a3] w (Ret No w (fun s : Unit=>.bool r) (fun s=>[])):=by
 unfold f1f at h
 refine enter Tryz.func134 z z ?_
 have hS:=Sep.start w
 refine .g (.c (.box hS z z ?_ z z))
 intro g1 W hS
 refine .qn z (.g (.s (fa T.f82_1 z z z) z (.s (ld T.t3 hS z z z z z) z (.q z ?_))))
 have ⟨y1,hy1,h⟩:=bnd h
 refine .c (.call0 hS Tryz.func153 (fad hy1) z z ?_ z z z z)
 intro W hS
 refine .q z ?_
 have ⟨b1,hb1,h⟩:=bnd h
 refine .chunk 5 18 (b1) hS ?_ ?_
 ·refine .both (y1) (fun hb=>?_) (fun hb=>?_)
  ·have hg1:=hb
   have h:=sel_t hb hb1
   refine .g hg1 (.s (fa T.f82_2 z z z) z (.g hg1 (.s (ld T.t3 hS z z z z z) z (.g hg1 (.q z ?_) z)) z)) z
   have ⟨y2,hy2,h⟩:=bnd h
   refine .g hg1 (.c (.call0 hS Tryz.func153 (fad hy2) z z ?_ z z z z)) z
   intro W hS
   refine .s (pkt hg1 z z z) z ?_
   cases h
   exact .nil (ck 5 hS z z z z)
  refine .xx hb z (.xx hb z (.xx hb z (.xx hb z ?_)))
  cases sel_f hb hb1
  exact .s (pkf hb z z z) z (.nil (ck 5 hS z z z z))
 intro W hS
 refine .q z ?_
 have ⟨b2,hb2,h⟩:=bnd h
 refine .chunk 5 24 (b2) hS ?_ ?_
 ·refine .both (b1) (fun hb=>?_) (fun hb=>?_)
  ·have hg2:=hb
   have h:=sel_t hb hb2
   refine .g hg2 (.s (fa T.f82_3 z z z) z (.g hg2 (.s (ld T.t3 hS z z z z z) z (.g hg2 (.q z ?_) z)) z)) z
   have ⟨y3,hy3,h⟩:=bnd h
   refine .g hg2 (.c (.call0 hS Tryz.func153 (fad hy3) z z ?_ z z z z)) z
   intro W hS
   refine .s (pkt hg2 z z z) z ?_
   cases h
   exact .nil (ck 5 hS z z z z)
  refine .xx hb z (.xx hb z (.xx hb z (.xx hb z ?_)))
  cases sel_f hb hb2
  exact .s (pkf hb z z z) z (.nil (ck 5 hS z z z z))
 intro W hS
 obtain rfl:=Option.some.inj h
 exact .qn z (.ret (fin_ret (vs:=[_]) () (rt z rn) z (hS.to [] z)))
theorem f8p {a0 : Quad} {a1 : Int} {w : World} {r : Bool} (h : f31 a0 a1 = some r) : Calls Tryz.prog 114 #[.agg #[.int .i64 a0.Op,.int .i64 a0.Dst,.int .i64 a0.A,.int .i64 a0.B,.int .i64 a0.N],.int .i64 a1] w (Ret No w (fun s : Unit=>.bool r) (fun s=>[])):=by
 unfold f31 at h
 refine enter Tryz.func114 z z ?_
 have hS:=Sep.start w
 refine .g (.c (.box hS z z ?_ z z))
 intro g1 W hS
 refine .qn z (.seq (.g (.s (fa T.f82_0 z z z) z (.s (ld T.t3 hS z z z z z) z (.nil (.block (.g (.q z (.q z (.nil ?_))))))))))
 refine .cs z h ?_ ?_ <;> intro h
 ·refine .g (.s (ld T.t82 hS z z z z z) z ?_)
  have ⟨y1,hy1,h⟩:=bnd h
  refine .c (.call0 hS Tryz.func134 (f1q hy1) z z ?_ z z z z)
  intro W hS
  refine .q z ?_
  have ⟨b1,hb1,h⟩:=bnd h
  refine .chunk 4 15 (b1) hS ?_ ?_
  ·refine .both (y1) (fun hb=>?_) (fun hb=>?_)
   ·have hg1:=hb
    have h:=sel_t hb hb1
    refine .g hg1 (.s (fa T.f82_4 z z z) z (.g hg1 (.s (ld T.t3 hS z z z z z) z ?_) z)) z
    have ⟨y2,hy2,h⟩:=bnd h
    refine .g hg1 (.c (.call0 hS Tryz.func27 (f2u hy2) z z ?_ z z z z)) z
    intro W hS
    refine .s (pkt hg1 z z z) z ?_
    cases h
    exact .nil (ck 4 hS z z z z)
   refine .xx hb z (.xx hb z (.xx hb z ?_))
   cases sel_f hb hb1
   exact .s (pkf hb z z z) z (.nil (ck 4 hS z z z z))
  intro W hS
  obtain rfl:=Option.some.inj h
  exact .qn z (.ret (fin_ret (vs:=[_]) () (rt z rn) z (hS.to [] z)))
 refine .g (.q z (.q z (.nil ?_)))
 refine .cs z h ?_ ?_ <;> intro h
 ·refine .g (.s (ld T.t82 hS z z z z z) z ?_)
  have ⟨y3,hy3,h⟩:=bnd h
  refine .c (.call0 hS Tryz.func134 (f1q hy3) z z ?_ z z z z)
  intro W hS
  refine .q z (.chunk 4 24 (y3 && (a0.N == 0)) hS ?_ ?_)
  ·refine .both (y3) (fun hb=>?_) (fun hb=>?_)
   ·have hg2:=hb
    exact .g hg2 (.s (fa T.f82_4 z z z) z (.g hg2 (.s (ld T.t3 hS z z z z z) z (.g hg2 (.q z (.s (pkt hg2 z z z) z (.nil (ck 4 hS z (and_t hg2) z z)))) z)) z)) z
   exact .xx hb z (.xx hb z (.xx hb z (.s (pkf hb z z z) z (.nil (ck 4 hS z (and_f hb) z z)))))
  intro W hS
  cases h
  exact .qn z (.ret (fin_ret (vs:=[_]) () (rt z rn) z (hS.to [] z)))
 refine .g (.q z (.q z (.nil ?_)))
 refine .cs z h ?_ ?_ <;> intro h
 ·refine .g (.s (ld T.t82 hS z z z z z) z ?_)
  have ⟨y4,hy4,h⟩:=bnd h
  refine .c (.call0 hS Tryz.func134 (f1q hy4) z z ?_ z z z z)
  intro W hS
  refine .q z ?_
  have ⟨b2,hb2,h⟩:=bnd h
  refine .chunk 4 33 (b2) hS ?_ ?_
  ·refine .both (y4) (fun hb=>?_) (fun hb=>?_)
   ·have hg3:=hb
    have h:=sel_t hb hb2
    refine .g hg3 (.s (fa T.f82_4 z z z) z (.g hg3 (.s (ld T.t3 hS z z z z z) z ?_) z)) z
    have ⟨y5,hy5,h⟩:=bnd h
    refine .g hg3 (.c (.call0 hS Tryz.func121 (fa3 hy5) z z ?_ z z z z)) z
    intro W hS
    refine .s (pkt hg3 z z z) z ?_
    cases h
    exact .nil (ck 4 hS z z z z)
   refine .xx hb z (.xx hb z (.xx hb z ?_))
   cases sel_f hb hb2
   exact .s (pkf hb z z z) z (.nil (ck 4 hS z z z z))
  intro W hS
  obtain rfl:=Option.some.inj h
  exact .qn z (.ret (fin_ret (vs:=[_]) () (rt z rn) z (hS.to [] z)))
 refine .g (.q z (.q z (.nil ?_)))
 refine .cs z h ?_ ?_ <;> intro h
 ·refine .g (.s (ld T.t82 hS z z z z z) z ?_)
  have ⟨y6,hy6,h⟩:=bnd h
  refine .c (.call0 hS Tryz.func134 (f1q hy6) z z ?_ z z z z)
  intro W hS
  refine .q z (.chunk 4 42 (y6 && (decide (a0.N ≥ 0))) hS ?_ ?_)
  ·refine .both (y6) (fun hb=>?_) (fun hb=>?_)
   ·have hg4:=hb
    exact .g hg4 (.s (fa T.f82_4 z z z) z (.g hg4 (.s (ld T.t3 hS z z z z z) z (.g hg4 (.q z (.s (pkt hg4 z z z) z (.nil (ck 4 hS z (and_t hg4) z z)))) z)) z)) z
   exact .xx hb z (.xx hb z (.xx hb z (.s (pkf hb z z z) z (.nil (ck 4 hS z (and_f hb) z z)))))
  intro W hS
  refine .q z (.chunk 5 48 ((y6 && (decide (a0.N ≥ 0))) && (decide (a0.N < a1))) hS ?_ ?_)
  ·refine .both (y6 && (decide (a0.N ≥ 0))) (fun hb=>?_) (fun hb=>?_)
   ·have hg5:=hb
    exact .g hg5 (.s (fa T.f82_4 z z z) z (.g hg5 (.s (ld T.t3 hS z z z z z) z (.g hg5 (.q z (.g hg5 (.q z (.s (pkt hg5 z z z) z (.nil (ck 5 hS z (and_t hg5) z z)))) z)) z)) z)) z
   exact .xx hb z (.xx hb z (.xx hb z (.xx hb z (.s (pkf hb z z z) z (.nil (ck 5 hS z (and_f hb) z z))))))
  intro W hS
  cases h
  exact .qn z (.ret (fin_ret (vs:=[_]) () (rt z rn) z (hS.to [] z)))
 refine .g (.q z (.q z (.nil ?_)))
 refine .cs z h ?_ ?_ <;> intro h
 ·refine .g (.s (ld T.t82 hS z z z z z) z ?_)
  have ⟨y7,hy7,h⟩:=bnd h
  refine .c (.call0 hS Tryz.func134 (f1q hy7) z z ?_ z z z z)
  intro W hS
  refine .q z (.chunk 4 57 (y7 && (decide (a0.N ≥ 0))) hS ?_ ?_)
  ·refine .both (y7) (fun hb=>?_) (fun hb=>?_)
   ·have hg6:=hb
    exact .g hg6 (.s (fa T.f82_4 z z z) z (.g hg6 (.s (ld T.t3 hS z z z z z) z (.g hg6 (.q z (.s (pkt hg6 z z z) z (.nil (ck 4 hS z (and_t hg6) z z)))) z)) z)) z
   exact .xx hb z (.xx hb z (.xx hb z (.s (pkf hb z z z) z (.nil (ck 4 hS z (and_f hb) z z)))))
  intro W hS
  refine .q z (.chunk 5 63 ((y7 && (decide (a0.N ≥ 0))) && (decide (a0.N < a1))) hS ?_ ?_)
  ·refine .both (y7 && (decide (a0.N ≥ 0))) (fun hb=>?_) (fun hb=>?_)
   ·have hg7:=hb
    exact .g hg7 (.s (fa T.f82_4 z z z) z (.g hg7 (.s (ld T.t3 hS z z z z z) z (.g hg7 (.q z (.g hg7 (.q z (.s (pkt hg7 z z z) z (.nil (ck 5 hS z (and_t hg7) z z)))) z)) z)) z)) z
   exact .xx hb z (.xx hb z (.xx hb z (.xx hb z (.s (pkf hb z z z) z (.nil (ck 5 hS z (and_f hb) z z))))))
  intro W hS
  cases h
  exact .qn z (.ret (fin_ret (vs:=[_]) () (rt z rn) z (hS.to [] z)))
 refine .g (.q z (.q z (.nil ?_)))
 refine .cs z h ?_ ?_ <;> intro h
 ·refine .g (.s (ld T.t82 hS z z z z z) z ?_)
  have ⟨y8,hy8,h⟩:=bnd h
  refine .c (.call0 hS Tryz.func134 (f1q hy8) z z ?_ z z z z)
  intro W hS
  refine .q z ?_
  have ⟨b3,hb3,h⟩:=bnd h
  refine .chunk 4 72 (b3) hS ?_ ?_
  ·refine .both (y8) (fun hb=>?_) (fun hb=>?_)
   ·have hg8:=hb
    have h:=sel_t hb hb3
    refine .g hg8 (.s (fa T.f82_4 z z z) z (.g hg8 (.s (ld T.t3 hS z z z z z) z ?_) z)) z
    have ⟨y9,hy9,h⟩:=bnd h
    refine .g hg8 (.c (.call0 hS Tryz.func28 (f06 hy9) z z ?_ z z z z)) z
    intro W hS
    refine .s (pkt hg8 z z z) z ?_
    cases h
    exact .nil (ck 4 hS z z z z)
   refine .xx hb z (.xx hb z (.xx hb z ?_))
   cases sel_f hb hb3
   exact .s (pkf hb z z z) z (.nil (ck 4 hS z z z z))
  intro W hS
  obtain rfl:=Option.some.inj h
  exact .qn z (.ret (fin_ret (vs:=[_]) () (rt z rn) z (hS.to [] z)))
 refine .g (.q z (.q z (.nil ?_)))
 refine .cs z h ?_ ?_ <;> intro h
 ·refine .g (.s (ld T.t82 hS z z z z z) z ?_)
  have ⟨y10,hy10,h⟩:=bnd h
  refine .c (.call0 hS Tryz.func134 (f1q hy10) z z ?_ z z z z)
  intro W hS
  refine .q z ?_
  have ⟨b4,hb4,h⟩:=bnd h
  refine .chunk 4 81 (b4) hS ?_ ?_
  ·refine .both (y10) (fun hb=>?_) (fun hb=>?_)
   ·have hg9:=hb
    have h:=sel_t hb hb4
    refine .g hg9 (.s (fa T.f82_4 z z z) z (.g hg9 (.s (ld T.t3 hS z z z z z) z ?_) z)) z
    have ⟨y11,hy11,h⟩:=bnd h
    refine .g hg9 (.c (.call0 hS Tryz.func28 (f06 hy11) z z ?_ z z z z)) z
    intro W hS
    refine .s (pkt hg9 z z z) z ?_
    cases h
    exact .nil (ck 4 hS z z z z)
   refine .xx hb z (.xx hb z (.xx hb z ?_))
   cases sel_f hb hb4
   exact .s (pkf hb z z z) z (.nil (ck 4 hS z z z z))
  intro W hS
  obtain rfl:=Option.some.inj h
  exact .qn z (.ret (fin_ret (vs:=[_]) () (rt z rn) z (hS.to [] z)))
 refine .g (.q z (.q z (.nil ?_)))
 refine .cs z h ?_ ?_ <;> intro h
 ·refine .g (.s (ld T.t82 hS z z z z z) z ?_)
  have ⟨y12,hy12,h⟩:=bnd h
  refine .c (.call0 hS Tryz.func134 (f1q hy12) z z ?_ z z z z)
  intro W hS
  refine .q z (.chunk 4 90 (y12 && (a0.N == 0)) hS ?_ ?_)
  ·refine .both (y12) (fun hb=>?_) (fun hb=>?_)
   ·have hg10:=hb
    exact .g hg10 (.s (fa T.f82_4 z z z) z (.g hg10 (.s (ld T.t3 hS z z z z z) z (.g hg10 (.q z (.s (pkt hg10 z z z) z (.nil (ck 4 hS z (and_t hg10) z z)))) z)) z)) z
   exact .xx hb z (.xx hb z (.xx hb z (.s (pkf hb z z z) z (.nil (ck 4 hS z (and_f hb) z z)))))
  intro W hS
  cases h
  exact .qn z (.ret (fin_ret (vs:=[_]) () (rt z rn) z (hS.to [] z)))
 have ⟨y13,hy13,h⟩:=bnd h
 refine .seq (CW.via (R':=fun x E' W'=>x = .normal ∧ SubL E' [(2,.pointer (some ⟨g1,0,none⟩)),(91,.bool y13)] ∧ Sep No w W' [.box g1 82 [.int .i64 a0.Op,.int .i64 a0.Dst,.int .i64 a0.A,.int .i64 a0.B,.int .i64 a0.N]]) ?_ ?_)
 ·have h:=hy13
  refine .g (.q z (.q z (.nil ?_)))
  refine .cs z h ?_ ?_ <;> intro h
  ·refine .skip ?_
   cases h
   exact ⟨z,sb z,hS.to [0] z⟩
  refine .region (.q z (.q z (.nil ?_)))
  cases h
  exact ⟨z,sb z,hS.to [0] z⟩
 intro x E W hJ
 obtain ⟨rfl,hE,hS⟩:=hJ
 refine ⟨_,hE.sub,?_⟩
 refine .cs z h ?_ ?_ <;> intro h
 ·refine .g (.s (ld T.t82 hS z z z z z) z ?_)
  have ⟨y14,hy14,h⟩:=bnd h
  refine .c (.call0 hS Tryz.func134 (f1q hy14) z z ?_ z z z z)
  intro W hS
  refine .q z (.chunk 4 100 (y14 && (a0.N == 0)) hS ?_ ?_)
  ·refine .both (y14) (fun hb=>?_) (fun hb=>?_)
   ·have hg11:=hb
    exact .g hg11 (.s (fa T.f82_4 z z z) z (.g hg11 (.s (ld T.t3 hS z z z z z) z (.g hg11 (.q z (.s (pkt hg11 z z z) z (.nil (ck 4 hS z (and_t hg11) z z)))) z)) z)) z
   exact .xx hb z (.xx hb z (.xx hb z (.s (pkf hb z z z) z (.nil (ck 4 hS z (and_f hb) z z)))))
  intro W hS
  cases h
  exact .qn z (.ret (fin_ret (vs:=[_]) () (rt z rn) z (hS.to [] z)))
 obtain rfl:=Option.some.inj h
 exact .skip (.g (.qn z (.ret (fin_ret (vs:=[_]) () (rt z rn) z (hS.to [] z)))))
def fdo (w : World) (r : Bool) : Env → World → Prop:=Fin Tryz.prog Tryz.f92 No w (fun s : Unit=>.bool r) (fun s=>[]) .ret
theorem f18 {a0 : List Quad} {v_0 : Hd} {w : World} {r : Bool} (h : f0t a0 = some r) (q_0 : RV w (Old No w) (sv v_0) 82 5 dQuad a0) : Calls Tryz.prog 92 #[(sv v_0)] w (Ret No w (fun s : Unit=>.bool r) (fun s=>[])):=by
 unfold f0t at h
 refine enter Tryz.func92 z z ?_
 have hS:=Sep.start w
 refine .g (.qn z (.g (.q z (.s (lenv (hS.keep q_0) T.u70 z z) z (.qn z (.seq (.g (.q z ?_))))))))
 have ⟨y1,hy1,h⟩:=bnd h
 refine .c (.call0 hS Tryz.func28 (f06 hy1) z z ?_ z z z z)
 intro W hS
 refine .q z (.nil ?_)
 refine .cs z h ?_ ?_ <;> intro h
 ·obtain rfl:=Option.some.inj h
  exact .g (.qn z (.ret (fin_ret (vs:=[_]) () (rt z rn) z (hS.to [] z))))
 refine .skip (.seq (.g (.qn z (.block ?_))))
 have ⟨y2,hy2,h⟩:=bnd h
 refine .via (.iter (fun s1 E' W'=>SubL E' [(0,(sv v_0)),(3,.int .i64 (a0.length : Int)),(4,.int .i64 s1)] ∧ Sep No w W' []) (fun y3 x E' W'=>(match y3 with | .inl o1=>x = .ret ∧ fdo w o1 E' W' | .inr o2=>x = .exit 0 ∧ SubL E' [(0,(sv v_0)),(3,.int .i64 (a0.length : Int))] ∧ Sep No w W' [])) hy2 ⟨sb rfl,hS.to [] rfl⟩ ?_) ?_
 ·intro s1 y4 E W h hI
  obtain ⟨hE,hS⟩:=hI
  refine CW.sub hE ?_
  unfold f8m at h
  refine .seq (.g (.q z (.q z (.q z (.nil ?_)))))
  refine .cs z h ?_ ?_ <;> intro h
  ·refine .skip (.seq (.block (.g (.q z (.q z ?_)))))
   have ⟨x1,hx1,h⟩:=bnd h
   refine .s (ixv (hS.keep q_0) hx1 T.u70 T.t82 z z z) z (.s (lde (RV.flat (hS.keep q_0) hx1 z) T.t82 z z z z z) z (.q z ?_))
   have ⟨y5,hy5,h⟩:=bnd h
   refine .c (.call0 hS Tryz.func114 (f8p hy5) z z ?_ z z z z)
   intro W hS
   refine .q z (.nil ?_)
   refine .cs z h ?_ ?_ <;> intro h
   ·refine .g (.qn z (.ret ?_))
    cases h
    exact ⟨by simp,z,fin_ret (vs:=[_]) () (rt z rn) z (hS.to [] z)⟩
   refine .skip (.region (.q z (.q z (.q z (.nil ?_)))))
   cases h
   exact ⟨z,sb z,hS.to [] z⟩
  refine .exit ?_
  cases h
  exact ⟨by simp,z,sb z,hS.to [] z⟩
 intro x E W hJ
 rcases y2 with o3 | o4
 ·obtain ⟨rfl,hF⟩:=hJ
  refine ⟨_,fun _ _ h=>h,?_⟩
  cases h
  exact hF
 obtain ⟨rfl,hE,hS⟩:=hJ
 refine ⟨_,hE.sub,?_⟩
 refine .g (.q z (.q z (.q z ?_)))
 have ⟨x2,hx2,h⟩:=bnd h
 refine .s (ixv (hS.keep q_0) hx2 T.u70 T.t82 z z z) z (.s (fe T.f82_0 z z z) z (.s (lde (RV.flat (hS.keep q_0) hx2 z) T.t3 z z z z z) z (.q z (.q z ?_))))
 have ⟨b1,hb1,h⟩:=bnd h
 refine .chunk 8 37 (b1) hS ?_ ?_
 ·refine .both (x2.Op == 10) (fun hb=>?_) (fun hb=>?_)
  ·refine .xx hb z (.xx hb z (.xx hb z (.xx hb z (.xx hb z (.xx hb z (.xx hb z ?_))))))
   cases sel_t hb hb1
   exact .s (pkt hb z z z) z (.nil (ck 8 hS z z z z))
  have hg1:=hb
  have h:=sel_f hb hb1
  refine .g hg1 (.q z (.g hg1 (.q z (.g hg1 (.q z ?_) z)) z)) z
  have ⟨x3,hx3,h⟩:=bnd h
  refine .g hg1 (.s (ixv (hS.keep q_0) hx3 T.u70 T.t82 z z z) z (.g hg1 (.s (fe T.f82_0 z z z) z (.g hg1 (.s (lde (RV.flat (hS.keep q_0) hx3 z) T.t3 z z z z z) z (.g hg1 (.q z (.s (pkf hg1 z z z) z ?_)) z)) z)) z)) z
  cases h
  exact .nil (ck 8 hS z z z z)
 intro W hS
 obtain rfl:=Option.some.inj h
 exact .qn z (.ret (fin_ret (vs:=[_]) () (rt z rn) z (hS.to [] z)))
end Go.Proofs.YtmpplggjpmmhlaaGreat.N
