/- Printed by a program of mine: that the program's functions compute it. -/
import Derived.Test.YtcljimkjmklkmaaGreatDoorK4
set_option linter.unusedVariables false
set_option linter.unusedSimpArgs false
set_option maxRecDepth 100000
set_option maxHeartbeats 40000000
namespace Go.Proofs.YtcljimkjmklkmaaGreatDoor.N
open Go.Proofs.YtcljimkjmklkmaaGreatDoor.X
noncomputable section
abbrev Cl := Calls Tryz.prog
abbrev vi (x : Int) : Value := Value.int IntKind.i64 x
abbrev RO (w : World) (h : Hd) {α : Type} := @RV α w (Old No w) (sv h)
abbrev RU (w : World) (v : Value) := Ret No w (fun _ : Unit => v) fun _ => []
theorem z.{u} {α : Sort u} {a : α} : a = a := rfl
theorem zz {A S T : Nat → Prop} (h : ∀ b, S b → A b ∧ T b) : ∀ b, S b → T b := fun b hb => (h b hb).2
end
end Go.Proofs.YtcljimkjmklkmaaGreatDoor.N
namespace Go.Proofs.YtcljimkjmklkmaaGreatDoor.X
noncomputable section
theorem CW.g {P : Program} {n id : Nat} {ops : Array Oper} {d : Code} {E : Env} {W : World} {R : Exit → Env → World → Prop} (h : RG P n ops ops.toList E W (fun E' W' => CW P n d E' W' R)) : CW P n (.seq (.region id ops false) d) E W R := .seq (.region h)
variable {P : Program} {n : Nat} {ops : Array Oper} {o : Oper} {E : Env} {W : World} {v : Value} {K : Env → World → Prop} {SW : World → Prop} {k f : Nat} {ls : Array Bool}
theorem RK.tp' (i : Nat) (ho : ops[i]? = some o) (hv : pq n E o = some v) (hS : SW W) (h : RK P n ops SW k f (ls.setIfInBounds i true) (put E o.dst v) W K) (hs : (Region.noSelect ops && Region.free .any ops ls i && (Region.ready .any ops ls).contains i && kg ops k i && !(Nat.beq i k)) = true := by kernel_rfl) : RK P n ops SW k (f + 1) ls E W K := .tp i ho hv hS hs h
theorem RK.ts' (i : Nat) (ho : ops[i]? = some o) (hv : ∀ W, SW W → eT P n E o W v W) (hS : SW W) (hg : og n o = true) (h : RK P n ops SW k f (ls.setIfInBounds i true) (put E o.dst v) W K) (hs : (Region.noSelect ops && Region.free .any ops ls i && (Region.ready .any ops ls).contains i && kg ops k i && !(Nat.beq i k)) = true := by kernel_rfl) : RK P n ops SW k (f + 1) ls E W K := .ts i ho hv hS hg hs h
theorem RG.qn {P : Program} {n : Nat} {ops : Array Oper} {o : Oper} {E : Env} {W : World} {v : Value} {K : Env → World → Prop} (h : pq n E o = some v) (k : K (put E o.dst v) W) : RG P n ops [o] E W K := .q h (.nil k)
end
end Go.Proofs.YtcljimkjmklkmaaGreatDoor.X
namespace Go.Proofs.YtcljimkjmklkmaaGreatDoor.N
open Go.Proofs.YtcljimkjmklkmaaGreatDoor.X
noncomputable section
theorem tm {a0 : List Int} {v_0 : Hd} {w : World} {r : aL} (h : kZ a0 = some r) (q_0 : RO w v_0 5 1 (D.int .u8) a0) : Cl 16 #[(sv v_0)] w (Ret No w (fun s : Nat × {x : Hd // ∀ (T : Nat → Prop),RV w T (sv v_0) 5 1 (D.int .u8) a0 → RV w T (sv x) 5 1 (D.int .u8) r.b}=>.pointer (some ⟨s.1,0,none⟩)) (fun s=>[.box s.1 74 [(sv s.2.1),vi r.p]])):=by
 unfold kZ at h
 refine au Tryz.func16 z z ?_
 have hS:=Sep.start w
 refine .g (.q z (.nil ?_))
 have ⟨y1,hy1,h⟩:=bnd h
 refine .seq (CW.via (R':=fun x E' W'=>x = .normal ∧ ∃ (v1 : Hd),(∀ (T : Nat → Prop),RV w T (sv v_0) 5 1 (D.int .u8) a0 → RV w T (sv v1) 5 1 (D.int .u8) y1) ∧ aD E' [(0,(sv v1))] ∧ Sep No w W' []) ?_ ?_)
 ·have h:=hy1
  refine .g (.q z (.s (bw (hS.keep q_0) T.u22 z z) z (.q z (.nil ?_))))
  refine .cs z h ?_ ?_ <;> intro h
  ·refine .region (.q z ?_)
   have ⟨r1,hr1,h⟩:=bnd h
   refine .s (slv hr1 q_0 T.u22 T.t5 z z z z) z (.q z (.nil ?_))
   obtain rfl:=o9 h
   exact ⟨z,(py v_0 (Int.toNat 0) 1 r1.length),fun _ q_0=>(us hr1 q_0),sb z,hS.to []⟩
  refine .skip ?_
  obtain rfl:=o9 h
  exact ⟨z,v_0,fun _ q_0=>q_0,sb z,hS.to []⟩
 intro x E W hJ
 obtain ⟨rfl,v2,q2,hE,hS⟩:=hJ
 refine ⟨_,hE.sub,?_⟩
 refine .g (.q z (.s (bs T.s74 z z) z (.c (.box hS z z ?_))))
 intro g1 W hS
 cases h
 exact .qn z (.ret (ac (vs:=[_]) (g1,⟨v2,fun _ q_0=>(q2 _ q_0)⟩) (rt z rn) z (hS.to [0])))
theorem ak {a0 : aL} {a1 : Int} {ar : Hd} {g_0 : Nat} {S : Nat → Prop} {w : World} {r : Int × Int} (h : aq a0 a1 = some r) (aH : RV w (Old S w) (sv ar) 5 1 (D.int .u8) a0.b) (hO : bJ w [.box g_0 74 [(sv ar),vi a0.p]] S) (hlt : ∀ b,S b → b < w.heap.size) : Cl 18 #[pt g_0,vi a1] w (Ret S w (fun s : Unit=>.int .i64 r.1) (fun s=>[.box g_0 74 [(sv ar),vi r.2]])):=by
 unfold aq at h
 refine au Tryz.func18 z z ?_
 have hS:=Sep.sm hO hlt
 refine .g (.qn z (.g (.q z (.q z (.q z (.s (fa T.f74_1 z z z) z (.s (ld T.t3 hS z z z z z) z (.q z (.q z (.s (fa T.f74_1 z z z) z (.c (.st T.t3 hS z z z ?_))))))))))))
 intro W hS
 refine .nil (.seq (.g (.q z (.q z (.q z (.cu 7 24 ((decide (a1 < 1)) || ((a0.b.length : Int) == 0)) hS ?_ ?_))))))
 ·refine .both (decide (a1 < 1)) (fun hb=>?_) (fun hb=>?_)
  ·exact .xx hb z (.xx hb z (.xx hb z (.xx hb z (.xx hb z (.xx hb z (.s (pkt hb z z z) z (.nil (ck 7 hS z (gn hb)))))))))
  have hg1:=hb
  exact .g hg1 (.q z (.g hg1 (.q z (.g hg1 (.s (fa T.f74_0 z z z) z (.g hg1 (.s (ld T.t22 hS z z z z z) z (.g hg1 (.s (bw (hS.keep aH) T.u22 z z) z (.g hg1 (.q z (.s (pkf hg1 z z z) z (.nil (ck 7 hS z (go hg1)))))))))))))))
 intro W hS
 refine .nil ?_
 refine .cs z h ?_ ?_ <;> intro h
 ·cases h
  exact .g (.qn z (.ret (ac (vs:=[_]) () (rt z rn) z (hS.to [0]))))
 refine .skip (.g (.q z (.q z (.s (fa T.f74_1 z z z) z (.s (ld T.t3 hS z z z z z) z (.q z (.qn z (.seq (.g (.q z (.q z (.q z (.s (fa T.f74_0 z z z) z (.s (ld T.t22 hS z z z z z) z (.s (bw (hS.keep aH) T.u22 z z) z (.q z (.nil ?_)))))))))))))))))
 refine .cs z h ?_ ?_ <;> intro h
 ·refine .g (.q z (.q z (.s (fa T.f74_0 z z z) z (.s (ld T.t22 hS z z z z z) z (.q z ?_)))))
  have ⟨x1,hx1,h⟩:=bnd h
  refine .s (ixv (hS.keep aH) hx1 T.u22 T.t5 z z z) z (.s (lde (RV.flat (hS.keep aH) hx1 z) T.t5 z z z z z) z (.s (cv T.u5 T.u3 z z) z (.q z ?_)))
  have ⟨d1,hd1,h⟩:=bnd h
  cases h
  exact .s (dr hd1 z z z) z (.qn z (.ret (ac (vs:=[_]) () (rt z rn) z (hS.to [0]))))
 refine .skip (.seq (.rk 46 hS [0] T.mix ?_))
 intro W hS
 have hT:=hS.to [0]
 refine .tp' 0 z z hT (.tp' 1 z z hT (.ts' 2 z (fun W hT=>fa T.f74_0 z z z) hT z (.ts' 3 z (fun W hT=>ld T.t22 hT z z z z z) hT z (.tp' 4 z z hT (.tp' 5 z z hT (.tp' 6 z z hT (.ts' 7 z (fun W hT=>fa T.f74_0 z z z) hT z (.ts' 8 z (fun W hT=>ld T.t22 hT z z z z z) hT z (.ts' 9 z (fun W hT=>bw (hS.keep aH) T.u22 z z) hT z ?_)))))))))
 have ⟨d2,hd2,h⟩:=bnd h
 refine .ts' 10 z (fun W hT=>dr hd2 z z z) hT z ?_
 have ⟨x2,hx2,h⟩:=bnd h
 refine .ts' 11 z (fun W hT=>ixv (hS.keep aH) hx2 T.u22 T.t5 z z z) hT z (.ts' 12 z (fun W hT=>lde (RV.flat (hT.keep aH) hx2 z) T.t5 z z z z z) hT z (.ts' 13 z (fun W hT=>cv T.u5 T.u3 z z) hT z (.tp' 14 z z hT (.tp' 15 z z hT (.tp' 16 z z hT (.ts' 17 z (fun W hT=>fa T.f74_0 z z z) hT z (.ts' 18 z (fun W hT=>ld T.t22 hT z z z z z) hT z (.tp' 19 z z hT (.tp' 20 z z hT (.tp' 21 z z hT (.tp' 22 z z hT (.tp' 23 z z hT (.ts' 24 z (fun W hT=>fa T.f74_0 z z z) hT z (.ts' 25 z (fun W hT=>ld T.t22 hT z z z z z) hT z (.ts' 26 z (fun W hT=>bw (hS.keep aH) T.u22 z z) hT z ?_)))))))))))))))
 have ⟨d3,hd3,h⟩:=bnd h
 refine .ts' 27 z (fun W hT=>dr hd3 z z z) hT z ?_
 have ⟨x3,hx3,h⟩:=bnd h
 refine .ts' 28 z (fun W hT=>ixv (hS.keep aH) hx3 T.u22 T.t5 z z z) hT z (.ts' 29 z (fun W hT=>lde (RV.flat (hT.keep aH) hx3 z) T.t5 z z z z z) hT z (.ts' 30 z (fun W hT=>cv T.u5 T.u3 z z) hT z (.tp' 31 z z hT (.tp' 32 z z hT (.tp' 33 z z hT (.tp' 34 z z hT (.tp' 35 z z hT (.tp' 36 z z hT (.tp' 37 z z hT (.tp' 38 z z hT (.ts' 39 z (fun W hT=>fa T.f74_0 z z z) hT z (.ts' 40 z (fun W hT=>ld T.t22 hT z z z z z) hT z (.ts' 41 z (fun W hT=>bw (hS.keep aH) T.u22 z z) hT z ?_)))))))))))))
 have ⟨d4,hd4,h⟩:=bnd h
 refine .ts' 42 z (fun W hT=>dq hd4 z z z) hT z (.tp' 43 z z hT (.tp' 44 z z hT (.tp' 45 z z hT (.done (.g (.q z (.q z (.q z (.q z (.qn z (.g (.q z (.q z ?_)))))))))))))
 have ⟨d5,hd5,h⟩:=bnd h
 cases h
 exact .s (dr hd5 z z z) z (.qn z (.ret (ac (vs:=[_]) () (rt z rn) z (hS.to [0]))))
theorem cW {a0 : aL} {ar : Hd} {g_0 : Nat} {S : Nat → Prop} {w : World} {r : Int × Int} (h : cK a0 = some r) (aH : RV w (Old S w) (sv ar) 5 1 (D.int .u8) a0.b) (hO : bJ w [.box g_0 74 [(sv ar),vi a0.p]] S) (hlt : ∀ b,S b → b < w.heap.size) : Cl 141 #[pt g_0] w (Ret S w (fun s : Unit=>.int .i64 r.1) (fun s=>[.box g_0 74 [(sv ar),vi r.2]])):=by
 unfold cK at h
 refine au Tryz.func141 z z ?_
 have hS:=Sep.sm hO hlt
 refine .g (.qn z (.g (.q z ?_)))
 have ⟨y1,hy1,h⟩:=bnd h
 refine .c (.cS (L0:=[.box g_0 74 [(sv ar),vi a0.p]]) hS Tryz.func18 (fun S h1 h2 h3=>(ak hy1 (hS.ks aH h1) h2 (zz h1))) z z ?_)
 rintro ⟨⟩ W hS
 cases h
 exact .qn z (.ret (ac (vs:=[_]) () (rt z rn) z (hS.to [0])))
theorem eS {a0 : Int} {w : World} {r : Int} (h : bK a0 = some r) : Cl 74 #[vi a0] w (RU w (.int .i64 r)):=by
 unfold bK at h
 refine au Tryz.func74 z z ?_
 have hS:=Sep.start w
 refine .g (.qn z (.g (.q z (.q z (.qn z (.seq (.g (.q z (.q z (.nil ?_))))))))))
 refine .cs z h ?_ ?_ <;> intro h
 ·cases h
  exact .g (.q z (.q z (.qn z (.ret (ac (vs:=[_]) () (rt z rn) z (hS.to []))))))
 refine .skip (.seq (.g (.q z (.q z (.nil ?_)))))
 refine .cs z h ?_ ?_ <;> intro h
 ·cases h
  exact .g (.q z (.q z (.qn z (.ret (ac (vs:=[_]) () (rt z rn) z (hS.to []))))))
 cases h
 exact .skip (.g (.q z (.qn z (.ret (ac (vs:=[_]) () (rt z rn) z (hS.to []))))))
theorem rE {a0 : aL} {ar : Hd} {g_0 : Nat} {S : Nat → Prop} {w : World} {r : Int × Int} (h : jw a0 = some r) (aH : RV w (Old S w) (sv ar) 5 1 (D.int .u8) a0.b) (hO : bJ w [.box g_0 74 [(sv ar),vi a0.p]] S) (hlt : ∀ b,S b → b < w.heap.size) : Cl 142 #[pt g_0] w (Ret S w (fun s : Unit=>.int .i64 r.1) (fun s=>[.box g_0 74 [(sv ar),vi r.2]])):=by
 unfold jw at h
 refine au Tryz.func142 z z ?_
 have hS:=Sep.sm hO hlt
 refine .g (.qn z (.seq (.g (.q z ?_))))
 have ⟨y1,hy1,h⟩:=bnd h
 refine .c (.cS (L0:=[.box g_0 74 [(sv ar),vi a0.p]]) hS Tryz.func18 (fun S h1 h2 h3=>(ak hy1 (hS.ks aH h1) h2 (zz h1))) z z ?_)
 rintro ⟨⟩ W hS
 refine .nil (.block (.g (.q z (.qn z (.cond z (fun hb=>?_) (fun hb=>?_))))))
 ·have h:=aI hb h
  refine .g (.c (.liv [(-2147483648),2147483647,(-1),0,1,(-2147483647),65536,(-65536)] (D.int .i64) T.u23 T.t3 hS z z z z ?_ z (fun _=>z)))
  intro v1 W hS
  refine .q z ?_
  have ⟨y2,hy2,h⟩:=bnd h
  have hS:=hS.p1
  refine .c (.cS (L0:=[.box g_0 74 [(sv ar),vi y1.2]]) hS Tryz.func18 (fun S h1 h2 h3=>(ak hy2 (hS.ks aH h1) h2 (zz h1))) z z ?_)
  rintro ⟨⟩ W hS
  have ⟨x1,hx1,h⟩:=bnd h
  cases h
  exact .s (ixv hS.p1.lv hx1 T.u23 T.t3 z z z) z (.s (lde (RV.flat hS.p1.lv hx1 z) T.t3 z z z z z) z (.qn z (.ret (ac (vs:=[_]) () (rt z rn) z (hS.to [0])))))
 have h:=aJ hb h
 refine .g (.q z (.qn z (.cond z (fun hb=>?_) (fun hb=>?_))))
 ·have h:=aI hb h
  refine .g (.q z ?_)
  have ⟨y3,hy3,h⟩:=bnd h
  refine .c (.cS (L0:=[.box g_0 74 [(sv ar),vi y1.2]]) hS Tryz.func18 (fun S h1 h2 h3=>(ak hy3 (hS.ks aH h1) h2 (zz h1))) z z ?_)
  rintro ⟨⟩ W hS
  refine .q z (.q z ?_)
  have ⟨y4,hy4,h⟩:=bnd h
  refine .c (.cS (L0:=[.box g_0 74 [(sv ar),vi y3.2]]) hS Tryz.func18 (fun S h1 h2 h3=>(ak hy4 (hS.ks aH h1) h2 (zz h1))) z z ?_)
  rintro ⟨⟩ W hS
  refine .q z (.q z (.q z ?_))
  have ⟨y5,hy5,h⟩:=bnd h
  refine .c (.cS (L0:=[.box g_0 74 [(sv ar),vi y4.2]]) hS Tryz.func18 (fun S h1 h2 h3=>(ak hy5 (hS.ks aH h1) h2 (zz h1))) z z ?_)
  rintro ⟨⟩ W hS
  refine .q z (.q z ?_)
  have ⟨y6,hy6,h⟩:=bnd h
  refine .c (.cS (L0:=[.box g_0 74 [(sv ar),vi y5.2]]) hS Tryz.func18 (fun S h1 h2 h3=>(ak hy6 (hS.ks aH h1) h2 (zz h1))) z z ?_)
  rintro ⟨⟩ W hS
  refine .q z (.q z ?_)
  have ⟨y7,hy7,h⟩:=bnd h
  refine .c (.cO hS Tryz.func74 (eS hy7) z z ?_)
  intro W hS
  cases h
  exact .qn z (.ret (ac (vs:=[_]) () (rt z rn) z (hS.to [0])))
 have h:=aJ hb h
 refine .g (.q z (.qn z (.cond z (fun hb=>?_) (fun hb=>?_))))
 ·have h:=aI hb h
  refine .g (.q z ?_)
  have ⟨y8,hy8,h⟩:=bnd h
  refine .c (.cS (L0:=[.box g_0 74 [(sv ar),vi y1.2]]) hS Tryz.func18 (fun S h1 h2 h3=>(ak hy8 (hS.ks aH h1) h2 (zz h1))) z z ?_)
  rintro ⟨⟩ W hS
  cases h
  exact .q z (.qn z (.ret (ac (vs:=[_]) () (rt z rn) z (hS.to [0]))))
 have h:=aJ hb h
 refine .skip (.g (.q z ?_))
 have ⟨y9,hy9,h⟩:=bnd h
 refine .c (.cS (L0:=[.box g_0 74 [(sv ar),vi y1.2]]) hS Tryz.func18 (fun S h1 h2 h3=>(ak hy9 (hS.ks aH h1) h2 (zz h1))) z z ?_)
 rintro ⟨⟩ W hS
 cases h
 exact .qn z (.ret (ac (vs:=[_]) () (rt z rn) z (hS.to [0])))
theorem oP {a0 : aL} {ar : Hd} {g_0 : Nat} {S : Nat → Prop} {w : World} {r : Int × Int} (h : kl a0 = some r) (aH : RV w (Old S w) (sv ar) 5 1 (D.int .u8) a0.b) (hO : bJ w [.box g_0 74 [(sv ar),vi a0.p]] S) (hlt : ∀ b,S b → b < w.heap.size) : Cl 143 #[pt g_0] w (Ret S w (fun s : Unit=>.int .i64 r.1) (fun s=>[.box g_0 74 [(sv ar),vi r.2]])):=by
 unfold kl at h
 refine au Tryz.func143 z z ?_
 have hS:=Sep.sm hO hlt
 refine .g (.qn z (.g (.q z ?_)))
 have ⟨y1,hy1,h⟩:=bnd h
 refine .c (.cS (L0:=[.box g_0 74 [(sv ar),vi a0.p]]) hS Tryz.func18 (fun S h1 h2 h3=>(ak hy1 (hS.ks aH h1) h2 (zz h1))) z z ?_)
 rintro ⟨⟩ W hS
 cases h
 exact .q z (.qn z (.ret (ac (vs:=[_]) () (rt z rn) z (hS.to [0]))))
theorem rF {a0 : aL} {a1 : Int} {ar : Hd} {g_0 : Nat} {S : Nat → Prop} {w : World} {r : aj × Int} (h : jx a0 a1 = some r) (aH : RV w (Old S w) (sv ar) 5 1 (D.int .u8) a0.b) (hO : bJ w [.box g_0 74 [(sv ar),vi a0.p]] S) (hlt : ∀ b,S b → b < w.heap.size) : Cl 119 #[pt g_0,vi a1] w (Ret S w (fun s : Unit=>.agg #[vi r.1.Op,vi r.1.Dst,vi r.1.A,vi r.1.B,vi r.1.N]) (fun s=>[.box g_0 74 [(sv ar),vi r.2]])):=by
 unfold jx at h
 refine au Tryz.func119 z z ?_
 have hS:=Sep.sm hO hlt
 refine .g (.c (.alloc T.t107 hS ?_))
 intro g1 W hS
 refine .nil (.seq (.g (.q z ?_)))
 have ⟨y1,hy1,h⟩:=bnd h
 have hS:=hS.p1
 refine .c (.cS (L0:=[.box g_0 74 [(sv ar),vi a0.p]]) hS Tryz.func18 (fun S h1 h2 h3=>(ak hy1 (hS.ks aH h1) h2 (zz h1))) z z ?_)
 rintro ⟨⟩ W hS
 refine .nil (.block ?_)
 have ⟨y2,hy2,h⟩:=bnd h
 refine .seq (CW.via (R':=fun x E' W'=>x = .normal ∧ aD E' [(0,pt g_0),(1,vi a1),(4,pt g1),(13,vi y1.1),(14,.bool y2)] ∧ Sep S w W' [.box g_0 74 [(sv ar),vi y1.2],.box g1 107 [vi 0,vi 0,vi 0,vi 0,vi 0]]) ?_ ?_)
 ·have h:=hy2
  refine .g (.q z (.q z (.nil ?_)))
  refine .cs z h ?_ ?_ <;> intro h
  ·refine .skip ?_
   cases h
   exact ⟨z,sb z,hS.to [0,0]⟩
  refine .region (.q z (.q z (.nil ?_)))
  cases h
  exact ⟨z,sb z,hS.to [0,0]⟩
 intro x E W hJ
 obtain ⟨rfl,hE,hS⟩:=hJ
 refine ⟨_,hE.sub,?_⟩
 refine .cond z (fun hb=>?_) (fun hb=>?_)
 ·have h:=aI hb h
  refine .g (.q z ?_)
  have ⟨y3,hy3,h⟩:=bnd h
  refine .c (.cS (L0:=[.box g_0 74 [(sv ar),vi y1.2]]) hS Tryz.func141 (fun S h1 h2 h3=>(cW hy3 (hS.ks aH h1) h2 (zz h1))) z z ?_)
  rintro ⟨⟩ W hS
  refine .q z ?_
  have ⟨y4,hy4,h⟩:=bnd h
  refine .c (.cS (L0:=[.box g_0 74 [(sv ar),vi y3.2]]) hS Tryz.func142 (fun S h1 h2 h3=>(rE hy4 (hS.ks aH h1) h2 (zz h1))) z z ?_)
  rintro ⟨⟩ W hS
  refine .c (.liv [0,1,2,y4.1] (D.int .i64) T.u23 T.t3 hS z z z z ?_ z (fun _=>z))
  intro v1 W hS
  refine .q z ?_
  have ⟨y5,hy5,h⟩:=bnd h
  have hS:=hS.p1
  refine .c (.cS (L0:=[.box g_0 74 [(sv ar),vi y4.2]]) hS Tryz.func18 (fun S h1 h2 h3=>(ak hy5 (hS.ks aH h1) h2 (zz h1))) z z ?_)
  rintro ⟨⟩ W hS
  have ⟨x1,hx1,h⟩:=bnd h
  refine .s (ixv hS.p1.lv hx1 T.u23 T.t3 z z z) z (.s (lde (RV.flat hS.p1.lv hx1 z) T.t3 z z z z z) z (.s (bs T.s107 z z) z (.c (.st T.t107 hS.p2 z z z ?_))))
  intro W hS
  cases h
  exact .nil (.ret (ac (vs:=[_]) () (rc hS T.t107 z rn z z) z (hS.to [1])))
 have h:=aJ hb h
 have ⟨y6,hy6,h⟩:=bnd h
 refine .seq (CW.via (R':=fun x E' W'=>x = .normal ∧ aD E' [(0,pt g_0),(1,vi a1),(4,pt g1),(13,vi y1.1),(27,.bool y6)] ∧ Sep S w W' [.box g_0 74 [(sv ar),vi y1.2],.box g1 107 [vi 0,vi 0,vi 0,vi 0,vi 0]]) ?_ ?_)
 ·have h:=hy6
  refine .g (.q z (.q z (.nil ?_)))
  refine .cs z h ?_ ?_ <;> intro h
  ·refine .skip ?_
   cases h
   exact ⟨z,sb z,hS.to [0,0]⟩
  refine .region (.q z (.q z (.nil ?_)))
  cases h
  exact ⟨z,sb z,hS.to [0,0]⟩
 intro x E W hJ
 obtain ⟨rfl,hE,hS⟩:=hJ
 refine ⟨_,hE.sub,?_⟩
 refine .cond z (fun hb=>?_) (fun hb=>?_)
 ·have h:=aI hb h
  refine .g (.q z ?_)
  have ⟨y7,hy7,h⟩:=bnd h
  refine .c (.cS (L0:=[.box g_0 74 [(sv ar),vi y1.2]]) hS Tryz.func141 (fun S h1 h2 h3=>(cW hy7 (hS.ks aH h1) h2 (zz h1))) z z ?_)
  rintro ⟨⟩ W hS
  refine .qn z (.g (.q z (.q z ?_)))
  have ⟨y8,hy8,h⟩:=bnd h
  refine .c (.cS (L0:=[.box g_0 74 [(sv ar),vi y7.2]]) hS Tryz.func141 (fun S h1 h2 h3=>(cW hy8 (hS.ks aH h1) h2 (zz h1))) z z ?_)
  rintro ⟨⟩ W hS
  refine .s (bs T.s107 z z) z (.c (.st T.t107 hS.p1 z z z ?_))
  intro W hS
  cases h
  exact .nil (.ret (ac (vs:=[_]) () (rc hS T.t107 z rn z z) z (hS.to [1])))
 have h:=aJ hb h
 have ⟨y9,hy9,h⟩:=bnd h
 refine .seq (CW.via (R':=fun x E' W'=>x = .normal ∧ aD E' [(0,pt g_0),(1,vi a1),(4,pt g1),(13,vi y1.1),(36,.bool y9)] ∧ Sep S w W' [.box g_0 74 [(sv ar),vi y1.2],.box g1 107 [vi 0,vi 0,vi 0,vi 0,vi 0]]) ?_ ?_)
 ·have h:=hy9
  refine .g (.q z (.q z (.nil ?_)))
  refine .cs z h ?_ ?_ <;> intro h
  ·refine .skip ?_
   cases h
   exact ⟨z,sb z,hS.to [0,0]⟩
  refine .g (.q z (.q z (.nil ?_)))
  refine .cs z h ?_ ?_ <;> intro h
  ·refine .skip ?_
   cases h
   exact ⟨z,sb z,hS.to [0,0]⟩
  refine .region (.q z (.q z (.nil ?_)))
  cases h
  exact ⟨z,sb z,hS.to [0,0]⟩
 intro x E W hJ
 obtain ⟨rfl,hE,hS⟩:=hJ
 refine ⟨_,hE.sub,?_⟩
 refine .cond z (fun hb=>?_) (fun hb=>?_)
 ·have h:=aI hb h
  refine .g (.q z ?_)
  have ⟨y10,hy10,h⟩:=bnd h
  refine .c (.cS (L0:=[.box g_0 74 [(sv ar),vi y1.2]]) hS Tryz.func141 (fun S h1 h2 h3=>(cW hy10 (hS.ks aH h1) h2 (zz h1))) z z ?_)
  rintro ⟨⟩ W hS
  refine .qn z (.g (.q z ?_))
  have ⟨y11,hy11,h⟩:=bnd h
  refine .c (.cS (L0:=[.box g_0 74 [(sv ar),vi y10.2]]) hS Tryz.func141 (fun S h1 h2 h3=>(cW hy11 (hS.ks aH h1) h2 (zz h1))) z z ?_)
  rintro ⟨⟩ W hS
  refine .qn z (.g (.q z ?_))
  have ⟨y12,hy12,h⟩:=bnd h
  refine .c (.cS (L0:=[.box g_0 74 [(sv ar),vi y11.2]]) hS Tryz.func141 (fun S h1 h2 h3=>(cW hy12 (hS.ks aH h1) h2 (zz h1))) z z ?_)
  rintro ⟨⟩ W hS
  refine .qn z (.g (.q z (.q z (.q z (.q z ?_)))))
  have ⟨y13,hy13,h⟩:=bnd h
  refine .c (.cS (L0:=[.box g_0 74 [(sv ar),vi y12.2]]) hS Tryz.func143 (fun S h1 h2 h3=>(oP hy13 (hS.ks aH h1) h2 (zz h1))) z z ?_)
  rintro ⟨⟩ W hS
  refine .s (bs T.s107 z z) z (.c (.st T.t107 hS.p1 z z z ?_))
  intro W hS
  cases h
  exact .nil (.ret (ac (vs:=[_]) () (rc hS T.t107 z rn z z) z (hS.to [1])))
 have h:=aJ hb h
 refine .g (.q z (.qn z (.cond z (fun hb=>?_) (fun hb=>?_))))
 ·have h:=aI hb h
  refine .g (.q z (.q z ?_))
  have ⟨y14,hy14,h⟩:=bnd h
  refine .c (.cS (L0:=[.box g_0 74 [(sv ar),vi y1.2]]) hS Tryz.func18 (fun S h1 h2 h3=>(ak hy14 (hS.ks aH h1) h2 (zz h1))) z z ?_)
  rintro ⟨⟩ W hS
  refine .s (bs T.s107 z z) z (.c (.st T.t107 hS.p1 z z z ?_))
  intro W hS
  cases h
  exact .nil (.ret (ac (vs:=[_]) () (rc hS T.t107 z rn z z) z (hS.to [1])))
 have h:=aJ hb h
 refine .g (.q z (.qn z (.cond z (fun hb=>?_) (fun hb=>?_))))
 ·have h:=aI hb h
  refine .g (.q z ?_)
  have ⟨y15,hy15,h⟩:=bnd h
  refine .c (.cS (L0:=[.box g_0 74 [(sv ar),vi y1.2]]) hS Tryz.func141 (fun S h1 h2 h3=>(cW hy15 (hS.ks aH h1) h2 (zz h1))) z z ?_)
  rintro ⟨⟩ W hS
  refine .qn z (.g (.q z (.q z (.q z ?_))))
  have ⟨y16,hy16,h⟩:=bnd h
  refine .c (.cS (L0:=[.box g_0 74 [(sv ar),vi y15.2]]) hS Tryz.func18 (fun S h1 h2 h3=>(ak hy16 (hS.ks aH h1) h2 (zz h1))) z z ?_)
  rintro ⟨⟩ W hS
  refine .s (bs T.s107 z z) z (.c (.st T.t107 hS.p1 z z z ?_))
  intro W hS
  cases h
  exact .nil (.ret (ac (vs:=[_]) () (rc hS T.t107 z rn z z) z (hS.to [1])))
 have h:=aJ hb h
 refine .g (.q z (.qn z (.cond z (fun hb=>?_) (fun hb=>?_))))
 ·have h:=aI hb h
  refine .g (.q z ?_)
  have ⟨y17,hy17,h⟩:=bnd h
  refine .c (.cS (L0:=[.box g_0 74 [(sv ar),vi y1.2]]) hS Tryz.func141 (fun S h1 h2 h3=>(cW hy17 (hS.ks aH h1) h2 (zz h1))) z z ?_)
  rintro ⟨⟩ W hS
  refine .qn z (.g (.q z (.q z ?_)))
  have ⟨y18,hy18,h⟩:=bnd h
  refine .c (.cS (L0:=[.box g_0 74 [(sv ar),vi y17.2]]) hS Tryz.func18 (fun S h1 h2 h3=>(ak hy18 (hS.ks aH h1) h2 (zz h1))) z z ?_)
  rintro ⟨⟩ W hS
  refine .s (bs T.s107 z z) z (.c (.st T.t107 hS.p1 z z z ?_))
  intro W hS
  cases h
  exact .nil (.ret (ac (vs:=[_]) () (rc hS T.t107 z rn z z) z (hS.to [1])))
 have h:=aJ hb h
 refine .g (.q z (.qn z (.cond z (fun hb=>?_) (fun hb=>?_))))
 ·have h:=aI hb h
  refine .g (.q z ?_)
  have ⟨y19,hy19,h⟩:=bnd h
  refine .c (.cS (L0:=[.box g_0 74 [(sv ar),vi y1.2]]) hS Tryz.func141 (fun S h1 h2 h3=>(cW hy19 (hS.ks aH h1) h2 (zz h1))) z z ?_)
  rintro ⟨⟩ W hS
  refine .qn z (.g (.q z (.q z ?_)))
  have ⟨y20,hy20,h⟩:=bnd h
  refine .c (.cS (L0:=[.box g_0 74 [(sv ar),vi y19.2]]) hS Tryz.func18 (fun S h1 h2 h3=>(ak hy20 (hS.ks aH h1) h2 (zz h1))) z z ?_)
  rintro ⟨⟩ W hS
  refine .s (bs T.s107 z z) z (.c (.st T.t107 hS.p1 z z z ?_))
  intro W hS
  cases h
  exact .nil (.ret (ac (vs:=[_]) () (rc hS T.t107 z rn z z) z (hS.to [1])))
 have h:=aJ hb h
 refine .skip (.seq (.g (.q z ?_)))
 have ⟨y21,hy21,h⟩:=bnd h
 refine .c (.cS (L0:=[.box g_0 74 [(sv ar),vi y1.2]]) hS Tryz.func18 (fun S h1 h2 h3=>(ak hy21 (hS.ks aH h1) h2 (zz h1))) z z ?_)
 rintro ⟨⟩ W hS
 refine .qn z (.cond z (fun hb=>?_) (fun hb=>?_))
 ·have h:=aI hb h
  refine .g (.s (bs T.s107 z z) z (.c (.st T.t107 hS.p1 z z z ?_)))
  intro W hS
  cases h
  exact .nil (.ret (ac (vs:=[_]) () (rc hS T.t107 z rn z z) z (hS.to [1])))
 have h:=aJ hb h
 refine .skip (.g (.q z ?_))
 have ⟨y22,hy22,h⟩:=bnd h
 refine .c (.cS (L0:=[.box g_0 74 [(sv ar),vi y21.2]]) hS Tryz.func141 (fun S h1 h2 h3=>(cW hy22 (hS.ks aH h1) h2 (zz h1))) z z ?_)
 rintro ⟨⟩ W hS
 refine .s (bs T.s107 z z) z (.c (.st T.t107 hS.p1 z z z ?_))
 intro W hS
 cases h
 exact .nil (.ret (ac (vs:=[_]) () (rc hS T.t107 z rn z z) z (hS.to [1])))
theorem mu {a0 : aL} {ar : Hd} {g_0 : Nat} {S : Nat → Prop} {w : World} {r : (List aj) × Int} (h : ff a0 = some r) (aH : RV w (Old S w) (sv ar) 5 1 (D.int .u8) a0.b) (hO : bJ w [.box g_0 74 [(sv ar),vi a0.p]] S) (hlt : ∀ b,S b → b < w.heap.size) : Cl 89 #[pt g_0] w (Ret S w (fun s : Hd=>(sv s)) (fun s=>[.box g_0 74 [(sv ar),vi r.2],ae (sv s) 107 5 aO r.1])):=by
 unfold ff at h
 refine au Tryz.func89 z z ?_
 have hS:=Sep.sm hO hlt
 refine .g (.qn z (.g (.q z ?_)))
 have ⟨y1,hy1,h⟩:=bnd h
 refine .c (.cS (L0:=[.box g_0 74 [(sv ar),vi a0.p]]) hS Tryz.func18 (fun S h1 h2 h3=>(ak hy1 (hS.ks aH h1) h2 (zz h1))) z z ?_)
 rintro ⟨⟩ W hS
 refine .q z (.qn z (.g (.c (.liv [] aO T.u78 T.t107 hS z z z z ?_ z (fun _=>z)))))
 intro v1 W hS
 refine .qn z (.seq (.g (.qn z (.block ?_))))
 have ⟨y2,hy2,h⟩:=bnd h
 refine .via (.iter (fun s1 E' W'=>∃ (v4 : Hd),aD E' [(0,pt g_0),(3,vi (w64 (1 + y1.1))),(4,(sv v4)),(5,vi s1.2.1)] ∧ Sep S w W' [.box g_0 74 [(sv ar),vi s1.2.2],ae (sv v4) 107 5 aO s1.1]) (fun y3 x E' W'=>x = .exit 0 ∧ ∃ (v5 : Hd),aD E' [(0,pt g_0),(3,vi (w64 (1 + y1.1))),(4,(sv v5))] ∧ Sep S w W' [.box g_0 74 [(sv ar),vi y3.2],ae (sv v5) 107 5 aO y3.1]) hy2 ⟨v1,sb z,hS.to [1,0]⟩ ?_) ?_
 ·intro s1 y4 E W h hI
  obtain ⟨v3,hE,hS⟩:=hI
  refine CW.sub hE ?_
  unfold jy at h
  refine .seq (.g (.q z (.q z (.q z (.qn z (.cond z (fun hb=>?_) (fun hb=>?_)))))))
  ·have h:=aI hb h
   refine .skip (.seq (.block (.region (.q z (.q z (.q z ?_))))))
   have ⟨y5,hy5,h⟩:=bnd h
   refine .c (.cS (L0:=[.box g_0 74 [(sv ar),vi s1.2.2]]) hS Tryz.func119 (fun S h1 h2 h3=>(rF hy5 (hS.ks aH h1) h2 (zz h1))) z z ?_)
   rintro ⟨⟩ W hS
   refine .c (.liv [y5.1] aO T.u78 T.t107 hS z z z z ?_ z (fun _=>z))
   intro v6 W hS
   have ⟨r1,hr1,h⟩:=bnd h
   have hT0:=hS.p2
   refine .c (.av hr1 hT0 hT0.p1.lv (fun _=>z) T.u78 T.t107 z z z ?_)
   intro v7 W hS
   refine .qn z (.region (.q z (.q z (.q z (.nil ?_)))))
   cases h
   exact ⟨z,v7,sb z,hS.to [2,0]⟩
  have h:=aJ hb h
  refine .exit ?_
  cases h
  exact ⟨by simp,z,v3,sb z,hS.to [0,0]⟩
 intro x E W hJ
 obtain ⟨rfl,v8,hE,hS⟩:=hJ
 refine ⟨_,hE.sub,?_⟩
 refine .seq (.g (.q z ?_))
 have ⟨y6,hy6,h⟩:=bnd h
 refine .c (.cS (L0:=[.box g_0 74 [(sv ar),vi y2.2]]) hS Tryz.func18 (fun S h1 h2 h3=>(ak hy6 (hS.ks aH h1) h2 (zz h1))) z z ?_)
 rintro ⟨⟩ W hS
 refine .qn z (.cond z (fun hb=>?_) (fun hb=>?_))
 ·have h:=aI hb h
  refine .g (.q z (.q z (.q z ?_)))
  have ⟨y7,hy7,h⟩:=bnd h
  refine .c (.cS (L0:=[.box g_0 74 [(sv ar),vi y6.2]]) hS Tryz.func18 (fun S h1 h2 h3=>(ak hy7 (hS.ks aH h1) h2 (zz h1))) z z ?_)
  rintro ⟨⟩ W hS
  refine .s (bs T.s107 z z) z (.c (.liv [(aj.mk 4 0 0 0 y7.1)] aO T.u78 T.t107 hS z z z z ?_ z (fun _=>z)))
  intro v9 W hS
  have ⟨r2,hr2,h⟩:=bnd h
  have hT0:=hS.p2
  refine .c (.av hr2 hT0 hT0.p1.lv (fun _=>z) T.u78 T.t107 z z z ?_)
  intro v10 W hS
  cases h
  exact .qn z (.ret (ac (vs:=[_]) v10 (rt z rn) z (hS.to [2,0])))
 have h:=aJ hb h
 refine .skip (.g (.q z (.s (bs T.s107 z z) z (.c (.liv [(aj.mk 10 0 0 0 0)] aO T.u78 T.t107 hS z z z z ?_ z (fun _=>z))))))
 intro v11 W hS
 have ⟨r3,hr3,h⟩:=bnd h
 have hT0:=hS.p2
 refine .c (.av hr3 hT0 hT0.p1.lv (fun _=>z) T.u78 T.t107 z z z ?_)
 intro v12 W hS
 cases h
 exact .qn z (.ret (ac (vs:=[_]) v12 (rt z rn) z (hS.to [2,0])))
def ji (F : List aw → Option (Int)) : Prop:=∀ {a0 : List aw} {v_0 : Hd} {w : World} {r : Int} (h : F a0 = some r) (q_0 : RO w v_0 160 8 aA a0) , Cl 123 #[(sv v_0)] w (RU w (.int .i64 r))
theorem rG {k : Nat} {dI : List aw → Option (Int)} (mT : ji dI) : ji (dJ k dI):=by
 intro a0 v_0 w r h q_0
 unfold dJ at h
 refine au Tryz.func123 z z ?_
 have hS:=Sep.start w
 refine .g (.qn z (.g (.qn z (.seq (.g (.qn z (.block ?_)))))))
 have ⟨y1,hy1,h⟩:=bnd h
 refine .via (.iter (fun s1 E' W'=>aD E' [(0,(sv v_0)),(3,vi s1.1),(4,vi s1.2)] ∧ Sep No w W' []) (fun y2 x E' W'=>x = .exit 0 ∧ aD E' [(3,vi y2)] ∧ Sep No w W' []) hy1 ⟨sb z,hS.to []⟩ ?_) ?_
 ·intro s1 y3 E W h hI
  obtain ⟨hE,hS⟩:=hI
  refine CW.sub hE ?_
  unfold gS at h
  refine .seq (.g (.q z (.q z (.s (bw (hS.keep q_0) T.u123 z z) z (.q z (.nil ?_))))))
  refine .cs z h ?_ ?_ <;> intro h
  ·refine .skip (.seq (.block (.rk 17 hS [] T.mix ?_)))
   intro W hS
   have hT:=hS.to []
   refine .tp' 0 z z hT (.tp' 1 z z hT (.tp' 2 z z hT (.tp' 3 z z hT ?_)))
   have ⟨x1,hx1,h⟩:=bnd h
   obtain ⟨k1,hd,hck1⟩:=RV.el2 q_0 hx1
   have hd1:=nu (gp _) hd
   obtain ⟨k1,rfl,hd2⟩:=dn q_0 z hd1
   obtain ⟨k1,rfl,hd3⟩:=dn q_0 z hd2
   obtain ⟨k1,rfl,hd4⟩:=dn q_0 z hd3
   have hd5:=nu (eC _) hd4
   obtain ⟨k1,rfl,hd6⟩:=dn q_0 z hd5
   obtain ⟨k1,rfl,hd7⟩:=dn q_0 z hd6
   obtain ⟨v1,k1,rfl,q1,hd8⟩:=ef q_0 hd7
   obtain ⟨v2,k1,rfl,q2,hd9⟩:=ef q_0 hd8
   obtain ⟨v3,k1,rfl,q3,hd10⟩:=ef q_0 hd9
   obtain rfl:=m8 q_0 hd10
   refine .ts' 4 z (fun W hT=>ixv (hS.keep q_0) hx1 T.u123 T.t160 z z z) hT z (.ts' 5 z (fun W hT=>fe T.f160_4 z z z) hT z (.ts' 6 z (fun W hT=>lde (hck1 _ hT.agree) T.t123 z z z z z) hT z (.tp' 9 z z hT (.tp' 10 z z hT ?_))))
   have ⟨x2,hx2,h⟩:=bnd h
   obtain ⟨k2,hd,hck2⟩:=RV.el2 q_0 hx2
   have hd1:=nu (gp _) hd
   obtain ⟨k2,rfl,hd2⟩:=dn q_0 z hd1
   obtain ⟨k2,rfl,hd3⟩:=dn q_0 z hd2
   obtain ⟨k2,rfl,hd4⟩:=dn q_0 z hd3
   have hd5:=nu (eC _) hd4
   obtain ⟨k2,rfl,hd6⟩:=dn q_0 z hd5
   obtain ⟨k2,rfl,hd7⟩:=dn q_0 z hd6
   obtain ⟨v4,k2,rfl,q4,hd8⟩:=ef q_0 hd7
   obtain ⟨v5,k2,rfl,q5,hd9⟩:=ef q_0 hd8
   obtain ⟨v6,k2,rfl,q6,hd10⟩:=ef q_0 hd9
   obtain rfl:=m8 q_0 hd10
   refine .ts' 11 z (fun W hT=>ixv (hS.keep q_0) hx2 T.u123 T.t160 z z z) hT z (.ts' 12 z (fun W hT=>fe T.f160_5 z z z) hT z (.ts' 13 z (fun W hT=>lde (hck2 _ hT.agree) T.t123 z z z z z) hT z ?_))
   have ⟨y4,hy4,h⟩:=bnd h
   refine .by1 7 z (.cO hS Tryz.func123 (mT hy4 (hS.keep (q2 _ q_0))) z z ?_)
   intro W hS
   have hT:=hS.to []
   refine ⟨fun _=>hT,.tp' 8 z z hT ?_⟩
   have ⟨y5,hy5,h⟩:=bnd h
   refine .by1 14 z (.cO hS Tryz.func123 (mT hy5 (hS.keep (q6 _ q_0))) z z ?_)
   intro W hS
   have hT:=hS.to []
   refine ⟨fun _=>hT,.tp' 15 z z hT (.tp' 16 z z hT (.done (.region (.q z (.q z (.q z (.nil ?_)))))))⟩
   cases h
   exact ⟨z,sb z,hS.to []⟩
  refine .exit ?_
  cases h
  exact ⟨by simp,z,sb z,hS.to []⟩
 intro x E W hJ
 obtain ⟨rfl,hE,hS⟩:=hJ
 refine ⟨_,hE.sub,?_⟩
 obtain rfl:=o9 h
 exact .g (.q z (.qn z (.ret (ac (vs:=[_]) () (rt z rn) z (hS.to [])))))
theorem nS (k : Nat) : ji (dt k):=by
  induction k with
  | zero=>exact by intro a0 v_0 w r h q_0; exact no h
  | succ k ih=>exact rG (k:=k) ih
theorem mU {k : Nat} : ji (dt k):=(nS k)
theorem aW {a0 : Int} {a1 : Int} {a2 : Int} {w : World} {r : Bool} (h : ax a0 a1 a2 = some r) : Cl 23 #[vi a0,vi a1,vi a2] w (RU w (.bool r)):=by
 unfold ax at h
 refine au Tryz.func23 z z ?_
 have hS:=Sep.start w
 refine .g (.qn z (.g (.q z (.q z (.q z (.q z (.cu 4 14 ((decide (a0 ≥ a1)) && (decide (a0 ≤ a2))) hS ?_ ?_)))))))
 ·refine .both (decide (a0 ≥ a1)) (fun hb=>?_) (fun hb=>?_)
  ·have hg1:=hb
   exact .g hg1 (.q z (.g hg1 (.q z (.g hg1 (.q z (.s (pkt hg1 z z z) z (.nil (ck 4 hS z (bM hg1)))))))))
  exact .xx hb z (.xx hb z (.xx hb z (.s (pkf hb z z z) z (.nil (ck 4 hS z (bN hb))))))
 intro W hS
 cases h
 exact .qn z (.ret (ac (vs:=[_]) () (rt z rn) z (hS.to [])))
theorem fw {a0 : aw} {a1 : Bool} {aP : Hd} {ca : Hd} {cd : Hd} {w : World} {r : Bool} (h : eD a0 a1 = some r) (aC : RO w aP 158 3 a7 a0.Expr.Args) (bH : RO w ca 160 8 aA a0.Body) (bB : RO w cd 160 8 aA a0.Else) : Cl 180 #[.agg #[vi a0.Kind,vi a0.Var,vi a0.Box,vi a0.Expr.Op,vi a0.Expr.N,(sv aP),(sv ca),(sv cd)],.bool a1] w (RU w (.bool r)):=by
 unfold eD at h
 refine au Tryz.func180 z z ?_
 have hS:=Sep.start w
 refine .g (.c (.box hS z z ?_))
 intro g1 W hS
 refine .qn z (.seq (.g (.q z (.nil ?_))))
 refine .cs z h ?_ ?_ <;> intro h
 ·refine .g (.s (fa T.f160_1 z z z) z (.s (ld T.t3 hS z z z z z) z ?_))
  have ⟨y1,hy1,h⟩:=bnd h
  refine .c (.cO hS Tryz.func23 (aW hy1) z z ?_)
  intro W hS
  obtain rfl:=o9 h
  exact .qn z (.ret (ac (vs:=[_]) () (rt z rn) z (hS.to [])))
 cases h
 exact .skip (.g (.s (fa T.f160_1 z z z) z (.s (ld T.t3 hS z z z z z) z (.q z (.qn z (.ret (ac (vs:=[_]) () (rt z rn) z (hS.to []))))))))
theorem fx {a0 : aw} {a1 : Bool} {aP : Hd} {ca : Hd} {cd : Hd} {w : World} {r : Bool} (h : eE a0 a1 = some r) (aC : RO w aP 158 3 a7 a0.Expr.Args) (bH : RO w ca 160 8 aA a0.Body) (bB : RO w cd 160 8 aA a0.Else) : Cl 181 #[.agg #[vi a0.Kind,vi a0.Var,vi a0.Box,vi a0.Expr.Op,vi a0.Expr.N,(sv aP),(sv ca),(sv cd)],.bool a1] w (RU w (.bool r)):=by
 unfold eE at h
 refine au Tryz.func181 z z ?_
 have hS:=Sep.start w
 refine .g (.c (.box hS z z ?_))
 intro g1 W hS
 refine .qn z (.seq (.g (.q z (.nil ?_))))
 refine .cs z h ?_ ?_ <;> intro h
 ·refine .g (.s (fa T.f160_2 z z z) z (.s (ld T.t3 hS z z z z z) z ?_))
  have ⟨y1,hy1,h⟩:=bnd h
  refine .c (.cO hS Tryz.func23 (aW hy1) z z ?_)
  intro W hS
  obtain rfl:=o9 h
  exact .qn z (.ret (ac (vs:=[_]) () (rt z rn) z (hS.to [])))
 cases h
 exact .skip (.g (.s (fa T.f160_2 z z z) z (.s (ld T.t3 hS z z z z z) z (.q z (.qn z (.ret (ac (vs:=[_]) () (rt z rn) z (hS.to []))))))))
theorem lw {a0 : Int} {w : World} {r : Bool} (h : eF a0 = some r) : Cl 154 #[vi a0] w (RU w (.bool r)):=by
 unfold eF at h
 refine au Tryz.func154 z z ?_
 have hS:=Sep.start w
 refine .g (.qn z (.g (.q z ?_)))
 have ⟨y1,hy1,h⟩:=bnd h
 refine .c (.cO hS Tryz.func23 (aW hy1) z z ?_)
 intro W hS
 obtain rfl:=o9 h
 exact .qn z (.ret (ac (vs:=[_]) () (rt z rn) z (hS.to [])))
def mv (F : Expr → Int → Option (Bool)) : Prop:=∀ {a0 : Expr} {a1 : Int} {ei : Hd} {w : World} {r : Bool} (h : F a0 a1 = some r) (bc : RO w ei 158 3 a7 a0.Args) , Cl 196 #[.agg #[vi a0.Op,vi a0.N,(sv ei)],vi a1] w (RU w (.bool r))
theorem vN {k : Nat} {k9 : Expr → Int → Option (Bool)} (pK : mv k9) : mv (k8 k k9):=by
 intro a0 a1 ei w r h bc
 unfold k8 at h
 refine au Tryz.func196 z z ?_
 have hS:=Sep.start w
 refine .g (.c (.box hS z z ?_))
 intro g1 W hS
 refine .qn z (.seq (.g (.q z (.q z (.nil ?_)))))
 refine .cs z h ?_ ?_ <;> intro h
 ·obtain rfl:=o9 h
  exact .g (.qn z (.ret (ac (vs:=[_]) () (rt z rn) z (hS.to []))))
 refine .skip (.seq (.g (.s (fa T.f158_0 z z z) z (.s (ld T.t3 hS z z z z z) z (.q z (.nil ?_))))))
 refine .cs z h ?_ ?_ <;> intro h
 ·refine .g (.s (fa T.f158_1 z z z) z (.s (ld T.t3 hS z z z z z) z ?_))
  have ⟨y1,hy1,h⟩:=bnd h
  refine .c (.cO hS Tryz.func23 (aW hy1) z z ?_)
  intro W hS
  refine .q z (.cu 5 18 (y1 && ((a0.Args.length : Int) == 0)) hS ?_ ?_)
  ·refine .both (y1) (fun hb=>?_) (fun hb=>?_)
   ·have hg1:=hb
    exact .g hg1 (.s (fa T.f158_2 z z z) z (.g hg1 (.s (ld T.t156 hS z z z z z) z (.g hg1 (.s (bw (hS.keep bc) T.u156 z z) z (.g hg1 (.q z (.s (pkt hg1 z z z) z (.nil (ck 5 hS z (bM hg1)))))))))))
   exact .xx hb z (.xx hb z (.xx hb z (.xx hb z (.s (pkf hb z z z) z (.nil (ck 5 hS z (bN hb)))))))
  intro W hS
  cases h
  exact .qn z (.ret (ac (vs:=[_]) () (rt z rn) z (hS.to [])))
 refine .skip (.seq (.g (.s (fa T.f158_0 z z z) z (.s (ld T.t3 hS z z z z z) z (.q z (.nil ?_))))))
 refine .cs z h ?_ ?_ <;> intro h
 ·refine .g (.s (fa T.f158_1 z z z) z (.s (ld T.t3 hS z z z z z) z ?_))
  have ⟨y2,hy2,h⟩:=bnd h
  refine .c (.cO hS Tryz.func23 (aW hy2) z z ?_)
  intro W hS
  refine .q z (.cu 5 30 (y2 && ((a0.Args.length : Int) == 0)) hS ?_ ?_)
  ·refine .both (y2) (fun hb=>?_) (fun hb=>?_)
   ·have hg2:=hb
    exact .g hg2 (.s (fa T.f158_2 z z z) z (.g hg2 (.s (ld T.t156 hS z z z z z) z (.g hg2 (.s (bw (hS.keep bc) T.u156 z z) z (.g hg2 (.q z (.s (pkt hg2 z z z) z (.nil (ck 5 hS z (bM hg2)))))))))))
   exact .xx hb z (.xx hb z (.xx hb z (.xx hb z (.s (pkf hb z z z) z (.nil (ck 5 hS z (bN hb)))))))
  intro W hS
  cases h
  exact .qn z (.ret (ac (vs:=[_]) () (rt z rn) z (hS.to [])))
 refine .skip (.g (.s (fa T.f158_0 z z z) z (.s (ld T.t3 hS z z z z z) z ?_)))
 have ⟨y3,hy3,h⟩:=bnd h
 refine .c (.cO hS Tryz.func154 (lw hy3) z z ?_)
 intro W hS
 refine .q z (.cu 4 38 (y3 && (a0.N == 0)) hS ?_ ?_)
 ·refine .both (y3) (fun hb=>?_) (fun hb=>?_)
  ·have hg3:=hb
   exact .g hg3 (.s (fa T.f158_1 z z z) z (.g hg3 (.s (ld T.t3 hS z z z z z) z (.g hg3 (.q z (.s (pkt hg3 z z z) z (.nil (ck 4 hS z (bM hg3)))))))))
  exact .xx hb z (.xx hb z (.xx hb z (.s (pkf hb z z z) z (.nil (ck 4 hS z (bN hb))))))
 intro W hS
 refine .q z (.cu 5 44 ((y3 && (a0.N == 0)) && ((a0.Args.length : Int) == 2)) hS ?_ ?_)
 ·refine .both (y3 && (a0.N == 0)) (fun hb=>?_) (fun hb=>?_)
  ·have hg4:=hb
   exact .g hg4 (.s (fa T.f158_2 z z z) z (.g hg4 (.s (ld T.t156 hS z z z z z) z (.g hg4 (.s (bw (hS.keep bc) T.u156 z z) z (.g hg4 (.q z (.s (pkt hg4 z z z) z (.nil (ck 5 hS z (bM hg4)))))))))))
  exact .xx hb z (.xx hb z (.xx hb z (.xx hb z (.s (pkf hb z z z) z (.nil (ck 5 hS z (bN hb)))))))
 intro W hS
 refine .q z ?_
 have ⟨b1,hb1,h⟩:=bnd h
 refine .cu 8 53 (b1) hS ?_ ?_
 ·refine .both ((y3 && (a0.N == 0)) && ((a0.Args.length : Int) == 2)) (fun hb=>?_) (fun hb=>?_)
  ·have hg5:=hb
   have h:=aI hb hb1
   refine .g hg5 (.s (fa T.f158_2 z z z) z (.g hg5 (.s (ld T.t156 hS z z z z z) z ?_)))
   have ⟨x1,hx1,h⟩:=bnd h
   obtain ⟨k1,hd,hck1⟩:=RV.el2 bc hx1
   have hd1:=nu (eC _) hd
   obtain ⟨k1,rfl,hd2⟩:=dn bc z hd1
   obtain ⟨k1,rfl,hd3⟩:=dn bc z hd2
   obtain ⟨v1,k1,rfl,q1,hd4⟩:=ef bc hd3
   obtain rfl:=m8 bc hd4
   refine .g hg5 (.s (ixv (hS.keep bc) hx1 T.u156 T.t158 z z z) z (.g hg5 (.s (lde (hck1 _ hS.agree) T.t158 z z z z z) z (.g hg5 (.q z (.g hg5 (.q z ?_)))))))
   have ⟨y4,hy4,h⟩:=bnd h
   refine .g hg5 (.c (.cO hS Tryz.func196 (pK hy4 (hS.keep (q1 _ bc))) z z ?_))
   intro W hS
   refine .s (pkt hg5 z z z) z ?_
   cases h
   exact .nil (ck 8 hS)
  refine .xx hb z (.xx hb z (.xx hb z (.xx hb z (.xx hb z (.xx hb z (.xx hb z ?_))))))
  cases aJ hb hb1
  exact .s (pkf hb z z z) z (.nil (ck 8 hS))
 intro W hS
 refine .q z ?_
 have ⟨b2,hb2,h⟩:=bnd h
 refine .cu 8 62 (b2) hS ?_ ?_
 ·refine .both (b1) (fun hb=>?_) (fun hb=>?_)
  ·have hg6:=hb
   have h:=aI hb hb2
   refine .g hg6 (.s (fa T.f158_2 z z z) z (.g hg6 (.s (ld T.t156 hS z z z z z) z ?_)))
   have ⟨x2,hx2,h⟩:=bnd h
   obtain ⟨k2,hd,hck2⟩:=RV.el2 bc hx2
   have hd1:=nu (eC _) hd
   obtain ⟨k2,rfl,hd2⟩:=dn bc z hd1
   obtain ⟨k2,rfl,hd3⟩:=dn bc z hd2
   obtain ⟨v2,k2,rfl,q2,hd4⟩:=ef bc hd3
   obtain rfl:=m8 bc hd4
   refine .g hg6 (.s (ixv (hS.keep bc) hx2 T.u156 T.t158 z z z) z (.g hg6 (.s (lde (hck2 _ hS.agree) T.t158 z z z z z) z (.g hg6 (.q z (.g hg6 (.q z ?_)))))))
   have ⟨y5,hy5,h⟩:=bnd h
   refine .g hg6 (.c (.cO hS Tryz.func196 (pK hy5 (hS.keep (q2 _ bc))) z z ?_))
   intro W hS
   refine .s (pkt hg6 z z z) z ?_
   cases h
   exact .nil (ck 8 hS)
  refine .xx hb z (.xx hb z (.xx hb z (.xx hb z (.xx hb z (.xx hb z (.xx hb z ?_))))))
  cases aJ hb hb2
  exact .s (pkf hb z z z) z (.nil (ck 8 hS))
 intro W hS
 obtain rfl:=o9 h
 exact .qn z (.ret (ac (vs:=[_]) () (rt z rn) z (hS.to [])))
theorem qu (k : Nat) : mv (mI k):=by
  induction k with
  | zero=>exact by intro a0 a1 ei w r h bc; exact no h
  | succ k ih=>exact vN (k:=k) ih
theorem uS {k : Nat} : mv (mI k):=(qu k)
theorem gk {k : Nat} {a0 : Expr} {ei : Hd} {w : World} {r : Bool} (h : da k a0 = some r) (bc : RO w ei 158 3 a7 a0.Args) : Cl 182 #[.agg #[vi a0.Op,vi a0.N,(sv ei)]] w (RU w (.bool r)):=by
 unfold da at h
 refine au Tryz.func182 z z ?_
 have hS:=Sep.start w
 refine .g (.c (.box hS z z ?_))
 intro g1 W hS
 refine .qn z (.g (.s (ld T.t158 hS z z z z z) z ?_))
 have ⟨y1,hy1,h⟩:=bnd h
 refine .c (.cO hS Tryz.func196 (uS hy1 (hS.keep bc)) z z ?_)
 intro W hS
 obtain rfl:=o9 h
 exact .qn z (.ret (ac (vs:=[_]) () (rt z rn) z (hS.to [])))
theorem mV {a0 : Expr} {ei : Hd} {w : World} {r : Bool} (h : fW a0 = some r) (bc : RO w ei 158 3 a7 a0.Args) : Cl 195 #[.agg #[vi a0.Op,vi a0.N,(sv ei)]] w (RU w (.bool r)):=by
 unfold fW at h
 refine au Tryz.func195 z z ?_
 have hS:=Sep.start w
 refine .g (.c (.box hS z z ?_))
 intro g1 W hS
 refine .qn z (.g (.s (fa T.f158_0 z z z) z (.s (ld T.t3 hS z z z z z) z (.q z (.q z (.cu 4 10 ((a0.Op == 0) && (a0.N == 0)) hS ?_ ?_))))))
 ·refine .both (a0.Op == 0) (fun hb=>?_) (fun hb=>?_)
  ·have hg1:=hb
   exact .g hg1 (.s (fa T.f158_1 z z z) z (.g hg1 (.s (ld T.t3 hS z z z z z) z (.g hg1 (.q z (.s (pkt hg1 z z z) z (.nil (ck 4 hS z (bM hg1)))))))))
  exact .xx hb z (.xx hb z (.xx hb z (.s (pkf hb z z z) z (.nil (ck 4 hS z (bN hb))))))
 intro W hS
 refine .q z (.cu 5 16 (((a0.Op == 0) && (a0.N == 0)) && ((a0.Args.length : Int) == 0)) hS ?_ ?_)
 ·refine .both ((a0.Op == 0) && (a0.N == 0)) (fun hb=>?_) (fun hb=>?_)
  ·have hg2:=hb
   exact .g hg2 (.s (fa T.f158_2 z z z) z (.g hg2 (.s (ld T.t156 hS z z z z z) z (.g hg2 (.s (bw (hS.keep bc) T.u156 z z) z (.g hg2 (.q z (.s (pkt hg2 z z z) z (.nil (ck 5 hS z (bM hg2)))))))))))
  exact .xx hb z (.xx hb z (.xx hb z (.xx hb z (.s (pkf hb z z z) z (.nil (ck 5 hS z (bN hb)))))))
 intro W hS
 cases h
 exact .qn z (.ret (ac (vs:=[_]) () (rt z rn) z (hS.to [])))
theorem pL {k : Nat} {a0 : aw} {aP : Hd} {ca : Hd} {cd : Hd} {w : World} {r : Bool} (h : fg k a0 = some r) (aC : RO w aP 158 3 a7 a0.Expr.Args) (bH : RO w ca 160 8 aA a0.Body) (bB : RO w cd 160 8 aA a0.Else) : Cl 179 #[.agg #[vi a0.Kind,vi a0.Var,vi a0.Box,vi a0.Expr.Op,vi a0.Expr.N,(sv aP),(sv ca),(sv cd)]] w (RU w (.bool r)):=by
 unfold fg at h
 refine au Tryz.func179 z z ?_
 have hS:=Sep.start w
 refine .g (.c (.box hS z z ?_))
 intro g1 W hS
 refine .qn z (.seq (.g (.s (fa T.f160_4 z z z) z (.s (ld T.t123 hS z z z z z) z (.s (bw (hS.keep bH) T.u123 z z) z (.q z (.q z (.cu 5 12 ((decide ((a0.Body.length : Int) > 0)) || (decide ((a0.Else.length : Int) > 0))) hS ?_ ?_))))))))
 ·refine .both (decide ((a0.Body.length : Int) > 0)) (fun hb=>?_) (fun hb=>?_)
  ·exact .xx hb z (.xx hb z (.xx hb z (.xx hb z (.s (pkt hb z z z) z (.nil (ck 5 hS z (gn hb)))))))
  have hg1:=hb
  exact .g hg1 (.s (fa T.f160_5 z z z) z (.g hg1 (.s (ld T.t123 hS z z z z z) z (.g hg1 (.s (bw (hS.keep bB) T.u123 z z) z (.g hg1 (.q z (.s (pkf hg1 z z z) z (.nil (ck 5 hS z (go hg1)))))))))))
 intro W hS
 refine .nil ?_
 refine .cs z h ?_ ?_ <;> intro h
 ·obtain rfl:=o9 h
  exact .g (.qn z (.ret (ac (vs:=[_]) () (rt z rn) z (hS.to []))))
 refine .skip (.seq (.g (.s (fa T.f160_0 z z z) z (.s (ld T.t3 hS z z z z z) z (.nil (.block (.g (.q z (.q z (.nil ?_))))))))))
 refine .cs z h ?_ ?_ <;> intro h
 ·refine .g (.s (ld T.t160 hS z z z z z) z ?_)
  have ⟨y1,hy1,h⟩:=bnd h
  refine .c (.cO hS Tryz.func180 (fw hy1 (hS.keep aC) (hS.keep bH) (hS.keep bB)) z z ?_)
  intro W hS
  refine .q z ?_
  have ⟨b1,hb1,h⟩:=bnd h
  refine .cu 3 22 (b1) hS ?_ ?_
  ·refine .both (y1) (fun hb=>?_) (fun hb=>?_)
   ·have hg2:=hb
    have h:=aI hb hb1
    refine .g hg2 (.s (ld T.t160 hS z z z z z) z ?_)
    have ⟨y2,hy2,h⟩:=bnd h
    refine .g hg2 (.c (.cO hS Tryz.func181 (fx hy2 (hS.keep aC) (hS.keep bH) (hS.keep bB)) z z ?_))
    intro W hS
    refine .s (pkt hg2 z z z) z ?_
    cases h
    exact .nil (ck 3 hS)
   refine .xx hb z (.xx hb z ?_)
   cases aJ hb hb1
   exact .s (pkf hb z z z) z (.nil (ck 3 hS))
  intro W hS
  refine .q z ?_
  have ⟨b2,hb2,h⟩:=bnd h
  refine .cu 4 27 (b2) hS ?_ ?_
  ·refine .both (b1) (fun hb=>?_) (fun hb=>?_)
   ·have hg3:=hb
    have h:=aI hb hb2
    refine .g hg3 (.s (fa T.f160_3 z z z) z (.g hg3 (.s (ld T.t158 hS z z z z z) z ?_)))
    have ⟨y3,hy3,h⟩:=bnd h
    refine .g hg3 (.c (.cO hS Tryz.func182 (gk hy3 (hS.keep aC)) z z ?_))
    intro W hS
    refine .s (pkt hg3 z z z) z ?_
    cases h
    exact .nil (ck 4 hS)
   refine .xx hb z (.xx hb z (.xx hb z ?_))
   cases aJ hb hb2
   exact .s (pkf hb z z z) z (.nil (ck 4 hS))
  intro W hS
  obtain rfl:=o9 h
  exact .qn z (.ret (ac (vs:=[_]) () (rt z rn) z (hS.to [])))
 refine .g (.q z (.q z (.nil ?_)))
 refine .cs z h ?_ ?_ <;> intro h
 ·refine .g (.s (ld T.t160 hS z z z z z) z ?_)
  have ⟨y4,hy4,h⟩:=bnd h
  refine .c (.cO hS Tryz.func180 (fw hy4 (hS.keep aC) (hS.keep bH) (hS.keep bB)) z z ?_)
  intro W hS
  refine .q z ?_
  have ⟨b3,hb3,h⟩:=bnd h
  refine .cu 3 35 (b3) hS ?_ ?_
  ·refine .both (y4) (fun hb=>?_) (fun hb=>?_)
   ·have hg4:=hb
    have h:=aI hb hb3
    refine .g hg4 (.s (ld T.t160 hS z z z z z) z ?_)
    have ⟨y5,hy5,h⟩:=bnd h
    refine .g hg4 (.c (.cO hS Tryz.func181 (fx hy5 (hS.keep aC) (hS.keep bH) (hS.keep bB)) z z ?_))
    intro W hS
    refine .s (pkt hg4 z z z) z ?_
    cases h
    exact .nil (ck 3 hS)
   refine .xx hb z (.xx hb z ?_)
   cases aJ hb hb3
   exact .s (pkf hb z z z) z (.nil (ck 3 hS))
  intro W hS
  refine .q z ?_
  have ⟨b4,hb4,h⟩:=bnd h
  refine .cu 4 40 (b4) hS ?_ ?_
  ·refine .both (b3) (fun hb=>?_) (fun hb=>?_)
   ·have hg5:=hb
    have h:=aI hb hb4
    refine .g hg5 (.s (fa T.f160_3 z z z) z (.g hg5 (.s (ld T.t158 hS z z z z z) z ?_)))
    have ⟨y6,hy6,h⟩:=bnd h
    refine .g hg5 (.c (.cO hS Tryz.func182 (gk hy6 (hS.keep aC)) z z ?_))
    intro W hS
    refine .s (pkt hg5 z z z) z ?_
    cases h
    exact .nil (ck 4 hS)
   refine .xx hb z (.xx hb z (.xx hb z ?_))
   cases aJ hb hb4
   exact .s (pkf hb z z z) z (.nil (ck 4 hS))
  intro W hS
  obtain rfl:=o9 h
  exact .qn z (.ret (ac (vs:=[_]) () (rt z rn) z (hS.to [])))
 refine .g (.q z (.q z (.nil ?_)))
 refine .cs z h ?_ ?_ <;> intro h
 ·refine .g (.s (ld T.t160 hS z z z z z) z ?_)
  have ⟨y7,hy7,h⟩:=bnd h
  refine .c (.cO hS Tryz.func180 (fw hy7 (hS.keep aC) (hS.keep bH) (hS.keep bB)) z z ?_)
  intro W hS
  refine .q z ?_
  have ⟨b5,hb5,h⟩:=bnd h
  refine .cu 3 48 (b5) hS ?_ ?_
  ·refine .both (y7) (fun hb=>?_) (fun hb=>?_)
   ·have hg6:=hb
    have h:=aI hb hb5
    refine .g hg6 (.s (ld T.t160 hS z z z z z) z ?_)
    have ⟨y8,hy8,h⟩:=bnd h
    refine .g hg6 (.c (.cO hS Tryz.func181 (fx hy8 (hS.keep aC) (hS.keep bH) (hS.keep bB)) z z ?_))
    intro W hS
    refine .s (pkt hg6 z z z) z ?_
    cases h
    exact .nil (ck 3 hS)
   refine .xx hb z (.xx hb z ?_)
   cases aJ hb hb5
   exact .s (pkf hb z z z) z (.nil (ck 3 hS))
  intro W hS
  refine .q z ?_
  have ⟨b6,hb6,h⟩:=bnd h
  refine .cu 4 53 (b6) hS ?_ ?_
  ·refine .both (b5) (fun hb=>?_) (fun hb=>?_)
   ·have hg7:=hb
    have h:=aI hb hb6
    refine .g hg7 (.s (fa T.f160_3 z z z) z (.g hg7 (.s (ld T.t158 hS z z z z z) z ?_)))
    have ⟨y9,hy9,h⟩:=bnd h
    refine .g hg7 (.c (.cO hS Tryz.func195 (mV hy9 (hS.keep aC)) z z ?_))
    intro W hS
    refine .s (pkt hg7 z z z) z ?_
    cases h
    exact .nil (ck 4 hS)
   refine .xx hb z (.xx hb z (.xx hb z ?_))
   cases aJ hb hb6
   exact .s (pkf hb z z z) z (.nil (ck 4 hS))
  intro W hS
  obtain rfl:=o9 h
  exact .qn z (.ret (ac (vs:=[_]) () (rt z rn) z (hS.to [])))
 refine .g (.q z (.q z (.nil ?_)))
 refine .cs z h ?_ ?_ <;> intro h
 ·refine .g (.s (ld T.t160 hS z z z z z) z ?_)
  have ⟨y10,hy10,h⟩:=bnd h
  refine .c (.cO hS Tryz.func180 (fw hy10 (hS.keep aC) (hS.keep bH) (hS.keep bB)) z z ?_)
  intro W hS
  refine .q z ?_
  have ⟨b7,hb7,h⟩:=bnd h
  refine .cu 3 61 (b7) hS ?_ ?_
  ·refine .both (y10) (fun hb=>?_) (fun hb=>?_)
   ·have hg8:=hb
    have h:=aI hb hb7
    refine .g hg8 (.s (ld T.t160 hS z z z z z) z ?_)
    have ⟨y11,hy11,h⟩:=bnd h
    refine .g hg8 (.c (.cO hS Tryz.func181 (fx hy11 (hS.keep aC) (hS.keep bH) (hS.keep bB)) z z ?_))
    intro W hS
    refine .s (pkt hg8 z z z) z ?_
    cases h
    exact .nil (ck 3 hS)
   refine .xx hb z (.xx hb z ?_)
   cases aJ hb hb7
   exact .s (pkf hb z z z) z (.nil (ck 3 hS))
  intro W hS
  refine .q z ?_
  have ⟨b8,hb8,h⟩:=bnd h
  refine .cu 4 66 (b8) hS ?_ ?_
  ·refine .both (b7) (fun hb=>?_) (fun hb=>?_)
   ·have hg9:=hb
    have h:=aI hb hb8
    refine .g hg9 (.s (fa T.f160_3 z z z) z (.g hg9 (.s (ld T.t158 hS z z z z z) z ?_)))
    have ⟨y12,hy12,h⟩:=bnd h
    refine .g hg9 (.c (.cO hS Tryz.func195 (mV hy12 (hS.keep aC)) z z ?_))
    intro W hS
    refine .s (pkt hg9 z z z) z ?_
    cases h
    exact .nil (ck 4 hS)
   refine .xx hb z (.xx hb z (.xx hb z ?_))
   cases aJ hb hb8
   exact .s (pkf hb z z z) z (.nil (ck 4 hS))
  intro W hS
  obtain rfl:=o9 h
  exact .qn z (.ret (ac (vs:=[_]) () (rt z rn) z (hS.to [])))
 refine .g (.q z (.q z (.nil ?_)))
 refine .cs z h ?_ ?_ <;> intro h
 ·refine .g (.s (ld T.t160 hS z z z z z) z ?_)
  have ⟨y13,hy13,h⟩:=bnd h
  refine .c (.cO hS Tryz.func180 (fw hy13 (hS.keep aC) (hS.keep bH) (hS.keep bB)) z z ?_)
  intro W hS
  refine .q z ?_
  have ⟨b9,hb9,h⟩:=bnd h
  refine .cu 3 74 (b9) hS ?_ ?_
  ·refine .both (y13) (fun hb=>?_) (fun hb=>?_)
   ·have hg10:=hb
    have h:=aI hb hb9
    refine .g hg10 (.s (ld T.t160 hS z z z z z) z ?_)
    have ⟨y14,hy14,h⟩:=bnd h
    refine .g hg10 (.c (.cO hS Tryz.func181 (fx hy14 (hS.keep aC) (hS.keep bH) (hS.keep bB)) z z ?_))
    intro W hS
    refine .s (pkt hg10 z z z) z ?_
    cases h
    exact .nil (ck 3 hS)
   refine .xx hb z (.xx hb z ?_)
   cases aJ hb hb9
   exact .s (pkf hb z z z) z (.nil (ck 3 hS))
  intro W hS
  refine .q z ?_
  have ⟨b10,hb10,h⟩:=bnd h
  refine .cu 4 79 (b10) hS ?_ ?_
  ·refine .both (b9) (fun hb=>?_) (fun hb=>?_)
   ·have hg11:=hb
    have h:=aI hb hb10
    refine .g hg11 (.s (fa T.f160_3 z z z) z (.g hg11 (.s (ld T.t158 hS z z z z z) z ?_)))
    have ⟨y15,hy15,h⟩:=bnd h
    refine .g hg11 (.c (.cO hS Tryz.func182 (gk hy15 (hS.keep aC)) z z ?_))
    intro W hS
    refine .s (pkt hg11 z z z) z ?_
    cases h
    exact .nil (ck 4 hS)
   refine .xx hb z (.xx hb z (.xx hb z ?_))
   cases aJ hb hb10
   exact .s (pkf hb z z z) z (.nil (ck 4 hS))
  intro W hS
  obtain rfl:=o9 h
  exact .qn z (.ret (ac (vs:=[_]) () (rt z rn) z (hS.to [])))
 obtain rfl:=o9 h
 exact .skip (.g (.qn z (.ret (ac (vs:=[_]) () (rt z rn) z (hS.to [])))))
def fy (F : List aw → Int → Option (Bool)) : Prop:=∀ {a0 : List aw} {a1 : Int} {v_0 : Hd} {w : World} {r : Bool} (h : F a0 a1 = some r) (q_0 : RO w v_0 160 8 aA a0) , Cl 144 #[(sv v_0),vi a1] w (RU w (.bool r))
def lF (F : aw → Int → Option (Bool)) : Prop:=∀ {a0 : aw} {a1 : Int} {aP : Hd} {ca : Hd} {cd : Hd} {w : World} {r : Bool} (h : F a0 a1 = some r) (aC : RO w aP 158 3 a7 a0.Expr.Args) (bH : RO w ca 160 8 aA a0.Body) (bB : RO w cd 160 8 aA a0.Else) , Cl 158 #[.agg #[vi a0.Kind,vi a0.Var,vi a0.Box,vi a0.Expr.Op,vi a0.Expr.N,(sv aP),(sv ca),(sv cd)],vi a1] w (RU w (.bool r))
def qw (w : World) (r : Bool) : Env → World → Prop:=Fin Tryz.prog Tryz.f144 No w (fun s : Unit=>.bool r) (fun s=>[]) .ret
theorem qx {k : Nat} {cB : List aw → Int → Option (Bool)} {du : aw → Int → Option (Bool)} (j7 : fy cB) (oQ : lF du) : fy (fh k cB du):=by
 intro a0 a1 v_0 w r h q_0
 unfold fh at h
 refine au Tryz.func144 z z ?_
 have hS:=Sep.start w
 refine .g (.qn z (.seq (.g (.qn z (.block ?_)))))
 have ⟨y1,hy1,h⟩:=bnd h
 refine .via (.iter (fun s1 E' W'=>aD E' [(0,(sv v_0)),(1,vi a1),(5,vi s1)] ∧ Sep No w W' []) (fun y2 x E' W'=>(match y2 with | .inl o1=>x = .ret ∧ qw w o1 E' W' | .inr o2=>x = .exit 0 ∧ aD E' [] ∧ Sep No w W' [])) hy1 ⟨sb rfl,hS.to [] rfl⟩ ?_) ?_
 ·intro s1 y3 E W h hI
  obtain ⟨hE,hS⟩:=hI
  refine CW.sub hE ?_
  unfold jz at h
  refine .seq (.g (.q z (.q z (.s (bw (hS.keep q_0) T.u123 z z) z (.q z (.nil ?_))))))
  refine .cs z h ?_ ?_ <;> intro h
  ·refine .skip (.seq (.block (.g (.q z (.q z ?_)))))
   have ⟨x1,hx1,h⟩:=bnd h
   obtain ⟨k1,hd,hck1⟩:=RV.el2 q_0 hx1
   have hd1:=nu (gp _) hd
   obtain ⟨k1,rfl,hd2⟩:=dn q_0 z hd1
   obtain ⟨k1,rfl,hd3⟩:=dn q_0 z hd2
   obtain ⟨k1,rfl,hd4⟩:=dn q_0 z hd3
   have hd5:=nu (eC _) hd4
   obtain ⟨k1,rfl,hd6⟩:=dn q_0 z hd5
   obtain ⟨k1,rfl,hd7⟩:=dn q_0 z hd6
   obtain ⟨v1,k1,rfl,q1,hd8⟩:=ef q_0 hd7
   obtain ⟨v2,k1,rfl,q2,hd9⟩:=ef q_0 hd8
   obtain ⟨v3,k1,rfl,q3,hd10⟩:=ef q_0 hd9
   obtain rfl:=m8 q_0 hd10
   refine .s (ixv (hS.keep q_0) hx1 T.u123 T.t160 z z z) z (.s (lde (hck1 _ hS.agree) T.t160 z z z z z) z (.q z ?_))
   have ⟨y4,hy4,h⟩:=bnd h
   refine .c (.cO hS Tryz.func158 (oQ hy4 (hS.keep (q1 _ q_0)) (hS.keep (q2 _ q_0)) (hS.keep (q3 _ q_0))) z z ?_)
   intro W hS
   refine .q z (.nil ?_)
   refine .cs z h ?_ ?_ <;> intro h
   ·refine .g (.qn z (.ret ?_))
    cases h
    exact ⟨by simp,z,ac (vs:=[_]) () (rt z rn) z (hS.to [])⟩
   refine .skip (.region (.q z (.q z (.q z (.nil ?_)))))
   cases h
   exact ⟨z,sb z,hS.to []⟩
  refine .exit ?_
  cases h
  exact ⟨by simp,z,sb z,hS.to []⟩
 intro x E W hJ
 rcases y1 with o3 | o4
 ·obtain ⟨rfl,hF⟩:=hJ
  refine ⟨_,fun _ _ h=>h,?_⟩
  cases h
  exact hF
 obtain ⟨rfl,hE,hS⟩:=hJ
 refine ⟨_,hE.sub,?_⟩
 obtain rfl:=o9 h
 exact .g (.qn z (.ret (ac (vs:=[_]) () (rt z rn) z (hS.to []))))
theorem uT {k : Nat} {cB : List aw → Int → Option (Bool)} {du : aw → Int → Option (Bool)} (j7 : fy cB) (oQ : lF du) : lF (jA k cB du):=by
 intro a0 a1 aP ca cd w r h aC bH bB
 unfold jA at h
 refine au Tryz.func158 z z ?_
 have hS:=Sep.start w
 refine .g (.c (.box hS z z ?_))
 intro g1 W hS
 refine .qn z (.seq (.g (.s (fa T.f160_0 z z z) z (.s (ld T.t3 hS z z z z z) z (.q z (.q z (.cu 4 12 ((a0.Kind != 2) && (a0.Kind != 3)) hS ?_ ?_)))))))
 ·refine .both (a0.Kind != 2) (fun hb=>?_) (fun hb=>?_)
  ·have hg1:=hb
   exact .g hg1 (.s (fa T.f160_0 z z z) z (.g hg1 (.s (ld T.t3 hS z z z z z) z (.g hg1 (.q z (.s (pkt hg1 z z z) z (.nil (ck 4 hS z (bM hg1)))))))))
  exact .xx hb z (.xx hb z (.xx hb z (.s (pkf hb z z z) z (.nil (ck 4 hS z (bN hb))))))
 intro W hS
 refine .nil ?_
 refine .cs z h ?_ ?_ <;> intro h
 ·refine .g (.s (ld T.t160 hS z z z z z) z ?_)
  have ⟨y1,hy1,h⟩:=bnd h
  refine .c (.cO hS Tryz.func179 (pL hy1 (hS.keep aC) (hS.keep bH) (hS.keep bB)) z z ?_)
  intro W hS
  obtain rfl:=o9 h
  exact .qn z (.ret (ac (vs:=[_]) () (rt z rn) z (hS.to [])))
 refine .skip (.seq (.g (.q z (.q z (.q z (.cu 10 27 ((decide (a1 < 1)) || ((a0.Kind == 3) && (decide ((a0.Else.length : Int) > 0)))) hS ?_ ?_))))))
 ·refine .both (decide (a1 < 1)) (fun hb=>?_) (fun hb=>?_)
  ·exact .xx hb z (.xx hb z (.xx hb z (.xx hb z (.xu (.xu (.xu (.xu (.xx hb z (.s (pkt hb z z z) z (.nil (ck 10 hS z (gn hb))))))))))))
  have hg2:=hb
  refine .g hg2 (.s (fa T.f160_0 z z z) z (.g hg2 (.s (ld T.t3 hS z z z z z) z (.g hg2 (.q z (.g hg2 (.q z (.cu 5 26 ((a0.Kind == 3) && (decide ((a0.Else.length : Int) > 0))) hS ?_ ?_))))))))
  ·refine .both (a0.Kind == 3) (fun hb=>?_) (fun hb=>?_)
   ·have hg3:=hb
    exact .g hg3 (.s (fa T.f160_5 z z z) z (.g hg3 (.s (ld T.t123 hS z z z z z) z (.g hg3 (.s (bw (hS.keep bB) T.u123 z z) z (.g hg3 (.q z (.g hg2 (.s (pkt hg3 z z z) z (.nil (ck 5 hS z (bM hg3))))))))))))
   exact .xx hb z (.xx hb z (.xx hb z (.xx hb z (.g hg2 (.s (pkf hb z z z) z (.nil (ck 5 hS z (bN hb))))))))
  intro W hS
  exact .s (pkf hg2 z z z) z (.nil (ck 6 hS z (go hg2)))
 intro W hS
 refine .nil ?_
 refine .cs z h ?_ ?_ <;> intro h
 ·obtain rfl:=o9 h
  exact .g (.qn z (.ret (ac (vs:=[_]) () (rt z rn) z (hS.to []))))
 refine .skip (.g (.s (ld T.t160 hS z z z z z) z ?_))
 have ⟨y2,hy2,h⟩:=bnd h
 refine .c (.cO hS Tryz.func180 (fw hy2 (hS.keep aC) (hS.keep bH) (hS.keep bB)) z z ?_)
 intro W hS
 refine .q z ?_
 have ⟨b1,hb1,h⟩:=bnd h
 refine .cu 3 33 (b1) hS ?_ ?_
 ·refine .both (y2) (fun hb=>?_) (fun hb=>?_)
  ·have hg4:=hb
   have h:=aI hb hb1
   refine .g hg4 (.s (ld T.t160 hS z z z z z) z ?_)
   have ⟨y3,hy3,h⟩:=bnd h
   refine .g hg4 (.c (.cO hS Tryz.func181 (fx hy3 (hS.keep aC) (hS.keep bH) (hS.keep bB)) z z ?_))
   intro W hS
   refine .s (pkt hg4 z z z) z ?_
   cases h
   exact .nil (ck 3 hS)
  refine .xx hb z (.xx hb z ?_)
  cases aJ hb hb1
  exact .s (pkf hb z z z) z (.nil (ck 3 hS))
 intro W hS
 refine .q z ?_
 have ⟨b2,hb2,h⟩:=bnd h
 refine .cu 4 38 (b2) hS ?_ ?_
 ·refine .both (b1) (fun hb=>?_) (fun hb=>?_)
  ·have hg5:=hb
   have h:=aI hb hb2
   refine .g hg5 (.s (fa T.f160_3 z z z) z (.g hg5 (.s (ld T.t158 hS z z z z z) z ?_)))
   have ⟨y4,hy4,h⟩:=bnd h
   refine .g hg5 (.c (.cO hS Tryz.func182 (gk hy4 (hS.keep aC)) z z ?_))
   intro W hS
   refine .s (pkt hg5 z z z) z ?_
   cases h
   exact .nil (ck 4 hS)
  refine .xx hb z (.xx hb z (.xx hb z ?_))
  cases aJ hb hb2
  exact .s (pkf hb z z z) z (.nil (ck 4 hS))
 intro W hS
 refine .q z ?_
 have ⟨b3,hb3,h⟩:=bnd h
 refine .cu 6 45 (b3) hS ?_ ?_
 ·refine .both (b2) (fun hb=>?_) (fun hb=>?_)
  ·have hg6:=hb
   have h:=aI hb hb3
   refine .g hg6 (.s (fa T.f160_4 z z z) z (.g hg6 (.s (ld T.t123 hS z z z z z) z (.g hg6 (.q z (.g hg6 (.q z ?_)))))))
   have ⟨y5,hy5,h⟩:=bnd h
   refine .g hg6 (.c (.cO hS Tryz.func144 (j7 hy5 (hS.keep bH)) z z ?_))
   intro W hS
   refine .s (pkt hg6 z z z) z ?_
   cases h
   exact .nil (ck 6 hS)
  refine .xx hb z (.xx hb z (.xx hb z (.xx hb z (.xx hb z ?_))))
  cases aJ hb hb3
  exact .s (pkf hb z z z) z (.nil (ck 6 hS))
 intro W hS
 refine .q z ?_
 have ⟨b4,hb4,h⟩:=bnd h
 refine .cu 6 52 (b4) hS ?_ ?_
 ·refine .both (b3) (fun hb=>?_) (fun hb=>?_)
  ·have hg7:=hb
   have h:=aI hb hb4
   refine .g hg7 (.s (fa T.f160_5 z z z) z (.g hg7 (.s (ld T.t123 hS z z z z z) z (.g hg7 (.q z (.g hg7 (.q z ?_)))))))
   have ⟨y6,hy6,h⟩:=bnd h
   refine .g hg7 (.c (.cO hS Tryz.func144 (j7 hy6 (hS.keep bB)) z z ?_))
   intro W hS
   refine .s (pkt hg7 z z z) z ?_
   cases h
   exact .nil (ck 6 hS)
  refine .xx hb z (.xx hb z (.xx hb z (.xx hb z (.xx hb z ?_))))
  cases aJ hb hb4
  exact .s (pkf hb z z z) z (.nil (ck 6 hS))
 intro W hS
 obtain rfl:=o9 h
 exact .qn z (.ret (ac (vs:=[_]) () (rt z rn) z (hS.to [])))
theorem nF (k : Nat) : fy (cP k) ∧ lF (oY k):=by
  induction k with
  | zero=>exact ⟨by intro a0 a1 v_0 w r h q_0; exact no h,by intro a0 a1 aP ca cd w r h aC bH bB; exact no h⟩
  | succ k ih=>exact ⟨qx (k:=k) ih.1 ih.2,uT (k:=k) ih.1 ih.2⟩
theorem pM {k : Nat} : fy (cP k):=(nF k).1
theorem pe {k : Nat} {a0 : List aw} {v_0 : Hd} {w : World} {r : Bool} (h : fO k a0 = some r) (q_0 : RO w v_0 160 8 aA a0) : Cl 120 #[(sv v_0)] w (RU w (.bool r)):=by
 unfold fO at h
 refine au Tryz.func120 z z ?_
 have hS:=Sep.start w
 refine .g (.qn z (.g (.q z ?_)))
 have ⟨y1,hy1,h⟩:=bnd h
 refine .c (.cO hS Tryz.func144 (pM hy1 (hS.keep q_0)) z z ?_)
 intro W hS
 refine .q z ?_
 have ⟨b1,hb1,h⟩:=bnd h
 refine .cu 4 9 (b1) hS ?_ ?_
 ·refine .both (y1) (fun hb=>?_) (fun hb=>?_)
  ·have hg1:=hb
   have h:=aI hb hb1
   refine .g hg1 (.q z ?_)
   have ⟨y2,hy2,h⟩:=bnd h
   refine .g hg1 (.c (.cO hS Tryz.func123 (mU hy2 (hS.keep q_0)) z z ?_))
   intro W hS
   refine .g hg1 (.q z (.s (pkt hg1 z z z) z ?_))
   cases h
   exact .nil (ck 4 hS)
  refine .xx hb z (.xx hb z (.xx hb z ?_))
  cases aJ hb hb1
  exact .s (pkf hb z z z) z (.nil (ck 4 hS))
 intro W hS
 obtain rfl:=o9 h
 exact .qn z (.ret (ac (vs:=[_]) () (rt z rn) z (hS.to [])))
def j8 (F : Expr → Int → Option ((List aj))) : Prop:=∀ {a0 : Expr} {a1 : Int} {ei : Hd} {w : World} {r : (List aj)} (h : F a0 a1 = some r) (bc : RO w ei 158 3 a7 a0.Args) , Cl 159 #[.agg #[vi a0.Op,vi a0.N,(sv ei)],vi a1] w (Ret No w (fun s : Hd=>(sv s)) (fun s=>[ae (sv s) 107 5 aO r]))
theorem tq {k : Nat} {gr : Expr → Int → Option ((List aj))} (nv : j8 gr) : j8 (gq k gr):=by
 intro a0 a1 ei w r h bc
 unfold gq at h
 refine au Tryz.func159 z z ?_
 have hS:=Sep.start w
 refine .g (.c (.box hS z z ?_))
 intro g1 W hS
 refine .qn z (.seq (.g (.s (fa T.f158_0 z z z) z (.s (ld T.t3 hS z z z z z) z (.q z (.nil ?_))))))
 refine .cs z h ?_ ?_ <;> intro h
 ·refine .g (.q z (.s (fa T.f158_1 z z z) z (.s (ld T.t3 hS z z z z z) z (.s (bs T.s107 z z) z (.c (.liv [(aj.mk 1 a1 0 0 a0.N)] aO T.u78 T.t107 hS z z z z ?_ z (fun _=>z)))))))
  intro v1 W hS
  cases h
  exact .qn z (.ret (ac (vs:=[_]) v1 (rt z rn) z (hS.to [0])))
 refine .skip (.seq (.g (.s (fa T.f158_0 z z z) z (.s (ld T.t3 hS z z z z z) z (.q z (.nil ?_))))))
 refine .cs z h ?_ ?_ <;> intro h
 ·refine .g (.q z (.s (fa T.f158_1 z z z) z (.s (ld T.t3 hS z z z z z) z (.s (bs T.s107 z z) z (.c (.liv [(aj.mk 2 a1 a0.N 0 0)] aO T.u78 T.t107 hS z z z z ?_ z (fun _=>z)))))))
  intro v2 W hS
  cases h
  exact .qn z (.ret (ac (vs:=[_]) v2 (rt z rn) z (hS.to [0])))
 refine .skip (.seq (.rk 15 hS [0] T.mix ?_))
 intro W hS
 have hT:=hS.to [0]
 refine .ts' 0 z (fun W hT=>fa T.f158_2 z z z) hT z (.ts' 1 z (fun W hT=>ld T.t156 hT z z z z z) hT z ?_)
 have ⟨x1,hx1,h⟩:=bnd h
 obtain ⟨k1,hd,hck1⟩:=RV.el2 bc hx1
 have hd1:=nu (eC _) hd
 obtain ⟨k1,rfl,hd2⟩:=dn bc z hd1
 obtain ⟨k1,rfl,hd3⟩:=dn bc z hd2
 obtain ⟨v3,k1,rfl,q1,hd4⟩:=ef bc hd3
 obtain rfl:=m8 bc hd4
 refine .ts' 2 z (fun W hT=>ixv (hS.keep bc) hx1 T.u156 T.t158 z z z) hT z (.ts' 3 z (fun W hT=>lde (hck1 _ hT.agree) T.t158 z z z z z) hT z (.tp' 4 z z hT (.ts' 6 z (fun W hT=>fa T.f158_2 z z z) hT z (.ts' 7 z (fun W hT=>ld T.t156 hT z z z z z) hT z ?_))))
 have ⟨x2,hx2,h⟩:=bnd h
 obtain ⟨k2,hd,hck2⟩:=RV.el2 bc hx2
 have hd1:=nu (eC _) hd
 obtain ⟨k2,rfl,hd2⟩:=dn bc z hd1
 obtain ⟨k2,rfl,hd3⟩:=dn bc z hd2
 obtain ⟨v4,k2,rfl,q2,hd4⟩:=ef bc hd3
 obtain rfl:=m8 bc hd4
 refine .ts' 8 z (fun W hT=>ixv (hS.keep bc) hx2 T.u156 T.t158 z z z) hT z (.ts' 9 z (fun W hT=>lde (hck2 _ hT.agree) T.t158 z z z z z) hT z (.tp' 10 z z hT (.tp' 11 z z hT ?_)))
 have ⟨y1,hy1,h⟩:=bnd h
 refine .by1 5 z (.cV hS Tryz.func159 (nv hy1 (hS.keep (q1 _ bc))) z z ?_)
 intro v5 W hS
 have hT:=hS.to [1]
 refine ⟨fun _=>hT,?_⟩
 have ⟨y2,hy2,h⟩:=bnd h
 refine .by1 12 z (.cV hS Tryz.func159 (nv hy2 (hS.keep (q2 _ bc))) z z ?_)
 intro v6 W hS
 have hT:=hS.to [2]
 refine ⟨fun _=>hT,?_⟩
 have ⟨r1,hr1,h⟩:=bnd h
 have hT0:=hS.p1
 refine .by1 13 z (.av hr1 hT0 hT0.p1.lv (fun _=>z) T.u78 T.t107 z z z ?_)
 intro v7 W hS
 have hT:=hS.to [2]
 refine ⟨fun _=>hT,.tp' 14 z z hT (.done (.g (.q z (.q z (.q z (.q z (.q z (.s (fa T.f158_0 z z z) z (.s (ld T.t3 hS.p2 z z z z z) z (.s (bs T.s107 z z) z (.c (.liv [(aj.mk 3 a1 a1 (w64 (a1 + 1)) a0.Op)] aO T.u78 T.t107 hS z z z z ?_ z (fun _=>z)))))))))))))⟩
 intro v8 W hS
 have ⟨r2,hr2,h⟩:=bnd h
 have hT0:=hS.p1
 refine .c (.av hr2 hT0 hT0.p1.lv (fun _=>z) T.u78 T.t107 z z z ?_)
 intro v9 W hS
 obtain rfl:=o9 h
 exact .qn z (.ret (ac (vs:=[_]) v9 (rt z rn) z (hS.to [0])))
theorem oz (k : Nat) : j8 (dv k):=by
  induction k with
  | zero=>exact by intro a0 a1 ei w r h bc; exact no h
  | succ k ih=>exact tq (k:=k) ih
theorem ly {k : Nat} : j8 (dv k):=(oz k)
def ej (F : List aw → Int → Option ((List aj))) : Prop:=∀ {a0 : List aw} {a1 : Int} {v_0 : Hd} {w : World} {r : (List aj)} (h : F a0 a1 = some r) (q_0 : RO w v_0 160 8 aA a0) , Cl 121 #[(sv v_0),vi a1] w (Ret No w (fun s : Hd=>(sv s)) (fun s=>[ae (sv s) 107 5 aO r]))
def fz (F : aw → Int → Option ((List aj))) : Prop:=∀ {a0 : aw} {a1 : Int} {aP : Hd} {ca : Hd} {cd : Hd} {w : World} {r : (List aj)} (h : F a0 a1 = some r) (aC : RO w aP 158 3 a7 a0.Expr.Args) (bH : RO w ca 160 8 aA a0.Body) (bB : RO w cd 160 8 aA a0.Else) , Cl 145 #[.agg #[vi a0.Kind,vi a0.Var,vi a0.Box,vi a0.Expr.Op,vi a0.Expr.N,(sv aP),(sv ca),(sv cd)],vi a1] w (Ret No w (fun s : Hd=>(sv s)) (fun s=>[ae (sv s) 107 5 aO r]))
def ij (F : aw → Int → Option ((List aj))) : Prop:=∀ {a0 : aw} {a1 : Int} {aP : Hd} {ca : Hd} {cd : Hd} {w : World} {r : (List aj)} (h : F a0 a1 = some r) (aC : RO w aP 158 3 a7 a0.Expr.Args) (bH : RO w ca 160 8 aA a0.Body) (bB : RO w cd 160 8 aA a0.Else) , Cl 160 #[.agg #[vi a0.Kind,vi a0.Var,vi a0.Box,vi a0.Expr.Op,vi a0.Expr.N,(sv aP),(sv ca),(sv cd)],vi a1] w (Ret No w (fun s : Hd=>(sv s)) (fun s=>[ae (sv s) 107 5 aO r]))
def ey (F : aw → Int → Option ((List aj))) : Prop:=∀ {a0 : aw} {a1 : Int} {aP : Hd} {ca : Hd} {cd : Hd} {w : World} {r : (List aj)} (h : F a0 a1 = some r) (aC : RO w aP 158 3 a7 a0.Expr.Args) (bH : RO w ca 160 8 aA a0.Body) (bB : RO w cd 160 8 aA a0.Else) , Cl 161 #[.agg #[vi a0.Kind,vi a0.Var,vi a0.Box,vi a0.Expr.Op,vi a0.Expr.N,(sv aP),(sv ca),(sv cd)],vi a1] w (Ret No w (fun s : Hd=>(sv s)) (fun s=>[ae (sv s) 107 5 aO r]))
theorem tr {k : Nat} {bn : List aw → Int → Option ((List aj))} {bk : aw → Int → Option ((List aj))} {ce : aw → Int → Option ((List aj))} {bt : aw → Int → Option ((List aj))} (ez : ej bn) (jj : fz bk) (kU : ij ce) (ik : ey bt) : ej (gu k bn bk ce bt):=by
 intro a0 a1 v_0 w r h q_0
 unfold gu at h
 refine au Tryz.func121 z z ?_
 have hS:=Sep.start w
 refine .g (.qn z (.g (.c (.liv [] aO T.u78 T.t107 hS z z z z ?_ z (fun _=>z)))))
 intro v1 W hS
 refine .qn z (.seq (.g (.qn z (.block ?_))))
 have ⟨y1,hy1,h⟩:=bnd h
 refine .via (.iter (fun s1 E' W'=>∃ (v4 : Hd),aD E' [(0,(sv v_0)),(1,vi a1),(5,(sv v4)),(6,vi s1.2)] ∧ Sep No w W' [ae (sv v4) 107 5 aO s1.1]) (fun y2 x E' W'=>x = .exit 0 ∧ ∃ (v5 : Hd),aD E' [(5,(sv v5))] ∧ Sep No w W' [ae (sv v5) 107 5 aO y2]) hy1 ⟨v1,sb z,hS.to [0]⟩ ?_) ?_
 ·intro s1 y3 E W h hI
  obtain ⟨v3,hE,hS⟩:=hI
  refine CW.sub hE ?_
  unfold lk at h
  refine .seq (.g (.q z (.q z (.s (bw (hS.keep q_0) T.u123 z z) z (.q z (.nil ?_))))))
  refine .cs z h ?_ ?_ <;> intro h
  ·refine .skip (.seq (.block (.region (.q z (.q z (.q z ?_))))))
   have ⟨x1,hx1,h⟩:=bnd h
   obtain ⟨k1,hd,hck1⟩:=RV.el2 q_0 hx1
   have hd1:=nu (gp _) hd
   obtain ⟨k1,rfl,hd2⟩:=dn q_0 z hd1
   obtain ⟨k1,rfl,hd3⟩:=dn q_0 z hd2
   obtain ⟨k1,rfl,hd4⟩:=dn q_0 z hd3
   have hd5:=nu (eC _) hd4
   obtain ⟨k1,rfl,hd6⟩:=dn q_0 z hd5
   obtain ⟨k1,rfl,hd7⟩:=dn q_0 z hd6
   obtain ⟨v6,k1,rfl,q5,hd8⟩:=ef q_0 hd7
   obtain ⟨v7,k1,rfl,q6,hd9⟩:=ef q_0 hd8
   obtain ⟨v8,k1,rfl,q7,hd10⟩:=ef q_0 hd9
   obtain rfl:=m8 q_0 hd10
   refine .s (ixv (hS.keep q_0) hx1 T.u123 T.t160 z z z) z (.s (lde (hck1 _ hS.agree) T.t160 z z z z z) z (.q z (.q z (.s (bw hS.lv T.u78 z z) z (.q z ?_)))))
   have ⟨y4,hy4,h⟩:=bnd h
   refine .c (.cV hS Tryz.func145 (jj hy4 (hS.keep (q5 _ q_0)) (hS.keep (q6 _ q_0)) (hS.keep (q7 _ q_0))) z z ?_)
   intro v9 W hS
   have ⟨r1,hr1,h⟩:=bnd h
   have hT0:=hS.p1
   refine .c (.av hr1 hT0 hT0.p1.lv (fun _=>z) T.u78 T.t107 z z z ?_)
   intro v10 W hS
   refine .qn z (.region (.q z (.q z (.q z (.nil ?_)))))
   cases h
   exact ⟨z,v10,sb z,hS.to [0]⟩
  refine .exit ?_
  cases h
  exact ⟨by simp,z,v3,sb z,hS.to [0]⟩
 intro x E W hJ
 obtain ⟨rfl,v11,hE,hS⟩:=hJ
 refine ⟨_,hE.sub,?_⟩
 obtain rfl:=o9 h
 exact .g (.q z (.qn z (.ret (ac (vs:=[_]) v11 (rt z rn) z (hS.to [0])))))
theorem tu {k : Nat} {bn : List aw → Int → Option ((List aj))} {bk : aw → Int → Option ((List aj))} {ce : aw → Int → Option ((List aj))} {bt : aw → Int → Option ((List aj))} (ez : ej bn) (jj : fz bk) (kU : ij ce) (ik : ey bt) : fz (gv k bn bk ce bt):=by
 intro a0 a1 aP ca cd w r h aC bH bB
 unfold gv at h
 refine au Tryz.func145 z z ?_
 have hS:=Sep.start w
 refine .g (.c (.box hS z z ?_))
 intro g1 W hS
 refine .qn z (.g (.s (fa T.f160_3 z z z) z (.s (ld T.t158 hS z z z z z) z ?_)))
 have ⟨y1,hy1,h⟩:=bnd h
 refine .c (.cV hS Tryz.func159 (ly hy1 (hS.keep aC)) z z ?_)
 intro v1 W hS
 refine .qn z (.seq (.g (.s (fa T.f160_0 z z z) z (.s (ld T.t3 hS.p1 z z z z z) z (.nil (.block (.g (.q z (.q z (.nil ?_))))))))))
 refine .cs z h ?_ ?_ <;> intro h
 ·refine .g (.s (ld T.t160 hS.p1 z z z z z) z (.q z ?_))
  have ⟨y2,hy2,h⟩:=bnd h
  refine .c (.cV hS Tryz.func160 (kU hy2 (hS.keep aC) (hS.keep bH) (hS.keep bB)) z z ?_)
  intro v2 W hS
  obtain rfl:=o9 h
  exact .qn z (.ret (ac (vs:=[_]) v2 (rt z rn) z (hS.to [0])))
 refine .g (.q z (.q z (.nil ?_)))
 refine .cs z h ?_ ?_ <;> intro h
 ·refine .g (.s (ld T.t160 hS.p1 z z z z z) z (.q z ?_))
  have ⟨y3,hy3,h⟩:=bnd h
  refine .c (.cV hS Tryz.func161 (ik hy3 (hS.keep aC) (hS.keep bH) (hS.keep bB)) z z ?_)
  intro v3 W hS
  obtain rfl:=o9 h
  exact .qn z (.ret (ac (vs:=[_]) v3 (rt z rn) z (hS.to [0])))
 refine .g (.q z (.q z (.nil ?_)))
 refine .cs z h ?_ ?_ <;> intro h
 ·refine .g (.q z (.s (fa T.f160_1 z z z) z (.s (ld T.t3 hS.p1 z z z z z) z (.s (bs T.s107 z z) z (.c (.liv [(aj.mk 2 a0.Var 4 0 0)] aO T.u78 T.t107 hS z z z z ?_ z (fun _=>z)))))))
  intro v4 W hS
  have ⟨r1,hr1,h⟩:=bnd h
  have hT0:=hS.p1
  refine .c (.av hr1 hT0 hT0.p1.lv (fun _=>z) T.u78 T.t107 z z z ?_)
  intro v5 W hS
  obtain rfl:=o9 h
  exact .qn z (.ret (ac (vs:=[_]) v5 (rt z rn) z (hS.to [0])))
 refine .g (.q z (.q z (.nil ?_)))
 refine .cs z h ?_ ?_ <;> intro h
 ·refine .g (.q z (.s (fa T.f160_2 z z z) z (.s (ld T.t3 hS.p1 z z z z z) z (.s (bs T.s107 z z) z (.c (.liv [(aj.mk 6 0 4 0 a0.Box)] aO T.u78 T.t107 hS z z z z ?_ z (fun _=>z)))))))
  intro v6 W hS
  have ⟨r2,hr2,h⟩:=bnd h
  have hT0:=hS.p1
  refine .c (.av hr2 hT0 hT0.p1.lv (fun _=>z) T.u78 T.t107 z z z ?_)
  intro v7 W hS
  obtain rfl:=o9 h
  exact .qn z (.ret (ac (vs:=[_]) v7 (rt z rn) z (hS.to [0])))
 refine .g (.q z (.q z (.nil ?_)))
 refine .cs z h ?_ ?_ <;> intro h
 ·refine .g (.q z (.s (bs T.s107 z z) z (.c (.liv [(aj.mk 9 0 4 0 0)] aO T.u78 T.t107 hS z z z z ?_ z (fun _=>z)))))
  intro v8 W hS
  have ⟨r3,hr3,h⟩:=bnd h
  have hT0:=hS.p1
  refine .c (.av hr3 hT0 hT0.p1.lv (fun _=>z) T.u78 T.t107 z z z ?_)
  intro v9 W hS
  obtain rfl:=o9 h
  exact .qn z (.ret (ac (vs:=[_]) v9 (rt z rn) z (hS.to [0])))
 refine .g (.q z (.q z (.nil ?_)))
 refine .cs z h ?_ ?_ <;> intro h
 ·refine .g (.s (fa T.f160_1 z z z) z (.s (ld T.t3 hS.p1 z z z z z) z (.s (fa T.f160_2 z z z) z (.s (ld T.t3 hS.p1 z z z z z) z (.s (bs T.s107 z z) z (.c (.liv [(aj.mk 7 a0.Var 0 0 a0.Box)] aO T.u78 T.t107 hS z z z z ?_ z (fun _=>z))))))))
  intro v10 W hS
  cases h
  exact .qn z (.ret (ac (vs:=[_]) v10 (rt z rn) z (hS.to [0])))
 refine .skip (.g (.s (bs T.s107 z z) z (.c (.liv [(aj.mk 8 0 0 0 0)] aO T.u78 T.t107 hS z z z z ?_ z (fun _=>z)))))
 intro v11 W hS
 cases h
 exact .qn z (.ret (ac (vs:=[_]) v11 (rt z rn) z (hS.to [0])))
theorem uU {k : Nat} {bn : List aw → Int → Option ((List aj))} {bk : aw → Int → Option ((List aj))} {ce : aw → Int → Option ((List aj))} {bt : aw → Int → Option ((List aj))} (ez : ej bn) (jj : fz bk) (kU : ij ce) (ik : ey bt) : ij (jB k bn bk ce bt):=by
 intro a0 a1 aP ca cd w r h aC bH bB
 unfold jB at h
 refine au Tryz.func160 z z ?_
 have hS:=Sep.start w
 refine .g (.c (.box hS z z ?_))
 intro g1 W hS
 refine .qn z (.g (.s (fa T.f160_3 z z z) z (.s (ld T.t158 hS z z z z z) z ?_)))
 have ⟨y1,hy1,h⟩:=bnd h
 refine .c (.cV hS Tryz.func159 (ly hy1 (hS.keep aC)) z z ?_)
 intro v1 W hS
 refine .qn z (.g (.s (fa T.f160_4 z z z) z (.s (ld T.t123 hS.p1 z z z z z) z (.q z (.q z (.s (bw hS.lv T.u78 z z) z (.q z (.q z ?_))))))))
 have ⟨y2,hy2,h⟩:=bnd h
 refine .c (.cV hS Tryz.func121 (ez hy2 (hS.keep bH)) z z ?_)
 intro v2 W hS
 refine .qn z (.g (.q z (.q z (.s (bw hS.p1.lv T.u78 z z) z (.q z (.q z (.q z (.s (bw hS.lv T.u78 z z) z (.q z (.qn z (.seq (.g (.s (fa T.f160_5 z z z) z (.s (ld T.t123 hS.p2 z z z z z) z (.s (bw (hS.keep bB) T.u123 z z) z (.q z (.nil ?_)))))))))))))))))
 refine .cs z h ?_ ?_ <;> intro h
 ·refine .g (.q z (.q z (.s (bs T.s107 z z) z (.c (.liv [(aj.mk 5 0 4 0 (w64 ((w64 ((w64 (a1 + (y1.length : Int))) + 1)) + (y2.length : Int))))] aO T.u78 T.t107 hS z z z z ?_ z (fun _=>z))))))
  intro v3 W hS
  have ⟨r1,hr1,h⟩:=bnd h
  have hT0:=hS.p2
  refine .c (.av hr1 hT0 hT0.p1.lv (fun _=>z) T.u78 T.t107 z z z ?_)
  intro v4 W hS
  refine .qn z (.g (.q z (.q z ?_)))
  have ⟨r2,hr2,h⟩:=bnd h
  have hT0:=hS
  refine .c (.av hr2 hT0 hT0.p2.lv (fun _=>z) T.u78 T.t107 z z z ?_)
  intro v5 W hS
  obtain rfl:=o9 h
  exact .qn z (.ret (ac (vs:=[_]) v5 (rt z rn) z (hS.to [0])))
 refine .skip (.g (.s (fa T.f160_5 z z z) z (.s (ld T.t123 hS.p2 z z z z z) z (.q z (.q z ?_)))))
 have ⟨y3,hy3,h⟩:=bnd h
 refine .c (.cV hS Tryz.func121 (ez hy3 (hS.keep bB)) z z ?_)
 intro v6 W hS
 refine .qn z (.g (.q z (.q z (.q z (.s (bs T.s107 z z) z (.c (.liv [(aj.mk 5 0 4 0 (w64 ((w64 ((w64 ((w64 (a1 + (y1.length : Int))) + 1)) + (y2.length : Int))) + 1)))] aO T.u78 T.t107 hS z z z z ?_ z (fun _=>z))))))))
 intro v7 W hS
 have ⟨r3,hr3,h⟩:=bnd h
 have hT0:=hS.p3
 refine .c (.av hr3 hT0 hT0.p1.lv (fun _=>z) T.u78 T.t107 z z z ?_)
 intro v8 W hS
 refine .qn z (.g (.q z (.q z ?_)))
 have ⟨r4,hr4,h⟩:=bnd h
 have hT0:=hS
 refine .c (.av hr4 hT0 hT0.p3.lv (fun _=>z) T.u78 T.t107 z z z ?_)
 intro v9 W hS
 refine .qn z (.g (.q z (.q z (.q z (.q z (.s (bw hS.p2.lv T.u78 z z) z (.q z (.s (bs T.s107 z z) z (.c (.liv [(aj.mk 4 0 0 0 (w64 ((w64 ((w64 ((w64 ((w64 (a1 + (y1.length : Int))) + 1)) + (y2.length : Int))) + 1)) + (y3.length : Int))))] aO T.u78 T.t107 hS z z z z ?_ z (fun _=>z)))))))))))
 intro v10 W hS
 have ⟨r5,hr5,h⟩:=bnd h
 have hT0:=hS.p1
 refine .c (.av hr5 hT0 hT0.p1.lv (fun _=>z) T.u78 T.t107 z z z ?_)
 intro v11 W hS
 refine .qn z (.g (.q z (.q z ?_)))
 have ⟨r6,hr6,h⟩:=bnd h
 have hT0:=hS
 refine .c (.av hr6 hT0 hT0.p3.lv (fun _=>z) T.u78 T.t107 z z z ?_)
 intro v12 W hS
 obtain rfl:=o9 h
 exact .qn z (.ret (ac (vs:=[_]) v12 (rt z rn) z (hS.to [0])))
theorem rH {k : Nat} {bn : List aw → Int → Option ((List aj))} {bk : aw → Int → Option ((List aj))} {ce : aw → Int → Option ((List aj))} {bt : aw → Int → Option ((List aj))} (ez : ej bn) (jj : fz bk) (kU : ij ce) (ik : ey bt) : ey (fP k bn bk ce bt):=by
 intro a0 a1 aP ca cd w r h aC bH bB
 unfold fP at h
 refine au Tryz.func161 z z ?_
 have hS:=Sep.start w
 refine .g (.c (.box hS z z ?_))
 intro g1 W hS
 refine .qn z (.g (.s (fa T.f160_3 z z z) z (.s (ld T.t158 hS z z z z z) z ?_)))
 have ⟨y1,hy1,h⟩:=bnd h
 refine .c (.cV hS Tryz.func159 (ly hy1 (hS.keep aC)) z z ?_)
 intro v1 W hS
 refine .qn z (.g (.s (fa T.f160_4 z z z) z (.s (ld T.t123 hS.p1 z z z z z) z (.q z (.q z (.s (bw hS.lv T.u78 z z) z (.q z (.q z ?_))))))))
 have ⟨y2,hy2,h⟩:=bnd h
 refine .c (.cV hS Tryz.func121 (ez hy2 (hS.keep bH)) z z ?_)
 intro v2 W hS
 refine .qn z (.g (.q z (.q z (.q z (.s (bw hS.p1.lv T.u78 z z) z (.q z (.q z (.q z (.s (bw hS.lv T.u78 z z) z (.q z (.q z (.s (bs T.s107 z z) z (.c (.liv [(aj.mk 5 0 4 0 (w64 ((w64 ((w64 ((w64 (a1 + (y1.length : Int))) + 1)) + (y2.length : Int))) + 1)))] aO T.u78 T.t107 hS z z z z ?_ z (fun _=>z)))))))))))))))
 intro v3 W hS
 have ⟨r1,hr1,h⟩:=bnd h
 have hT0:=hS.p2
 refine .c (.av hr1 hT0 hT0.p1.lv (fun _=>z) T.u78 T.t107 z z z ?_)
 intro v4 W hS
 refine .qn z (.g (.q z (.q z ?_)))
 have ⟨r2,hr2,h⟩:=bnd h
 have hT0:=hS
 refine .c (.av hr2 hT0 hT0.p2.lv (fun _=>z) T.u78 T.t107 z z z ?_)
 intro v5 W hS
 refine .qn z (.g (.q z (.q z (.s (bs T.s107 z z) z (.c (.liv [(aj.mk 4 0 0 0 a1)] aO T.u78 T.t107 hS z z z z ?_ z (fun _=>z)))))))
 intro v6 W hS
 have ⟨r3,hr3,h⟩:=bnd h
 have hT0:=hS.p1
 refine .c (.av hr3 hT0 hT0.p1.lv (fun _=>z) T.u78 T.t107 z z z ?_)
 intro v7 W hS
 obtain rfl:=o9 h
 exact .qn z (.ret (ac (vs:=[_]) v7 (rt z rn) z (hS.to [0])))
theorem oA (k : Nat) : ej (eG k) ∧ fz (gU k) ∧ ij (lQ k) ∧ ey (iC k):=by
  induction k with
  | zero=>exact ⟨by intro a0 a1 v_0 w r h q_0; exact no h,by intro a0 a1 aP ca cd w r h aC bH bB; exact no h,by intro a0 a1 aP ca cd w r h aC bH bB; exact no h,by intro a0 a1 aP ca cd w r h aC bH bB; exact no h⟩
  | succ k ih=>exact ⟨tr (k:=k) ih.1 ih.2.1 ih.2.2.1 ih.2.2.2,tu (k:=k) ih.1 ih.2.1 ih.2.2.1 ih.2.2.2,uU (k:=k) ih.1 ih.2.1 ih.2.2.1 ih.2.2.2,rH (k:=k) ih.1 ih.2.1 ih.2.2.1 ih.2.2.2⟩
theorem rI {k : Nat} : ej (eG k):=(oA k).1
theorem oB {k : Nat} {a0 : List aw} {v_0 : Hd} {w : World} {r : (List aj) × Bool} (h : fi k a0 = some r) (q_0 : RO w v_0 160 8 aA a0) : Cl 90 #[(sv v_0)] w (Ret No w (fun s : Hd=>.tuple #[(sv s),.bool r.2]) (fun s=>[ae (sv s) 107 5 aO r.1])):=by
 unfold fi at h
 refine au Tryz.func90 z z ?_
 have hS:=Sep.start w
 refine .g (.q z (.qn z (.seq (.g (.q z ?_)))))
 have ⟨y1,hy1,h⟩:=bnd h
 refine .c (.cO hS Tryz.func120 (pe hy1 (hS.keep q_0)) z z ?_)
 intro W hS
 refine .q z (.nil ?_)
 refine .cs z h ?_ ?_ <;> intro h
 ·refine .g (.c (.liv [] aO T.u78 T.t107 hS z z z z ?_ z (fun _=>z)))
  intro v1 W hS
  cases h
  exact .q z (.qn z (.ret (ac (vs:=[_,_]) v1 (rt z (rt z rn)) z (hS.to [0]))))
 refine .skip (.g (.q z ?_))
 have ⟨y2,hy2,h⟩:=bnd h
 refine .c (.cV hS Tryz.func121 (rI hy2 (hS.keep q_0)) z z ?_)
 intro v2 W hS
 refine .s (bs T.s107 z z) z (.c (.liv [(aj.mk 10 0 0 0 0)] aO T.u78 T.t107 hS z z z z ?_ z (fun _=>z)))
 intro v3 W hS
 have ⟨r1,hr1,h⟩:=bnd h
 have hT0:=hS.p1
 refine .c (.av hr1 hT0 hT0.p1.lv (fun _=>z) T.u78 T.t107 z z z ?_)
 intro v4 W hS
 cases h
 exact .q z (.qn z (.ret (ac (vs:=[_,_]) v4 (rt z (rt z rn)) z (hS.to [0]))))
theorem cX {a0 : Int} {a1 : Expr} {a2 : Expr} {tv : Hd} {tw : Hd} {S : Nat → Prop} {w : World} {r : Expr} (h : jr a0 a1 a2 = some r) (hO : bJ w [ae (sv tv) 158 3 a7 a1.Args,ae (sv tw) 158 3 a7 a2.Args] S) (hlt : ∀ b,S b → b < w.heap.size) : Cl 183 #[vi a0,.agg #[vi a1.Op,vi a1.N,(sv tv)],.agg #[vi a2.Op,vi a2.N,(sv tw)]] w (Ret S w (fun s : Hd=>.agg #[vi r.Op,vi r.N,(sv s)]) (fun s=>[ae (sv s) 158 3 a7 r.Args])):=by
 unfold jr at h
 refine au Tryz.func183 z z ?_
 have hS:=Sep.sm hO hlt
 refine .g (.c (.box hS z z ?_))
 intro g1 W hS
 refine .c (.box hS z z ?_)
 intro g2 W hS
 refine .c (.alloc T.t158 hS ?_)
 intro g3 W hS
 refine .nil (.g (.q z (.s (ld T.t158 hS.p2 z z z z z) z (.s (ld T.t158 hS.p1 z z z z z) z (.c (.lg (L1:=[ae (sv tv) 158 3 a7 a1.Args,ae (sv tw) 158 3 a7 a2.Args]) [(Expr.mk a1.Op a1.N a1.Args),(Expr.mk a2.Op a2.N a2.Args)] a7 T.u156 T.t158 (hS.to [3,3,0,0,0]) z z z (.aggE (eC _) (.flat (c1:=[vi a1.Op]) z (.flat (c1:=[vi a1.N]) z (.row (.aggE (eC _) (.flat (c1:=[vi a2.Op]) z (.flat (c1:=[vi a2.N]) z (.row .nil)))))))) ?_ z yt))))))
 intro v1 W hS
 refine .s (bs T.s158 z z) z (.c (.st T.t158 hS.p1 z z z ?_))
 intro W hS
 cases h
 exact .nil (.ret (ac (vs:=[_]) v1 (rc hS T.t158 z rn z z) z (hS.to [1])))
theorem a9 {a0 : Int} {a1 : Int} {w : World} {r : Expr} (h : dC a0 a1 = some r) : Cl 184 #[vi a0,vi a1] w (Ret No w (fun s : Hd=>.agg #[vi r.Op,vi r.N,(sv s)]) (fun s=>[ae (sv s) 158 3 a7 r.Args])):=by
 unfold dC at h
 refine au Tryz.func184 z z ?_
 have hS:=Sep.start w
 refine .g (.c (.alloc T.t158 hS ?_))
 intro g1 W hS
 refine .nil (.g (.q z (.q z (.c (.lg (L1:=[]) [] a7 T.u156 T.t158 (hS.to [0]) z z z (.nil) ?_ z yt)))))
 intro v1 W hS
 refine .s (bs T.s158 z z) z (.c (.st T.t158 hS.p1 z z z ?_))
 intro W hS
 cases h
 exact .nil (.ret (ac (vs:=[_]) v1 (rc hS T.t158 z rn z z) z (hS.to [1])))
theorem rJ {a0 : aL} {ar : Hd} {g_0 : Nat} {S : Nat → Prop} {w : World} {r : Expr × Int} (h : gV a0 = some r) (aH : RV w (Old S w) (sv ar) 5 1 (D.int .u8) a0.b) (hO : bJ w [.box g_0 74 [(sv ar),vi a0.p]] S) (hlt : ∀ b,S b → b < w.heap.size) : Cl 185 #[pt g_0] w (Ret S w (fun s : Hd=>.agg #[vi r.1.Op,vi r.1.N,(sv s)]) (fun s=>[.box g_0 74 [(sv ar),vi r.2],ae (sv s) 158 3 a7 r.1.Args])):=by
 unfold gV at h
 refine au Tryz.func185 z z ?_
 have hS:=Sep.sm hO hlt
 refine .g (.c (.alloc T.t158 hS ?_))
 intro g1 W hS
 refine .nil (.seq (.g (.q z ?_)))
 have ⟨y1,hy1,h⟩:=bnd h
 have hS:=hS.p1
 refine .c (.cS (L0:=[.box g_0 74 [(sv ar),vi a0.p]]) hS Tryz.func18 (fun S h1 h2 h3=>(ak hy1 (hS.ks aH h1) h2 (zz h1))) z z ?_)
 rintro ⟨⟩ W hS
 refine .nil (.block (.g (.q z (.qn z (.cond z (fun hb=>?_) (fun hb=>?_))))))
 ·have h:=aI hb h
  refine .g (.q z ?_)
  have ⟨y2,hy2,h⟩:=bnd h
  refine .c (.cS (L0:=[.box g_0 74 [(sv ar),vi y1.2]]) hS Tryz.func18 (fun S h1 h2 h3=>(ak hy2 (hS.ks aH h1) h2 (zz h1))) z z ?_)
  rintro ⟨⟩ W hS
  have ⟨y3,hy3,h⟩:=bnd h
  refine .c (.cV hS Tryz.func184 (a9 hy3) z z ?_)
  intro v1 W hS
  refine .c (.st T.t158 hS.p2 z z z ?_)
  intro W hS
  cases h
  exact .nil (.ret (ac (vs:=[_]) v1 (rc hS T.t158 z rn z z) z (hS.to [2,1])))
 have h:=aJ hb h
 refine .g (.q z (.qn z (.cond z (fun hb=>?_) (fun hb=>?_))))
 ·have h:=aI hb h
  refine .g (.c (.liv [5,31,32,100,2047,2048,65536,99999] (D.int .i64) T.u23 T.t3 hS z z z z ?_ z (fun _=>z)))
  intro v2 W hS
  refine .q z ?_
  have ⟨y4,hy4,h⟩:=bnd h
  have hS:=hS.p1
  refine .c (.cS (L0:=[.box g_0 74 [(sv ar),vi y1.2]]) hS Tryz.func18 (fun S h1 h2 h3=>(ak hy4 (hS.ks aH h1) h2 (zz h1))) z z ?_)
  rintro ⟨⟩ W hS
  have ⟨x1,hx1,h⟩:=bnd h
  refine .s (ixv hS.p1.lv hx1 T.u23 T.t3 z z z) z (.s (lde (RV.flat hS.p1.lv hx1 z) T.t3 z z z z z) z ?_)
  have ⟨y5,hy5,h⟩:=bnd h
  refine .c (.cV hS Tryz.func184 (a9 hy5) z z ?_)
  intro v3 W hS
  refine .c (.st T.t158 hS.p3 z z z ?_)
  intro W hS
  cases h
  exact .nil (.ret (ac (vs:=[_]) v3 (rc hS T.t158 z rn z z) z (hS.to [2,1])))
 have h:=aJ hb h
 refine .skip (.g (.q z ?_))
 have ⟨y6,hy6,h⟩:=bnd h
 refine .c (.cS (L0:=[.box g_0 74 [(sv ar),vi y1.2]]) hS Tryz.func18 (fun S h1 h2 h3=>(ak hy6 (hS.ks aH h1) h2 (zz h1))) z z ?_)
 rintro ⟨⟩ W hS
 have ⟨y7,hy7,h⟩:=bnd h
 refine .c (.cV hS Tryz.func184 (a9 hy7) z z ?_)
 intro v4 W hS
 refine .c (.st T.t158 hS.p2 z z z ?_)
 intro W hS
 cases h
 exact .nil (.ret (ac (vs:=[_]) v4 (rc hS T.t158 z rn z z) z (hS.to [2,1])))
def j9 (F : aL → Int → Option (Expr × Int)) : Prop:=∀ {a0 : aL} {a1 : Int} {ar : Hd} {g_0 : Nat} {S : Nat → Prop} {w : World} {r : Expr × Int} (h : F a0 a1 = some r) (aH : RV w (Old S w) (sv ar) 5 1 (D.int .u8) a0.b) (hO : bJ w [.box g_0 74 [(sv ar),vi a0.p]] S) (hlt : ∀ b,S b → b < w.heap.size) , Cl 166 #[pt g_0,vi a1] w (Ret S w (fun s : Hd=>.agg #[vi r.1.Op,vi r.1.N,(sv s)]) (fun s=>[.box g_0 74 [(sv ar),vi r.2],ae (sv s) 158 3 a7 r.1.Args]))
end
noncomputable section
theorem tx {k : Nat} {gx : aL → Int → Option (Expr × Int)} (nw : j9 gx) : j9 (gw k gx):=by
 intro a0 a1 ar g_0 S w r h aH hO hlt
 unfold gw at h
 refine au Tryz.func166 z z ?_
 have hS:=Sep.sm hO hlt
 refine .g (.c (.alloc T.t158 hS ?_))
 intro g1 W hS
 refine .nil (.seq (.g (.q z (.q z (.q z ?_)))))
 have ⟨b1,hb1,h⟩:=bnd h
 refine .chunkL 4 13 (b1.1) (M:=S) (w0:=w) (L:=[.box g1 158 [vi 0,vi 0,(sv aN)],.box g_0 74 [(sv ar),vi b1.2]]) ?_ ?_
 ·refine .both (decide (a1 < 2)) (fun hb=>?_) (fun hb=>?_)
  ·refine .xx hb z (.xx hb z (.xx hb z ?_))
   cases aI hb hb1
   exact .s (pkt hb z z z) z (.nil (ck 4 (hS.to [0,0])))
  have hg1:=hb
  have h:=aJ hb hb1
  refine .g hg1 (.q z ?_)
  have ⟨y1,hy1,h⟩:=bnd h
  have hS:=hS.p1
  refine .g hg1 (.c (.cS (L0:=[.box g_0 74 [(sv ar),vi a0.p]]) hS Tryz.func18 (fun S h1 h2 h3=>(ak hy1 (hS.ks aH h1) h2 (zz h1))) z z ?_))
  rintro ⟨⟩ W hS
  refine .g hg1 (.q z (.s (pkf hg1 z z z) z ?_))
  cases h
  exact .nil (ck 4 (hS.to [1,0]))
 intro W hS
 refine .nil (.cond z (fun hb=>?_) (fun hb=>?_))
 ·have h:=aI hb h
  refine .g (.q z ?_)
  have ⟨y2,hy2,h⟩:=bnd h
  have hS:=hS.p1
  refine .c (.cS (L0:=[.box g_0 74 [(sv ar),vi b1.2]]) hS Tryz.func185 (fun S h1 h2 h3=>(rJ hy2 (hS.ks aH h1) h2 (zz h1))) z z ?_)
  rintro v1 W hS
  refine .c (.st T.t158 hS.p2 z z z ?_)
  intro W hS
  cases h
  exact .nil (.ret (ac (vs:=[_]) v1 (rc hS T.t158 z rn z z) z (hS.to [1,1])))
 have h:=aJ hb h
 refine .skip (.g (.q z ?_))
 have ⟨y3,hy3,h⟩:=bnd h
 have hS:=hS.p1
 refine .c (.cS (L0:=[.box g_0 74 [(sv ar),vi b1.2]]) hS Tryz.func143 (fun S h1 h2 h3=>(oP hy3 (hS.ks aH h1) h2 (zz h1))) z z ?_)
 rintro ⟨⟩ W hS
 refine .qn z (.g (.q z (.q z (.q z ?_))))
 have ⟨y4,hy4,h⟩:=bnd h
 refine .c (.cS (L0:=[.box g_0 74 [(sv ar),vi y3.2]]) hS Tryz.func166 (fun S h1 h2 h3=>(nw hy4 (hS.ks aH h1) h2 (zz h1))) z z ?_)
 rintro v2 W hS
 refine .c (.alloc T.t158 hS ?_)
 intro g2 W hS
 refine .c (.st T.t158 hS z z z ?_)
 intro W hS
 refine .nil (.seq (.rk 7 hS [0,2] T.mix ?_))
 intro W hS
 have hT:=hS.to [0,2]
 refine .tp' 0 z z hT (.ts' 1 z (fun W hT=>ld T.t158 hT z z z z z) hT z (.tp' 2 z z hT (.tp' 3 z z hT (.tp' 4 z z hT ?_))))
 have ⟨y5,hy5,h⟩:=bnd h
 have hS:=hS.p1
 refine .by1 5 z (.cS (L0:=[.box g_0 74 [(sv ar),vi y4.2]]) hS Tryz.func166 (fun S h1 h2 h3=>(nw hy5 (hS.ks aH h1) h2 (zz h1))) z z ?_)
 rintro v3 W hS
 have hT:=hS.to [2,3]
 refine ⟨fun _=>hT,?_⟩
 have ⟨y6,hy6,h⟩:=bnd h
 have hS:=hS.p1
 have hS:=hS.p3
 refine .by1 6 z (.cS (L0:=[ae (sv v2) 158 3 a7 y4.1.Args,ae (sv v3) 158 3 a7 y5.1.Args]) hS Tryz.func183 (fun S h1 h2 h3=>(cX hy6 h2 (zz h1))) z z ?_)
 rintro v4 W hS
 have hT:=hS.to [2,2]
 refine ⟨fun _=>hT,.by1 7 z (.st T.t158 hS.p3 z z z ?_)⟩
 intro W hS
 refine ⟨fun h=>absurd z h,?_⟩
 cases h
 exact .done (.ret (ac (vs:=[_]) v4 (rc hS T.t158 z rn z z) z (hS.to [2,1])))
theorem oC (k : Nat) : j9 (dT k):=by
  induction k with
  | zero=>exact by intro a0 a1 ar g_0 S w r h aH hO hlt; exact no h
  | succ k ih=>exact tx (k:=k) ih
theorem jk {k : Nat} : j9 (dT k):=(oC k)
theorem nT {k : Nat} {a0 : aL} {ar : Hd} {g_0 : Nat} {S : Nat → Prop} {w : World} {r : aw × Int} (h : js k a0 = some r) (aH : RV w (Old S w) (sv ar) 5 1 (D.int .u8) a0.b) (hO : bJ w [.box g_0 74 [(sv ar),vi a0.p]] S) (hlt : ∀ b,S b → b < w.heap.size) : Cl 162 #[pt g_0] w (Ret S w (fun s : Hd × Hd × Hd=>.agg #[vi r.1.Kind,vi r.1.Var,vi r.1.Box,vi r.1.Expr.Op,vi r.1.Expr.N,(sv s.1),(sv s.2.1),(sv s.2.2)]) (fun s=>[.box g_0 74 [(sv ar),vi r.2],ae (sv s.1) 158 3 a7 r.1.Expr.Args,ae (sv s.2.1) 160 8 aA r.1.Body,ae (sv s.2.2) 160 8 aA r.1.Else])):=by
 unfold js at h
 refine au Tryz.func162 z z ?_
 have hS:=Sep.sm hO hlt
 refine .g (.c (.alloc T.t160 hS ?_))
 intro g1 W hS
 refine .nil (.g (.q z ?_))
 have ⟨y1,hy1,h⟩:=bnd h
 have hS:=hS.p1
 refine .c (.cS (L0:=[.box g_0 74 [(sv ar),vi a0.p]]) hS Tryz.func18 (fun S h1 h2 h3=>(ak hy1 (hS.ks aH h1) h2 (zz h1))) z z ?_)
 rintro ⟨⟩ W hS
 refine .qn z (.g (.q z (.q z (.q z ?_))))
 have ⟨y2,hy2,h⟩:=bnd h
 refine .c (.cS (L0:=[.box g_0 74 [(sv ar),vi y1.2]]) hS Tryz.func18 (fun S h1 h2 h3=>(ak hy2 (hS.ks aH h1) h2 (zz h1))) z z ?_)
 rintro ⟨⟩ W hS
 refine .q z ?_
 have ⟨y3,hy3,h⟩:=bnd h
 refine .c (.cS (L0:=[.box g_0 74 [(sv ar),vi y2.2]]) hS Tryz.func166 (fun S h1 h2 h3=>(jk hy3 (hS.ks aH h1) h2 (zz h1))) z z ?_)
 rintro v1 W hS
 refine .s (bs T.s160 z z) z (.c (.st T.t160 hS.p2 z z z ?_))
 intro W hS
 refine .nil (.ret ?_)
 have hS:=hS.nilv 160 8 aA
 have hS:=hS.nilv 160 8 aA
 cases h
 exact ac (vs:=[_]) (v1,aN,aN) (rc hS.p2 T.t160 z rn z z) z (hS.to [3,3,1,0])
theorem rK {k : Nat} {a0 : aL} {a1 : Int} {ar : Hd} {g_0 : Nat} {S : Nat → Prop} {w : World} {r : aw × Int} (h : jC k a0 a1 = some r) (aH : RV w (Old S w) (sv ar) 5 1 (D.int .u8) a0.b) (hO : bJ w [.box g_0 74 [(sv ar),vi a0.p]] S) (hlt : ∀ b,S b → b < w.heap.size) : Cl 165 #[pt g_0,vi a1] w (Ret S w (fun s : Hd × Hd × Hd=>.agg #[vi r.1.Kind,vi r.1.Var,vi r.1.Box,vi r.1.Expr.Op,vi r.1.Expr.N,(sv s.1),(sv s.2.1),(sv s.2.2)]) (fun s=>[.box g_0 74 [(sv ar),vi r.2],ae (sv s.1) 158 3 a7 r.1.Expr.Args,ae (sv s.2.1) 160 8 aA r.1.Body,ae (sv s.2.2) 160 8 aA r.1.Else])):=by
 unfold jC at h
 refine au Tryz.func165 z z ?_
 have hS:=Sep.sm hO hlt
 refine .g (.c (.alloc T.t160 hS ?_))
 intro g1 W hS
 refine .nil (.seq (.g (.q z (.qn z (.cond z (fun hb=>?_) (fun hb=>?_))))))
 ·have h:=aI hb h
  refine .g (.q z ?_)
  have ⟨y1,hy1,h⟩:=bnd h
  have hS:=hS.p1
  refine .c (.cS (L0:=[.box g_0 74 [(sv ar),vi a0.p]]) hS Tryz.func162 (fun S h1 h2 h3=>(nT hy1 (hS.ks aH h1) h2 (zz h1))) z z ?_)
  rintro ⟨v1,v2,v3⟩ W hS
  refine .c (.st T.t160 hS.p4 z z z ?_)
  intro W hS
  cases h
  exact .nil (.ret (ac (vs:=[_]) (v1,v2,v3) (rc hS T.t160 z rn z z) z (hS.to [1,1,1,1])))
 have h:=aJ hb h
 refine .skip (.g (.q z (.q z ?_)))
 have ⟨y2,hy2,h⟩:=bnd h
 have hS:=hS.p1
 refine .c (.cS (L0:=[.box g_0 74 [(sv ar),vi a0.p]]) hS Tryz.func18 (fun S h1 h2 h3=>(ak hy2 (hS.ks aH h1) h2 (zz h1))) z z ?_)
 rintro ⟨⟩ W hS
 refine .qn z (.seq (.g (.q z ?_)))
 have ⟨y3,hy3,h⟩:=bnd h
 refine .c (.cS (L0:=[.box g_0 74 [(sv ar),vi y2.2]]) hS Tryz.func18 (fun S h1 h2 h3=>(ak hy3 (hS.ks aH h1) h2 (zz h1))) z z ?_)
 rintro ⟨⟩ W hS
 refine .qn z (.cond z (fun hb=>?_) (fun hb=>?_))
 ·have h:=aI hb h
  refine .g (.q z (.q z (.q z ?_)))
  have ⟨y4,hy4,h⟩:=bnd h
  refine .c (.cS (L0:=[.box g_0 74 [(sv ar),vi y3.2]]) hS Tryz.func18 (fun S h1 h2 h3=>(ak hy4 (hS.ks aH h1) h2 (zz h1))) z z ?_)
  rintro ⟨⟩ W hS
  refine .q z ?_
  have ⟨y5,hy5,h⟩:=bnd h
  refine .c (.cS (L0:=[.box g_0 74 [(sv ar),vi y4.2]]) hS Tryz.func166 (fun S h1 h2 h3=>(jk hy5 (hS.ks aH h1) h2 (zz h1))) z z ?_)
  rintro v4 W hS
  refine .s (bs T.s160 z z) z (.c (.st T.t160 hS.p2 z z z ?_))
  intro W hS
  refine .nil (.ret ?_)
  have hS:=hS.nilv 160 8 aA
  have hS:=hS.nilv 160 8 aA
  cases h
  exact ac (vs:=[_]) (v4,aN,aN) (rc hS.p2 T.t160 z rn z z) z (hS.to [3,3,1,0])
 have h:=aJ hb h
 refine .skip (.g (.q z (.q z ?_)))
 have ⟨y6,hy6,h⟩:=bnd h
 refine .c (.cS (L0:=[.box g_0 74 [(sv ar),vi y3.2]]) hS Tryz.func18 (fun S h1 h2 h3=>(ak hy6 (hS.ks aH h1) h2 (zz h1))) z z ?_)
 rintro ⟨⟩ W hS
 refine .s (bs T.s160 z z) z (.c (.st T.t160 hS.p1 z z z ?_))
 intro W hS
 refine .nil (.ret ?_)
 have hS:=hS.nilv 158 3 a7
 have hS:=hS.nilv 160 8 aA
 have hS:=hS.nilv 160 8 aA
 cases h
 exact ac (vs:=[_]) (aN,aN,aN) (rc hS.p3 T.t160 z rn z z) z (hS.to [4,2,1,0])
def dN (F : aL → Int → Int → Int → Bool → Option ((List aw) × Int)) : Prop:=∀ {a0 : aL} {a1 : Int} {a2 : Int} {a3 : Int} {a4 : Bool} {ar : Hd} {g_0 : Nat} {S : Nat → Prop} {w : World} {r : (List aw) × Int} (h : F a0 a1 a2 a3 a4 = some r) (aH : RV w (Old S w) (sv ar) 5 1 (D.int .u8) a0.b) (hO : bJ w [.box g_0 74 [(sv ar),vi a0.p]] S) (hlt : ∀ b,S b → b < w.heap.size) , Cl 122 #[pt g_0,vi a1,vi a2,vi a3,.bool a4] w (Ret S w (fun s : Hd=>(sv s)) (fun s=>[.box g_0 74 [(sv ar),vi r.2],ae (sv s) 160 8 aA r.1]))
def fA (F : aL → Int → Int → Bool → Option ((List aw) × Int)) : Prop:=∀ {a0 : aL} {a1 : Int} {a2 : Int} {a3 : Bool} {ar : Hd} {g_0 : Nat} {S : Nat → Prop} {w : World} {r : (List aw) × Int} (h : F a0 a1 a2 a3 = some r) (aH : RV w (Old S w) (sv ar) 5 1 (D.int .u8) a0.b) (hO : bJ w [.box g_0 74 [(sv ar),vi a0.p]] S) (hlt : ∀ b,S b → b < w.heap.size) , Cl 146 #[pt g_0,vi a1,vi a2,.bool a3] w (Ret S w (fun s : Hd=>(sv s)) (fun s=>[.box g_0 74 [(sv ar),vi r.2],ae (sv s) 160 8 aA r.1]))
def il (F : aL → Int → Int → Bool → Option (aw × Int)) : Prop:=∀ {a0 : aL} {a1 : Int} {a2 : Int} {a3 : Bool} {ar : Hd} {g_0 : Nat} {S : Nat → Prop} {w : World} {r : aw × Int} (h : F a0 a1 a2 a3 = some r) (aH : RV w (Old S w) (sv ar) 5 1 (D.int .u8) a0.b) (hO : bJ w [.box g_0 74 [(sv ar),vi a0.p]] S) (hlt : ∀ b,S b → b < w.heap.size) , Cl 163 #[pt g_0,vi a1,vi a2,.bool a3] w (Ret S w (fun s : Hd × Hd × Hd=>.agg #[vi r.1.Kind,vi r.1.Var,vi r.1.Box,vi r.1.Expr.Op,vi r.1.Expr.N,(sv s.1),(sv s.2.1),(sv s.2.2)]) (fun s=>[.box g_0 74 [(sv ar),vi r.2],ae (sv s.1) 158 3 a7 r.1.Expr.Args,ae (sv s.2.1) 160 8 aA r.1.Body,ae (sv s.2.2) 160 8 aA r.1.Else]))
def fB (F : aL → Int → Int → Option ((List aw) × Int)) : Prop:=∀ {a0 : aL} {a1 : Int} {a2 : Int} {ar : Hd} {g_0 : Nat} {S : Nat → Prop} {w : World} {r : (List aw) × Int} (h : F a0 a1 a2 = some r) (aH : RV w (Old S w) (sv ar) 5 1 (D.int .u8) a0.b) (hO : bJ w [.box g_0 74 [(sv ar),vi a0.p]] S) (hlt : ∀ b,S b → b < w.heap.size) , Cl 164 #[pt g_0,vi a1,vi a2] w (Ret S w (fun s : Hd=>(sv s)) (fun s=>[.box g_0 74 [(sv ar),vi r.2],ae (sv s) 160 8 aA r.1]))
theorem rL {k : Nat} {ba : aL → Int → Int → Int → Bool → Option ((List aw) × Int)} {bo : aL → Int → Int → Bool → Option ((List aw) × Int)} {cf : aL → Int → Int → Bool → Option (aw × Int)} {bF : aL → Int → Int → Option ((List aw) × Int)} (eb : dN ba) (jl : fA bo) (kV : il cf) (jm : fB bF) : dN (fQ k ba bo cf bF):=by
 intro a0 a1 a2 a3 a4 ar g_0 S w r h aH hO hlt
 unfold fQ at h
 refine au Tryz.func122 z z ?_
 have hS:=Sep.sm hO hlt
 refine .g (.qn z (.g (.c (.lg (L1:=[]) [] aA T.u123 T.t160 (hS.to [0]) z z z (.nil) ?_ z kh))))
 intro v1 W hS
 refine .qn z (.seq (.g (.qn z (.block ?_))))
 have ⟨y1,hy1,h⟩:=bnd h
 refine .via (.iter (fun s1 E' W'=>∃ (v4 : Hd),aD E' [(0,pt g_0),(1,vi a1),(2,vi a2),(3,vi a3),(4,.bool a4),(11,(sv v4)),(12,vi s1.2.1)] ∧ Sep S w W' [.box g_0 74 [(sv ar),vi s1.2.2],ae (sv v4) 160 8 aA s1.1]) (fun y2 x E' W'=>x = .exit 0 ∧ ∃ (v5 : Hd),aD E' [(11,(sv v5))] ∧ Sep S w W' [.box g_0 74 [(sv ar),vi y2.2],ae (sv v5) 160 8 aA y2.1]) hy1 ⟨v1,sb z,hS.to [1,0]⟩ ?_) ?_
 ·intro s1 y3 E W h hI
  obtain ⟨v3,hE,hS⟩:=hI
  refine CW.sub hE ?_
  unfold km at h
  refine .seq (.g (.q z (.q z (.qn z (.cond z (fun hb=>?_) (fun hb=>?_))))))
  ·have h:=aI hb h
   refine .skip (.seq (.block (.region (.q z (.q z (.q z (.q z (.q z ?_))))))))
   have ⟨y4,hy4,h⟩:=bnd h
   refine .c (.cS (L0:=[.box g_0 74 [(sv ar),vi s1.2.2]]) hS Tryz.func146 (fun S h1 h2 h3=>(jl hy4 (hS.ks aH h1) h2 (zz h1))) z z ?_)
   rintro v6 W hS
   have ⟨r1,hr1,h⟩:=bnd h
   refine .c (.appv hr1 (hS.to [2,1,0]) T.u123 T.t160 z z z ?_)
   intro v7 W hS
   refine .qn z (.region (.q z (.q z (.q z (.nil ?_)))))
   cases h
   exact ⟨z,v7,sb z,hS.to [1,0]⟩
  have h:=aJ hb h
  refine .exit ?_
  cases h
  exact ⟨by simp,z,v3,sb z,hS.to [0,0]⟩
 intro x E W hJ
 obtain ⟨rfl,v8,hE,hS⟩:=hJ
 refine ⟨_,hE.sub,?_⟩
 cases h
 exact .g (.q z (.qn z (.ret (ac (vs:=[_]) v8 (rt z rn) z (hS.to [0,0])))))
def tz (w : World) (S : Nat → Prop) (ar : Hd) (g_0 : Nat) (a0 : aL) (a1 : Int) (a2 : Int) (a3 : Bool) (r : (List aw) × Int) : Env → World → Prop:=Fin Tryz.prog Tryz.f146 S w (fun s : Hd=>(sv s)) (fun s=>[.box g_0 74 [(sv ar),vi r.2],ae (sv s) 160 8 aA r.1]) .ret
theorem tA {k : Nat} {ba : aL → Int → Int → Int → Bool → Option ((List aw) × Int)} {bo : aL → Int → Int → Bool → Option ((List aw) × Int)} {cf : aL → Int → Int → Bool → Option (aw × Int)} {bF : aL → Int → Int → Option ((List aw) × Int)} (eb : dN ba) (jl : fA bo) (kV : il cf) (jm : fB bF) : fA (gy k ba bo cf bF):=by
 intro a0 a1 a2 a3 ar g_0 S w r h aH hO hlt
 unfold gy at h
 refine au Tryz.func146 z z ?_
 have hS:=Sep.sm hO hlt
 refine .g (.q z (.nil ?_))
 have ⟨y1,hy1,h⟩:=bnd h
 refine .seq (CW.via (R':=fun x E' W'=>(match y1 with | .inl o1=>x = .normal ∧ aD E' [(0,pt g_0)] ∧ Sep S w W' [.box g_0 74 [(sv ar),vi o1]] | .inr o2=>x = .ret ∧ tz w S ar g_0 a0 a1 a2 a3 o2 E' W')) ?_ ?_)
 ·have h:=hy1
  refine .g (.q z ?_)
  have ⟨y2,hy2,h⟩:=bnd h
  refine .c (.cS (L0:=[.box g_0 74 [(sv ar),vi a0.p]]) hS Tryz.func18 (fun S h1 h2 h3=>(ak hy2 (hS.ks aH h1) h2 (zz h1))) z z ?_)
  rintro ⟨⟩ W hS
  refine .nil (.block ?_)
  have ⟨y3,hy3,h⟩:=bnd h
  refine .seq (CW.via (R':=fun x E' W'=>x = .normal ∧ aD E' [(0,pt g_0),(1,vi a1),(2,vi a2),(3,.bool a3),(10,vi y2.1),(11,.bool y3)] ∧ Sep S w W' [.box g_0 74 [(sv ar),vi y2.2]]) ?_ ?_)
  ·have h:=hy3
   refine .g (.q z (.q z (.nil ?_)))
   refine .cs z h ?_ ?_ <;> intro h
   ·refine .skip ?_
    cases h
    exact ⟨z,sb z,hS.to [0]⟩
   refine .region (.q z (.q z (.nil ?_)))
   cases h
   exact ⟨z,sb z,hS.to [0]⟩
  intro x E W hJ
  obtain ⟨rfl,hE,hS⟩:=hJ
  refine ⟨_,hE.sub,?_⟩
  refine .cond z (fun hb=>?_) (fun hb=>?_)
  ·have h:=aI hb h
   refine .g (.q z ?_)
   have ⟨y4,hy4,h⟩:=bnd h
   refine .c (.cS (L0:=[.box g_0 74 [(sv ar),vi y2.2]]) hS Tryz.func162 (fun S h1 h2 h3=>(nT hy4 (hS.ks aH h1) h2 (zz h1))) z z ?_)
   rintro ⟨v1,v2,v3⟩ W hS
   refine .c (.lg (L1:=[ae (sv v1) 158 3 a7 y4.1.Expr.Args,ae (sv v2) 160 8 aA y4.1.Body,ae (sv v3) 160 8 aA y4.1.Else]) [(aw.mk y4.1.Kind y4.1.Var y4.1.Box (Expr.mk y4.1.Expr.Op y4.1.Expr.N y4.1.Expr.Args) y4.1.Body y4.1.Else)] aA T.u123 T.t160 (hS.to [1,1,1,0]) z z z (.aggE (gp _) (.flat (c1:=[vi y4.1.Kind]) z (.flat (c1:=[vi y4.1.Var]) z (.flat (c1:=[vi y4.1.Box]) z (.aggE (eC _) (.flat (c1:=[vi y4.1.Expr.Op]) z (.flat (c1:=[vi y4.1.Expr.N]) z (.row (.row (.row .nil)))))))))) ?_ z kh)
   intro v4 W hS
   refine .qn z (.ret ?_)
   cases h
   exact ⟨z,ac (vs:=[_]) v4 (rt z rn) z (hS.to [1,0])⟩
  have h:=aJ hb h
  refine .g (.q z (.q z (.nil ?_)))
  refine .cs z h ?_ ?_ <;> intro h
  ·refine .g (.q z (.qn z (.cond z (fun hb=>?_) (fun hb=>?_))))
   ·have h:=aI hb h
    refine .g (.q z (.q z (.q z (.q z ?_))))
    have ⟨y5,hy5,h⟩:=bnd h
    refine .c (.cS (L0:=[.box g_0 74 [(sv ar),vi y2.2]]) hS Tryz.func163 (fun S h1 h2 h3=>(kV hy5 (hS.ks aH h1) h2 (zz h1))) z z ?_)
    rintro ⟨v5,v6,v7⟩ W hS
    refine .c (.lg (L1:=[ae (sv v5) 158 3 a7 y5.1.Expr.Args,ae (sv v6) 160 8 aA y5.1.Body,ae (sv v7) 160 8 aA y5.1.Else]) [(aw.mk y5.1.Kind y5.1.Var y5.1.Box (Expr.mk y5.1.Expr.Op y5.1.Expr.N y5.1.Expr.Args) y5.1.Body y5.1.Else)] aA T.u123 T.t160 (hS.to [1,1,1,0]) z z z (.aggE (gp _) (.flat (c1:=[vi y5.1.Kind]) z (.flat (c1:=[vi y5.1.Var]) z (.flat (c1:=[vi y5.1.Box]) z (.aggE (eC _) (.flat (c1:=[vi y5.1.Expr.Op]) z (.flat (c1:=[vi y5.1.Expr.N]) z (.row (.row (.row .nil)))))))))) ?_ z kh)
    intro v8 W hS
    refine .qn z (.ret ?_)
    cases h
    exact ⟨z,ac (vs:=[_]) v8 (rt z rn) z (hS.to [1,0])⟩
   have h:=aJ hb h
   refine .skip ?_
   cases h
   exact ⟨z,sb z,hS.to [0]⟩
  refine .g (.q z (.q z (.nil ?_)))
  refine .cs z h ?_ ?_ <;> intro h
  ·refine .g (.q z (.q z (.q z (.cu 2 33 ((decide (a2 > 0)) && a3) hS ?_ ?_))))
   ·refine .both (decide (a2 > 0)) (fun hb=>?_) (fun hb=>?_)
    ·have hg1:=hb
     exact .g hg1 (.q z (.s (pkt hg1 z z z) z (.nil (ck 2 hS z (bM hg1)))))
    exact .xx hb z (.s (pkf hb z z z) z (.nil (ck 2 hS z (bN hb))))
   intro W hS
   refine .nil (.cond z (fun hb=>?_) (fun hb=>?_))
   ·have h:=aI hb h
    refine .g (.q z (.q z (.q z ?_)))
    have ⟨y6,hy6,h⟩:=bnd h
    refine .c (.cS (L0:=[.box g_0 74 [(sv ar),vi y2.2]]) hS Tryz.func164 (fun S h1 h2 h3=>(jm hy6 (hS.ks aH h1) h2 (zz h1))) z z ?_)
    rintro v9 W hS
    refine .qn z (.ret ?_)
    cases h
    exact ⟨z,ac (vs:=[_]) v9 (rt z rn) z (hS.to [0,0])⟩
   have h:=aJ hb h
   refine .skip ?_
   cases h
   exact ⟨z,sb z,hS.to [0]⟩
  have ⟨y7,hy7,h⟩:=bnd h
  refine .seq (CW.via (R':=fun x E' W'=>x = .normal ∧ aD E' [(0,pt g_0),(1,vi a1),(10,vi y2.1),(38,.bool y7)] ∧ Sep S w W' [.box g_0 74 [(sv ar),vi y2.2]]) ?_ ?_)
  ·have h:=hy7
   refine .g (.q z (.q z (.nil ?_)))
   refine .cs z h ?_ ?_ <;> intro h
   ·refine .skip ?_
    cases h
    exact ⟨z,sb z,hS.to [0]⟩
   refine .g (.q z (.q z (.nil ?_)))
   refine .cs z h ?_ ?_ <;> intro h
   ·refine .skip ?_
    cases h
    exact ⟨z,sb z,hS.to [0]⟩
   refine .region (.q z (.q z (.nil ?_)))
   cases h
   exact ⟨z,sb z,hS.to [0]⟩
  intro x E W hJ
  obtain ⟨rfl,hE,hS⟩:=hJ
  refine ⟨_,hE.sub,?_⟩
  refine .cond z (fun hb=>?_) (fun hb=>?_)
  ·have h:=aI hb h
   refine .g (.q z (.q z ?_))
   have ⟨y8,hy8,h⟩:=bnd h
   refine .c (.cS (L0:=[.box g_0 74 [(sv ar),vi y2.2]]) hS Tryz.func165 (fun S h1 h2 h3=>(rK hy8 (hS.ks aH h1) h2 (zz h1))) z z ?_)
   rintro ⟨v10,v11,v12⟩ W hS
   refine .c (.lg (L1:=[ae (sv v10) 158 3 a7 y8.1.Expr.Args,ae (sv v11) 160 8 aA y8.1.Body,ae (sv v12) 160 8 aA y8.1.Else]) [(aw.mk y8.1.Kind y8.1.Var y8.1.Box (Expr.mk y8.1.Expr.Op y8.1.Expr.N y8.1.Expr.Args) y8.1.Body y8.1.Else)] aA T.u123 T.t160 (hS.to [1,1,1,0]) z z z (.aggE (gp _) (.flat (c1:=[vi y8.1.Kind]) z (.flat (c1:=[vi y8.1.Var]) z (.flat (c1:=[vi y8.1.Box]) z (.aggE (eC _) (.flat (c1:=[vi y8.1.Expr.Op]) z (.flat (c1:=[vi y8.1.Expr.N]) z (.row (.row (.row .nil)))))))))) ?_ z kh)
   intro v13 W hS
   refine .qn z (.ret ?_)
   cases h
   exact ⟨z,ac (vs:=[_]) v13 (rt z rn) z (hS.to [1,0])⟩
  have h:=aJ hb h
  refine .g (.q z (.q z (.nil ?_)))
  refine .cs z h ?_ ?_ <;> intro h
  ·refine .g (.s (bs T.s160 z z) z ?_)
   have hS:=hS.nilv 158 3 a7
   have hS:=hS.nilv 160 8 aA
   have hS:=hS.nilv 160 8 aA
   refine .c (.lg (L1:=[ae (sv aN) 158 3 a7 [],ae (sv aN) 160 8 aA [],ae (sv aN) 160 8 aA []]) [(aw.mk 6 0 0 (Expr.mk 0 0 []) [] [])] aA T.u123 T.t160 (hS.to [2,1,0,0]) z z z (.aggE (gp _) (.flat (c1:=[vi 6]) z (.flat (c1:=[vi 0]) z (.flat (c1:=[vi 0]) z (.aggE (eC _) (.flat (c1:=[vi 0]) z (.flat (c1:=[vi 0]) z (.row (.row (.row .nil)))))))))) ?_ z kh)
   intro v14 W hS
   refine .qn z (.ret ?_)
   cases h
   exact ⟨z,ac (vs:=[_]) v14 (rt z rn) z (hS.to [1,0])⟩
  refine .skip ?_
  cases h
  exact ⟨z,sb z,hS.to [0]⟩
 intro x E W hJ
 rcases y1 with o3 | o4
 ·obtain ⟨rfl,hE,hS⟩:=hJ
  refine ⟨_,hE.sub,?_⟩
  refine .g (.q z (.q z ?_))
  have ⟨y9,hy9,h⟩:=bnd h
  refine .c (.cS (L0:=[.box g_0 74 [(sv ar),vi o3]]) hS Tryz.func18 (fun S h1 h2 h3=>(ak hy9 (hS.ks aH h1) h2 (zz h1))) z z ?_)
  rintro ⟨⟩ W hS
  refine .q z ?_
  have ⟨y10,hy10,h⟩:=bnd h
  refine .c (.cS (L0:=[.box g_0 74 [(sv ar),vi y9.2]]) hS Tryz.func166 (fun S h1 h2 h3=>(jk hy10 (hS.ks aH h1) h2 (zz h1))) z z ?_)
  rintro v15 W hS
  refine .s (bs T.s160 z z) z ?_
  have hS:=hS.nilv 160 8 aA
  have hS:=hS.nilv 160 8 aA
  refine .c (.lg (L1:=[ae (sv v15) 158 3 a7 y10.1.Args,ae (sv aN) 160 8 aA [],ae (sv aN) 160 8 aA []]) [(aw.mk 7 0 0 (Expr.mk y10.1.Op y10.1.N y10.1.Args) [] [])] aA T.u123 T.t160 (hS.to [3,1,0,0]) z z z (.aggE (gp _) (.flat (c1:=[vi 7]) z (.flat (c1:=[vi 0]) z (.flat (c1:=[vi 0]) z (.aggE (eC _) (.flat (c1:=[vi y10.1.Op]) z (.flat (c1:=[vi y10.1.N]) z (.row (.row (.row .nil)))))))))) ?_ z kh)
  intro v16 W hS
  cases h
  exact .qn z (.ret (ac (vs:=[_]) v16 (rt z rn) z (hS.to [1,0])))
 obtain ⟨rfl,hF⟩:=hJ
 refine ⟨_,fun _ _ h=>h,?_⟩
 cases h
 exact hF
theorem uV {k : Nat} {ba : aL → Int → Int → Int → Bool → Option ((List aw) × Int)} {bo : aL → Int → Int → Bool → Option ((List aw) × Int)} {cf : aL → Int → Int → Bool → Option (aw × Int)} {bF : aL → Int → Int → Option ((List aw) × Int)} (eb : dN ba) (jl : fA bo) (kV : il cf) (jm : fB bF) : il (jD k ba bo cf bF):=by
 intro a0 a1 a2 a3 ar g_0 S w r h aH hO hlt
 unfold jD at h
 refine au Tryz.func163 z z ?_
 have hS:=Sep.sm hO hlt
 refine .g (.c (.alloc T.t160 hS ?_))
 intro g1 W hS
 refine .nil (.g (.q z (.q z ?_)))
 have ⟨y1,hy1,h⟩:=bnd h
 have hS:=hS.p1
 refine .c (.cS (L0:=[.box g_0 74 [(sv ar),vi a0.p]]) hS Tryz.func18 (fun S h1 h2 h3=>(ak hy1 (hS.ks aH h1) h2 (zz h1))) z z ?_)
 rintro ⟨⟩ W hS
 refine .q z ?_
 have ⟨y2,hy2,h⟩:=bnd h
 refine .c (.cS (L0:=[.box g_0 74 [(sv ar),vi y1.2]]) hS Tryz.func166 (fun S h1 h2 h3=>(jk hy2 (hS.ks aH h1) h2 (zz h1))) z z ?_)
 rintro v1 W hS
 refine .c (.alloc T.t158 hS ?_)
 intro g2 W hS
 refine .c (.st T.t158 hS z z z ?_)
 intro W hS
 refine .nil (.g (.q z (.q z (.q z (.q z (.q z ?_))))))
 have ⟨y3,hy3,h⟩:=bnd h
 have hS:=hS.p1
 refine .c (.cS (L0:=[.box g_0 74 [(sv ar),vi y2.2]]) hS Tryz.func18 (fun S h1 h2 h3=>(ak hy3 (hS.ks aH h1) h2 (zz h1))) z z ?_)
 rintro ⟨⟩ W hS
 refine .q z ?_
 have ⟨y4,hy4,h⟩:=bnd h
 refine .c (.cS (L0:=[.box g_0 74 [(sv ar),vi y3.2]]) hS Tryz.func122 (fun S h1 h2 h3=>(eb hy4 (hS.ks aH h1) h2 (zz h1))) z z ?_)
 rintro v2 W hS
 refine .qn z (.seq (.rk 11 hS [1,1,1,1] T.mix ?_))
 intro W hS
 have hT:=hS.to [1,1,1,1]
 refine .ts' 0 z (fun W hT=>ld T.t158 hT.p1 z z z z z) hT z (.tp' 1 z z hT (.tp' 2 z z hT (.tp' 3 z z hT (.tp' 4 z z hT (.tp' 5 z z hT (.tp' 6 z z hT (.tp' 8 z z hT ?_)))))))
 have ⟨y5,hy5,h⟩:=bnd h
 refine .by1 7 z (.cS (L0:=[.box g_0 74 [(sv ar),vi y4.2]]) hS Tryz.func18 (fun S h1 h2 h3=>(ak hy5 (hS.ks aH h1) h2 (zz h1))) z z ?_)
 rintro ⟨⟩ W hS
 have hT:=hS.to [1,1,1,1]
 refine ⟨fun _=>hT,?_⟩
 have ⟨y6,hy6,h⟩:=bnd h
 refine .by1 9 z (.cS (L0:=[.box g_0 74 [(sv ar),vi y5.2]]) hS Tryz.func122 (fun S h1 h2 h3=>(eb hy6 (hS.ks aH h1) h2 (zz h1))) z z ?_)
 rintro v3 W hS
 have hT:=hS.to [2,2,2,2]
 refine ⟨fun _=>hT,.ts' 10 z (fun W hT=>bs T.s160 z z) hT z (.by1 11 z (.st T.t160 hS.p5 z z z ?_))⟩
 intro W hS
 refine ⟨fun h=>absurd z h,?_⟩
 cases h
 exact .done (.ret (ac (vs:=[_]) (v1,v2,v3) (rc hS T.t160 z rn z z) z (hS.to [1,4,2,1])))
theorem tB {k : Nat} {ba : aL → Int → Int → Int → Bool → Option ((List aw) × Int)} {bo : aL → Int → Int → Bool → Option ((List aw) × Int)} {cf : aL → Int → Int → Bool → Option (aw × Int)} {bF : aL → Int → Int → Option ((List aw) × Int)} (eb : dN ba) (jl : fA bo) (kV : il cf) (jm : fB bF) : fB (gz k ba bo cf bF):=by
 intro a0 a1 a2 ar g_0 S w r h aH hO hlt
 unfold gz at h
 refine au Tryz.func164 z z ?_
 have hS:=Sep.sm hO hlt
 refine .g (.qn z (.g (.qn z (.g (.q z (.q z (.q z (.q z (.q z ?_)))))))))
 have ⟨y1,hy1,h⟩:=bnd h
 refine .c (.cS (L0:=[.box g_0 74 [(sv ar),vi a0.p]]) hS Tryz.func18 (fun S h1 h2 h3=>(ak hy1 (hS.ks aH h1) h2 (zz h1))) z z ?_)
 rintro ⟨⟩ W hS
 have ⟨y2,hy2,h⟩:=bnd h
 refine .c (.cS (L0:=[.box g_0 74 [(sv ar),vi y1.2]]) hS Tryz.func122 (fun S h1 h2 h3=>(eb hy2 (hS.ks aH h1) h2 (zz h1))) z z ?_)
 rintro v1 W hS
 refine .qn z (.g (.q z (.q z ?_)))
 have ⟨y3,hy3,h⟩:=bnd h
 refine .c (.cV hS Tryz.func184 (a9 hy3) z z ?_)
 intro v2 W hS
 have ⟨y4,hy4,h⟩:=bnd h
 refine .c (.cV hS Tryz.func184 (a9 hy4) z z ?_)
 intro v3 W hS
 have ⟨y5,hy5,h⟩:=bnd h
 have hS:=hS.p1
 refine .c (.cS (L0:=[ae (sv v2) 158 3 a7 y3.Args,ae (sv v3) 158 3 a7 y4.Args]) hS Tryz.func183 (fun S h1 h2 h3=>(cX hy5 h2 (zz h1))) z z ?_)
 rintro v4 W hS
 refine .s (bs T.s160 z z) z (.c (.alloc T.t160 hS ?_))
 intro g1 W hS
 refine .c (.st T.t160 hS z z z ?_)
 intro W hS
 refine .nil (.seq ?_)
 have ⟨y6,hy6,h⟩:=bnd h
 have ⟨y7,hy7,h⟩:=bnd h
 have ⟨y8,hy8,h⟩:=bnd h
 have ⟨y9,hy9,h⟩:=bnd h
 have ⟨r1,hr1,h⟩:=bnd h
 refine .via (R':=fun x E' W'=>x = .normal ∧ ∃ (g2 : Nat) (v5 : Hd) (v6 : Hd) (v7 : Hd),aD E' [(7,vi 3),(10,pt g2)] ∧ Sep S w W' [.box g_0 74 [(sv ar),vi y7.2],.box g2 160 [vi 3,vi 0,vi 0,vi y9.Op,vi y9.N,(sv v5),(sv v6),(sv v7)],ae (sv v5) 158 3 a7 y9.Args,ae (sv v6) 160 8 aA r1,ae (sv v7) 160 8 aA []]) ?_ ?_
 ·refine .rk 13 hS [0] T.mix ?_
  intro W hS
  have hT:=hS.to [0]
  refine .memo (fun E' W'=>∃ (v10 : Hd) (v11 : Hd),aD E' [(7,vi 3),(30,.agg #[vi y9.Op,vi y9.N,(sv v10)]),(31,(sv v1)),(33,(sv v11))] ∧ Sep S w W' [.box g1 160 [vi 1,vi 3,vi 0,vi y5.Op,vi y5.N,(sv v4),(sv aN),(sv aN)],.box g_0 74 [(sv ar),vi y7.2],ae (sv v1) 160 8 aA y2.1,ae (sv v10) 158 3 a7 y9.Args,ae (sv v11) 160 8 aA [(aw.mk 1 3 0 (Expr.mk y5.Op y5.N y5.Args) [] [])]]) 4 (mn 14 [0,1,2,3,4,5,6,7,8,9]) ?_ ?_
  ·intro E W hJ
   obtain ⟨v12,v13,hE,hS⟩:=hJ
   refine .sub hE ?_
   have hT:=hS.to [0]
   refine .by [10,12] ⟨⟨_,z,?_⟩,⟨_,z,?_⟩,trivial⟩
   ·refine (.appv hr1 (hS.to [2,3,0,0,0]) T.u123 T.t160 z z z ?_)
    intro v14 W hS
    have hT:=hS.to [1]
    refine ⟨fun _=>hT,.ts' 11 z (fun W hT=>bs T.s160 z z) hT z (.by1 12 z (.alloc T.t160 hS ?_))⟩
    intro g3 W hS
    have hT:=hS.to [2]
    refine ⟨fun _=>hT,.by1 13 z (.st T.t160 hS z z z ?_)⟩
    intro W hS
    refine ⟨fun h=>absurd z h,?_⟩
    refine .done ?_
    have hS:=hS.nilv 160 8 aA
    exact ⟨z,g3,v12,v14,aN,sb z,hS.to [4,1,3,1,0]⟩
   refine (.alloc T.t160 hS ?_)
   intro g4 W hS
   have hT:=hS.to [1]
   refine ⟨fun _=>hT,.by1 10 z (.appv hr1 (hS.to [3,4,0,0,0,0]) T.u123 T.t160 z z z ?_)⟩
   intro v15 W hS
   have hT:=hS.to [2]
   refine ⟨fun _=>hT,.ts' 11 z (fun W hT=>bs T.s160 z z) hT z (.by1 13 z (.st T.t160 hS.p1 z z z ?_))⟩
   intro W hS
   refine ⟨fun h=>absurd z h,?_⟩
   refine .done ?_
   have hS:=hS.nilv 160 8 aA
   exact ⟨z,g4,v12,v15,aN,sb z,hS.to [4,1,3,1,0]⟩
  intro J1
  refine .memo (fun E' W'=>∃ (g6 : Nat) (v17 : Hd),aD E' [(7,vi 3),(10,pt g6),(30,.agg #[vi y9.Op,vi y9.N,(sv v17)]),(31,(sv v1)),(32,.agg #[vi 1,vi 3,vi 0,vi y5.Op,vi y5.N,(sv v4),(sv aN),(sv aN)])] ∧ Sep S w W' [.box g1 160 [vi 1,vi 3,vi 0,vi y5.Op,vi y5.N,(sv v4),(sv aN),(sv aN)],ae (sv v4) 158 3 a7 y5.Args,.box g_0 74 [(sv ar),vi y7.2],ae (sv v1) 160 8 aA y2.1,.box g6 160 [vi 0,vi 0,vi 0,vi 0,vi 0,(sv aN),(sv aN),(sv aN)],ae (sv v17) 158 3 a7 y9.Args]) 4 (mn 14 [0,1,2,3,4,5,6,7,8,12]) ?_ ?_
  ·intro E W hJ
   obtain ⟨g7,v18,hE,hS⟩:=hJ
   refine .sub hE ?_
   have hT:=hS.to [0]
   have hS:=hS.nilv 160 8 aA
   have hS:=hS.nilv 160 8 aA
   refine .by1 9 z (.lg (L1:=[ae (sv v4) 158 3 a7 y5.Args,ae (sv aN) 160 8 aA [],ae (sv aN) 160 8 aA []]) [(aw.mk 1 3 0 (Expr.mk y5.Op y5.N y5.Args) [] [])] aA T.u123 T.t160 (hS.to [3,1,0,0,0,0,0,0]) z z z (.aggE (gp _) (.flat (c1:=[vi 1]) z (.flat (c1:=[vi 3]) z (.flat (c1:=[vi 0]) z (.aggE (eC _) (.flat (c1:=[vi y5.Op]) z (.flat (c1:=[vi y5.N]) z (.row (.row (.row .nil)))))))))) ?_ z kh)
   intro v19 W hS
   have hT:=hS.to [1]
   refine ⟨fun _=>hT,.by1 10 z (.appv hr1 (hS.to [3,0,0,0,0,0]) T.u123 T.t160 z z z ?_)⟩
   intro v20 W hS
   have hT:=hS.to [1]
   refine ⟨fun _=>hT,.ts' 11 z (fun W hT=>bs T.s160 z z) hT z (.by1 13 z (.st T.t160 hS.p3 z z z ?_))⟩
   intro W hS
   refine ⟨fun h=>absurd z h,?_⟩
   refine .done ?_
   have hS:=hS.nilv 160 8 aA
   exact ⟨z,g7,v18,v20,aN,sb z,hS.to [4,1,3,1,0]⟩
  intro J2
  refine .memo (fun E' W'=>∃ (g9 : Nat) (v24 : Hd) (v25 : Hd) (v26 : Hd),aD E' [(7,vi 3),(10,pt g9),(25,.agg #[vi y6.Op,vi y6.N,(sv v24)]),(29,.agg #[vi y8.Op,vi y8.N,(sv v25)]),(31,(sv v1)),(33,(sv v26))] ∧ Sep S w W' [.box g1 160 [vi 1,vi 3,vi 0,vi y5.Op,vi y5.N,(sv v4),(sv aN),(sv aN)],.box g_0 74 [(sv ar),vi y7.2],ae (sv v1) 160 8 aA y2.1,.box g9 160 [vi 0,vi 0,vi 0,vi 0,vi 0,(sv aN),(sv aN),(sv aN)],ae (sv v24) 158 3 a7 y6.Args,ae (sv v25) 158 3 a7 y8.Args,ae (sv v26) 160 8 aA [(aw.mk 1 3 0 (Expr.mk y5.Op y5.N y5.Args) [] [])]]) 4 (mn 14 [0,1,2,3,4,5,7,8,9,12]) ?_ ?_
  ·intro E W hJ
   obtain ⟨g10,v27,v28,v29,hE,hS⟩:=hJ
   refine .sub hE ?_
   have hT:=hS.to [0]
   have hS:=hS.p5
   have hS:=hS.p5
   refine .by1 6 z (.cS (L0:=[ae (sv v27) 158 3 a7 y6.Args,ae (sv v28) 158 3 a7 y8.Args]) hS Tryz.func183 (fun S h1 h2 h3=>(cX hy9 h2 (zz h1))) z z ?_)
   rintro v30 W hS
   have hT:=hS.to [1]
   refine ⟨fun _=>hT,.by1 10 z (.appv hr1 (hS.to [3,4,0,0,0,0]) T.u123 T.t160 z z z ?_)⟩
   intro v31 W hS
   have hT:=hS.to [2]
   refine ⟨fun _=>hT,.ts' 11 z (fun W hT=>bs T.s160 z z) hT z (.by1 13 z (.st T.t160 hS.p4 z z z ?_))⟩
   intro W hS
   refine ⟨fun h=>absurd z h,?_⟩
   refine .done ?_
   have hS:=hS.nilv 160 8 aA
   exact ⟨z,g10,v30,v31,aN,sb z,hS.to [5,1,2,1,0]⟩
  intro J3
  refine .memo (fun E' W'=>∃ (v35 : Hd) (v36 : Hd) (v37 : Hd),aD E' [(7,vi 3),(25,.agg #[vi y6.Op,vi y6.N,(sv v35)]),(29,.agg #[vi y8.Op,vi y8.N,(sv v36)]),(31,(sv v1)),(33,(sv v37))] ∧ Sep S w W' [.box g1 160 [vi 1,vi 3,vi 0,vi y5.Op,vi y5.N,(sv v4),(sv aN),(sv aN)],.box g_0 74 [(sv ar),vi y7.2],ae (sv v1) 160 8 aA y2.1,ae (sv v35) 158 3 a7 y6.Args,ae (sv v36) 158 3 a7 y8.Args,ae (sv v37) 160 8 aA [(aw.mk 1 3 0 (Expr.mk y5.Op y5.N y5.Args) [] [])]]) 5 (mn 14 [0,1,2,3,4,5,7,8,9]) ?_ ?_
  ·intro E W hJ
   obtain ⟨v38,v39,v40,hE,hS⟩:=hJ
   refine .sub hE ?_
   have hT:=hS.to [0]
   refine .by [6,12] ⟨⟨_,z,?_⟩,⟨_,z,?_⟩,trivial⟩
   ·have hS:=hS.p4
    have hS:=hS.p4
    refine (.cS (L0:=[ae (sv v38) 158 3 a7 y6.Args,ae (sv v39) 158 3 a7 y8.Args]) hS Tryz.func183 (fun S h1 h2 h3=>(cX hy9 h2 (zz h1))) z z ?_)
    rintro v41 W hS
    have hT:=hS.to [1]
    refine ⟨fun _=>hT,?_⟩
    exact .atl (J1 _ _ ⟨v41,v40,sb z,hS.to [1,1,1,0,0]⟩) (by kernel_rfl)
   refine (.alloc T.t160 hS ?_)
   intro g11 W hS
   have hT:=hS.to [1]
   refine ⟨fun _=>hT,?_⟩
   exact .atl (J3 _ _ ⟨g11,v38,v39,v40,sb z,hS.to [1,1,1,0,0,0,0]⟩) (by kernel_rfl)
  intro J4
  refine .memo (fun E' W'=>∃ (g13 : Nat) (v44 : Hd) (v45 : Hd),aD E' [(7,vi 3),(10,pt g13),(25,.agg #[vi y6.Op,vi y6.N,(sv v44)]),(29,.agg #[vi y8.Op,vi y8.N,(sv v45)]),(31,(sv v1)),(32,.agg #[vi 1,vi 3,vi 0,vi y5.Op,vi y5.N,(sv v4),(sv aN),(sv aN)])] ∧ Sep S w W' [.box g1 160 [vi 1,vi 3,vi 0,vi y5.Op,vi y5.N,(sv v4),(sv aN),(sv aN)],ae (sv v4) 158 3 a7 y5.Args,.box g_0 74 [(sv ar),vi y7.2],ae (sv v1) 160 8 aA y2.1,.box g13 160 [vi 0,vi 0,vi 0,vi 0,vi 0,(sv aN),(sv aN),(sv aN)],ae (sv v44) 158 3 a7 y6.Args,ae (sv v45) 158 3 a7 y8.Args]) 5 (mn 14 [0,1,2,3,4,5,7,8,12]) ?_ ?_
  ·intro E W hJ
   obtain ⟨g14,v46,v47,hE,hS⟩:=hJ
   refine .sub hE ?_
   have hT:=hS.to [0]
   refine .by [6,9] ⟨⟨_,z,?_⟩,⟨_,z,?_⟩,trivial⟩
   ·have hS:=hS.p6
    have hS:=hS.p6
    refine (.cS (L0:=[ae (sv v46) 158 3 a7 y6.Args,ae (sv v47) 158 3 a7 y8.Args]) hS Tryz.func183 (fun S h1 h2 h3=>(cX hy9 h2 (zz h1))) z z ?_)
    rintro v48 W hS
    have hT:=hS.to [1]
    refine ⟨fun _=>hT,?_⟩
    exact .atl (J2 _ _ ⟨g14,v48,sb z,hS.to [1,1,1,1,1,0]⟩) (by kernel_rfl)
   have hS:=hS.nilv 160 8 aA
   have hS:=hS.nilv 160 8 aA
   refine (.lg (L1:=[ae (sv v4) 158 3 a7 y5.Args,ae (sv aN) 160 8 aA [],ae (sv aN) 160 8 aA []]) [(aw.mk 1 3 0 (Expr.mk y5.Op y5.N y5.Args) [] [])] aA T.u123 T.t160 (hS.to [3,1,0,0,0,0,0,0,0]) z z z (.aggE (gp _) (.flat (c1:=[vi 1]) z (.flat (c1:=[vi 3]) z (.flat (c1:=[vi 0]) z (.aggE (eC _) (.flat (c1:=[vi y5.Op]) z (.flat (c1:=[vi y5.N]) z (.row (.row (.row .nil)))))))))) ?_ z kh)
   intro v49 W hS
   have hT:=hS.to [1]
   refine ⟨fun _=>hT,?_⟩
   exact .atl (J3 _ _ ⟨g14,v46,v47,v49,sb z,hS.to [1,1,1,1,1,1,0]⟩) (by kernel_rfl)
  intro J5
  refine .memo (fun E' W'=>∃ (g16 : Nat) (v52 : Hd) (v53 : Hd),aD E' [(7,vi 3),(10,pt g16),(25,.agg #[vi y6.Op,vi y6.N,(sv v52)]),(28,vi (w64 (1 + y7.1))),(31,(sv v1)),(33,(sv v53))] ∧ Sep S w W' [.box g1 160 [vi 1,vi 3,vi 0,vi y5.Op,vi y5.N,(sv v4),(sv aN),(sv aN)],.box g_0 74 [(sv ar),vi y7.2],ae (sv v1) 160 8 aA y2.1,.box g16 160 [vi 0,vi 0,vi 0,vi 0,vi 0,(sv aN),(sv aN),(sv aN)],ae (sv v52) 158 3 a7 y6.Args,ae (sv v53) 160 8 aA [(aw.mk 1 3 0 (Expr.mk y5.Op y5.N y5.Args) [] [])]]) 5 (mn 14 [0,1,2,3,4,7,8,9,12]) ?_ ?_
  ·intro E W hJ
   obtain ⟨g17,v54,v55,hE,hS⟩:=hJ
   refine .sub hE ?_
   have hT:=hS.to [0]
   refine .by1 5 z (.cV hS Tryz.func184 (a9 hy8) z z ?_)
   intro v56 W hS
   have hT:=hS.to [1]
   refine ⟨fun _=>hT,?_⟩
   have hS:=hS.p5
   refine .by1 6 z (.cS (L0:=[ae (sv v54) 158 3 a7 y6.Args,ae (sv v56) 158 3 a7 y8.Args]) hS Tryz.func183 (fun S h1 h2 h3=>(cX hy9 h2 (zz h1))) z z ?_)
   rintro v57 W hS
   have hT:=hS.to [1]
   refine ⟨fun _=>hT,.by1 10 z (.appv hr1 (hS.to [3,4,0,0,0,0]) T.u123 T.t160 z z z ?_)⟩
   intro v58 W hS
   have hT:=hS.to [2]
   refine ⟨fun _=>hT,.ts' 11 z (fun W hT=>bs T.s160 z z) hT z (.by1 13 z (.st T.t160 hS.p4 z z z ?_))⟩
   intro W hS
   refine ⟨fun h=>absurd z h,?_⟩
   refine .done ?_
   have hS:=hS.nilv 160 8 aA
   exact ⟨z,g17,v57,v58,aN,sb z,hS.to [5,1,2,1,0]⟩
  intro J6
  refine .memo (fun E' W'=>∃ (g19 : Nat) (v61 : Hd) (v62 : Hd),aD E' [(7,vi 3),(10,pt g19),(25,.agg #[vi y6.Op,vi y6.N,(sv v61)]),(26,pt g_0),(31,(sv v1)),(33,(sv v62))] ∧ Sep S w W' [.box g1 160 [vi 1,vi 3,vi 0,vi y5.Op,vi y5.N,(sv v4),(sv aN),(sv aN)],.box g_0 74 [(sv ar),vi y2.2],ae (sv v1) 160 8 aA y2.1,.box g19 160 [vi 0,vi 0,vi 0,vi 0,vi 0,(sv aN),(sv aN),(sv aN)],ae (sv v61) 158 3 a7 y6.Args,ae (sv v62) 160 8 aA [(aw.mk 1 3 0 (Expr.mk y5.Op y5.N y5.Args) [] [])]]) 7 (mn 14 [0,1,2,7,8,9,12]) ?_ ?_
  ·intro E W hJ
   obtain ⟨g20,v63,v64,hE,hS⟩:=hJ
   refine .sub hE ?_
   have hT:=hS.to [0]
   have hS:=hS.p1
   refine .by1 3 z (.cS (L0:=[.box g_0 74 [(sv ar),vi y2.2]]) hS Tryz.func18 (fun S h1 h2 h3=>(ak hy7 (hS.ks aH h1) h2 (zz h1))) z z ?_)
   rintro ⟨⟩ W hS
   have hT:=hS.to [1]
   refine ⟨fun _=>hT,.tp' 4 z z hT (.by1 5 z (.cV hS Tryz.func184 (a9 hy8) z z ?_))⟩
   intro v65 W hS
   have hT:=hS.to [2]
   refine ⟨fun _=>hT,?_⟩
   have hS:=hS.p5
   refine .by1 6 z (.cS (L0:=[ae (sv v63) 158 3 a7 y6.Args,ae (sv v65) 158 3 a7 y8.Args]) hS Tryz.func183 (fun S h1 h2 h3=>(cX hy9 h2 (zz h1))) z z ?_)
   rintro v66 W hS
   have hT:=hS.to [2]
   refine ⟨fun _=>hT,.by1 10 z (.appv hr1 (hS.to [3,4,0,0,0,0]) T.u123 T.t160 z z z ?_)⟩
   intro v67 W hS
   have hT:=hS.to [3]
   refine ⟨fun _=>hT,.ts' 11 z (fun W hT=>bs T.s160 z z) hT z (.by1 13 z (.st T.t160 hS.p4 z z z ?_))⟩
   intro W hS
   refine ⟨fun h=>absurd z h,?_⟩
   refine .done ?_
   have hS:=hS.nilv 160 8 aA
   exact ⟨z,g20,v66,v67,aN,sb z,hS.to [4,1,2,1,0]⟩
  intro J7
  refine .memo (fun E' W'=>∃ (v70 : Hd) (v71 : Hd),aD E' [(7,vi 3),(25,.agg #[vi y6.Op,vi y6.N,(sv v70)]),(26,pt g_0),(31,(sv v1)),(33,(sv v71))] ∧ Sep S w W' [.box g1 160 [vi 1,vi 3,vi 0,vi y5.Op,vi y5.N,(sv v4),(sv aN),(sv aN)],.box g_0 74 [(sv ar),vi y2.2],ae (sv v1) 160 8 aA y2.1,ae (sv v70) 158 3 a7 y6.Args,ae (sv v71) 160 8 aA [(aw.mk 1 3 0 (Expr.mk y5.Op y5.N y5.Args) [] [])]]) 8 (mn 14 [0,1,2,7,8,9]) ?_ ?_
  ·intro E W hJ
   obtain ⟨v72,v73,hE,hS⟩:=hJ
   refine .sub hE ?_
   have hT:=hS.to [0]
   refine .by [3,12] ⟨⟨_,z,?_⟩,⟨_,z,?_⟩,trivial⟩
   ·have hS:=hS.p1
    refine (.cS (L0:=[.box g_0 74 [(sv ar),vi y2.2]]) hS Tryz.func18 (fun S h1 h2 h3=>(ak hy7 (hS.ks aH h1) h2 (zz h1))) z z ?_)
    rintro ⟨⟩ W hS
    have hT:=hS.to [1]
    refine ⟨fun _=>hT,.tp' 4 z z hT (.by [5,12] ⟨⟨_,z,?_⟩,⟨_,z,?_⟩,trivial⟩)⟩
    ·refine (.cV hS Tryz.func184 (a9 hy8) z z ?_)
     intro v74 W hS
     have hT:=hS.to [2]
     refine ⟨fun _=>hT,?_⟩
     exact .atl (J4 _ _ ⟨v72,v74,v73,sb z,hS.to [2,1,1,1,0,0]⟩) (by kernel_rfl)
    refine (.alloc T.t160 hS ?_)
    intro g21 W hS
    have hT:=hS.to [2]
    refine ⟨fun _=>hT,?_⟩
    exact .atl (J6 _ _ ⟨g21,v72,v73,sb z,hS.to [2,1,1,0,0,0]⟩) (by kernel_rfl)
   refine (.alloc T.t160 hS ?_)
   intro g22 W hS
   have hT:=hS.to [1]
   refine ⟨fun _=>hT,?_⟩
   exact .atl (J7 _ _ ⟨g22,v72,v73,sb z,hS.to [1,1,1,0,0,0]⟩) (by kernel_rfl)
  intro J8
  refine .memo (fun E' W'=>∃ (g24 : Nat) (v76 : Hd),aD E' [(7,vi 3),(10,pt g24),(25,.agg #[vi y6.Op,vi y6.N,(sv v76)]),(26,pt g_0),(31,(sv v1)),(32,.agg #[vi 1,vi 3,vi 0,vi y5.Op,vi y5.N,(sv v4),(sv aN),(sv aN)])] ∧ Sep S w W' [.box g1 160 [vi 1,vi 3,vi 0,vi y5.Op,vi y5.N,(sv v4),(sv aN),(sv aN)],ae (sv v4) 158 3 a7 y5.Args,.box g_0 74 [(sv ar),vi y2.2],ae (sv v1) 160 8 aA y2.1,.box g24 160 [vi 0,vi 0,vi 0,vi 0,vi 0,(sv aN),(sv aN),(sv aN)],ae (sv v76) 158 3 a7 y6.Args]) 8 (mn 14 [0,1,2,7,8,12]) ?_ ?_
  ·intro E W hJ
   obtain ⟨g25,v77,hE,hS⟩:=hJ
   refine .sub hE ?_
   have hT:=hS.to [0]
   refine .by [3,9] ⟨⟨_,z,?_⟩,⟨_,z,?_⟩,trivial⟩
   ·have hS:=hS.p2
    refine (.cS (L0:=[.box g_0 74 [(sv ar),vi y2.2]]) hS Tryz.func18 (fun S h1 h2 h3=>(ak hy7 (hS.ks aH h1) h2 (zz h1))) z z ?_)
    rintro ⟨⟩ W hS
    have hT:=hS.to [1]
    refine ⟨fun _=>hT,.tp' 4 z z hT (.by [5,9] ⟨⟨_,z,?_⟩,⟨_,z,?_⟩,trivial⟩)⟩
    ·refine (.cV hS Tryz.func184 (a9 hy8) z z ?_)
     intro v78 W hS
     have hT:=hS.to [2]
     refine ⟨fun _=>hT,?_⟩
     exact .atl (J5 _ _ ⟨g25,v77,v78,sb z,hS.to [2,2,1,1,1,1,0]⟩) (by kernel_rfl)
    have hS:=hS.nilv 160 8 aA
    have hS:=hS.nilv 160 8 aA
    refine (.lg (L1:=[ae (sv v4) 158 3 a7 y5.Args,ae (sv aN) 160 8 aA [],ae (sv aN) 160 8 aA []]) [(aw.mk 1 3 0 (Expr.mk y5.Op y5.N y5.Args) [] [])] aA T.u123 T.t160 (hS.to [4,1,0,0,0,0,0,0]) z z z (.aggE (gp _) (.flat (c1:=[vi 1]) z (.flat (c1:=[vi 3]) z (.flat (c1:=[vi 0]) z (.aggE (eC _) (.flat (c1:=[vi y5.Op]) z (.flat (c1:=[vi y5.N]) z (.row (.row (.row .nil)))))))))) ?_ z kh)
    intro v79 W hS
    have hT:=hS.to [2]
    refine ⟨fun _=>hT,?_⟩
    exact .atl (J6 _ _ ⟨g25,v77,v79,sb z,hS.to [2,1,1,1,1,0]⟩) (by kernel_rfl)
   have hS:=hS.nilv 160 8 aA
   have hS:=hS.nilv 160 8 aA
   refine (.lg (L1:=[ae (sv v4) 158 3 a7 y5.Args,ae (sv aN) 160 8 aA [],ae (sv aN) 160 8 aA []]) [(aw.mk 1 3 0 (Expr.mk y5.Op y5.N y5.Args) [] [])] aA T.u123 T.t160 (hS.to [3,1,0,0,0,0,0,0]) z z z (.aggE (gp _) (.flat (c1:=[vi 1]) z (.flat (c1:=[vi 3]) z (.flat (c1:=[vi 0]) z (.aggE (eC _) (.flat (c1:=[vi y5.Op]) z (.flat (c1:=[vi y5.N]) z (.row (.row (.row .nil)))))))))) ?_ z kh)
   intro v80 W hS
   have hT:=hS.to [1]
   refine ⟨fun _=>hT,?_⟩
   exact .atl (J7 _ _ ⟨g25,v77,v80,sb z,hS.to [1,1,1,1,1,0]⟩) (by kernel_rfl)
  intro J9
  refine .tp' 0 z z hT (.tp' 2 z z hT (.tp' 7 z z hT (.ts' 8 z (fun W hT=>ld T.t160 hT z z z z z) hT z (.by [1,9,12] ⟨⟨_,z,?_⟩,⟨_,z,?_⟩,⟨_,z,?_⟩,trivial⟩))))
  ·refine (.cV hS Tryz.func184 (a9 hy6) z z ?_)
   intro v81 W hS
   have hT:=hS.to [1]
   refine ⟨fun _=>hT,.by [3,9,12] ⟨⟨_,z,?_⟩,⟨_,z,?_⟩,⟨_,z,?_⟩,trivial⟩⟩
   ·have hS:=hS.p3
    refine (.cS (L0:=[.box g_0 74 [(sv ar),vi y2.2]]) hS Tryz.func18 (fun S h1 h2 h3=>(ak hy7 (hS.ks aH h1) h2 (zz h1))) z z ?_)
    rintro ⟨⟩ W hS
    have hT:=hS.to [2]
    refine ⟨fun _=>hT,.tp' 4 z z hT (.by [5,9,12] ⟨⟨_,z,?_⟩,⟨_,z,?_⟩,⟨_,z,?_⟩,trivial⟩)⟩
    ·refine (.cV hS Tryz.func184 (a9 hy8) z z ?_)
     intro v82 W hS
     have hT:=hS.to [3]
     refine ⟨fun _=>hT,.by [6,9,12] ⟨⟨_,z,?_⟩,⟨_,z,?_⟩,⟨_,z,?_⟩,trivial⟩⟩
     ·have hS:=hS.p2
      refine (.cS (L0:=[ae (sv v81) 158 3 a7 y6.Args,ae (sv v82) 158 3 a7 y8.Args]) hS Tryz.func183 (fun S h1 h2 h3=>(cX hy9 h2 (zz h1))) z z ?_)
      rintro v83 W hS
      have hT:=hS.to [2]
      refine ⟨fun _=>hT,.by [9,12] ⟨⟨_,z,?_⟩,⟨_,z,?_⟩,trivial⟩⟩
      ·have hS:=hS.nilv 160 8 aA
       have hS:=hS.nilv 160 8 aA
       refine (.lg (L1:=[ae (sv v4) 158 3 a7 y5.Args,ae (sv aN) 160 8 aA [],ae (sv aN) 160 8 aA []]) [(aw.mk 1 3 0 (Expr.mk y5.Op y5.N y5.Args) [] [])] aA T.u123 T.t160 (hS.to [5,1,0,0,0,0,0]) z z z (.aggE (gp _) (.flat (c1:=[vi 1]) z (.flat (c1:=[vi 3]) z (.flat (c1:=[vi 0]) z (.aggE (eC _) (.flat (c1:=[vi y5.Op]) z (.flat (c1:=[vi y5.N]) z (.row (.row (.row .nil)))))))))) ?_ z kh)
       intro v84 W hS
       have hT:=hS.to [3]
       refine ⟨fun _=>hT,?_⟩
       exact .atl (J1 _ _ ⟨v83,v84,sb z,hS.to [3,2,2,1,0]⟩) (by kernel_rfl)
      refine (.alloc T.t160 hS ?_)
      intro g26 W hS
      have hT:=hS.to [3]
      refine ⟨fun _=>hT,?_⟩
      exact .atl (J2 _ _ ⟨g26,v83,sb z,hS.to [3,3,2,2,0,0]⟩) (by kernel_rfl)
     ·have hS:=hS.nilv 160 8 aA
      have hS:=hS.nilv 160 8 aA
      refine (.lg (L1:=[ae (sv v4) 158 3 a7 y5.Args,ae (sv aN) 160 8 aA [],ae (sv aN) 160 8 aA []]) [(aw.mk 1 3 0 (Expr.mk y5.Op y5.N y5.Args) [] [])] aA T.u123 T.t160 (hS.to [6,1,0,0,0,0,0,0]) z z z (.aggE (gp _) (.flat (c1:=[vi 1]) z (.flat (c1:=[vi 3]) z (.flat (c1:=[vi 0]) z (.aggE (eC _) (.flat (c1:=[vi y5.Op]) z (.flat (c1:=[vi y5.N]) z (.row (.row (.row .nil)))))))))) ?_ z kh)
      intro v85 W hS
      have hT:=hS.to [4]
      refine ⟨fun _=>hT,?_⟩
      exact .atl (J4 _ _ ⟨v81,v82,v85,sb z,hS.to [4,2,3,2,1,0]⟩) (by kernel_rfl)
     refine (.alloc T.t160 hS ?_)
     intro g27 W hS
     have hT:=hS.to [4]
     refine ⟨fun _=>hT,?_⟩
     exact .atl (J5 _ _ ⟨g27,v81,v82,sb z,hS.to [4,4,2,3,0,1,0]⟩) (by kernel_rfl)
    ·have hS:=hS.nilv 160 8 aA
     have hS:=hS.nilv 160 8 aA
     refine (.lg (L1:=[ae (sv v4) 158 3 a7 y5.Args,ae (sv aN) 160 8 aA [],ae (sv aN) 160 8 aA []]) [(aw.mk 1 3 0 (Expr.mk y5.Op y5.N y5.Args) [] [])] aA T.u123 T.t160 (hS.to [5,1,0,0,0,0,0]) z z z (.aggE (gp _) (.flat (c1:=[vi 1]) z (.flat (c1:=[vi 3]) z (.flat (c1:=[vi 0]) z (.aggE (eC _) (.flat (c1:=[vi y5.Op]) z (.flat (c1:=[vi y5.N]) z (.row (.row (.row .nil)))))))))) ?_ z kh)
     intro v86 W hS
     have hT:=hS.to [3]
     refine ⟨fun _=>hT,.by [5,12] ⟨⟨_,z,?_⟩,⟨_,z,?_⟩,trivial⟩⟩
     ·refine (.cV hS Tryz.func184 (a9 hy8) z z ?_)
      intro v87 W hS
      have hT:=hS.to [4]
      refine ⟨fun _=>hT,?_⟩
      exact .atl (J4 _ _ ⟨v81,v87,v86,sb z,hS.to [4,2,3,2,0,0]⟩) (by kernel_rfl)
     refine (.alloc T.t160 hS ?_)
     intro g28 W hS
     have hT:=hS.to [4]
     refine ⟨fun _=>hT,?_⟩
     exact .atl (J6 _ _ ⟨g28,v81,v86,sb z,hS.to [4,2,3,0,1,0]⟩) (by kernel_rfl)
    refine (.alloc T.t160 hS ?_)
    intro g29 W hS
    have hT:=hS.to [3]
    refine ⟨fun _=>hT,.by [5,9] ⟨⟨_,z,?_⟩,⟨_,z,?_⟩,trivial⟩⟩
    ·refine (.cV hS Tryz.func184 (a9 hy8) z z ?_)
     intro v88 W hS
     have hT:=hS.to [4]
     refine ⟨fun _=>hT,?_⟩
     exact .atl (J5 _ _ ⟨g29,v81,v88,sb z,hS.to [4,4,2,3,1,1,0]⟩) (by kernel_rfl)
    have hS:=hS.nilv 160 8 aA
    have hS:=hS.nilv 160 8 aA
    refine (.lg (L1:=[ae (sv v4) 158 3 a7 y5.Args,ae (sv aN) 160 8 aA [],ae (sv aN) 160 8 aA []]) [(aw.mk 1 3 0 (Expr.mk y5.Op y5.N y5.Args) [] [])] aA T.u123 T.t160 (hS.to [6,1,0,0,0,0,0,0]) z z z (.aggE (gp _) (.flat (c1:=[vi 1]) z (.flat (c1:=[vi 3]) z (.flat (c1:=[vi 0]) z (.aggE (eC _) (.flat (c1:=[vi y5.Op]) z (.flat (c1:=[vi y5.N]) z (.row (.row (.row .nil)))))))))) ?_ z kh)
    intro v89 W hS
    have hT:=hS.to [4]
    refine ⟨fun _=>hT,?_⟩
    exact .atl (J6 _ _ ⟨g29,v81,v89,sb z,hS.to [4,2,3,1,1,0]⟩) (by kernel_rfl)
   ·have hS:=hS.nilv 160 8 aA
    have hS:=hS.nilv 160 8 aA
    refine (.lg (L1:=[ae (sv v4) 158 3 a7 y5.Args,ae (sv aN) 160 8 aA [],ae (sv aN) 160 8 aA []]) [(aw.mk 1 3 0 (Expr.mk y5.Op y5.N y5.Args) [] [])] aA T.u123 T.t160 (hS.to [4,1,0,0,0,0,0]) z z z (.aggE (gp _) (.flat (c1:=[vi 1]) z (.flat (c1:=[vi 3]) z (.flat (c1:=[vi 0]) z (.aggE (eC _) (.flat (c1:=[vi y5.Op]) z (.flat (c1:=[vi y5.N]) z (.row (.row (.row .nil)))))))))) ?_ z kh)
    intro v90 W hS
    have hT:=hS.to [2]
    refine ⟨fun _=>hT,?_⟩
    exact .atl (J8 _ _ ⟨v81,v90,sb z,hS.to [2,2,2,1,0]⟩) (by kernel_rfl)
   refine (.alloc T.t160 hS ?_)
   intro g30 W hS
   have hT:=hS.to [2]
   refine ⟨fun _=>hT,?_⟩
   exact .atl (J9 _ _ ⟨g30,v81,sb z,hS.to [2,2,2,2,0,0]⟩) (by kernel_rfl)
  ·have hS:=hS.nilv 160 8 aA
   have hS:=hS.nilv 160 8 aA
   refine (.lg (L1:=[ae (sv v4) 158 3 a7 y5.Args,ae (sv aN) 160 8 aA [],ae (sv aN) 160 8 aA []]) [(aw.mk 1 3 0 (Expr.mk y5.Op y5.N y5.Args) [] [])] aA T.u123 T.t160 (hS.to [3,1,0,0,0,0]) z z z (.aggE (gp _) (.flat (c1:=[vi 1]) z (.flat (c1:=[vi 3]) z (.flat (c1:=[vi 0]) z (.aggE (eC _) (.flat (c1:=[vi y5.Op]) z (.flat (c1:=[vi y5.N]) z (.row (.row (.row .nil)))))))))) ?_ z kh)
   intro v91 W hS
   have hT:=hS.to [1]
   refine ⟨fun _=>hT,.by [1,12] ⟨⟨_,z,?_⟩,⟨_,z,?_⟩,trivial⟩⟩
   ·refine (.cV hS Tryz.func184 (a9 hy6) z z ?_)
    intro v92 W hS
    have hT:=hS.to [2]
    refine ⟨fun _=>hT,?_⟩
    exact .atl (J8 _ _ ⟨v92,v91,sb z,hS.to [2,2,2,0,0]⟩) (by kernel_rfl)
   refine (.alloc T.t160 hS ?_)
   intro g31 W hS
   have hT:=hS.to [2]
   refine ⟨fun _=>hT,.by1 1 z (.cV hS Tryz.func184 (a9 hy6) z z ?_)⟩
   intro v93 W hS
   have hT:=hS.to [3]
   refine ⟨fun _=>hT,?_⟩
   have hS:=hS.p4
   refine .by1 3 z (.cS (L0:=[.box g_0 74 [(sv ar),vi y2.2]]) hS Tryz.func18 (fun S h1 h2 h3=>(ak hy7 (hS.ks aH h1) h2 (zz h1))) z z ?_)
   rintro ⟨⟩ W hS
   have hT:=hS.to [4]
   refine ⟨fun _=>hT,.tp' 4 z z hT (.by1 5 z (.cV hS Tryz.func184 (a9 hy8) z z ?_))⟩
   intro v94 W hS
   have hT:=hS.to [5]
   refine ⟨fun _=>hT,?_⟩
   have hS:=hS.p2
   refine .by1 6 z (.cS (L0:=[ae (sv v93) 158 3 a7 y6.Args,ae (sv v94) 158 3 a7 y8.Args]) hS Tryz.func183 (fun S h1 h2 h3=>(cX hy9 h2 (zz h1))) z z ?_)
   rintro v95 W hS
   have hT:=hS.to [4]
   refine ⟨fun _=>hT,.by1 10 z (.appv hr1 (hS.to [5,3,0,0,0,0]) T.u123 T.t160 z z z ?_)⟩
   intro v96 W hS
   have hT:=hS.to [4]
   refine ⟨fun _=>hT,.ts' 11 z (fun W hT=>bs T.s160 z z) hT z (.by1 13 z (.st T.t160 hS.p3 z z z ?_))⟩
   intro W hS
   refine ⟨fun h=>absurd z h,?_⟩
   refine .done ?_
   have hS:=hS.nilv 160 8 aA
   exact ⟨z,g31,v95,v96,aN,sb z,hS.to [4,1,2,1,0]⟩
  refine (.alloc T.t160 hS ?_)
  intro g32 W hS
  have hT:=hS.to [1]
  refine ⟨fun _=>hT,.by [1,9] ⟨⟨_,z,?_⟩,⟨_,z,?_⟩,trivial⟩⟩
  ·refine (.cV hS Tryz.func184 (a9 hy6) z z ?_)
   intro v97 W hS
   have hT:=hS.to [2]
   refine ⟨fun _=>hT,?_⟩
   exact .atl (J9 _ _ ⟨g32,v97,sb z,hS.to [2,2,2,2,1,0]⟩) (by kernel_rfl)
  have hS:=hS.nilv 160 8 aA
  have hS:=hS.nilv 160 8 aA
  refine (.lg (L1:=[ae (sv v4) 158 3 a7 y5.Args,ae (sv aN) 160 8 aA [],ae (sv aN) 160 8 aA []]) [(aw.mk 1 3 0 (Expr.mk y5.Op y5.N y5.Args) [] [])] aA T.u123 T.t160 (hS.to [4,1,0,0,0,0,0]) z z z (.aggE (gp _) (.flat (c1:=[vi 1]) z (.flat (c1:=[vi 3]) z (.flat (c1:=[vi 0]) z (.aggE (eC _) (.flat (c1:=[vi y5.Op]) z (.flat (c1:=[vi y5.N]) z (.row (.row (.row .nil)))))))))) ?_ z kh)
  intro v98 W hS
  have hT:=hS.to [2]
  refine ⟨fun _=>hT,.by1 1 z (.cV hS Tryz.func184 (a9 hy6) z z ?_)⟩
  intro v99 W hS
  have hT:=hS.to [3]
  refine ⟨fun _=>hT,?_⟩
  have hS:=hS.p4
  refine .by1 3 z (.cS (L0:=[.box g_0 74 [(sv ar),vi y2.2]]) hS Tryz.func18 (fun S h1 h2 h3=>(ak hy7 (hS.ks aH h1) h2 (zz h1))) z z ?_)
  rintro ⟨⟩ W hS
  have hT:=hS.to [4]
  refine ⟨fun _=>hT,.tp' 4 z z hT (.by1 5 z (.cV hS Tryz.func184 (a9 hy8) z z ?_))⟩
  intro v100 W hS
  have hT:=hS.to [5]
  refine ⟨fun _=>hT,?_⟩
  have hS:=hS.p2
  refine .by1 6 z (.cS (L0:=[ae (sv v99) 158 3 a7 y6.Args,ae (sv v100) 158 3 a7 y8.Args]) hS Tryz.func183 (fun S h1 h2 h3=>(cX hy9 h2 (zz h1))) z z ?_)
  rintro v101 W hS
  have hT:=hS.to [4]
  refine ⟨fun _=>hT,.by1 10 z (.appv hr1 (hS.to [5,2,0,0,0,0]) T.u123 T.t160 z z z ?_)⟩
  intro v102 W hS
  have hT:=hS.to [4]
  refine ⟨fun _=>hT,.ts' 11 z (fun W hT=>bs T.s160 z z) hT z (.by1 13 z (.st T.t160 hS.p3 z z z ?_))⟩
  intro W hS
  refine ⟨fun h=>absurd z h,?_⟩
  refine .done ?_
  have hS:=hS.nilv 160 8 aA
  exact ⟨z,g32,v101,v102,aN,sb z,hS.to [4,1,2,1,0]⟩
 intro x E W hJ
 obtain ⟨rfl,g33,v103,v104,v105,hE,hS⟩:=hJ
 refine ⟨_,hE.sub,?_⟩
 refine .seq (.rk 6 hS [0,0] T.mix ?_)
 intro W hS
 have hT:=hS.to [0,0]
 refine .tp' 0 z z hT (.ts' 3 z (fun W hT=>ld T.t160 hT.p1 z z z z z) hT z ?_)
 have ⟨y10,hy10,h⟩:=bnd h
 refine .by1 1 z (.cV hS Tryz.func184 (a9 hy10) z z ?_)
 intro v106 W hS
 have hT:=hS.to [1,1]
 refine ⟨fun _=>hT,.ts' 2 z (fun W hT=>bs T.s160 z z) hT z ?_⟩
 have hS:=hS.nilv 160 8 aA
 have hS:=hS.nilv 160 8 aA
 refine .by1 4 z (.lg (L1:=[ae (sv v106) 158 3 a7 y10.Args,ae (sv aN) 160 8 aA [],ae (sv aN) 160 8 aA [],ae (sv v103) 158 3 a7 y9.Args,ae (sv v104) 160 8 aA r1,ae (sv v105) 160 8 aA []]) [(aw.mk 1 3 0 (Expr.mk y10.Op y10.N y10.Args) [] []),(aw.mk 3 0 0 (Expr.mk y9.Op y9.N y9.Args) r1 [])] aA T.u123 T.t160 (hS.to [2,1,0,2,2,2,0,0]) z z z (.aggE (gp _) (.flat (c1:=[vi 1]) z (.flat (c1:=[vi 3]) z (.flat (c1:=[vi 0]) z (.aggE (eC _) (.flat (c1:=[vi y10.Op]) z (.flat (c1:=[vi y10.N]) z (.row (.row (.row (.aggE (gp _) (.flat (c1:=[vi 3]) z (.flat (c1:=[vi 0]) z (.flat (c1:=[vi 0]) z (.aggE (eC _) (.flat (c1:=[vi y9.Op]) z (.flat (c1:=[vi y9.N]) z (.row (.row (.row .nil)))))))))))))))))))) ?_ z kh)
 intro v107 W hS
 have hT:=hS.to [1,1]
 refine ⟨fun _=>hT,?_⟩
 cases h
 exact .tp' 5 z z hT (.done (.ret (ac (vs:=[_]) v107 (rt z rn) z (hS.to [1,0]))))
theorem nU (k : Nat) : dN (dw k) ∧ fA (gW k) ∧ il (lR k) ∧ fB (jE k):=by
  induction k with
  | zero=>exact ⟨by intro a0 a1 a2 a3 a4 ar g_0 S w r h aH hO hlt; exact no h,by intro a0 a1 a2 a3 ar g_0 S w r h aH hO hlt; exact no h,by intro a0 a1 a2 a3 ar g_0 S w r h aH hO hlt; exact no h,by intro a0 a1 a2 ar g_0 S w r h aH hO hlt; exact no h⟩
  | succ k ih=>exact ⟨rL (k:=k) ih.1 ih.2.1 ih.2.2.1 ih.2.2.2,tA (k:=k) ih.1 ih.2.1 ih.2.2.1 ih.2.2.2,uV (k:=k) ih.1 ih.2.1 ih.2.2.1 ih.2.2.2,tB (k:=k) ih.1 ih.2.1 ih.2.2.1 ih.2.2.2⟩
theorem qy {k : Nat} : dN (dw k):=(nU k).1
theorem qz {k : Nat} {a0 : aL} {a1 : Int} {ar : Hd} {g_0 : Nat} {S : Nat → Prop} {w : World} {r : (List aw) × Int} (h : iE k a0 a1 = some r) (aH : RV w (Old S w) (sv ar) 5 1 (D.int .u8) a0.b) (hO : bJ w [.box g_0 74 [(sv ar),vi a0.p]] S) (hlt : ∀ b,S b → b < w.heap.size) : Cl 91 #[pt g_0,vi a1] w (Ret S w (fun s : Hd=>(sv s)) (fun s=>[.box g_0 74 [(sv ar),vi r.2],ae (sv s) 160 8 aA r.1])):=by
 unfold iE at h
 refine au Tryz.func91 z z ?_
 have hS:=Sep.sm hO hlt
 refine .g (.qn z (.g (.q z (.q z (.q z ?_)))))
 have ⟨y1,hy1,h⟩:=bnd h
 refine .c (.cS (L0:=[.box g_0 74 [(sv ar),vi a0.p]]) hS Tryz.func18 (fun S h1 h2 h3=>(ak hy1 (hS.ks aH h1) h2 (zz h1))) z z ?_)
 rintro ⟨⟩ W hS
 refine .q z ?_
 have ⟨y2,hy2,h⟩:=bnd h
 refine .c (.cS (L0:=[.box g_0 74 [(sv ar),vi y1.2]]) hS Tryz.func122 (fun S h1 h2 h3=>(qy hy2 (hS.ks aH h1) h2 (zz h1))) z z ?_)
 rintro v1 W hS
 refine .qn z (.seq (.block ?_))
 have ⟨y3,hy3,h⟩:=bnd h
 refine .via (.iter (fun s1 E' W'=>∃ (v4 : Hd),aD E' [(5,(sv v4))] ∧ Sep S w W' [.box g_0 74 [(sv ar),vi y2.2],ae (sv v4) 160 8 aA s1]) (fun y4 x E' W'=>x = .exit 0 ∧ ∃ (v5 : Hd),aD E' [(5,(sv v5))] ∧ Sep S w W' [.box g_0 74 [(sv ar),vi y2.2],ae (sv v5) 160 8 aA y4]) hy3 ⟨v1,sb z,hS.to [0,0]⟩ ?_) ?_
 ·intro s1 y5 E W h hI
  obtain ⟨v3,hE,hS⟩:=hI
  refine CW.sub hE ?_
  unfold ko at h
  refine .seq (.g (.q z ?_))
  have ⟨y6,hy6,h⟩:=bnd h
  refine .c (.cO hS Tryz.func123 (mU hy6 hS.p1.lv) z z ?_)
  intro W hS
  refine .q z (.nil ?_)
  refine .cs z h ?_ ?_ <;> intro h
  ·refine .skip (.block (.region (.q z (.q z (.s (bw hS.p1.lv T.u123 z z) z (.q z ?_))))))
   have ⟨r1,hr1,h⟩:=bnd h
   refine .c (.cuto hr1 hS.p1 T.u123 T.t160 z z z z ?_)
   intro v6 hS
   refine .q z (.nil ?_)
   cases h
   exact ⟨z,v6,sb z,hS.to [1,0]⟩
  refine .exit ?_
  cases h
  exact ⟨by simp,z,v3,sb z,hS.to [0,0]⟩
 intro x E W hJ
 obtain ⟨rfl,v7,hE,hS⟩:=hJ
 refine ⟨_,hE.sub,?_⟩
 cases h
 exact .g (.q z (.qn z (.ret (ac (vs:=[_]) v7 (rt z rn) z (hS.to [0,0])))))
theorem gl {a0 : Int} {w : World} {r : Bool} (h : bV a0 = some r) : Cl 83 #[vi a0] w (RU w (.bool r)):=by
 unfold bV at h
 refine au Tryz.func83 z z ?_
 have hS:=Sep.start w
 refine .g (.qn z (.g (.q z ?_)))
 have ⟨y1,hy1,h⟩:=bnd h
 refine .c (.cO hS Tryz.func23 (aW hy1) z z ?_)
 intro W hS
 obtain rfl:=o9 h
 exact .qn z (.ret (ac (vs:=[_]) () (rt z rn) z (hS.to [])))
theorem mb {a0 : Int} {a1 : Bool} {w : World} {r : Bool} (h : gA a0 a1 = some r) : Cl 186 #[vi a0,.bool a1] w (RU w (.bool r)):=by
 unfold gA at h
 refine au Tryz.func186 z z ?_
 have hS:=Sep.start w
 refine .g (.qn z (.seq (.g (.q z (.nil ?_)))))
 refine .cs z h ?_ ?_ <;> intro h
 ·refine .g (.q z ?_)
  have ⟨y1,hy1,h⟩:=bnd h
  refine .c (.cO hS Tryz.func23 (aW hy1) z z ?_)
  intro W hS
  obtain rfl:=o9 h
  exact .qn z (.ret (ac (vs:=[_]) () (rt z rn) z (hS.to [])))
 cases h
 exact .skip (.g (.q z (.q z (.qn z (.ret (ac (vs:=[_]) () (rt z rn) z (hS.to [])))))))
theorem c6 {a0 : aj} {a1 : Bool} {a2 : Bool} {a3 : Bool} {w : World} {r : Bool} (h : cC a0 a1 a2 a3 = some r) : Cl 167 #[.agg #[vi a0.Op,vi a0.Dst,vi a0.A,vi a0.B,vi a0.N],.bool a1,.bool a2,.bool a3] w (RU w (.bool r)):=by
 unfold cC at h
 refine au Tryz.func167 z z ?_
 have hS:=Sep.start w
 refine .g (.c (.box hS z z ?_))
 intro g1 W hS
 refine .qn z (.g (.s (fa T.f107_1 z z z) z (.s (ld T.t3 hS z z z z z) z (.q z ?_))))
 have ⟨y1,hy1,h⟩:=bnd h
 refine .c (.cO hS Tryz.func186 (mb hy1) z z ?_)
 intro W hS
 refine .q z ?_
 have ⟨b1,hb1,h⟩:=bnd h
 refine .cu 5 18 (b1) hS ?_ ?_
 ·refine .both (y1) (fun hb=>?_) (fun hb=>?_)
  ·have hg1:=hb
   have h:=aI hb hb1
   refine .g hg1 (.s (fa T.f107_2 z z z) z (.g hg1 (.s (ld T.t3 hS z z z z z) z (.g hg1 (.q z ?_)))))
   have ⟨y2,hy2,h⟩:=bnd h
   refine .g hg1 (.c (.cO hS Tryz.func186 (mb hy2) z z ?_))
   intro W hS
   refine .s (pkt hg1 z z z) z ?_
   cases h
   exact .nil (ck 5 hS)
  refine .xx hb z (.xx hb z (.xx hb z (.xx hb z ?_)))
  cases aJ hb hb1
  exact .s (pkf hb z z z) z (.nil (ck 5 hS))
 intro W hS
 refine .q z ?_
 have ⟨b2,hb2,h⟩:=bnd h
 refine .cu 5 24 (b2) hS ?_ ?_
 ·refine .both (b1) (fun hb=>?_) (fun hb=>?_)
  ·have hg2:=hb
   have h:=aI hb hb2
   refine .g hg2 (.s (fa T.f107_3 z z z) z (.g hg2 (.s (ld T.t3 hS z z z z z) z (.g hg2 (.q z ?_)))))
   have ⟨y3,hy3,h⟩:=bnd h
   refine .g hg2 (.c (.cO hS Tryz.func186 (mb hy3) z z ?_))
   intro W hS
   refine .s (pkt hg2 z z z) z ?_
   cases h
   exact .nil (ck 5 hS)
  refine .xx hb z (.xx hb z (.xx hb z (.xx hb z ?_)))
  cases aJ hb hb2
  exact .s (pkf hb z z z) z (.nil (ck 5 hS))
 intro W hS
 obtain rfl:=o9 h
 exact .qn z (.ret (ac (vs:=[_]) () (rt z rn) z (hS.to [])))
theorem ka {a0 : aj} {a1 : Int} {w : World} {r : Bool} (h : eg a0 a1 = some r) : Cl 147 #[.agg #[vi a0.Op,vi a0.Dst,vi a0.A,vi a0.B,vi a0.N],vi a1] w (RU w (.bool r)):=by
 unfold eg at h
 refine au Tryz.func147 z z ?_
 have hS:=Sep.start w
 refine .g (.c (.box hS z z ?_))
 intro g1 W hS
 refine .qn z (.seq (.g (.s (fa T.f107_0 z z z) z (.s (ld T.t3 hS z z z z z) z (.nil (.block (.g (.q z (.q z (.nil ?_))))))))))
 refine .cs z h ?_ ?_ <;> intro h
 ·refine .g (.s (ld T.t107 hS z z z z z) z ?_)
  have ⟨y1,hy1,h⟩:=bnd h
  refine .c (.cO hS Tryz.func167 (c6 hy1) z z ?_)
  intro W hS
  refine .q z ?_
  have ⟨b1,hb1,h⟩:=bnd h
  refine .cu 4 15 (b1) hS ?_ ?_
  ·refine .both (y1) (fun hb=>?_) (fun hb=>?_)
   ·have hg1:=hb
    have h:=aI hb hb1
    refine .g hg1 (.s (fa T.f107_4 z z z) z (.g hg1 (.s (ld T.t3 hS z z z z z) z ?_)))
    have ⟨y2,hy2,h⟩:=bnd h
    refine .g hg1 (.c (.cO hS Tryz.func83 (gl hy2) z z ?_))
    intro W hS
    refine .s (pkt hg1 z z z) z ?_
    cases h
    exact .nil (ck 4 hS)
   refine .xx hb z (.xx hb z (.xx hb z ?_))
   cases aJ hb hb1
   exact .s (pkf hb z z z) z (.nil (ck 4 hS))
  intro W hS
  obtain rfl:=o9 h
  exact .qn z (.ret (ac (vs:=[_]) () (rt z rn) z (hS.to [])))
 refine .g (.q z (.q z (.nil ?_)))
 refine .cs z h ?_ ?_ <;> intro h
 ·refine .g (.s (ld T.t107 hS z z z z z) z ?_)
  have ⟨y3,hy3,h⟩:=bnd h
  refine .c (.cO hS Tryz.func167 (c6 hy3) z z ?_)
  intro W hS
  refine .q z (.cu 4 24 (y3 && (a0.N == 0)) hS ?_ ?_)
  ·refine .both (y3) (fun hb=>?_) (fun hb=>?_)
   ·have hg2:=hb
    exact .g hg2 (.s (fa T.f107_4 z z z) z (.g hg2 (.s (ld T.t3 hS z z z z z) z (.g hg2 (.q z (.s (pkt hg2 z z z) z (.nil (ck 4 hS z (bM hg2)))))))))
   exact .xx hb z (.xx hb z (.xx hb z (.s (pkf hb z z z) z (.nil (ck 4 hS z (bN hb))))))
  intro W hS
  cases h
  exact .qn z (.ret (ac (vs:=[_]) () (rt z rn) z (hS.to [])))
 refine .g (.q z (.q z (.nil ?_)))
 refine .cs z h ?_ ?_ <;> intro h
 ·refine .g (.s (ld T.t107 hS z z z z z) z ?_)
  have ⟨y4,hy4,h⟩:=bnd h
  refine .c (.cO hS Tryz.func167 (c6 hy4) z z ?_)
  intro W hS
  refine .q z ?_
  have ⟨b2,hb2,h⟩:=bnd h
  refine .cu 4 33 (b2) hS ?_ ?_
  ·refine .both (y4) (fun hb=>?_) (fun hb=>?_)
   ·have hg3:=hb
    have h:=aI hb hb2
    refine .g hg3 (.s (fa T.f107_4 z z z) z (.g hg3 (.s (ld T.t3 hS z z z z z) z ?_)))
    have ⟨y5,hy5,h⟩:=bnd h
    refine .g hg3 (.c (.cO hS Tryz.func154 (lw hy5) z z ?_))
    intro W hS
    refine .s (pkt hg3 z z z) z ?_
    cases h
    exact .nil (ck 4 hS)
   refine .xx hb z (.xx hb z (.xx hb z ?_))
   cases aJ hb hb2
   exact .s (pkf hb z z z) z (.nil (ck 4 hS))
  intro W hS
  obtain rfl:=o9 h
  exact .qn z (.ret (ac (vs:=[_]) () (rt z rn) z (hS.to [])))
 refine .g (.q z (.q z (.nil ?_)))
 refine .cs z h ?_ ?_ <;> intro h
 ·refine .g (.s (ld T.t107 hS z z z z z) z ?_)
  have ⟨y6,hy6,h⟩:=bnd h
  refine .c (.cO hS Tryz.func167 (c6 hy6) z z ?_)
  intro W hS
  refine .q z (.cu 4 42 (y6 && (decide (a0.N ≥ 0))) hS ?_ ?_)
  ·refine .both (y6) (fun hb=>?_) (fun hb=>?_)
   ·have hg4:=hb
    exact .g hg4 (.s (fa T.f107_4 z z z) z (.g hg4 (.s (ld T.t3 hS z z z z z) z (.g hg4 (.q z (.s (pkt hg4 z z z) z (.nil (ck 4 hS z (bM hg4)))))))))
   exact .xx hb z (.xx hb z (.xx hb z (.s (pkf hb z z z) z (.nil (ck 4 hS z (bN hb))))))
  intro W hS
  refine .q z (.cu 5 48 ((y6 && (decide (a0.N ≥ 0))) && (decide (a0.N < a1))) hS ?_ ?_)
  ·refine .both (y6 && (decide (a0.N ≥ 0))) (fun hb=>?_) (fun hb=>?_)
   ·have hg5:=hb
    exact .g hg5 (.s (fa T.f107_4 z z z) z (.g hg5 (.s (ld T.t3 hS z z z z z) z (.g hg5 (.q z (.g hg5 (.q z (.s (pkt hg5 z z z) z (.nil (ck 5 hS z (bM hg5)))))))))))
   exact .xx hb z (.xx hb z (.xx hb z (.xx hb z (.s (pkf hb z z z) z (.nil (ck 5 hS z (bN hb)))))))
  intro W hS
  cases h
  exact .qn z (.ret (ac (vs:=[_]) () (rt z rn) z (hS.to [])))
 refine .g (.q z (.q z (.nil ?_)))
 refine .cs z h ?_ ?_ <;> intro h
 ·refine .g (.s (ld T.t107 hS z z z z z) z ?_)
  have ⟨y7,hy7,h⟩:=bnd h
  refine .c (.cO hS Tryz.func167 (c6 hy7) z z ?_)
  intro W hS
  refine .q z (.cu 4 57 (y7 && (decide (a0.N ≥ 0))) hS ?_ ?_)
  ·refine .both (y7) (fun hb=>?_) (fun hb=>?_)
   ·have hg6:=hb
    exact .g hg6 (.s (fa T.f107_4 z z z) z (.g hg6 (.s (ld T.t3 hS z z z z z) z (.g hg6 (.q z (.s (pkt hg6 z z z) z (.nil (ck 4 hS z (bM hg6)))))))))
   exact .xx hb z (.xx hb z (.xx hb z (.s (pkf hb z z z) z (.nil (ck 4 hS z (bN hb))))))
  intro W hS
  refine .q z (.cu 5 63 ((y7 && (decide (a0.N ≥ 0))) && (decide (a0.N < a1))) hS ?_ ?_)
  ·refine .both (y7 && (decide (a0.N ≥ 0))) (fun hb=>?_) (fun hb=>?_)
   ·have hg7:=hb
    exact .g hg7 (.s (fa T.f107_4 z z z) z (.g hg7 (.s (ld T.t3 hS z z z z z) z (.g hg7 (.q z (.g hg7 (.q z (.s (pkt hg7 z z z) z (.nil (ck 5 hS z (bM hg7)))))))))))
   exact .xx hb z (.xx hb z (.xx hb z (.xx hb z (.s (pkf hb z z z) z (.nil (ck 5 hS z (bN hb)))))))
  intro W hS
  cases h
  exact .qn z (.ret (ac (vs:=[_]) () (rt z rn) z (hS.to [])))
 refine .g (.q z (.q z (.nil ?_)))
 refine .cs z h ?_ ?_ <;> intro h
 ·refine .g (.s (ld T.t107 hS z z z z z) z ?_)
  have ⟨y8,hy8,h⟩:=bnd h
  refine .c (.cO hS Tryz.func167 (c6 hy8) z z ?_)
  intro W hS
  refine .q z ?_
  have ⟨b3,hb3,h⟩:=bnd h
  refine .cu 4 72 (b3) hS ?_ ?_
  ·refine .both (y8) (fun hb=>?_) (fun hb=>?_)
   ·have hg8:=hb
    have h:=aI hb hb3
    refine .g hg8 (.s (fa T.f107_4 z z z) z (.g hg8 (.s (ld T.t3 hS z z z z z) z ?_)))
    have ⟨y9,hy9,h⟩:=bnd h
    refine .g hg8 (.c (.cO hS Tryz.func23 (aW hy9) z z ?_))
    intro W hS
    refine .s (pkt hg8 z z z) z ?_
    cases h
    exact .nil (ck 4 hS)
   refine .xx hb z (.xx hb z (.xx hb z ?_))
   cases aJ hb hb3
   exact .s (pkf hb z z z) z (.nil (ck 4 hS))
  intro W hS
  obtain rfl:=o9 h
  exact .qn z (.ret (ac (vs:=[_]) () (rt z rn) z (hS.to [])))
 refine .g (.q z (.q z (.nil ?_)))
 refine .cs z h ?_ ?_ <;> intro h
 ·refine .g (.s (ld T.t107 hS z z z z z) z ?_)
  have ⟨y10,hy10,h⟩:=bnd h
  refine .c (.cO hS Tryz.func167 (c6 hy10) z z ?_)
  intro W hS
  refine .q z ?_
  have ⟨b4,hb4,h⟩:=bnd h
  refine .cu 4 81 (b4) hS ?_ ?_
  ·refine .both (y10) (fun hb=>?_) (fun hb=>?_)
   ·have hg9:=hb
    have h:=aI hb hb4
    refine .g hg9 (.s (fa T.f107_4 z z z) z (.g hg9 (.s (ld T.t3 hS z z z z z) z ?_)))
    have ⟨y11,hy11,h⟩:=bnd h
    refine .g hg9 (.c (.cO hS Tryz.func23 (aW hy11) z z ?_))
    intro W hS
    refine .s (pkt hg9 z z z) z ?_
    cases h
    exact .nil (ck 4 hS)
   refine .xx hb z (.xx hb z (.xx hb z ?_))
   cases aJ hb hb4
   exact .s (pkf hb z z z) z (.nil (ck 4 hS))
  intro W hS
  obtain rfl:=o9 h
  exact .qn z (.ret (ac (vs:=[_]) () (rt z rn) z (hS.to [])))
 refine .g (.q z (.q z (.nil ?_)))
 refine .cs z h ?_ ?_ <;> intro h
 ·refine .g (.s (ld T.t107 hS z z z z z) z ?_)
  have ⟨y12,hy12,h⟩:=bnd h
  refine .c (.cO hS Tryz.func167 (c6 hy12) z z ?_)
  intro W hS
  refine .q z (.cu 4 90 (y12 && (a0.N == 0)) hS ?_ ?_)
  ·refine .both (y12) (fun hb=>?_) (fun hb=>?_)
   ·have hg10:=hb
    exact .g hg10 (.s (fa T.f107_4 z z z) z (.g hg10 (.s (ld T.t3 hS z z z z z) z (.g hg10 (.q z (.s (pkt hg10 z z z) z (.nil (ck 4 hS z (bM hg10)))))))))
   exact .xx hb z (.xx hb z (.xx hb z (.s (pkf hb z z z) z (.nil (ck 4 hS z (bN hb))))))
  intro W hS
  cases h
  exact .qn z (.ret (ac (vs:=[_]) () (rt z rn) z (hS.to [])))
 have ⟨y13,hy13,h⟩:=bnd h
 refine .seq (CW.via (R':=fun x E' W'=>x = .normal ∧ aD E' [(2,pt g1),(91,.bool y13)] ∧ Sep No w W' [.box g1 107 [vi a0.Op,vi a0.Dst,vi a0.A,vi a0.B,vi a0.N]]) ?_ ?_)
 ·have h:=hy13
  refine .g (.q z (.q z (.nil ?_)))
  refine .cs z h ?_ ?_ <;> intro h
  ·refine .skip ?_
   cases h
   exact ⟨z,sb z,hS.to [0]⟩
  refine .region (.q z (.q z (.nil ?_)))
  cases h
  exact ⟨z,sb z,hS.to [0]⟩
 intro x E W hJ
 obtain ⟨rfl,hE,hS⟩:=hJ
 refine ⟨_,hE.sub,?_⟩
 refine .cs z h ?_ ?_ <;> intro h
 ·refine .g (.s (ld T.t107 hS z z z z z) z ?_)
  have ⟨y14,hy14,h⟩:=bnd h
  refine .c (.cO hS Tryz.func167 (c6 hy14) z z ?_)
  intro W hS
  refine .q z (.cu 4 100 (y14 && (a0.N == 0)) hS ?_ ?_)
  ·refine .both (y14) (fun hb=>?_) (fun hb=>?_)
   ·have hg11:=hb
    exact .g hg11 (.s (fa T.f107_4 z z z) z (.g hg11 (.s (ld T.t3 hS z z z z z) z (.g hg11 (.q z (.s (pkt hg11 z z z) z (.nil (ck 4 hS z (bM hg11)))))))))
   exact .xx hb z (.xx hb z (.xx hb z (.s (pkf hb z z z) z (.nil (ck 4 hS z (bN hb))))))
  intro W hS
  cases h
  exact .qn z (.ret (ac (vs:=[_]) () (rt z rn) z (hS.to [])))
 obtain rfl:=o9 h
 exact .skip (.g (.qn z (.ret (ac (vs:=[_]) () (rt z rn) z (hS.to [])))))
def qA (w : World) (r : Bool) : Env → World → Prop:=Fin Tryz.prog Tryz.f124 No w (fun s : Unit=>.bool r) (fun s=>[]) .ret
theorem cj {a0 : List aj} {v_0 : Hd} {w : World} {r : Bool} (h : bP a0 = some r) (q_0 : RO w v_0 107 5 aO a0) : Cl 124 #[(sv v_0)] w (RU w (.bool r)):=by
 unfold bP at h
 refine au Tryz.func124 z z ?_
 have hS:=Sep.start w
 refine .g (.qn z (.g (.q z (.s (bw (hS.keep q_0) T.u78 z z) z (.qn z (.seq (.g (.q z ?_))))))))
 have ⟨y1,hy1,h⟩:=bnd h
 refine .c (.cO hS Tryz.func23 (aW hy1) z z ?_)
 intro W hS
 refine .q z (.nil ?_)
 refine .cs z h ?_ ?_ <;> intro h
 ·obtain rfl:=o9 h
  exact .g (.qn z (.ret (ac (vs:=[_]) () (rt z rn) z (hS.to []))))
 refine .skip (.seq (.g (.qn z (.block ?_))))
 have ⟨y2,hy2,h⟩:=bnd h
 refine .via (.iter (fun s1 E' W'=>aD E' [(0,(sv v_0)),(3,vi (a0.length : Int)),(4,vi s1)] ∧ Sep No w W' []) (fun y3 x E' W'=>(match y3 with | .inl o1=>x = .ret ∧ qA w o1 E' W' | .inr o2=>x = .exit 0 ∧ aD E' [(0,(sv v_0)),(3,vi (a0.length : Int))] ∧ Sep No w W' [])) hy2 ⟨sb rfl,hS.to [] rfl⟩ ?_) ?_
 ·intro s1 y4 E W h hI
  obtain ⟨hE,hS⟩:=hI
  refine CW.sub hE ?_
  unfold jF at h
  refine .seq (.g (.q z (.q z (.q z (.nil ?_)))))
  refine .cs z h ?_ ?_ <;> intro h
  ·refine .skip (.seq (.block (.g (.q z (.q z ?_)))))
   have ⟨x1,hx1,h⟩:=bnd h
   refine .s (ixv (hS.keep q_0) hx1 T.u78 T.t107 z z z) z (.s (lde (RV.flat (hS.keep q_0) hx1 z) T.t107 z z z z z) z (.q z ?_))
   have ⟨y5,hy5,h⟩:=bnd h
   refine .c (.cO hS Tryz.func147 (ka hy5) z z ?_)
   intro W hS
   refine .q z (.nil ?_)
   refine .cs z h ?_ ?_ <;> intro h
   ·refine .g (.qn z (.ret ?_))
    cases h
    exact ⟨by simp,z,ac (vs:=[_]) () (rt z rn) z (hS.to [])⟩
   refine .skip (.region (.q z (.q z (.q z (.nil ?_)))))
   cases h
   exact ⟨z,sb z,hS.to []⟩
  refine .exit ?_
  cases h
  exact ⟨by simp,z,sb z,hS.to []⟩
 intro x E W hJ
 rcases y2 with o3 | o4
 ·obtain ⟨rfl,hF⟩:=hJ
  refine ⟨_,fun _ _ h=>h,?_⟩
  cases h
  exact hF
 obtain ⟨rfl,hE,hS⟩:=hJ
 refine ⟨_,hE.sub,?_⟩
 refine .g (.q z (.q z (.q z ?_)))
 have ⟨x2,hx2,h⟩:=bnd h
 refine .s (ixv (hS.keep q_0) hx2 T.u78 T.t107 z z z) z (.s (fe T.f107_0 z z z) z (.s (lde (RV.flat (hS.keep q_0) hx2 z) T.t3 z z z z z) z (.q z (.q z ?_))))
 have ⟨b1,hb1,h⟩:=bnd h
 refine .cu 8 37 (b1) hS ?_ ?_
 ·refine .both (x2.Op == 10) (fun hb=>?_) (fun hb=>?_)
  ·refine .xx hb z (.xx hb z (.xx hb z (.xx hb z (.xx hb z (.xx hb z (.xx hb z ?_))))))
   cases aI hb hb1
   exact .s (pkt hb z z z) z (.nil (ck 8 hS))
  have hg1:=hb
  have h:=aJ hb hb1
  refine .g hg1 (.q z (.g hg1 (.q z (.g hg1 (.q z ?_)))))
  have ⟨x3,hx3,h⟩:=bnd h
  refine .g hg1 (.s (ixv (hS.keep q_0) hx3 T.u78 T.t107 z z z) z (.g hg1 (.s (fe T.f107_0 z z z) z (.g hg1 (.s (lde (RV.flat (hS.keep q_0) hx3 z) T.t3 z z z z z) z (.g hg1 (.q z (.s (pkf hg1 z z z) z ?_))))))))
  cases h
  exact .nil (ck 8 hS)
 intro W hS
 obtain rfl:=o9 h
 exact .qn z (.ret (ac (vs:=[_]) () (rt z rn) z (hS.to [])))
theorem jn {a0 : List aj} {a1 : Int} {v_0 : Hd} {w : World} {r : (List Int)} (h : dx a0 a1 = some r) (q_0 : RO w v_0 107 5 aO a0) : Cl 193 #[(sv v_0),vi a1] w (Ret No w (fun s : Hd=>(sv s)) (fun s=>[ae (sv s) 3 1 (D.int .i64) r])):=by
 unfold dx at h
 refine au Tryz.func193 z z ?_
 have hS:=Sep.start w
 refine .g (.qn z (.g (.q z (.q z ?_))))
 have ⟨x1,hx1,h⟩:=bnd h
 refine .s (ixv (hS.keep q_0) hx1 T.u78 T.t107 z z z) z (.s (lde (RV.flat (hS.keep q_0) hx1 z) T.t107 z z z z z) z (.c (.alloc T.t107 hS ?_)))
 intro g1 W hS
 refine .c (.st T.t107 hS z z z ?_)
 intro W hS
 refine .nil (.seq (.block (.g (.s (fa T.f107_0 z z z) z (.s (ld T.t3 hS z z z z z) z (.q z (.q z (.nil ?_))))))))
 refine .cs z h ?_ ?_ <;> intro h
 ·refine .g (.c (.liv [] (D.int .i64) T.u23 T.t3 hS z z z z ?_ z (fun _=>z)))
  intro v1 W hS
  cases h
  exact .qn z (.ret (ac (vs:=[_]) v1 (rt z rn) z (hS.to [0])))
 refine .g (.s (fa T.f107_0 z z z) z (.s (ld T.t3 hS z z z z z) z (.q z (.q z (.nil ?_)))))
 refine .cs z h ?_ ?_ <;> intro h
 ·refine .g (.s (fa T.f107_4 z z z) z (.s (ld T.t3 hS z z z z z) z (.c (.liv [x1.N] (D.int .i64) T.u23 T.t3 hS z z z z ?_ z (fun _=>z)))))
  intro v2 W hS
  cases h
  exact .qn z (.ret (ac (vs:=[_]) v2 (rt z rn) z (hS.to [0])))
 refine .g (.s (fa T.f107_0 z z z) z (.s (ld T.t3 hS z z z z z) z (.q z (.q z (.cu 6 32 ((x1.Op == 5) && (decide (x1.N < (w64 (a1 + 1))))) hS ?_ ?_)))))
 ·refine .both (x1.Op == 5) (fun hb=>?_) (fun hb=>?_)
  ·have hg1:=hb
   exact .g hg1 (.s (fa T.f107_4 z z z) z (.g hg1 (.s (ld T.t3 hS z z z z z) z (.g hg1 (.q z (.g hg1 (.q z (.g hg1 (.q z (.s (pkt hg1 z z z) z (.nil (ck 6 hS z (bM hg1)))))))))))))
  exact .xx hb z (.xx hb z (.xx hb z (.xx hb z (.xx hb z (.s (pkf hb z z z) z (.nil (ck 6 hS z (bN hb))))))))
 intro W hS
 refine .q z (.nil ?_)
 refine .cs z h ?_ ?_ <;> intro h
 ·refine .g (.s (fa T.f107_4 z z z) z (.s (ld T.t3 hS z z z z z) z (.q z (.q z (.c (.liv [x1.N,w64 (a1 + 1)] (D.int .i64) T.u23 T.t3 hS z z z z ?_ z (fun _=>z)))))))
  intro v3 W hS
  cases h
  exact .qn z (.ret (ac (vs:=[_]) v3 (rt z rn) z (hS.to [0])))
 refine .g (.s (fa T.f107_0 z z z) z (.s (ld T.t3 hS z z z z z) z (.q z (.q z (.cu 6 48 ((x1.Op == 5) && (decide (x1.N > (w64 (a1 + 1))))) hS ?_ ?_)))))
 ·refine .both (x1.Op == 5) (fun hb=>?_) (fun hb=>?_)
  ·have hg2:=hb
   exact .g hg2 (.s (fa T.f107_4 z z z) z (.g hg2 (.s (ld T.t3 hS z z z z z) z (.g hg2 (.q z (.g hg2 (.q z (.g hg2 (.q z (.s (pkt hg2 z z z) z (.nil (ck 6 hS z (bM hg2)))))))))))))
  exact .xx hb z (.xx hb z (.xx hb z (.xx hb z (.xx hb z (.s (pkf hb z z z) z (.nil (ck 6 hS z (bN hb))))))))
 intro W hS
 refine .q z (.nil ?_)
 refine .cs z h ?_ ?_ <;> intro h
 ·refine .g (.q z (.q z (.s (fa T.f107_4 z z z) z (.s (ld T.t3 hS z z z z z) z (.c (.liv [w64 (a1 + 1),x1.N] (D.int .i64) T.u23 T.t3 hS z z z z ?_ z (fun _=>z)))))))
  intro v4 W hS
  cases h
  exact .qn z (.ret (ac (vs:=[_]) v4 (rt z rn) z (hS.to [0])))
 refine .skip (.g (.q z (.q z (.c (.liv [w64 (a1 + 1)] (D.int .i64) T.u23 T.t3 hS z z z z ?_ z (fun _=>z))))))
 intro v5 W hS
 cases h
 exact .qn z (.ret (ac (vs:=[_]) v5 (rt z rn) z (hS.to [0])))
theorem qB {a0 : List aj} {a1 : List a8} {a2 : Int} {v_0 : Hd} {v_1 : Hd} {w : World} {r : (List Int)} (h : iG a0 a1 a2 = some r) (q_0 : RO w v_0 107 5 aO a0) (q_1 : RO w v_1 196 2 bO a1) : Cl 197 #[(sv v_0),(sv v_1),vi a2] w (Ret No w (fun s : Hd=>(sv s)) (fun s=>[ae (sv s) 3 1 (D.int .i64) r])):=by
 unfold iG at h
 refine au Tryz.func197 z z ?_
 have hS:=Sep.start w
 refine .g (.qn z (.g (.q z (.q z ?_))))
 have ⟨x1,hx1,h⟩:=bnd h
 refine .s (ixv (hS.keep q_0) hx1 T.u78 T.t107 z z z) z (.s (lde (RV.flat (hS.keep q_0) hx1 z) T.t107 z z z z z) z (.c (.alloc T.t107 hS ?_)))
 intro g1 W hS
 refine .c (.st T.t107 hS z z z ?_)
 intro W hS
 refine .nil (.seq (.g (.s (fa T.f107_0 z z z) z (.s (ld T.t3 hS z z z z z) z (.q z (.q z ?_))))))
 have ⟨b1,hb1,h⟩:=bnd h
 refine .cu 8 23 (b1) hS ?_ ?_
 ·refine .both (x1.Op != 5) (fun hb=>?_) (fun hb=>?_)
  ·refine .xx hb z (.xx hb z (.xx hb z (.xx hb z (.xx hb z (.xx hb z (.xx hb z ?_))))))
   cases aI hb hb1
   exact .s (pkt hb z z z) z (.nil (ck 8 hS))
  have hg1:=hb
  have h:=aJ hb hb1
  refine .g hg1 (.q z (.g hg1 (.s (fa T.f107_2 z z z) z (.g hg1 (.s (ld T.t3 hS z z z z z) z ?_)))))
  have ⟨x2,hx2,h⟩:=bnd h
  refine .g hg1 (.s (ixv (hS.keep q_1) hx2 T.u176 T.t196 z z z) z (.g hg1 (.s (fe T.f196_0 z z z) z (.g hg1 (.s (lde (RV.flat (hS.keep q_1) hx2 z) T.t3 z z z z z) z (.g hg1 (.q z (.s (pkf hg1 z z z) z ?_))))))))
  cases h
  exact .nil (ck 8 hS)
 intro W hS
 refine .nil ?_
 refine .cs z h ?_ ?_ <;> intro h
 ·refine .g (.q z (.q z ?_))
  have ⟨y1,hy1,h⟩:=bnd h
  refine .c (.cV hS Tryz.func193 (jn hy1 (hS.keep q_0)) z z ?_)
  intro v1 W hS
  obtain rfl:=o9 h
  exact .qn z (.ret (ac (vs:=[_]) v1 (rt z rn) z (hS.to [0])))
 refine .skip (.seq (.g (.q z (.s (fa T.f107_2 z z z) z (.s (ld T.t3 hS z z z z z) z ?_)))))
 have ⟨x3,hx3,h⟩:=bnd h
 refine .s (ixv (hS.keep q_1) hx3 T.u176 T.t196 z z z) z (.s (fe T.f196_1 z z z) z (.s (lde (RV.flat (hS.keep q_1) hx3 z) T.t3 z z z z z) z (.q z (.nil ?_))))
 refine .cs z h ?_ ?_ <;> intro h
 ·refine .g (.s (fa T.f107_4 z z z) z (.s (ld T.t3 hS z z z z z) z (.c (.liv [x1.N] (D.int .i64) T.u23 T.t3 hS z z z z ?_ z (fun _=>z)))))
  intro v2 W hS
  cases h
  exact .qn z (.ret (ac (vs:=[_]) v2 (rt z rn) z (hS.to [0])))
 refine .skip (.g (.q z (.q z (.c (.liv [w64 (a2 + 1)] (D.int .i64) T.u23 T.t3 hS z z z z ?_ z (fun _=>z))))))
 intro v3 W hS
 cases h
 exact .qn z (.ret (ac (vs:=[_]) v3 (rt z rn) z (hS.to [0])))
theorem nV {a0 : Bool} {w : World} {r : Int} (h : fD a0 = some r) : Cl 117 #[.bool a0] w (RU w (.int .i64 r)):=by
 unfold fD at h
 refine au Tryz.func117 z z ?_
 have hS:=Sep.start w
 refine .g (.qn z (.seq (.g (.q z (.nil ?_)))))
 refine .cs z h ?_ ?_ <;> intro h
 ·cases h
  exact .g (.qn z (.ret (ac (vs:=[_]) () (rt z rn) z (hS.to []))))
 cases h
 exact .skip (.g (.qn z (.ret (ac (vs:=[_]) () (rt z rn) z (hS.to [])))))
theorem ny {a0 : Int} {a1 : Int} {a2 : Bool} {w : World} {r : Int} (h : eH a0 a1 a2 = some r) : Cl 155 #[vi a0,vi a1,.bool a2] w (RU w (.int .i64 r)):=by
 unfold eH at h
 refine au Tryz.func155 z z ?_
 have hS:=Sep.start w
 refine .g (.qn z (.seq (.g (.q z (.nil ?_)))))
 refine .cs z h ?_ ?_ <;> intro h
 ·refine .g (.q z (.q z (.q z ?_)))
  have ⟨d1,hd1,h⟩:=bnd h
  obtain rfl:=o9 h
  exact .s (kR hd1 z z z) z (.qn z (.ret (ac (vs:=[_]) () (rt z rn) z (hS.to []))))
 refine .skip (.g (.q z (.q z (.q z ?_))))
 have ⟨d2,hd2,h⟩:=bnd h
 refine .s (kR hd2 z z z) z ?_
 have ⟨y1,hy1,h⟩:=bnd h
 refine .c (.cO hS Tryz.func74 (eS hy1) z z ?_)
 intro W hS
 obtain rfl:=o9 h
 exact .qn z (.ret (ac (vs:=[_]) () (rt z rn) z (hS.to [])))
theorem qC {a0 : Int} {a1 : Int} {w : World} {r : Int} (h : fX a0 a1 = some r) : Cl 156 #[vi a0,vi a1] w (RU w (.int .i64 r)):=by
 unfold fX at h
 refine au Tryz.func156 z z ?_
 have hS:=Sep.start w
 refine .g (.qn z (.seq (.g (.q z (.q z (.nil ?_))))))
 refine .cs z h ?_ ?_ <;> intro h
 ·cases h
  exact .g (.qn z (.ret (ac (vs:=[_]) () (rt z rn) z (hS.to []))))
 refine .skip (.g (.q z (.q z ?_)))
 have ⟨d1,hd1,h⟩:=bnd h
 refine .s (dq hd1 z z z) z ?_
 have ⟨y1,hy1,h⟩:=bnd h
 refine .c (.cO hS Tryz.func74 (eS hy1) z z ?_)
 intro W hS
 obtain rfl:=o9 h
 exact .qn z (.ret (ac (vs:=[_]) () (rt z rn) z (hS.to [])))
theorem qD {a0 : Int} {a1 : Int} {w : World} {r : Int} (h : fY a0 a1 = some r) : Cl 157 #[vi a0,vi a1] w (RU w (.int .i64 r)):=by
 unfold fY at h
 refine au Tryz.func157 z z ?_
 have hS:=Sep.start w
 refine .g (.qn z (.seq (.g (.q z (.q z (.nil ?_))))))
 refine .cs z h ?_ ?_ <;> intro h
 ·obtain rfl:=o9 h
  exact .g (.q z (.qn z (.ret (ac (vs:=[_]) () (rt z rn) z (hS.to [])))))
 refine .skip (.g (.q z (.q z ?_)))
 have ⟨d1,hd1,h⟩:=bnd h
 obtain rfl:=o9 h
 exact .s (dr hd1 z z z) z (.qn z (.ret (ac (vs:=[_]) () (rt z rn) z (hS.to []))))
end

end Go.Proofs.YtcljimkjmklkmaaGreatDoor.N
