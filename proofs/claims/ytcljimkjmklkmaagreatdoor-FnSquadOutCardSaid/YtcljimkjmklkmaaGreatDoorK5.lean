/- Printed by a program of mine: that the program's functions compute it. -/
import Derived.Test.YtcljimkjmklkmaaGreatDoorK4
set_option linter.unusedVariables false
set_option linter.unusedSimpArgs false
set_option maxRecDepth 100000
set_option maxHeartbeats 4000000
namespace Go.Proofs.YtcljimkjmklkmaaGreatDoor.N
open Go.Proofs.YtcljimkjmklkmaaGreatDoor.X
noncomputable section
abbrev Cl := Calls Tryz.prog
abbrev iv (x : Int) : Value := Value.int IntKind.i64 x
abbrev RO (w : World) (h : Hd) {α : Type} := @RV α w (Old No w) (sv h)
abbrev RU (w : World) (v : Value) := Ret No w (fun _ : Unit => v) fun _ => []
theorem z.{u} {α : Sort u} {a : α} : a = a := rfl
theorem zz {A S T : Nat → Prop} (h : ∀ b, S b → A b ∧ T b) : ∀ b, S b → T b := fun b hb => (h b hb).2
end
end Go.Proofs.YtcljimkjmklkmaaGreatDoor.N
namespace Go.Proofs.YtcljimkjmklkmaaGreatDoor.X
noncomputable section
theorem CW.g {P : Program} {n id : Nat} {ops : Array Oper} {d : Code} {E : Env} {W : World} {R : Exit → Env → World → Prop} (h : RG P n ops ops.toList E W (fun E' W' => CW P n d E' W' R)) : CW P n (.seq (.region id ops false) d) E W R := .seq (.region h)
variable {P : Program} {n : Nat} {ops : Array Oper} {o : Oper} {E : Env} {W : World} {v : Value} {K : Env → World → Prop} {SW : World → Prop} {k f : Nat} {ls : Array Bool}
theorem RK.tp' (i : Nat) (ho : ops[i]? = some o) (hv : pq n E o = some v) (hS : SW W) (h : RK P n ops SW k f (ls.setIfInBounds i true) (put E o.dst v) W K) (hs : (Region.noSelect ops && Region.free .any ops ls i && (Region.ready .any ops ls).contains i && kx ops k i && !(Nat.beq i k)) = true := by kernel_rfl) : RK P n ops SW k (f + 1) ls E W K := .tp i ho hv hS hs h
theorem RK.ts' (i : Nat) (ho : ops[i]? = some o) (hv : ∀ W, SW W → fp P n E o W v W) (hS : SW W) (hg : og n o = true) (h : RK P n ops SW k f (ls.setIfInBounds i true) (put E o.dst v) W K) (hs : (Region.noSelect ops && Region.free .any ops ls i && (Region.ready .any ops ls).contains i && kx ops k i && !(Nat.beq i k)) = true := by kernel_rfl) : RK P n ops SW k (f + 1) ls E W K := .ts i ho hv hS hg hs h
theorem RG.qn {P : Program} {n : Nat} {ops : Array Oper} {o : Oper} {E : Env} {W : World} {v : Value} {K : Env → World → Prop} (h : pq n E o = some v) (k : K (put E o.dst v) W) : RG P n ops [o] E W K := .q h (.nil k)
end
end Go.Proofs.YtcljimkjmklkmaaGreatDoor.X
namespace Go.Proofs.YtcljimkjmklkmaaGreatDoor.N
open Go.Proofs.YtcljimkjmklkmaaGreatDoor.X
noncomputable section
theorem tV {a0 : List Int} {v_0 : Hd} {w : World} {r : aU} (h : lm a0 = some r) (q_0 : RO w v_0 5 1 (D.int .u8) a0) : Cl 16 #[(sv v_0)] w (Ret No w (fun s : Nat × {x : Hd // ∀ (T : Nat → Prop),RV w T (sv v_0) 5 1 (D.int .u8) a0 → RV w T (sv x) 5 1 (D.int .u8) r.b}=>.pointer (some ⟨s.1,0,none⟩)) (fun s=>[.box s.1 74 [(sv s.2.1),iv r.p]])):=by
 unfold lm at h
 refine ay Tryz.func16 z z ?_
 have hS:=Sep.start w
 refine .g (.q z (.nil ?_))
 have ⟨y1,hy1,h⟩:=bnd h
 refine .seq (CW.via (R':=fun x E' W'=>x = .normal ∧ ∃ (v1 : Hd),(∀ (T : Nat → Prop),RV w T (sv v_0) 5 1 (D.int .u8) a0 → RV w T (sv v1) 5 1 (D.int .u8) y1) ∧ aK E' [(0,(sv v1))] ∧ Sep No w W' []) ?_ ?_)
 ·have h:=hy1
  refine .g (.q z (.s (bq (hS.keep q_0) T.u22 z z) z (.q z (.nil ?_))))
  refine .cs z h ?_ ?_ <;> intro h
  ·refine .region (.q z ?_)
   have ⟨r1,hr1,h⟩:=bnd h
   refine .s (slv hr1 q_0 T.u22 T.t5 z z z z) z (.q z (.nil ?_))
   obtain rfl:=o9 h
   exact ⟨z,(pT v_0 (Int.toNat 0) 1 r1.length),fun _ q_0=>(uU hr1 q_0),sb z,hS.to []⟩
  refine .skip ?_
  obtain rfl:=o9 h
  exact ⟨z,v_0,fun _ q_0=>q_0,sb z,hS.to []⟩
 intro x E W hJ
 obtain ⟨rfl,v2,q2,hE,hS⟩:=hJ
 refine ⟨_,hE.sub,?_⟩
 refine .g (.q z (.s (bs T.s74 z z) z (.c (.box hS z z ?_))))
 intro g1 W hS
 cases h
 exact .qn z (.ret (ab (vs:=[_]) (g1,⟨v2,fun _ q_0=>(q2 _ q_0)⟩) (rt z rn) z (hS.to [0])))
theorem ak {a0 : aU} {a1 : Int} {ax : Hd} {g_0 : Nat} {S : Nat → Prop} {w : World} {r : Int × Int} (h : ar a0 a1 = some r) (aQ : RV w (Old S w) (sv ax) 5 1 (D.int .u8) a0.b) (hO : bG w [.box g_0 74 [(sv ax),iv a0.p]] S) (hlt : ∀ b,S b → b < w.heap.size) : Cl 18 #[pt g_0,iv a1] w (Ret S w (fun s : Unit=>.int .i64 r.1) (fun s=>[.box g_0 74 [(sv ax),iv r.2]])):=by
 unfold ar at h
 refine ay Tryz.func18 z z ?_
 have hS:=Sep.sm hO hlt
 refine .g (.qn z (.g (.q z (.q z (.q z (.s (fa T.f74_1 z z z) z (.s (ld T.t3 hS z z z z z) z (.q z (.q z (.s (fa T.f74_1 z z z) z (.c (.st T.t3 hS z z z ?_))))))))))))
 intro W hS
 refine .nil (.seq (.g (.q z (.q z (.q z (.cu 7 24 ((decide (a1 < 1)) || ((a0.b.length : Int) == 0)) hS ?_ ?_))))))
 ·refine .both (decide (a1 < 1)) (fun hb=>?_) (fun hb=>?_)
  ·exact .xx hb z (.xx hb z (.xx hb z (.xx hb z (.xx hb z (.xx hb z (.s (pkt hb z z z) z (.nil (ck 7 hS z (ig hb)))))))))
  have hg1:=hb
  exact .g hg1 (.q z (.g hg1 (.q z (.g hg1 (.s (fa T.f74_0 z z z) z (.g hg1 (.s (ld T.t22 hS z z z z z) z (.g hg1 (.s (bq (hS.keep aQ) T.u22 z z) z (.g hg1 (.q z (.s (pkf hg1 z z z) z (.nil (ck 7 hS z (ij hg1)))))))))))))))
 intro W hS
 refine .nil ?_
 refine .cs z h ?_ ?_ <;> intro h
 ·cases h
  exact .g (.qn z (.ret (ab (vs:=[_]) () (rt z rn) z (hS.to [0]))))
 refine .skip (.g (.q z (.q z (.s (fa T.f74_1 z z z) z (.s (ld T.t3 hS z z z z z) z (.q z (.qn z (.seq (.g (.q z (.q z (.q z (.s (fa T.f74_0 z z z) z (.s (ld T.t22 hS z z z z z) z (.s (bq (hS.keep aQ) T.u22 z z) z (.q z (.nil ?_)))))))))))))))))
 refine .cs z h ?_ ?_ <;> intro h
 ·refine .g (.q z (.q z (.s (fa T.f74_0 z z z) z (.s (ld T.t22 hS z z z z z) z (.q z ?_)))))
  have ⟨x1,hx1,h⟩:=bnd h
  refine .s (ixv (hS.keep aQ) hx1 T.u22 T.t5 z z z) z (.s (lde (RV.flat (hS.keep aQ) hx1 z) T.t5 z z z z z) z (.s (cv T.u5 T.u3 z z) z (.q z ?_)))
  have ⟨d1,hd1,h⟩:=bnd h
  cases h
  exact .s (dr hd1 z z z) z (.qn z (.ret (ab (vs:=[_]) () (rt z rn) z (hS.to [0]))))
 refine .skip (.seq (.rk 46 hS [0] T.mix ?_))
 intro W hS
 have hT:=hS.to [0]
 refine .tp' 0 z z hT (.tp' 1 z z hT (.ts' 2 z (fun W hT=>fa T.f74_0 z z z) hT z (.ts' 3 z (fun W hT=>ld T.t22 hT z z z z z) hT z (.tp' 4 z z hT (.tp' 5 z z hT (.tp' 6 z z hT (.ts' 7 z (fun W hT=>fa T.f74_0 z z z) hT z (.ts' 8 z (fun W hT=>ld T.t22 hT z z z z z) hT z (.ts' 9 z (fun W hT=>bq (hS.keep aQ) T.u22 z z) hT z ?_)))))))))
 have ⟨d2,hd2,h⟩:=bnd h
 refine .ts' 10 z (fun W hT=>dr hd2 z z z) hT z ?_
 have ⟨x2,hx2,h⟩:=bnd h
 refine .ts' 11 z (fun W hT=>ixv (hS.keep aQ) hx2 T.u22 T.t5 z z z) hT z (.ts' 12 z (fun W hT=>lde (RV.flat (hT.keep aQ) hx2 z) T.t5 z z z z z) hT z (.ts' 13 z (fun W hT=>cv T.u5 T.u3 z z) hT z (.tp' 14 z z hT (.tp' 15 z z hT (.tp' 16 z z hT (.ts' 17 z (fun W hT=>fa T.f74_0 z z z) hT z (.ts' 18 z (fun W hT=>ld T.t22 hT z z z z z) hT z (.tp' 19 z z hT (.tp' 20 z z hT (.tp' 21 z z hT (.tp' 22 z z hT (.tp' 23 z z hT (.ts' 24 z (fun W hT=>fa T.f74_0 z z z) hT z (.ts' 25 z (fun W hT=>ld T.t22 hT z z z z z) hT z (.ts' 26 z (fun W hT=>bq (hS.keep aQ) T.u22 z z) hT z ?_)))))))))))))))
 have ⟨d3,hd3,h⟩:=bnd h
 refine .ts' 27 z (fun W hT=>dr hd3 z z z) hT z ?_
 have ⟨x3,hx3,h⟩:=bnd h
 refine .ts' 28 z (fun W hT=>ixv (hS.keep aQ) hx3 T.u22 T.t5 z z z) hT z (.ts' 29 z (fun W hT=>lde (RV.flat (hT.keep aQ) hx3 z) T.t5 z z z z z) hT z (.ts' 30 z (fun W hT=>cv T.u5 T.u3 z z) hT z (.tp' 31 z z hT (.tp' 32 z z hT (.tp' 33 z z hT (.tp' 34 z z hT (.tp' 35 z z hT (.tp' 36 z z hT (.tp' 37 z z hT (.tp' 38 z z hT (.ts' 39 z (fun W hT=>fa T.f74_0 z z z) hT z (.ts' 40 z (fun W hT=>ld T.t22 hT z z z z z) hT z (.ts' 41 z (fun W hT=>bq (hS.keep aQ) T.u22 z z) hT z ?_)))))))))))))
 have ⟨d4,hd4,h⟩:=bnd h
 refine .ts' 42 z (fun W hT=>dq hd4 z z z) hT z (.tp' 43 z z hT (.tp' 44 z z hT (.tp' 45 z z hT (.done (.g (.q z (.q z (.q z (.q z (.qn z (.g (.q z (.q z ?_)))))))))))))
 have ⟨d5,hd5,h⟩:=bnd h
 cases h
 exact .s (dr hd5 z z z) z (.qn z (.ret (ab (vs:=[_]) () (rt z rn) z (hS.to [0]))))
theorem dh {a0 : aU} {ax : Hd} {g_0 : Nat} {S : Nat → Prop} {w : World} {r : Int × Int} (h : c6 a0 = some r) (aQ : RV w (Old S w) (sv ax) 5 1 (D.int .u8) a0.b) (hO : bG w [.box g_0 74 [(sv ax),iv a0.p]] S) (hlt : ∀ b,S b → b < w.heap.size) : Cl 141 #[pt g_0] w (Ret S w (fun s : Unit=>.int .i64 r.1) (fun s=>[.box g_0 74 [(sv ax),iv r.2]])):=by
 unfold c6 at h
 refine ay Tryz.func141 z z ?_
 have hS:=Sep.sm hO hlt
 refine .g (.qn z (.g (.q z ?_)))
 have ⟨y1,hy1,h⟩:=bnd h
 refine .c (.cS (L0:=[.box g_0 74 [(sv ax),iv a0.p]]) hS Tryz.func18 (fun S h1 h2 h3=>(ak hy1 (hS.ks aQ h1) h2 (zz h1))) z z ?_)
 rintro ⟨⟩ W hS
 cases h
 exact .qn z (.ret (ab (vs:=[_]) () (rt z rn) z (hS.to [0])))
theorem cC {a0 : Int} {w : World} {r : Int} (h : bW a0 = some r) : Cl 74 #[iv a0] w (RU w (.int .i64 r)):=by
 unfold bW at h
 refine ay Tryz.func74 z z ?_
 have hS:=Sep.start w
 refine .g (.qn z (.g (.q z (.q z (.qn z (.seq (.g (.q z (.q z (.nil ?_))))))))))
 refine .cs z h ?_ ?_ <;> intro h
 ·cases h
  exact .g (.q z (.q z (.qn z (.ret (ab (vs:=[_]) () (rt z rn) z (hS.to []))))))
 refine .skip (.seq (.g (.q z (.q z (.nil ?_)))))
 refine .cs z h ?_ ?_ <;> intro h
 ·cases h
  exact .g (.q z (.q z (.qn z (.ret (ab (vs:=[_]) () (rt z rn) z (hS.to []))))))
 cases h
 exact .skip (.g (.q z (.qn z (.ret (ab (vs:=[_]) () (rt z rn) z (hS.to []))))))
theorem r7 {a0 : aU} {ax : Hd} {g_0 : Nat} {S : Nat → Prop} {w : World} {r : Int × Int} (h : jM a0 = some r) (aQ : RV w (Old S w) (sv ax) 5 1 (D.int .u8) a0.b) (hO : bG w [.box g_0 74 [(sv ax),iv a0.p]] S) (hlt : ∀ b,S b → b < w.heap.size) : Cl 142 #[pt g_0] w (Ret S w (fun s : Unit=>.int .i64 r.1) (fun s=>[.box g_0 74 [(sv ax),iv r.2]])):=by
 unfold jM at h
 refine ay Tryz.func142 z z ?_
 have hS:=Sep.sm hO hlt
 refine .g (.qn z (.seq (.g (.q z ?_))))
 have ⟨y1,hy1,h⟩:=bnd h
 refine .c (.cS (L0:=[.box g_0 74 [(sv ax),iv a0.p]]) hS Tryz.func18 (fun S h1 h2 h3=>(ak hy1 (hS.ks aQ h1) h2 (zz h1))) z z ?_)
 rintro ⟨⟩ W hS
 refine .nil (.block (.g (.q z (.qn z (.cond z (fun hb=>?_) (fun hb=>?_))))))
 ·have h:=aI hb h
  refine .g (.c (.liv [(-2147483648),2147483647,(-1),0,1,(-2147483647),65536,(-65536)] (D.int .i64) T.u23 T.t3 hS z z z z ?_ z (fun _=>z)))
  intro v1 W hS
  refine .q z ?_
  have ⟨y2,hy2,h⟩:=bnd h
  have hS:=hS.p1
  refine .c (.cS (L0:=[.box g_0 74 [(sv ax),iv y1.2]]) hS Tryz.func18 (fun S h1 h2 h3=>(ak hy2 (hS.ks aQ h1) h2 (zz h1))) z z ?_)
  rintro ⟨⟩ W hS
  have ⟨x1,hx1,h⟩:=bnd h
  cases h
  exact .s (ixv hS.p1.lv hx1 T.u23 T.t3 z z z) z (.s (lde (RV.flat hS.p1.lv hx1 z) T.t3 z z z z z) z (.qn z (.ret (ab (vs:=[_]) () (rt z rn) z (hS.to [0])))))
 have h:=aJ hb h
 refine .g (.q z (.qn z (.cond z (fun hb=>?_) (fun hb=>?_))))
 ·have h:=aI hb h
  refine .g (.q z ?_)
  have ⟨y3,hy3,h⟩:=bnd h
  refine .c (.cS (L0:=[.box g_0 74 [(sv ax),iv y1.2]]) hS Tryz.func18 (fun S h1 h2 h3=>(ak hy3 (hS.ks aQ h1) h2 (zz h1))) z z ?_)
  rintro ⟨⟩ W hS
  refine .q z (.q z ?_)
  have ⟨y4,hy4,h⟩:=bnd h
  refine .c (.cS (L0:=[.box g_0 74 [(sv ax),iv y3.2]]) hS Tryz.func18 (fun S h1 h2 h3=>(ak hy4 (hS.ks aQ h1) h2 (zz h1))) z z ?_)
  rintro ⟨⟩ W hS
  refine .q z (.q z (.q z ?_))
  have ⟨y5,hy5,h⟩:=bnd h
  refine .c (.cS (L0:=[.box g_0 74 [(sv ax),iv y4.2]]) hS Tryz.func18 (fun S h1 h2 h3=>(ak hy5 (hS.ks aQ h1) h2 (zz h1))) z z ?_)
  rintro ⟨⟩ W hS
  refine .q z (.q z ?_)
  have ⟨y6,hy6,h⟩:=bnd h
  refine .c (.cS (L0:=[.box g_0 74 [(sv ax),iv y5.2]]) hS Tryz.func18 (fun S h1 h2 h3=>(ak hy6 (hS.ks aQ h1) h2 (zz h1))) z z ?_)
  rintro ⟨⟩ W hS
  refine .q z (.q z ?_)
  have ⟨y7,hy7,h⟩:=bnd h
  refine .c (.cO hS Tryz.func74 (cC hy7) z z ?_)
  intro W hS
  cases h
  exact .qn z (.ret (ab (vs:=[_]) () (rt z rn) z (hS.to [0])))
 have h:=aJ hb h
 refine .g (.q z (.qn z (.cond z (fun hb=>?_) (fun hb=>?_))))
 ·have h:=aI hb h
  refine .g (.q z ?_)
  have ⟨y8,hy8,h⟩:=bnd h
  refine .c (.cS (L0:=[.box g_0 74 [(sv ax),iv y1.2]]) hS Tryz.func18 (fun S h1 h2 h3=>(ak hy8 (hS.ks aQ h1) h2 (zz h1))) z z ?_)
  rintro ⟨⟩ W hS
  cases h
  exact .q z (.qn z (.ret (ab (vs:=[_]) () (rt z rn) z (hS.to [0]))))
 have h:=aJ hb h
 refine .skip (.g (.q z ?_))
 have ⟨y9,hy9,h⟩:=bnd h
 refine .c (.cS (L0:=[.box g_0 74 [(sv ax),iv y1.2]]) hS Tryz.func18 (fun S h1 h2 h3=>(ak hy9 (hS.ks aQ h1) h2 (zz h1))) z z ?_)
 rintro ⟨⟩ W hS
 cases h
 exact .qn z (.ret (ab (vs:=[_]) () (rt z rn) z (hS.to [0])))
theorem pb {a0 : aU} {ax : Hd} {g_0 : Nat} {S : Nat → Prop} {w : World} {r : Int × Int} (h : kC a0 = some r) (aQ : RV w (Old S w) (sv ax) 5 1 (D.int .u8) a0.b) (hO : bG w [.box g_0 74 [(sv ax),iv a0.p]] S) (hlt : ∀ b,S b → b < w.heap.size) : Cl 143 #[pt g_0] w (Ret S w (fun s : Unit=>.int .i64 r.1) (fun s=>[.box g_0 74 [(sv ax),iv r.2]])):=by
 unfold kC at h
 refine ay Tryz.func143 z z ?_
 have hS:=Sep.sm hO hlt
 refine .g (.qn z (.g (.q z ?_)))
 have ⟨y1,hy1,h⟩:=bnd h
 refine .c (.cS (L0:=[.box g_0 74 [(sv ax),iv a0.p]]) hS Tryz.func18 (fun S h1 h2 h3=>(ak hy1 (hS.ks aQ h1) h2 (zz h1))) z z ?_)
 rintro ⟨⟩ W hS
 cases h
 exact .q z (.qn z (.ret (ab (vs:=[_]) () (rt z rn) z (hS.to [0]))))
theorem r8 {a0 : aU} {a1 : Int} {ax : Hd} {g_0 : Nat} {S : Nat → Prop} {w : World} {r : al × Int} (h : jN a0 a1 = some r) (aQ : RV w (Old S w) (sv ax) 5 1 (D.int .u8) a0.b) (hO : bG w [.box g_0 74 [(sv ax),iv a0.p]] S) (hlt : ∀ b,S b → b < w.heap.size) : Cl 119 #[pt g_0,iv a1] w (Ret S w (fun s : Unit=>.agg #[iv r.1.Op,iv r.1.Dst,iv r.1.A,iv r.1.B,iv r.1.N]) (fun s=>[.box g_0 74 [(sv ax),iv r.2]])):=by
 unfold jN at h
 refine ay Tryz.func119 z z ?_
 have hS:=Sep.sm hO hlt
 refine .g (.c (.alloc T.t107 hS ?_))
 intro g1 W hS
 refine .nil (.seq (.g (.q z ?_)))
 have ⟨y1,hy1,h⟩:=bnd h
 have hS:=hS.p1
 refine .c (.cS (L0:=[.box g_0 74 [(sv ax),iv a0.p]]) hS Tryz.func18 (fun S h1 h2 h3=>(ak hy1 (hS.ks aQ h1) h2 (zz h1))) z z ?_)
 rintro ⟨⟩ W hS
 refine .nil (.block ?_)
 have ⟨y2,hy2,h⟩:=bnd h
 refine .seq (CW.via (R':=fun x E' W'=>x = .normal ∧ aK E' [(0,pt g_0),(1,iv a1),(4,pt g1),(13,iv y1.1),(14,.bool y2)] ∧ Sep S w W' [.box g_0 74 [(sv ax),iv y1.2],.box g1 107 [iv 0,iv 0,iv 0,iv 0,iv 0]]) ?_ ?_)
 ·have h:=hy2
  refine .g (.q z (.q z (.nil ?_)))
  refine .cs z h ?_ ?_ <;> intro h
  ·refine .skip ?_
   cases h
   exact ⟨z,sb z,hS.to [0,0]⟩
  refine .region (.q z (.q z (.nil ?_)))
  cases h
  exact ⟨z,sb z,hS.to [0,0]⟩
 intro x E W hJ
 obtain ⟨rfl,hE,hS⟩:=hJ
 refine ⟨_,hE.sub,?_⟩
 refine .cond z (fun hb=>?_) (fun hb=>?_)
 ·have h:=aI hb h
  refine .g (.q z ?_)
  have ⟨y3,hy3,h⟩:=bnd h
  refine .c (.cS (L0:=[.box g_0 74 [(sv ax),iv y1.2]]) hS Tryz.func141 (fun S h1 h2 h3=>(dh hy3 (hS.ks aQ h1) h2 (zz h1))) z z ?_)
  rintro ⟨⟩ W hS
  refine .q z ?_
  have ⟨y4,hy4,h⟩:=bnd h
  refine .c (.cS (L0:=[.box g_0 74 [(sv ax),iv y3.2]]) hS Tryz.func142 (fun S h1 h2 h3=>(r7 hy4 (hS.ks aQ h1) h2 (zz h1))) z z ?_)
  rintro ⟨⟩ W hS
  refine .c (.liv [0,1,2,y4.1] (D.int .i64) T.u23 T.t3 hS z z z z ?_ z (fun _=>z))
  intro v1 W hS
  refine .q z ?_
  have ⟨y5,hy5,h⟩:=bnd h
  have hS:=hS.p1
  refine .c (.cS (L0:=[.box g_0 74 [(sv ax),iv y4.2]]) hS Tryz.func18 (fun S h1 h2 h3=>(ak hy5 (hS.ks aQ h1) h2 (zz h1))) z z ?_)
  rintro ⟨⟩ W hS
  have ⟨x1,hx1,h⟩:=bnd h
  refine .s (ixv hS.p1.lv hx1 T.u23 T.t3 z z z) z (.s (lde (RV.flat hS.p1.lv hx1 z) T.t3 z z z z z) z (.s (bs T.s107 z z) z (.c (.st T.t107 hS.p2 z z z ?_))))
  intro W hS
  cases h
  exact .nil (.ret (ab (vs:=[_]) () (rc hS T.t107 z rn z z) z (hS.to [1])))
 have h:=aJ hb h
 have ⟨y6,hy6,h⟩:=bnd h
 refine .seq (CW.via (R':=fun x E' W'=>x = .normal ∧ aK E' [(0,pt g_0),(1,iv a1),(4,pt g1),(13,iv y1.1),(27,.bool y6)] ∧ Sep S w W' [.box g_0 74 [(sv ax),iv y1.2],.box g1 107 [iv 0,iv 0,iv 0,iv 0,iv 0]]) ?_ ?_)
 ·have h:=hy6
  refine .g (.q z (.q z (.nil ?_)))
  refine .cs z h ?_ ?_ <;> intro h
  ·refine .skip ?_
   cases h
   exact ⟨z,sb z,hS.to [0,0]⟩
  refine .region (.q z (.q z (.nil ?_)))
  cases h
  exact ⟨z,sb z,hS.to [0,0]⟩
 intro x E W hJ
 obtain ⟨rfl,hE,hS⟩:=hJ
 refine ⟨_,hE.sub,?_⟩
 refine .cond z (fun hb=>?_) (fun hb=>?_)
 ·have h:=aI hb h
  refine .g (.q z ?_)
  have ⟨y7,hy7,h⟩:=bnd h
  refine .c (.cS (L0:=[.box g_0 74 [(sv ax),iv y1.2]]) hS Tryz.func141 (fun S h1 h2 h3=>(dh hy7 (hS.ks aQ h1) h2 (zz h1))) z z ?_)
  rintro ⟨⟩ W hS
  refine .qn z (.g (.q z (.q z ?_)))
  have ⟨y8,hy8,h⟩:=bnd h
  refine .c (.cS (L0:=[.box g_0 74 [(sv ax),iv y7.2]]) hS Tryz.func141 (fun S h1 h2 h3=>(dh hy8 (hS.ks aQ h1) h2 (zz h1))) z z ?_)
  rintro ⟨⟩ W hS
  refine .s (bs T.s107 z z) z (.c (.st T.t107 hS.p1 z z z ?_))
  intro W hS
  cases h
  exact .nil (.ret (ab (vs:=[_]) () (rc hS T.t107 z rn z z) z (hS.to [1])))
 have h:=aJ hb h
 have ⟨y9,hy9,h⟩:=bnd h
 refine .seq (CW.via (R':=fun x E' W'=>x = .normal ∧ aK E' [(0,pt g_0),(1,iv a1),(4,pt g1),(13,iv y1.1),(36,.bool y9)] ∧ Sep S w W' [.box g_0 74 [(sv ax),iv y1.2],.box g1 107 [iv 0,iv 0,iv 0,iv 0,iv 0]]) ?_ ?_)
 ·have h:=hy9
  refine .g (.q z (.q z (.nil ?_)))
  refine .cs z h ?_ ?_ <;> intro h
  ·refine .skip ?_
   cases h
   exact ⟨z,sb z,hS.to [0,0]⟩
  refine .g (.q z (.q z (.nil ?_)))
  refine .cs z h ?_ ?_ <;> intro h
  ·refine .skip ?_
   cases h
   exact ⟨z,sb z,hS.to [0,0]⟩
  refine .region (.q z (.q z (.nil ?_)))
  cases h
  exact ⟨z,sb z,hS.to [0,0]⟩
 intro x E W hJ
 obtain ⟨rfl,hE,hS⟩:=hJ
 refine ⟨_,hE.sub,?_⟩
 refine .cond z (fun hb=>?_) (fun hb=>?_)
 ·have h:=aI hb h
  refine .g (.q z ?_)
  have ⟨y10,hy10,h⟩:=bnd h
  refine .c (.cS (L0:=[.box g_0 74 [(sv ax),iv y1.2]]) hS Tryz.func141 (fun S h1 h2 h3=>(dh hy10 (hS.ks aQ h1) h2 (zz h1))) z z ?_)
  rintro ⟨⟩ W hS
  refine .qn z (.g (.q z ?_))
  have ⟨y11,hy11,h⟩:=bnd h
  refine .c (.cS (L0:=[.box g_0 74 [(sv ax),iv y10.2]]) hS Tryz.func141 (fun S h1 h2 h3=>(dh hy11 (hS.ks aQ h1) h2 (zz h1))) z z ?_)
  rintro ⟨⟩ W hS
  refine .qn z (.g (.q z ?_))
  have ⟨y12,hy12,h⟩:=bnd h
  refine .c (.cS (L0:=[.box g_0 74 [(sv ax),iv y11.2]]) hS Tryz.func141 (fun S h1 h2 h3=>(dh hy12 (hS.ks aQ h1) h2 (zz h1))) z z ?_)
  rintro ⟨⟩ W hS
  refine .qn z (.g (.q z (.q z (.q z (.q z ?_)))))
  have ⟨y13,hy13,h⟩:=bnd h
  refine .c (.cS (L0:=[.box g_0 74 [(sv ax),iv y12.2]]) hS Tryz.func143 (fun S h1 h2 h3=>(pb hy13 (hS.ks aQ h1) h2 (zz h1))) z z ?_)
  rintro ⟨⟩ W hS
  refine .s (bs T.s107 z z) z (.c (.st T.t107 hS.p1 z z z ?_))
  intro W hS
  cases h
  exact .nil (.ret (ab (vs:=[_]) () (rc hS T.t107 z rn z z) z (hS.to [1])))
 have h:=aJ hb h
 refine .g (.q z (.qn z (.cond z (fun hb=>?_) (fun hb=>?_))))
 ·have h:=aI hb h
  refine .g (.q z (.q z ?_))
  have ⟨y14,hy14,h⟩:=bnd h
  refine .c (.cS (L0:=[.box g_0 74 [(sv ax),iv y1.2]]) hS Tryz.func18 (fun S h1 h2 h3=>(ak hy14 (hS.ks aQ h1) h2 (zz h1))) z z ?_)
  rintro ⟨⟩ W hS
  refine .s (bs T.s107 z z) z (.c (.st T.t107 hS.p1 z z z ?_))
  intro W hS
  cases h
  exact .nil (.ret (ab (vs:=[_]) () (rc hS T.t107 z rn z z) z (hS.to [1])))
 have h:=aJ hb h
 refine .g (.q z (.qn z (.cond z (fun hb=>?_) (fun hb=>?_))))
 ·have h:=aI hb h
  refine .g (.q z ?_)
  have ⟨y15,hy15,h⟩:=bnd h
  refine .c (.cS (L0:=[.box g_0 74 [(sv ax),iv y1.2]]) hS Tryz.func141 (fun S h1 h2 h3=>(dh hy15 (hS.ks aQ h1) h2 (zz h1))) z z ?_)
  rintro ⟨⟩ W hS
  refine .qn z (.g (.q z (.q z (.q z ?_))))
  have ⟨y16,hy16,h⟩:=bnd h
  refine .c (.cS (L0:=[.box g_0 74 [(sv ax),iv y15.2]]) hS Tryz.func18 (fun S h1 h2 h3=>(ak hy16 (hS.ks aQ h1) h2 (zz h1))) z z ?_)
  rintro ⟨⟩ W hS
  refine .s (bs T.s107 z z) z (.c (.st T.t107 hS.p1 z z z ?_))
  intro W hS
  cases h
  exact .nil (.ret (ab (vs:=[_]) () (rc hS T.t107 z rn z z) z (hS.to [1])))
 have h:=aJ hb h
 refine .g (.q z (.qn z (.cond z (fun hb=>?_) (fun hb=>?_))))
 ·have h:=aI hb h
  refine .g (.q z ?_)
  have ⟨y17,hy17,h⟩:=bnd h
  refine .c (.cS (L0:=[.box g_0 74 [(sv ax),iv y1.2]]) hS Tryz.func141 (fun S h1 h2 h3=>(dh hy17 (hS.ks aQ h1) h2 (zz h1))) z z ?_)
  rintro ⟨⟩ W hS
  refine .qn z (.g (.q z (.q z ?_)))
  have ⟨y18,hy18,h⟩:=bnd h
  refine .c (.cS (L0:=[.box g_0 74 [(sv ax),iv y17.2]]) hS Tryz.func18 (fun S h1 h2 h3=>(ak hy18 (hS.ks aQ h1) h2 (zz h1))) z z ?_)
  rintro ⟨⟩ W hS
  refine .s (bs T.s107 z z) z (.c (.st T.t107 hS.p1 z z z ?_))
  intro W hS
  cases h
  exact .nil (.ret (ab (vs:=[_]) () (rc hS T.t107 z rn z z) z (hS.to [1])))
 have h:=aJ hb h
 refine .g (.q z (.qn z (.cond z (fun hb=>?_) (fun hb=>?_))))
 ·have h:=aI hb h
  refine .g (.q z ?_)
  have ⟨y19,hy19,h⟩:=bnd h
  refine .c (.cS (L0:=[.box g_0 74 [(sv ax),iv y1.2]]) hS Tryz.func141 (fun S h1 h2 h3=>(dh hy19 (hS.ks aQ h1) h2 (zz h1))) z z ?_)
  rintro ⟨⟩ W hS
  refine .qn z (.g (.q z (.q z ?_)))
  have ⟨y20,hy20,h⟩:=bnd h
  refine .c (.cS (L0:=[.box g_0 74 [(sv ax),iv y19.2]]) hS Tryz.func18 (fun S h1 h2 h3=>(ak hy20 (hS.ks aQ h1) h2 (zz h1))) z z ?_)
  rintro ⟨⟩ W hS
  refine .s (bs T.s107 z z) z (.c (.st T.t107 hS.p1 z z z ?_))
  intro W hS
  cases h
  exact .nil (.ret (ab (vs:=[_]) () (rc hS T.t107 z rn z z) z (hS.to [1])))
 have h:=aJ hb h
 refine .skip (.seq (.g (.q z ?_)))
 have ⟨y21,hy21,h⟩:=bnd h
 refine .c (.cS (L0:=[.box g_0 74 [(sv ax),iv y1.2]]) hS Tryz.func18 (fun S h1 h2 h3=>(ak hy21 (hS.ks aQ h1) h2 (zz h1))) z z ?_)
 rintro ⟨⟩ W hS
 refine .qn z (.cond z (fun hb=>?_) (fun hb=>?_))
 ·have h:=aI hb h
  refine .g (.s (bs T.s107 z z) z (.c (.st T.t107 hS.p1 z z z ?_)))
  intro W hS
  cases h
  exact .nil (.ret (ab (vs:=[_]) () (rc hS T.t107 z rn z z) z (hS.to [1])))
 have h:=aJ hb h
 refine .skip (.g (.q z ?_))
 have ⟨y22,hy22,h⟩:=bnd h
 refine .c (.cS (L0:=[.box g_0 74 [(sv ax),iv y21.2]]) hS Tryz.func141 (fun S h1 h2 h3=>(dh hy22 (hS.ks aQ h1) h2 (zz h1))) z z ?_)
 rintro ⟨⟩ W hS
 refine .s (bs T.s107 z z) z (.c (.st T.t107 hS.p1 z z z ?_))
 intro W hS
 cases h
 exact .nil (.ret (ab (vs:=[_]) () (rc hS T.t107 z rn z z) z (hS.to [1])))
theorem mE {a0 : aU} {ax : Hd} {g_0 : Nat} {S : Nat → Prop} {w : World} {r : (List al) × Int} (h : fy a0 = some r) (aQ : RV w (Old S w) (sv ax) 5 1 (D.int .u8) a0.b) (hO : bG w [.box g_0 74 [(sv ax),iv a0.p]] S) (hlt : ∀ b,S b → b < w.heap.size) : Cl 89 #[pt g_0] w (Ret S w (fun s : Hd=>(sv s)) (fun s=>[.box g_0 74 [(sv ax),iv r.2],ae (sv s) 107 5 aX r.1])):=by
 unfold fy at h
 refine ay Tryz.func89 z z ?_
 have hS:=Sep.sm hO hlt
 refine .g (.qn z (.g (.q z ?_)))
 have ⟨y1,hy1,h⟩:=bnd h
 refine .c (.cS (L0:=[.box g_0 74 [(sv ax),iv a0.p]]) hS Tryz.func18 (fun S h1 h2 h3=>(ak hy1 (hS.ks aQ h1) h2 (zz h1))) z z ?_)
 rintro ⟨⟩ W hS
 refine .q z (.qn z (.g (.c (.liv [] aX T.u78 T.t107 hS z z z z ?_ z (fun _=>z)))))
 intro v1 W hS
 refine .qn z (.seq (.g (.qn z (.block ?_))))
 have ⟨y2,hy2,h⟩:=bnd h
 refine .via (.iter (fun s1 E' W'=>∃ (v4 : Hd),aK E' [(0,pt g_0),(3,iv (w64 (1 + y1.1))),(4,(sv v4)),(5,iv s1.2.1)] ∧ Sep S w W' [.box g_0 74 [(sv ax),iv s1.2.2],ae (sv v4) 107 5 aX s1.1]) (fun y3 x E' W'=>x = .exit 0 ∧ ∃ (v5 : Hd),aK E' [(0,pt g_0),(3,iv (w64 (1 + y1.1))),(4,(sv v5))] ∧ Sep S w W' [.box g_0 74 [(sv ax),iv y3.2],ae (sv v5) 107 5 aX y3.1]) hy2 ⟨v1,sb z,hS.to [1,0]⟩ ?_) ?_
 ·intro s1 y4 E W h hI
  obtain ⟨v3,hE,hS⟩:=hI
  refine CW.sub hE ?_
  unfold jO at h
  refine .seq (.g (.q z (.q z (.q z (.qn z (.cond z (fun hb=>?_) (fun hb=>?_)))))))
  ·have h:=aI hb h
   refine .skip (.seq (.block (.region (.q z (.q z (.q z ?_))))))
   have ⟨y5,hy5,h⟩:=bnd h
   refine .c (.cS (L0:=[.box g_0 74 [(sv ax),iv s1.2.2]]) hS Tryz.func119 (fun S h1 h2 h3=>(r8 hy5 (hS.ks aQ h1) h2 (zz h1))) z z ?_)
   rintro ⟨⟩ W hS
   refine .c (.liv [y5.1] aX T.u78 T.t107 hS z z z z ?_ z (fun _=>z))
   intro v6 W hS
   have ⟨r1,hr1,h⟩:=bnd h
   have hT0:=hS.p2
   refine .c (.av hr1 hT0 hT0.p1.lv (fun _=>z) T.u78 T.t107 z z z ?_)
   intro v7 W hS
   refine .qn z (.region (.q z (.q z (.q z (.nil ?_)))))
   cases h
   exact ⟨z,v7,sb z,hS.to [2,0]⟩
  have h:=aJ hb h
  refine .exit ?_
  cases h
  exact ⟨by simp,z,v3,sb z,hS.to [0,0]⟩
 intro x E W hJ
 obtain ⟨rfl,v8,hE,hS⟩:=hJ
 refine ⟨_,hE.sub,?_⟩
 refine .seq (.g (.q z ?_))
 have ⟨y6,hy6,h⟩:=bnd h
 refine .c (.cS (L0:=[.box g_0 74 [(sv ax),iv y2.2]]) hS Tryz.func18 (fun S h1 h2 h3=>(ak hy6 (hS.ks aQ h1) h2 (zz h1))) z z ?_)
 rintro ⟨⟩ W hS
 refine .qn z (.cond z (fun hb=>?_) (fun hb=>?_))
 ·have h:=aI hb h
  refine .g (.q z (.q z (.q z ?_)))
  have ⟨y7,hy7,h⟩:=bnd h
  refine .c (.cS (L0:=[.box g_0 74 [(sv ax),iv y6.2]]) hS Tryz.func18 (fun S h1 h2 h3=>(ak hy7 (hS.ks aQ h1) h2 (zz h1))) z z ?_)
  rintro ⟨⟩ W hS
  refine .s (bs T.s107 z z) z (.c (.liv [(al.mk 4 0 0 0 y7.1)] aX T.u78 T.t107 hS z z z z ?_ z (fun _=>z)))
  intro v9 W hS
  have ⟨r2,hr2,h⟩:=bnd h
  have hT0:=hS.p2
  refine .c (.av hr2 hT0 hT0.p1.lv (fun _=>z) T.u78 T.t107 z z z ?_)
  intro v10 W hS
  cases h
  exact .qn z (.ret (ab (vs:=[_]) v10 (rt z rn) z (hS.to [2,0])))
 have h:=aJ hb h
 refine .skip (.g (.q z (.s (bs T.s107 z z) z (.c (.liv [(al.mk 10 0 0 0 0)] aX T.u78 T.t107 hS z z z z ?_ z (fun _=>z))))))
 intro v11 W hS
 have ⟨r3,hr3,h⟩:=bnd h
 have hT0:=hS.p2
 refine .c (.av hr3 hT0 hT0.p1.lv (fun _=>z) T.u78 T.t107 z z z ?_)
 intro v12 W hS
 cases h
 exact .qn z (.ret (ab (vs:=[_]) v12 (rt z rn) z (hS.to [2,0])))
def jy (F : List az → Option (Int)) : Prop:=∀ {a0 : List az} {v_0 : Hd} {w : World} {r : Int} (h : F a0 = some r) (q_0 : RO w v_0 160 8 aG a0) , Cl 123 #[(sv v_0)] w (RU w (.int .i64 r))
theorem r9 {k : Nat} {dW : List az → Option (Int)} (m7 : jy dW) : jy (dX k dW):=by
 intro a0 v_0 w r h q_0
 unfold dX at h
 refine ay Tryz.func123 z z ?_
 have hS:=Sep.start w
 refine .g (.qn z (.g (.qn z (.seq (.g (.qn z (.block ?_)))))))
 have ⟨y1,hy1,h⟩:=bnd h
 refine .via (.iter (fun s1 E' W'=>aK E' [(0,(sv v_0)),(3,iv s1.1),(4,iv s1.2)] ∧ Sep No w W' []) (fun y2 x E' W'=>x = .exit 0 ∧ aK E' [(3,iv y2)] ∧ Sep No w W' []) hy1 ⟨sb z,hS.to []⟩ ?_) ?_
 ·intro s1 y3 E W h hI
  obtain ⟨hE,hS⟩:=hI
  refine CW.sub hE ?_
  unfold ik at h
  refine .seq (.g (.q z (.q z (.s (bq (hS.keep q_0) T.u123 z z) z (.q z (.nil ?_))))))
  refine .cs z h ?_ ?_ <;> intro h
  ·refine .skip (.seq (.block (.rk 17 hS [] T.mix ?_)))
   intro W hS
   have hT:=hS.to []
   refine .tp' 0 z z hT (.tp' 1 z z hT (.tp' 2 z z hT (.tp' 3 z z hT ?_)))
   have ⟨x1,hx1,h⟩:=bnd h
   obtain ⟨k1,hd,hck1⟩:=RV.el2 q_0 hx1
   have hd1:=nF (gG _) hd
   obtain ⟨k1,rfl,hd2⟩:=dt q_0 z hd1
   obtain ⟨k1,rfl,hd3⟩:=dt q_0 z hd2
   obtain ⟨k1,rfl,hd4⟩:=dt q_0 z hd3
   have hd5:=nF (eP _) hd4
   obtain ⟨k1,rfl,hd6⟩:=dt q_0 z hd5
   obtain ⟨k1,rfl,hd7⟩:=dt q_0 z hd6
   obtain ⟨v1,k1,rfl,q1,hd8⟩:=dF q_0 hd7
   obtain ⟨v2,k1,rfl,q2,hd9⟩:=dF q_0 hd8
   obtain ⟨v3,k1,rfl,q3,hd10⟩:=dF q_0 hd9
   obtain rfl:=lZ q_0 hd10
   refine .ts' 4 z (fun W hT=>ixv (hS.keep q_0) hx1 T.u123 T.t160 z z z) hT z (.ts' 5 z (fun W hT=>fe T.f160_4 z z z) hT z (.ts' 6 z (fun W hT=>lde (hck1 _ hT.agree) T.t123 z z z z z) hT z (.tp' 9 z z hT (.tp' 10 z z hT ?_))))
   have ⟨x2,hx2,h⟩:=bnd h
   obtain ⟨k2,hd,hck2⟩:=RV.el2 q_0 hx2
   have hd1:=nF (gG _) hd
   obtain ⟨k2,rfl,hd2⟩:=dt q_0 z hd1
   obtain ⟨k2,rfl,hd3⟩:=dt q_0 z hd2
   obtain ⟨k2,rfl,hd4⟩:=dt q_0 z hd3
   have hd5:=nF (eP _) hd4
   obtain ⟨k2,rfl,hd6⟩:=dt q_0 z hd5
   obtain ⟨k2,rfl,hd7⟩:=dt q_0 z hd6
   obtain ⟨v4,k2,rfl,q4,hd8⟩:=dF q_0 hd7
   obtain ⟨v5,k2,rfl,q5,hd9⟩:=dF q_0 hd8
   obtain ⟨v6,k2,rfl,q6,hd10⟩:=dF q_0 hd9
   obtain rfl:=lZ q_0 hd10
   refine .ts' 11 z (fun W hT=>ixv (hS.keep q_0) hx2 T.u123 T.t160 z z z) hT z (.ts' 12 z (fun W hT=>fe T.f160_5 z z z) hT z (.ts' 13 z (fun W hT=>lde (hck2 _ hT.agree) T.t123 z z z z z) hT z ?_))
   have ⟨y4,hy4,h⟩:=bnd h
   refine .by1 7 z (.cO hS Tryz.func123 (m7 hy4 (hS.keep (q2 _ q_0))) z z ?_)
   intro W hS
   have hT:=hS.to []
   refine ⟨fun _=>hT,.tp' 8 z z hT ?_⟩
   have ⟨y5,hy5,h⟩:=bnd h
   refine .by1 14 z (.cO hS Tryz.func123 (m7 hy5 (hS.keep (q6 _ q_0))) z z ?_)
   intro W hS
   have hT:=hS.to []
   refine ⟨fun _=>hT,.tp' 15 z z hT (.tp' 16 z z hT (.done (.region (.q z (.q z (.q z (.nil ?_)))))))⟩
   cases h
   exact ⟨z,sb z,hS.to []⟩
  refine .exit ?_
  cases h
  exact ⟨by simp,z,sb z,hS.to []⟩
 intro x E W hJ
 obtain ⟨rfl,hE,hS⟩:=hJ
 refine ⟨_,hE.sub,?_⟩
 obtain rfl:=o9 h
 exact .g (.q z (.qn z (.ret (ab (vs:=[_]) () (rt z rn) z (hS.to [])))))
theorem ob (k : Nat) : jy (dH k):=by
  induction k with
  | zero=>exact by intro a0 v_0 w r h q_0; exact no h
  | succ k ih=>exact r9 (k:=k) ih
theorem m8 {k : Nat} : jy (dH k):=(ob k)
theorem aM {a0 : Int} {a1 : Int} {a2 : Int} {w : World} {r : Bool} (h : aB a0 a1 a2 = some r) : Cl 23 #[iv a0,iv a1,iv a2] w (RU w (.bool r)):=by
 unfold aB at h
 refine ay Tryz.func23 z z ?_
 have hS:=Sep.start w
 refine .g (.qn z (.g (.q z (.q z (.q z (.q z (.cu 4 14 ((decide (a0 ≥ a1)) && (decide (a0 ≤ a2))) hS ?_ ?_)))))))
 ·refine .both (decide (a0 ≥ a1)) (fun hb=>?_) (fun hb=>?_)
  ·have hg1:=hb
   exact .g hg1 (.q z (.g hg1 (.q z (.g hg1 (.q z (.s (pkt hg1 z z z) z (.nil (ck 4 hS z (bH hg1)))))))))
  exact .xx hb z (.xx hb z (.xx hb z (.s (pkf hb z z z) z (.nil (ck 4 hS z (bI hb))))))
 intro W hS
 cases h
 exact .qn z (.ret (ab (vs:=[_]) () (rt z rn) z (hS.to [])))
theorem fL {a0 : az} {a1 : Bool} {aZ : Hd} {co : Hd} {cq : Hd} {w : World} {r : Bool} (h : eR a0 a1 = some r) (aL : RO w aZ 158 3 bg a0.Expr.Args) (bT : RO w co 160 8 aG a0.Body) (bN : RO w cq 160 8 aG a0.Else) : Cl 180 #[.agg #[iv a0.Kind,iv a0.Var,iv a0.Box,iv a0.Expr.Op,iv a0.Expr.N,(sv aZ),(sv co),(sv cq)],.bool a1] w (RU w (.bool r)):=by
 unfold eR at h
 refine ay Tryz.func180 z z ?_
 have hS:=Sep.start w
 refine .g (.c (.box hS z z ?_))
 intro g1 W hS
 refine .qn z (.seq (.g (.q z (.nil ?_))))
 refine .cs z h ?_ ?_ <;> intro h
 ·refine .g (.s (fa T.f160_1 z z z) z (.s (ld T.t3 hS z z z z z) z ?_))
  have ⟨y1,hy1,h⟩:=bnd h
  refine .c (.cO hS Tryz.func23 (aM hy1) z z ?_)
  intro W hS
  obtain rfl:=o9 h
  exact .qn z (.ret (ab (vs:=[_]) () (rt z rn) z (hS.to [])))
 cases h
 exact .skip (.g (.s (fa T.f160_1 z z z) z (.s (ld T.t3 hS z z z z z) z (.q z (.qn z (.ret (ab (vs:=[_]) () (rt z rn) z (hS.to []))))))))
theorem fM {a0 : az} {a1 : Bool} {aZ : Hd} {co : Hd} {cq : Hd} {w : World} {r : Bool} (h : eS a0 a1 = some r) (aL : RO w aZ 158 3 bg a0.Expr.Args) (bT : RO w co 160 8 aG a0.Body) (bN : RO w cq 160 8 aG a0.Else) : Cl 181 #[.agg #[iv a0.Kind,iv a0.Var,iv a0.Box,iv a0.Expr.Op,iv a0.Expr.N,(sv aZ),(sv co),(sv cq)],.bool a1] w (RU w (.bool r)):=by
 unfold eS at h
 refine ay Tryz.func181 z z ?_
 have hS:=Sep.start w
 refine .g (.c (.box hS z z ?_))
 intro g1 W hS
 refine .qn z (.seq (.g (.q z (.nil ?_))))
 refine .cs z h ?_ ?_ <;> intro h
 ·refine .g (.s (fa T.f160_2 z z z) z (.s (ld T.t3 hS z z z z z) z ?_))
  have ⟨y1,hy1,h⟩:=bnd h
  refine .c (.cO hS Tryz.func23 (aM hy1) z z ?_)
  intro W hS
  obtain rfl:=o9 h
  exact .qn z (.ret (ab (vs:=[_]) () (rt z rn) z (hS.to [])))
 cases h
 exact .skip (.g (.s (fa T.f160_2 z z z) z (.s (ld T.t3 hS z z z z z) z (.q z (.qn z (.ret (ab (vs:=[_]) () (rt z rn) z (hS.to []))))))))
theorem lJ {a0 : Int} {w : World} {r : Bool} (h : eT a0 = some r) : Cl 154 #[iv a0] w (RU w (.bool r)):=by
 unfold eT at h
 refine ay Tryz.func154 z z ?_
 have hS:=Sep.start w
 refine .g (.qn z (.g (.q z ?_)))
 have ⟨y1,hy1,h⟩:=bnd h
 refine .c (.cO hS Tryz.func23 (aM hy1) z z ?_)
 intro W hS
 obtain rfl:=o9 h
 exact .qn z (.ret (ab (vs:=[_]) () (rt z rn) z (hS.to [])))
def mF (F : Expr → Int → Option (Bool)) : Prop:=∀ {a0 : Expr} {a1 : Int} {eB : Hd} {w : World} {r : Bool} (h : F a0 a1 = some r) (bo : RO w eB 158 3 bg a0.Args) , Cl 196 #[.agg #[iv a0.Op,iv a0.N,(sv eB)],iv a1] w (RU w (.bool r))
theorem wv {k : Nat} {lq : Expr → Int → Option (Bool)} (qe : mF lq) : mF (ln k lq):=by
 intro a0 a1 eB w r h bo
 unfold ln at h
 refine ay Tryz.func196 z z ?_
 have hS:=Sep.start w
 refine .g (.c (.box hS z z ?_))
 intro g1 W hS
 refine .qn z (.seq (.g (.q z (.q z (.nil ?_)))))
 refine .cs z h ?_ ?_ <;> intro h
 ·obtain rfl:=o9 h
  exact .g (.qn z (.ret (ab (vs:=[_]) () (rt z rn) z (hS.to []))))
 refine .skip (.seq (.g (.s (fa T.f158_0 z z z) z (.s (ld T.t3 hS z z z z z) z (.q z (.nil ?_))))))
 refine .cs z h ?_ ?_ <;> intro h
 ·refine .g (.s (fa T.f158_1 z z z) z (.s (ld T.t3 hS z z z z z) z ?_))
  have ⟨y1,hy1,h⟩:=bnd h
  refine .c (.cO hS Tryz.func23 (aM hy1) z z ?_)
  intro W hS
  refine .q z (.cu 5 18 (y1 && ((a0.Args.length : Int) == 0)) hS ?_ ?_)
  ·refine .both (y1) (fun hb=>?_) (fun hb=>?_)
   ·have hg1:=hb
    exact .g hg1 (.s (fa T.f158_2 z z z) z (.g hg1 (.s (ld T.t156 hS z z z z z) z (.g hg1 (.s (bq (hS.keep bo) T.u156 z z) z (.g hg1 (.q z (.s (pkt hg1 z z z) z (.nil (ck 5 hS z (bH hg1)))))))))))
   exact .xx hb z (.xx hb z (.xx hb z (.xx hb z (.s (pkf hb z z z) z (.nil (ck 5 hS z (bI hb)))))))
  intro W hS
  cases h
  exact .qn z (.ret (ab (vs:=[_]) () (rt z rn) z (hS.to [])))
 refine .skip (.seq (.g (.s (fa T.f158_0 z z z) z (.s (ld T.t3 hS z z z z z) z (.q z (.nil ?_))))))
 refine .cs z h ?_ ?_ <;> intro h
 ·refine .g (.s (fa T.f158_1 z z z) z (.s (ld T.t3 hS z z z z z) z ?_))
  have ⟨y2,hy2,h⟩:=bnd h
  refine .c (.cO hS Tryz.func23 (aM hy2) z z ?_)
  intro W hS
  refine .q z (.cu 5 30 (y2 && ((a0.Args.length : Int) == 0)) hS ?_ ?_)
  ·refine .both (y2) (fun hb=>?_) (fun hb=>?_)
   ·have hg2:=hb
    exact .g hg2 (.s (fa T.f158_2 z z z) z (.g hg2 (.s (ld T.t156 hS z z z z z) z (.g hg2 (.s (bq (hS.keep bo) T.u156 z z) z (.g hg2 (.q z (.s (pkt hg2 z z z) z (.nil (ck 5 hS z (bH hg2)))))))))))
   exact .xx hb z (.xx hb z (.xx hb z (.xx hb z (.s (pkf hb z z z) z (.nil (ck 5 hS z (bI hb)))))))
  intro W hS
  cases h
  exact .qn z (.ret (ab (vs:=[_]) () (rt z rn) z (hS.to [])))
 refine .skip (.g (.s (fa T.f158_0 z z z) z (.s (ld T.t3 hS z z z z z) z ?_)))
 have ⟨y3,hy3,h⟩:=bnd h
 refine .c (.cO hS Tryz.func154 (lJ hy3) z z ?_)
 intro W hS
 refine .q z (.cu 4 38 (y3 && (a0.N == 0)) hS ?_ ?_)
 ·refine .both (y3) (fun hb=>?_) (fun hb=>?_)
  ·have hg3:=hb
   exact .g hg3 (.s (fa T.f158_1 z z z) z (.g hg3 (.s (ld T.t3 hS z z z z z) z (.g hg3 (.q z (.s (pkt hg3 z z z) z (.nil (ck 4 hS z (bH hg3)))))))))
  exact .xx hb z (.xx hb z (.xx hb z (.s (pkf hb z z z) z (.nil (ck 4 hS z (bI hb))))))
 intro W hS
 refine .q z (.cu 5 44 ((y3 && (a0.N == 0)) && ((a0.Args.length : Int) == 2)) hS ?_ ?_)
 ·refine .both (y3 && (a0.N == 0)) (fun hb=>?_) (fun hb=>?_)
  ·have hg4:=hb
   exact .g hg4 (.s (fa T.f158_2 z z z) z (.g hg4 (.s (ld T.t156 hS z z z z z) z (.g hg4 (.s (bq (hS.keep bo) T.u156 z z) z (.g hg4 (.q z (.s (pkt hg4 z z z) z (.nil (ck 5 hS z (bH hg4)))))))))))
  exact .xx hb z (.xx hb z (.xx hb z (.xx hb z (.s (pkf hb z z z) z (.nil (ck 5 hS z (bI hb)))))))
 intro W hS
 refine .q z ?_
 have ⟨b1,hb1,h⟩:=bnd h
 refine .cu 8 53 (b1) hS ?_ ?_
 ·refine .both ((y3 && (a0.N == 0)) && ((a0.Args.length : Int) == 2)) (fun hb=>?_) (fun hb=>?_)
  ·have hg5:=hb
   have h:=aI hb hb1
   refine .g hg5 (.s (fa T.f158_2 z z z) z (.g hg5 (.s (ld T.t156 hS z z z z z) z ?_)))
   have ⟨x1,hx1,h⟩:=bnd h
   obtain ⟨k1,hd,hck1⟩:=RV.el2 bo hx1
   have hd1:=nF (eP _) hd
   obtain ⟨k1,rfl,hd2⟩:=dt bo z hd1
   obtain ⟨k1,rfl,hd3⟩:=dt bo z hd2
   obtain ⟨v1,k1,rfl,q1,hd4⟩:=dF bo hd3
   obtain rfl:=lZ bo hd4
   refine .g hg5 (.s (ixv (hS.keep bo) hx1 T.u156 T.t158 z z z) z (.g hg5 (.s (lde (hck1 _ hS.agree) T.t158 z z z z z) z (.g hg5 (.q z (.g hg5 (.q z ?_)))))))
   have ⟨y4,hy4,h⟩:=bnd h
   refine .g hg5 (.c (.cO hS Tryz.func196 (qe hy4 (hS.keep (q1 _ bo))) z z ?_))
   intro W hS
   refine .s (pkt hg5 z z z) z ?_
   cases h
   exact .nil (ck 8 hS)
  refine .xx hb z (.xx hb z (.xx hb z (.xx hb z (.xx hb z (.xx hb z (.xx hb z ?_))))))
  cases aJ hb hb1
  exact .s (pkf hb z z z) z (.nil (ck 8 hS))
 intro W hS
 refine .q z ?_
 have ⟨b2,hb2,h⟩:=bnd h
 refine .cu 8 62 (b2) hS ?_ ?_
 ·refine .both (b1) (fun hb=>?_) (fun hb=>?_)
  ·have hg6:=hb
   have h:=aI hb hb2
   refine .g hg6 (.s (fa T.f158_2 z z z) z (.g hg6 (.s (ld T.t156 hS z z z z z) z ?_)))
   have ⟨x2,hx2,h⟩:=bnd h
   obtain ⟨k2,hd,hck2⟩:=RV.el2 bo hx2
   have hd1:=nF (eP _) hd
   obtain ⟨k2,rfl,hd2⟩:=dt bo z hd1
   obtain ⟨k2,rfl,hd3⟩:=dt bo z hd2
   obtain ⟨v2,k2,rfl,q2,hd4⟩:=dF bo hd3
   obtain rfl:=lZ bo hd4
   refine .g hg6 (.s (ixv (hS.keep bo) hx2 T.u156 T.t158 z z z) z (.g hg6 (.s (lde (hck2 _ hS.agree) T.t158 z z z z z) z (.g hg6 (.q z (.g hg6 (.q z ?_)))))))
   have ⟨y5,hy5,h⟩:=bnd h
   refine .g hg6 (.c (.cO hS Tryz.func196 (qe hy5 (hS.keep (q2 _ bo))) z z ?_))
   intro W hS
   refine .s (pkt hg6 z z z) z ?_
   cases h
   exact .nil (ck 8 hS)
  refine .xx hb z (.xx hb z (.xx hb z (.xx hb z (.xx hb z (.xx hb z (.xx hb z ?_))))))
  cases aJ hb hb2
  exact .s (pkf hb z z z) z (.nil (ck 8 hS))
 intro W hS
 obtain rfl:=o9 h
 exact .qn z (.ret (ab (vs:=[_]) () (rt z rn) z (hS.to [])))
theorem qQ (k : Nat) : mF (mS k):=by
  induction k with
  | zero=>exact by intro a0 a1 eB w r h bo; exact no h
  | succ k ih=>exact wv (k:=k) ih
theorem vq {k : Nat} : mF (mS k):=(qQ k)
theorem gD {k : Nat} {a0 : Expr} {eB : Hd} {w : World} {r : Bool} (h : dw k a0 = some r) (bo : RO w eB 158 3 bg a0.Args) : Cl 182 #[.agg #[iv a0.Op,iv a0.N,(sv eB)]] w (RU w (.bool r)):=by
 unfold dw at h
 refine ay Tryz.func182 z z ?_
 have hS:=Sep.start w
 refine .g (.c (.box hS z z ?_))
 intro g1 W hS
 refine .qn z (.g (.s (ld T.t158 hS z z z z z) z ?_))
 have ⟨y1,hy1,h⟩:=bnd h
 refine .c (.cO hS Tryz.func196 (vq hy1 (hS.keep bo)) z z ?_)
 intro W hS
 obtain rfl:=o9 h
 exact .qn z (.ret (ab (vs:=[_]) () (rt z rn) z (hS.to [])))
theorem m9 {a0 : Expr} {eB : Hd} {w : World} {r : Bool} (h : gq a0 = some r) (bo : RO w eB 158 3 bg a0.Args) : Cl 195 #[.agg #[iv a0.Op,iv a0.N,(sv eB)]] w (RU w (.bool r)):=by
 unfold gq at h
 refine ay Tryz.func195 z z ?_
 have hS:=Sep.start w
 refine .g (.c (.box hS z z ?_))
 intro g1 W hS
 refine .qn z (.g (.s (fa T.f158_0 z z z) z (.s (ld T.t3 hS z z z z z) z (.q z (.q z (.cu 4 10 ((a0.Op == 0) && (a0.N == 0)) hS ?_ ?_))))))
 ·refine .both (a0.Op == 0) (fun hb=>?_) (fun hb=>?_)
  ·have hg1:=hb
   exact .g hg1 (.s (fa T.f158_1 z z z) z (.g hg1 (.s (ld T.t3 hS z z z z z) z (.g hg1 (.q z (.s (pkt hg1 z z z) z (.nil (ck 4 hS z (bH hg1)))))))))
  exact .xx hb z (.xx hb z (.xx hb z (.s (pkf hb z z z) z (.nil (ck 4 hS z (bI hb))))))
 intro W hS
 refine .q z (.cu 5 16 (((a0.Op == 0) && (a0.N == 0)) && ((a0.Args.length : Int) == 0)) hS ?_ ?_)
 ·refine .both ((a0.Op == 0) && (a0.N == 0)) (fun hb=>?_) (fun hb=>?_)
  ·have hg2:=hb
   exact .g hg2 (.s (fa T.f158_2 z z z) z (.g hg2 (.s (ld T.t156 hS z z z z z) z (.g hg2 (.s (bq (hS.keep bo) T.u156 z z) z (.g hg2 (.q z (.s (pkt hg2 z z z) z (.nil (ck 5 hS z (bH hg2)))))))))))
  exact .xx hb z (.xx hb z (.xx hb z (.xx hb z (.s (pkf hb z z z) z (.nil (ck 5 hS z (bI hb)))))))
 intro W hS
 cases h
 exact .qn z (.ret (ab (vs:=[_]) () (rt z rn) z (hS.to [])))
theorem qf {k : Nat} {a0 : az} {aZ : Hd} {co : Hd} {cq : Hd} {w : World} {r : Bool} (h : fz k a0 = some r) (aL : RO w aZ 158 3 bg a0.Expr.Args) (bT : RO w co 160 8 aG a0.Body) (bN : RO w cq 160 8 aG a0.Else) : Cl 179 #[.agg #[iv a0.Kind,iv a0.Var,iv a0.Box,iv a0.Expr.Op,iv a0.Expr.N,(sv aZ),(sv co),(sv cq)]] w (RU w (.bool r)):=by
 unfold fz at h
 refine ay Tryz.func179 z z ?_
 have hS:=Sep.start w
 refine .g (.c (.box hS z z ?_))
 intro g1 W hS
 refine .qn z (.seq (.g (.s (fa T.f160_4 z z z) z (.s (ld T.t123 hS z z z z z) z (.s (bq (hS.keep bT) T.u123 z z) z (.q z (.q z (.cu 5 12 ((decide ((a0.Body.length : Int) > 0)) || (decide ((a0.Else.length : Int) > 0))) hS ?_ ?_))))))))
 ·refine .both (decide ((a0.Body.length : Int) > 0)) (fun hb=>?_) (fun hb=>?_)
  ·exact .xx hb z (.xx hb z (.xx hb z (.xx hb z (.s (pkt hb z z z) z (.nil (ck 5 hS z (ig hb)))))))
  have hg1:=hb
  exact .g hg1 (.s (fa T.f160_5 z z z) z (.g hg1 (.s (ld T.t123 hS z z z z z) z (.g hg1 (.s (bq (hS.keep bN) T.u123 z z) z (.g hg1 (.q z (.s (pkf hg1 z z z) z (.nil (ck 5 hS z (ij hg1)))))))))))
 intro W hS
 refine .nil ?_
 refine .cs z h ?_ ?_ <;> intro h
 ·obtain rfl:=o9 h
  exact .g (.qn z (.ret (ab (vs:=[_]) () (rt z rn) z (hS.to []))))
 refine .skip (.seq (.g (.s (fa T.f160_0 z z z) z (.s (ld T.t3 hS z z z z z) z (.nil (.block (.g (.q z (.q z (.nil ?_))))))))))
 refine .cs z h ?_ ?_ <;> intro h
 ·refine .g (.s (ld T.t160 hS z z z z z) z ?_)
  have ⟨y1,hy1,h⟩:=bnd h
  refine .c (.cO hS Tryz.func180 (fL hy1 (hS.keep aL) (hS.keep bT) (hS.keep bN)) z z ?_)
  intro W hS
  refine .q z ?_
  have ⟨b1,hb1,h⟩:=bnd h
  refine .cu 3 22 (b1) hS ?_ ?_
  ·refine .both (y1) (fun hb=>?_) (fun hb=>?_)
   ·have hg2:=hb
    have h:=aI hb hb1
    refine .g hg2 (.s (ld T.t160 hS z z z z z) z ?_)
    have ⟨y2,hy2,h⟩:=bnd h
    refine .g hg2 (.c (.cO hS Tryz.func181 (fM hy2 (hS.keep aL) (hS.keep bT) (hS.keep bN)) z z ?_))
    intro W hS
    refine .s (pkt hg2 z z z) z ?_
    cases h
    exact .nil (ck 3 hS)
   refine .xx hb z (.xx hb z ?_)
   cases aJ hb hb1
   exact .s (pkf hb z z z) z (.nil (ck 3 hS))
  intro W hS
  refine .q z ?_
  have ⟨b2,hb2,h⟩:=bnd h
  refine .cu 4 27 (b2) hS ?_ ?_
  ·refine .both (b1) (fun hb=>?_) (fun hb=>?_)
   ·have hg3:=hb
    have h:=aI hb hb2
    refine .g hg3 (.s (fa T.f160_3 z z z) z (.g hg3 (.s (ld T.t158 hS z z z z z) z ?_)))
    have ⟨y3,hy3,h⟩:=bnd h
    refine .g hg3 (.c (.cO hS Tryz.func182 (gD hy3 (hS.keep aL)) z z ?_))
    intro W hS
    refine .s (pkt hg3 z z z) z ?_
    cases h
    exact .nil (ck 4 hS)
   refine .xx hb z (.xx hb z (.xx hb z ?_))
   cases aJ hb hb2
   exact .s (pkf hb z z z) z (.nil (ck 4 hS))
  intro W hS
  obtain rfl:=o9 h
  exact .qn z (.ret (ab (vs:=[_]) () (rt z rn) z (hS.to [])))
 refine .g (.q z (.q z (.nil ?_)))
 refine .cs z h ?_ ?_ <;> intro h
 ·refine .g (.s (ld T.t160 hS z z z z z) z ?_)
  have ⟨y4,hy4,h⟩:=bnd h
  refine .c (.cO hS Tryz.func180 (fL hy4 (hS.keep aL) (hS.keep bT) (hS.keep bN)) z z ?_)
  intro W hS
  refine .q z ?_
  have ⟨b3,hb3,h⟩:=bnd h
  refine .cu 3 35 (b3) hS ?_ ?_
  ·refine .both (y4) (fun hb=>?_) (fun hb=>?_)
   ·have hg4:=hb
    have h:=aI hb hb3
    refine .g hg4 (.s (ld T.t160 hS z z z z z) z ?_)
    have ⟨y5,hy5,h⟩:=bnd h
    refine .g hg4 (.c (.cO hS Tryz.func181 (fM hy5 (hS.keep aL) (hS.keep bT) (hS.keep bN)) z z ?_))
    intro W hS
    refine .s (pkt hg4 z z z) z ?_
    cases h
    exact .nil (ck 3 hS)
   refine .xx hb z (.xx hb z ?_)
   cases aJ hb hb3
   exact .s (pkf hb z z z) z (.nil (ck 3 hS))
  intro W hS
  refine .q z ?_
  have ⟨b4,hb4,h⟩:=bnd h
  refine .cu 4 40 (b4) hS ?_ ?_
  ·refine .both (b3) (fun hb=>?_) (fun hb=>?_)
   ·have hg5:=hb
    have h:=aI hb hb4
    refine .g hg5 (.s (fa T.f160_3 z z z) z (.g hg5 (.s (ld T.t158 hS z z z z z) z ?_)))
    have ⟨y6,hy6,h⟩:=bnd h
    refine .g hg5 (.c (.cO hS Tryz.func182 (gD hy6 (hS.keep aL)) z z ?_))
    intro W hS
    refine .s (pkt hg5 z z z) z ?_
    cases h
    exact .nil (ck 4 hS)
   refine .xx hb z (.xx hb z (.xx hb z ?_))
   cases aJ hb hb4
   exact .s (pkf hb z z z) z (.nil (ck 4 hS))
  intro W hS
  obtain rfl:=o9 h
  exact .qn z (.ret (ab (vs:=[_]) () (rt z rn) z (hS.to [])))
 refine .g (.q z (.q z (.nil ?_)))
 refine .cs z h ?_ ?_ <;> intro h
 ·refine .g (.s (ld T.t160 hS z z z z z) z ?_)
  have ⟨y7,hy7,h⟩:=bnd h
  refine .c (.cO hS Tryz.func180 (fL hy7 (hS.keep aL) (hS.keep bT) (hS.keep bN)) z z ?_)
  intro W hS
  refine .q z ?_
  have ⟨b5,hb5,h⟩:=bnd h
  refine .cu 3 48 (b5) hS ?_ ?_
  ·refine .both (y7) (fun hb=>?_) (fun hb=>?_)
   ·have hg6:=hb
    have h:=aI hb hb5
    refine .g hg6 (.s (ld T.t160 hS z z z z z) z ?_)
    have ⟨y8,hy8,h⟩:=bnd h
    refine .g hg6 (.c (.cO hS Tryz.func181 (fM hy8 (hS.keep aL) (hS.keep bT) (hS.keep bN)) z z ?_))
    intro W hS
    refine .s (pkt hg6 z z z) z ?_
    cases h
    exact .nil (ck 3 hS)
   refine .xx hb z (.xx hb z ?_)
   cases aJ hb hb5
   exact .s (pkf hb z z z) z (.nil (ck 3 hS))
  intro W hS
  refine .q z ?_
  have ⟨b6,hb6,h⟩:=bnd h
  refine .cu 4 53 (b6) hS ?_ ?_
  ·refine .both (b5) (fun hb=>?_) (fun hb=>?_)
   ·have hg7:=hb
    have h:=aI hb hb6
    refine .g hg7 (.s (fa T.f160_3 z z z) z (.g hg7 (.s (ld T.t158 hS z z z z z) z ?_)))
    have ⟨y9,hy9,h⟩:=bnd h
    refine .g hg7 (.c (.cO hS Tryz.func195 (m9 hy9 (hS.keep aL)) z z ?_))
    intro W hS
    refine .s (pkt hg7 z z z) z ?_
    cases h
    exact .nil (ck 4 hS)
   refine .xx hb z (.xx hb z (.xx hb z ?_))
   cases aJ hb hb6
   exact .s (pkf hb z z z) z (.nil (ck 4 hS))
  intro W hS
  obtain rfl:=o9 h
  exact .qn z (.ret (ab (vs:=[_]) () (rt z rn) z (hS.to [])))
 refine .g (.q z (.q z (.nil ?_)))
 refine .cs z h ?_ ?_ <;> intro h
 ·refine .g (.s (ld T.t160 hS z z z z z) z ?_)
  have ⟨y10,hy10,h⟩:=bnd h
  refine .c (.cO hS Tryz.func180 (fL hy10 (hS.keep aL) (hS.keep bT) (hS.keep bN)) z z ?_)
  intro W hS
  refine .q z ?_
  have ⟨b7,hb7,h⟩:=bnd h
  refine .cu 3 61 (b7) hS ?_ ?_
  ·refine .both (y10) (fun hb=>?_) (fun hb=>?_)
   ·have hg8:=hb
    have h:=aI hb hb7
    refine .g hg8 (.s (ld T.t160 hS z z z z z) z ?_)
    have ⟨y11,hy11,h⟩:=bnd h
    refine .g hg8 (.c (.cO hS Tryz.func181 (fM hy11 (hS.keep aL) (hS.keep bT) (hS.keep bN)) z z ?_))
    intro W hS
    refine .s (pkt hg8 z z z) z ?_
    cases h
    exact .nil (ck 3 hS)
   refine .xx hb z (.xx hb z ?_)
   cases aJ hb hb7
   exact .s (pkf hb z z z) z (.nil (ck 3 hS))
  intro W hS
  refine .q z ?_
  have ⟨b8,hb8,h⟩:=bnd h
  refine .cu 4 66 (b8) hS ?_ ?_
  ·refine .both (b7) (fun hb=>?_) (fun hb=>?_)
   ·have hg9:=hb
    have h:=aI hb hb8
    refine .g hg9 (.s (fa T.f160_3 z z z) z (.g hg9 (.s (ld T.t158 hS z z z z z) z ?_)))
    have ⟨y12,hy12,h⟩:=bnd h
    refine .g hg9 (.c (.cO hS Tryz.func195 (m9 hy12 (hS.keep aL)) z z ?_))
    intro W hS
    refine .s (pkt hg9 z z z) z ?_
    cases h
    exact .nil (ck 4 hS)
   refine .xx hb z (.xx hb z (.xx hb z ?_))
   cases aJ hb hb8
   exact .s (pkf hb z z z) z (.nil (ck 4 hS))
  intro W hS
  obtain rfl:=o9 h
  exact .qn z (.ret (ab (vs:=[_]) () (rt z rn) z (hS.to [])))
 refine .g (.q z (.q z (.nil ?_)))
 refine .cs z h ?_ ?_ <;> intro h
 ·refine .g (.s (ld T.t160 hS z z z z z) z ?_)
  have ⟨y13,hy13,h⟩:=bnd h
  refine .c (.cO hS Tryz.func180 (fL hy13 (hS.keep aL) (hS.keep bT) (hS.keep bN)) z z ?_)
  intro W hS
  refine .q z ?_
  have ⟨b9,hb9,h⟩:=bnd h
  refine .cu 3 74 (b9) hS ?_ ?_
  ·refine .both (y13) (fun hb=>?_) (fun hb=>?_)
   ·have hg10:=hb
    have h:=aI hb hb9
    refine .g hg10 (.s (ld T.t160 hS z z z z z) z ?_)
    have ⟨y14,hy14,h⟩:=bnd h
    refine .g hg10 (.c (.cO hS Tryz.func181 (fM hy14 (hS.keep aL) (hS.keep bT) (hS.keep bN)) z z ?_))
    intro W hS
    refine .s (pkt hg10 z z z) z ?_
    cases h
    exact .nil (ck 3 hS)
   refine .xx hb z (.xx hb z ?_)
   cases aJ hb hb9
   exact .s (pkf hb z z z) z (.nil (ck 3 hS))
  intro W hS
  refine .q z ?_
  have ⟨b10,hb10,h⟩:=bnd h
  refine .cu 4 79 (b10) hS ?_ ?_
  ·refine .both (b9) (fun hb=>?_) (fun hb=>?_)
   ·have hg11:=hb
    have h:=aI hb hb10
    refine .g hg11 (.s (fa T.f160_3 z z z) z (.g hg11 (.s (ld T.t158 hS z z z z z) z ?_)))
    have ⟨y15,hy15,h⟩:=bnd h
    refine .g hg11 (.c (.cO hS Tryz.func182 (gD hy15 (hS.keep aL)) z z ?_))
    intro W hS
    refine .s (pkt hg11 z z z) z ?_
    cases h
    exact .nil (ck 4 hS)
   refine .xx hb z (.xx hb z (.xx hb z ?_))
   cases aJ hb hb10
   exact .s (pkf hb z z z) z (.nil (ck 4 hS))
  intro W hS
  obtain rfl:=o9 h
  exact .qn z (.ret (ab (vs:=[_]) () (rt z rn) z (hS.to [])))
 obtain rfl:=o9 h
 exact .skip (.g (.qn z (.ret (ab (vs:=[_]) () (rt z rn) z (hS.to [])))))
def fN (F : List az → Int → Option (Bool)) : Prop:=∀ {a0 : List az} {a1 : Int} {v_0 : Hd} {w : World} {r : Bool} (h : F a0 a1 = some r) (q_0 : RO w v_0 160 8 aG a0) , Cl 144 #[(sv v_0),iv a1] w (RU w (.bool r))
def lP (F : az → Int → Option (Bool)) : Prop:=∀ {a0 : az} {a1 : Int} {aZ : Hd} {co : Hd} {cq : Hd} {w : World} {r : Bool} (h : F a0 a1 = some r) (aL : RO w aZ 158 3 bg a0.Expr.Args) (bT : RO w co 160 8 aG a0.Body) (bN : RO w cq 160 8 aG a0.Else) , Cl 158 #[.agg #[iv a0.Kind,iv a0.Var,iv a0.Box,iv a0.Expr.Op,iv a0.Expr.N,(sv aZ),(sv co),(sv cq)],iv a1] w (RU w (.bool r))
def qR (w : World) (r : Bool) : Env → World → Prop:=Fin Tryz.prog Tryz.f144 No w (fun s : Unit=>.bool r) (fun s=>[]) .ret
theorem qT {k : Nat} {cP : List az → Int → Option (Bool)} {dI : az → Int → Option (Bool)} (kl : fN cP) (pd : lP dI) : fN (fA k cP dI):=by
 intro a0 a1 v_0 w r h q_0
 unfold fA at h
 refine ay Tryz.func144 z z ?_
 have hS:=Sep.start w
 refine .g (.qn z (.seq (.g (.qn z (.block ?_)))))
 have ⟨y1,hy1,h⟩:=bnd h
 refine .via (.iter (fun s1 E' W'=>aK E' [(0,(sv v_0)),(1,iv a1),(5,iv s1)] ∧ Sep No w W' []) (fun y2 x E' W'=>(match y2 with | .inl o1=>x = .ret ∧ qR w o1 E' W' | .inr o2=>x = .exit 0 ∧ aK E' [] ∧ Sep No w W' [])) hy1 ⟨sb rfl,hS.to [] rfl⟩ ?_) ?_
 ·intro s1 y3 E W h hI
  obtain ⟨hE,hS⟩:=hI
  refine CW.sub hE ?_
  unfold jP at h
  refine .seq (.g (.q z (.q z (.s (bq (hS.keep q_0) T.u123 z z) z (.q z (.nil ?_))))))
  refine .cs z h ?_ ?_ <;> intro h
  ·refine .skip (.seq (.block (.g (.q z (.q z ?_)))))
   have ⟨x1,hx1,h⟩:=bnd h
   obtain ⟨k1,hd,hck1⟩:=RV.el2 q_0 hx1
   have hd1:=nF (gG _) hd
   obtain ⟨k1,rfl,hd2⟩:=dt q_0 z hd1
   obtain ⟨k1,rfl,hd3⟩:=dt q_0 z hd2
   obtain ⟨k1,rfl,hd4⟩:=dt q_0 z hd3
   have hd5:=nF (eP _) hd4
   obtain ⟨k1,rfl,hd6⟩:=dt q_0 z hd5
   obtain ⟨k1,rfl,hd7⟩:=dt q_0 z hd6
   obtain ⟨v1,k1,rfl,q1,hd8⟩:=dF q_0 hd7
   obtain ⟨v2,k1,rfl,q2,hd9⟩:=dF q_0 hd8
   obtain ⟨v3,k1,rfl,q3,hd10⟩:=dF q_0 hd9
   obtain rfl:=lZ q_0 hd10
   refine .s (ixv (hS.keep q_0) hx1 T.u123 T.t160 z z z) z (.s (lde (hck1 _ hS.agree) T.t160 z z z z z) z (.q z ?_))
   have ⟨y4,hy4,h⟩:=bnd h
   refine .c (.cO hS Tryz.func158 (pd hy4 (hS.keep (q1 _ q_0)) (hS.keep (q2 _ q_0)) (hS.keep (q3 _ q_0))) z z ?_)
   intro W hS
   refine .q z (.nil ?_)
   refine .cs z h ?_ ?_ <;> intro h
   ·refine .g (.qn z (.ret ?_))
    cases h
    exact ⟨by simp,z,ab (vs:=[_]) () (rt z rn) z (hS.to [])⟩
   refine .skip (.region (.q z (.q z (.q z (.nil ?_)))))
   cases h
   exact ⟨z,sb z,hS.to []⟩
  refine .exit ?_
  cases h
  exact ⟨by simp,z,sb z,hS.to []⟩
 intro x E W hJ
 rcases y1 with o3 | o4
 ·obtain ⟨rfl,hF⟩:=hJ
  refine ⟨_,fun _ _ h=>h,?_⟩
  cases h
  exact hF
 obtain ⟨rfl,hE,hS⟩:=hJ
 refine ⟨_,hE.sub,?_⟩
 obtain rfl:=o9 h
 exact .g (.qn z (.ret (ab (vs:=[_]) () (rt z rn) z (hS.to []))))
theorem vr {k : Nat} {cP : List az → Int → Option (Bool)} {dI : az → Int → Option (Bool)} (kl : fN cP) (pd : lP dI) : lP (jQ k cP dI):=by
 intro a0 a1 aZ co cq w r h aL bT bN
 unfold jQ at h
 refine ay Tryz.func158 z z ?_
 have hS:=Sep.start w
 refine .g (.c (.box hS z z ?_))
 intro g1 W hS
 refine .qn z (.seq (.g (.s (fa T.f160_0 z z z) z (.s (ld T.t3 hS z z z z z) z (.q z (.q z (.cu 4 12 ((a0.Kind != 2) && (a0.Kind != 3)) hS ?_ ?_)))))))
 ·refine .both (a0.Kind != 2) (fun hb=>?_) (fun hb=>?_)
  ·have hg1:=hb
   exact .g hg1 (.s (fa T.f160_0 z z z) z (.g hg1 (.s (ld T.t3 hS z z z z z) z (.g hg1 (.q z (.s (pkt hg1 z z z) z (.nil (ck 4 hS z (bH hg1)))))))))
  exact .xx hb z (.xx hb z (.xx hb z (.s (pkf hb z z z) z (.nil (ck 4 hS z (bI hb))))))
 intro W hS
 refine .nil ?_
 refine .cs z h ?_ ?_ <;> intro h
 ·refine .g (.s (ld T.t160 hS z z z z z) z ?_)
  have ⟨y1,hy1,h⟩:=bnd h
  refine .c (.cO hS Tryz.func179 (qf hy1 (hS.keep aL) (hS.keep bT) (hS.keep bN)) z z ?_)
  intro W hS
  obtain rfl:=o9 h
  exact .qn z (.ret (ab (vs:=[_]) () (rt z rn) z (hS.to [])))
 refine .skip (.seq (.g (.q z (.q z (.q z (.cu 10 27 ((decide (a1 < 1)) || ((a0.Kind == 3) && (decide ((a0.Else.length : Int) > 0)))) hS ?_ ?_))))))
 ·refine .both (decide (a1 < 1)) (fun hb=>?_) (fun hb=>?_)
  ·exact .xx hb z (.xx hb z (.xx hb z (.xx hb z (.xu (.xu (.xu (.xu (.xx hb z (.s (pkt hb z z z) z (.nil (ck 10 hS z (ig hb))))))))))))
  have hg2:=hb
  refine .g hg2 (.s (fa T.f160_0 z z z) z (.g hg2 (.s (ld T.t3 hS z z z z z) z (.g hg2 (.q z (.g hg2 (.q z (.cu 5 26 ((a0.Kind == 3) && (decide ((a0.Else.length : Int) > 0))) hS ?_ ?_))))))))
  ·refine .both (a0.Kind == 3) (fun hb=>?_) (fun hb=>?_)
   ·have hg3:=hb
    exact .g hg3 (.s (fa T.f160_5 z z z) z (.g hg3 (.s (ld T.t123 hS z z z z z) z (.g hg3 (.s (bq (hS.keep bN) T.u123 z z) z (.g hg3 (.q z (.g hg2 (.s (pkt hg3 z z z) z (.nil (ck 5 hS z (bH hg3))))))))))))
   exact .xx hb z (.xx hb z (.xx hb z (.xx hb z (.g hg2 (.s (pkf hb z z z) z (.nil (ck 5 hS z (bI hb))))))))
  intro W hS
  exact .s (pkf hg2 z z z) z (.nil (ck 6 hS z (ij hg2)))
 intro W hS
 refine .nil ?_
 refine .cs z h ?_ ?_ <;> intro h
 ·obtain rfl:=o9 h
  exact .g (.qn z (.ret (ab (vs:=[_]) () (rt z rn) z (hS.to []))))
 refine .skip (.g (.s (ld T.t160 hS z z z z z) z ?_))
 have ⟨y2,hy2,h⟩:=bnd h
 refine .c (.cO hS Tryz.func180 (fL hy2 (hS.keep aL) (hS.keep bT) (hS.keep bN)) z z ?_)
 intro W hS
 refine .q z ?_
 have ⟨b1,hb1,h⟩:=bnd h
 refine .cu 3 33 (b1) hS ?_ ?_
 ·refine .both (y2) (fun hb=>?_) (fun hb=>?_)
  ·have hg4:=hb
   have h:=aI hb hb1
   refine .g hg4 (.s (ld T.t160 hS z z z z z) z ?_)
   have ⟨y3,hy3,h⟩:=bnd h
   refine .g hg4 (.c (.cO hS Tryz.func181 (fM hy3 (hS.keep aL) (hS.keep bT) (hS.keep bN)) z z ?_))
   intro W hS
   refine .s (pkt hg4 z z z) z ?_
   cases h
   exact .nil (ck 3 hS)
  refine .xx hb z (.xx hb z ?_)
  cases aJ hb hb1
  exact .s (pkf hb z z z) z (.nil (ck 3 hS))
 intro W hS
 refine .q z ?_
 have ⟨b2,hb2,h⟩:=bnd h
 refine .cu 4 38 (b2) hS ?_ ?_
 ·refine .both (b1) (fun hb=>?_) (fun hb=>?_)
  ·have hg5:=hb
   have h:=aI hb hb2
   refine .g hg5 (.s (fa T.f160_3 z z z) z (.g hg5 (.s (ld T.t158 hS z z z z z) z ?_)))
   have ⟨y4,hy4,h⟩:=bnd h
   refine .g hg5 (.c (.cO hS Tryz.func182 (gD hy4 (hS.keep aL)) z z ?_))
   intro W hS
   refine .s (pkt hg5 z z z) z ?_
   cases h
   exact .nil (ck 4 hS)
  refine .xx hb z (.xx hb z (.xx hb z ?_))
  cases aJ hb hb2
  exact .s (pkf hb z z z) z (.nil (ck 4 hS))
 intro W hS
 refine .q z ?_
 have ⟨b3,hb3,h⟩:=bnd h
 refine .cu 6 45 (b3) hS ?_ ?_
 ·refine .both (b2) (fun hb=>?_) (fun hb=>?_)
  ·have hg6:=hb
   have h:=aI hb hb3
   refine .g hg6 (.s (fa T.f160_4 z z z) z (.g hg6 (.s (ld T.t123 hS z z z z z) z (.g hg6 (.q z (.g hg6 (.q z ?_)))))))
   have ⟨y5,hy5,h⟩:=bnd h
   refine .g hg6 (.c (.cO hS Tryz.func144 (kl hy5 (hS.keep bT)) z z ?_))
   intro W hS
   refine .s (pkt hg6 z z z) z ?_
   cases h
   exact .nil (ck 6 hS)
  refine .xx hb z (.xx hb z (.xx hb z (.xx hb z (.xx hb z ?_))))
  cases aJ hb hb3
  exact .s (pkf hb z z z) z (.nil (ck 6 hS))
 intro W hS
 refine .q z ?_
 have ⟨b4,hb4,h⟩:=bnd h
 refine .cu 6 52 (b4) hS ?_ ?_
 ·refine .both (b3) (fun hb=>?_) (fun hb=>?_)
  ·have hg7:=hb
   have h:=aI hb hb4
   refine .g hg7 (.s (fa T.f160_5 z z z) z (.g hg7 (.s (ld T.t123 hS z z z z z) z (.g hg7 (.q z (.g hg7 (.q z ?_)))))))
   have ⟨y6,hy6,h⟩:=bnd h
   refine .g hg7 (.c (.cO hS Tryz.func144 (kl hy6 (hS.keep bN)) z z ?_))
   intro W hS
   refine .s (pkt hg7 z z z) z ?_
   cases h
   exact .nil (ck 6 hS)
  refine .xx hb z (.xx hb z (.xx hb z (.xx hb z (.xx hb z ?_))))
  cases aJ hb hb4
  exact .s (pkf hb z z z) z (.nil (ck 6 hS))
 intro W hS
 obtain rfl:=o9 h
 exact .qn z (.ret (ab (vs:=[_]) () (rt z rn) z (hS.to [])))
theorem nR (k : Nat) : fN (db k) ∧ lP (po k):=by
  induction k with
  | zero=>exact ⟨by intro a0 a1 v_0 w r h q_0; exact no h,by intro a0 a1 aZ co cq w r h aL bT bN; exact no h⟩
  | succ k ih=>exact ⟨qT (k:=k) ih.1 ih.2,vr (k:=k) ih.1 ih.2⟩
theorem qg {k : Nat} : fN (db k):=(nR k).1
theorem pA {k : Nat} {a0 : List az} {v_0 : Hd} {w : World} {r : Bool} (h : gg k a0 = some r) (q_0 : RO w v_0 160 8 aG a0) : Cl 120 #[(sv v_0)] w (RU w (.bool r)):=by
 unfold gg at h
 refine ay Tryz.func120 z z ?_
 have hS:=Sep.start w
 refine .g (.qn z (.g (.q z ?_)))
 have ⟨y1,hy1,h⟩:=bnd h
 refine .c (.cO hS Tryz.func144 (qg hy1 (hS.keep q_0)) z z ?_)
 intro W hS
 refine .q z ?_
 have ⟨b1,hb1,h⟩:=bnd h
 refine .cu 4 9 (b1) hS ?_ ?_
 ·refine .both (y1) (fun hb=>?_) (fun hb=>?_)
  ·have hg1:=hb
   have h:=aI hb hb1
   refine .g hg1 (.q z ?_)
   have ⟨y2,hy2,h⟩:=bnd h
   refine .g hg1 (.c (.cO hS Tryz.func123 (m8 hy2 (hS.keep q_0)) z z ?_))
   intro W hS
   refine .g hg1 (.q z (.s (pkt hg1 z z z) z ?_))
   cases h
   exact .nil (ck 4 hS)
  refine .xx hb z (.xx hb z (.xx hb z ?_))
  cases aJ hb hb1
  exact .s (pkf hb z z z) z (.nil (ck 4 hS))
 intro W hS
 obtain rfl:=o9 h
 exact .qn z (.ret (ab (vs:=[_]) () (rt z rn) z (hS.to [])))
def km (F : Expr → Int → Option ((List al))) : Prop:=∀ {a0 : Expr} {a1 : Int} {eB : Hd} {w : World} {r : (List al)} (h : F a0 a1 = some r) (bo : RO w eB 158 3 bg a0.Args) , Cl 159 #[.agg #[iv a0.Op,iv a0.N,(sv eB)],iv a1] w (Ret No w (fun s : Hd=>(sv s)) (fun s=>[ae (sv s) 107 5 aX r]))
theorem tW {k : Nat} {gI : Expr → Int → Option ((List al))} (nG : km gI) : km (gH k gI):=by
 intro a0 a1 eB w r h bo
 unfold gH at h
 refine ay Tryz.func159 z z ?_
 have hS:=Sep.start w
 refine .g (.c (.box hS z z ?_))
 intro g1 W hS
 refine .qn z (.seq (.g (.s (fa T.f158_0 z z z) z (.s (ld T.t3 hS z z z z z) z (.q z (.nil ?_))))))
 refine .cs z h ?_ ?_ <;> intro h
 ·refine .g (.q z (.s (fa T.f158_1 z z z) z (.s (ld T.t3 hS z z z z z) z (.s (bs T.s107 z z) z (.c (.liv [(al.mk 1 a1 0 0 a0.N)] aX T.u78 T.t107 hS z z z z ?_ z (fun _=>z)))))))
  intro v1 W hS
  cases h
  exact .qn z (.ret (ab (vs:=[_]) v1 (rt z rn) z (hS.to [0])))
 refine .skip (.seq (.g (.s (fa T.f158_0 z z z) z (.s (ld T.t3 hS z z z z z) z (.q z (.nil ?_))))))
 refine .cs z h ?_ ?_ <;> intro h
 ·refine .g (.q z (.s (fa T.f158_1 z z z) z (.s (ld T.t3 hS z z z z z) z (.s (bs T.s107 z z) z (.c (.liv [(al.mk 2 a1 a0.N 0 0)] aX T.u78 T.t107 hS z z z z ?_ z (fun _=>z)))))))
  intro v2 W hS
  cases h
  exact .qn z (.ret (ab (vs:=[_]) v2 (rt z rn) z (hS.to [0])))
 refine .skip (.seq (.rk 15 hS [0] T.mix ?_))
 intro W hS
 have hT:=hS.to [0]
 refine .ts' 0 z (fun W hT=>fa T.f158_2 z z z) hT z (.ts' 1 z (fun W hT=>ld T.t156 hT z z z z z) hT z ?_)
 have ⟨x1,hx1,h⟩:=bnd h
 obtain ⟨k1,hd,hck1⟩:=RV.el2 bo hx1
 have hd1:=nF (eP _) hd
 obtain ⟨k1,rfl,hd2⟩:=dt bo z hd1
 obtain ⟨k1,rfl,hd3⟩:=dt bo z hd2
 obtain ⟨v3,k1,rfl,q1,hd4⟩:=dF bo hd3
 obtain rfl:=lZ bo hd4
 refine .ts' 2 z (fun W hT=>ixv (hS.keep bo) hx1 T.u156 T.t158 z z z) hT z (.ts' 3 z (fun W hT=>lde (hck1 _ hT.agree) T.t158 z z z z z) hT z (.tp' 4 z z hT (.ts' 6 z (fun W hT=>fa T.f158_2 z z z) hT z (.ts' 7 z (fun W hT=>ld T.t156 hT z z z z z) hT z ?_))))
 have ⟨x2,hx2,h⟩:=bnd h
 obtain ⟨k2,hd,hck2⟩:=RV.el2 bo hx2
 have hd1:=nF (eP _) hd
 obtain ⟨k2,rfl,hd2⟩:=dt bo z hd1
 obtain ⟨k2,rfl,hd3⟩:=dt bo z hd2
 obtain ⟨v4,k2,rfl,q2,hd4⟩:=dF bo hd3
 obtain rfl:=lZ bo hd4
 refine .ts' 8 z (fun W hT=>ixv (hS.keep bo) hx2 T.u156 T.t158 z z z) hT z (.ts' 9 z (fun W hT=>lde (hck2 _ hT.agree) T.t158 z z z z z) hT z (.tp' 10 z z hT (.tp' 11 z z hT ?_)))
 have ⟨y1,hy1,h⟩:=bnd h
 refine .by1 5 z (.cV hS Tryz.func159 (nG hy1 (hS.keep (q1 _ bo))) z z ?_)
 intro v5 W hS
 have hT:=hS.to [1]
 refine ⟨fun _=>hT,?_⟩
 have ⟨y2,hy2,h⟩:=bnd h
 refine .by1 12 z (.cV hS Tryz.func159 (nG hy2 (hS.keep (q2 _ bo))) z z ?_)
 intro v6 W hS
 have hT:=hS.to [2]
 refine ⟨fun _=>hT,?_⟩
 have ⟨r1,hr1,h⟩:=bnd h
 have hT0:=hS.p1
 refine .by1 13 z (.av hr1 hT0 hT0.p1.lv (fun _=>z) T.u78 T.t107 z z z ?_)
 intro v7 W hS
 have hT:=hS.to [2]
 refine ⟨fun _=>hT,.tp' 14 z z hT (.done (.g (.q z (.q z (.q z (.q z (.q z (.s (fa T.f158_0 z z z) z (.s (ld T.t3 hS.p2 z z z z z) z (.s (bs T.s107 z z) z (.c (.liv [(al.mk 3 a1 a1 (w64 (a1 + 1)) a0.Op)] aX T.u78 T.t107 hS z z z z ?_ z (fun _=>z)))))))))))))⟩
 intro v8 W hS
 have ⟨r2,hr2,h⟩:=bnd h
 have hT0:=hS.p1
 refine .c (.av hr2 hT0 hT0.p1.lv (fun _=>z) T.u78 T.t107 z z z ?_)
 intro v9 W hS
 obtain rfl:=o9 h
 exact .qn z (.ret (ab (vs:=[_]) v9 (rt z rn) z (hS.to [0])))
theorem oL (k : Nat) : km (dJ k):=by
  induction k with
  | zero=>exact by intro a0 a1 eB w r h bo; exact no h
  | succ k ih=>exact tW (k:=k) ih
theorem lK {k : Nat} : km (dJ k):=(oL k)
def eC (F : List az → Int → Option ((List al))) : Prop:=∀ {a0 : List az} {a1 : Int} {v_0 : Hd} {w : World} {r : (List al)} (h : F a0 a1 = some r) (q_0 : RO w v_0 160 8 aG a0) , Cl 121 #[(sv v_0),iv a1] w (Ret No w (fun s : Hd=>(sv s)) (fun s=>[ae (sv s) 107 5 aX r]))
def fO (F : az → Int → Option ((List al))) : Prop:=∀ {a0 : az} {a1 : Int} {aZ : Hd} {co : Hd} {cq : Hd} {w : World} {r : (List al)} (h : F a0 a1 = some r) (aL : RO w aZ 158 3 bg a0.Expr.Args) (bT : RO w co 160 8 aG a0.Body) (bN : RO w cq 160 8 aG a0.Else) , Cl 145 #[.agg #[iv a0.Kind,iv a0.Var,iv a0.Box,iv a0.Expr.Op,iv a0.Expr.N,(sv aZ),(sv co),(sv cq)],iv a1] w (Ret No w (fun s : Hd=>(sv s)) (fun s=>[ae (sv s) 107 5 aX r]))
def iH (F : az → Int → Option ((List al))) : Prop:=∀ {a0 : az} {a1 : Int} {aZ : Hd} {co : Hd} {cq : Hd} {w : World} {r : (List al)} (h : F a0 a1 = some r) (aL : RO w aZ 158 3 bg a0.Expr.Args) (bT : RO w co 160 8 aG a0.Body) (bN : RO w cq 160 8 aG a0.Else) , Cl 160 #[.agg #[iv a0.Kind,iv a0.Var,iv a0.Box,iv a0.Expr.Op,iv a0.Expr.N,(sv aZ),(sv co),(sv cq)],iv a1] w (Ret No w (fun s : Hd=>(sv s)) (fun s=>[ae (sv s) 107 5 aX r]))
def eK (F : az → Int → Option ((List al))) : Prop:=∀ {a0 : az} {a1 : Int} {aZ : Hd} {co : Hd} {cq : Hd} {w : World} {r : (List al)} (h : F a0 a1 = some r) (aL : RO w aZ 158 3 bg a0.Expr.Args) (bT : RO w co 160 8 aG a0.Body) (bN : RO w cq 160 8 aG a0.Else) , Cl 161 #[.agg #[iv a0.Kind,iv a0.Var,iv a0.Box,iv a0.Expr.Op,iv a0.Expr.N,(sv aZ),(sv co),(sv cq)],iv a1] w (Ret No w (fun s : Hd=>(sv s)) (fun s=>[ae (sv s) 107 5 aX r]))
theorem tX {k : Nat} {bA : List az → Int → Option ((List al))} {bz : az → Int → Option ((List al))} {cr : az → Int → Option ((List al))} {bF : az → Int → Option ((List al))} (eL : eC bA) (jz : fO bz) (lc : iH cr) (iI : eK bF) : eC (gJ k bA bz cr bF):=by
 intro a0 a1 v_0 w r h q_0
 unfold gJ at h
 refine ay Tryz.func121 z z ?_
 have hS:=Sep.start w
 refine .g (.qn z (.g (.c (.liv [] aX T.u78 T.t107 hS z z z z ?_ z (fun _=>z)))))
 intro v1 W hS
 refine .qn z (.seq (.g (.qn z (.block ?_))))
 have ⟨y1,hy1,h⟩:=bnd h
 refine .via (.iter (fun s1 E' W'=>∃ (v4 : Hd),aK E' [(0,(sv v_0)),(1,iv a1),(5,(sv v4)),(6,iv s1.2)] ∧ Sep No w W' [ae (sv v4) 107 5 aX s1.1]) (fun y2 x E' W'=>x = .exit 0 ∧ ∃ (v5 : Hd),aK E' [(5,(sv v5))] ∧ Sep No w W' [ae (sv v5) 107 5 aX y2]) hy1 ⟨v1,sb z,hS.to [0]⟩ ?_) ?_
 ·intro s1 y3 E W h hI
  obtain ⟨v3,hE,hS⟩:=hI
  refine CW.sub hE ?_
  unfold lA at h
  refine .seq (.g (.q z (.q z (.s (bq (hS.keep q_0) T.u123 z z) z (.q z (.nil ?_))))))
  refine .cs z h ?_ ?_ <;> intro h
  ·refine .skip (.seq (.block (.region (.q z (.q z (.q z ?_))))))
   have ⟨x1,hx1,h⟩:=bnd h
   obtain ⟨k1,hd,hck1⟩:=RV.el2 q_0 hx1
   have hd1:=nF (gG _) hd
   obtain ⟨k1,rfl,hd2⟩:=dt q_0 z hd1
   obtain ⟨k1,rfl,hd3⟩:=dt q_0 z hd2
   obtain ⟨k1,rfl,hd4⟩:=dt q_0 z hd3
   have hd5:=nF (eP _) hd4
   obtain ⟨k1,rfl,hd6⟩:=dt q_0 z hd5
   obtain ⟨k1,rfl,hd7⟩:=dt q_0 z hd6
   obtain ⟨v6,k1,rfl,q5,hd8⟩:=dF q_0 hd7
   obtain ⟨v7,k1,rfl,q6,hd9⟩:=dF q_0 hd8
   obtain ⟨v8,k1,rfl,q7,hd10⟩:=dF q_0 hd9
   obtain rfl:=lZ q_0 hd10
   refine .s (ixv (hS.keep q_0) hx1 T.u123 T.t160 z z z) z (.s (lde (hck1 _ hS.agree) T.t160 z z z z z) z (.q z (.q z (.s (bq hS.lv T.u78 z z) z (.q z ?_)))))
   have ⟨y4,hy4,h⟩:=bnd h
   refine .c (.cV hS Tryz.func145 (jz hy4 (hS.keep (q5 _ q_0)) (hS.keep (q6 _ q_0)) (hS.keep (q7 _ q_0))) z z ?_)
   intro v9 W hS
   have ⟨r1,hr1,h⟩:=bnd h
   have hT0:=hS.p1
   refine .c (.av hr1 hT0 hT0.p1.lv (fun _=>z) T.u78 T.t107 z z z ?_)
   intro v10 W hS
   refine .qn z (.region (.q z (.q z (.q z (.nil ?_)))))
   cases h
   exact ⟨z,v10,sb z,hS.to [0]⟩
  refine .exit ?_
  cases h
  exact ⟨by simp,z,v3,sb z,hS.to [0]⟩
 intro x E W hJ
 obtain ⟨rfl,v11,hE,hS⟩:=hJ
 refine ⟨_,hE.sub,?_⟩
 obtain rfl:=o9 h
 exact .g (.q z (.qn z (.ret (ab (vs:=[_]) v11 (rt z rn) z (hS.to [0])))))
theorem tY {k : Nat} {bA : List az → Int → Option ((List al))} {bz : az → Int → Option ((List al))} {cr : az → Int → Option ((List al))} {bF : az → Int → Option ((List al))} (eL : eC bA) (jz : fO bz) (lc : iH cr) (iI : eK bF) : fO (gK k bA bz cr bF):=by
 intro a0 a1 aZ co cq w r h aL bT bN
 unfold gK at h
 refine ay Tryz.func145 z z ?_
 have hS:=Sep.start w
 refine .g (.c (.box hS z z ?_))
 intro g1 W hS
 refine .qn z (.g (.s (fa T.f160_3 z z z) z (.s (ld T.t158 hS z z z z z) z ?_)))
 have ⟨y1,hy1,h⟩:=bnd h
 refine .c (.cV hS Tryz.func159 (lK hy1 (hS.keep aL)) z z ?_)
 intro v1 W hS
 refine .qn z (.seq (.g (.s (fa T.f160_0 z z z) z (.s (ld T.t3 hS.p1 z z z z z) z (.nil (.block (.g (.q z (.q z (.nil ?_))))))))))
 refine .cs z h ?_ ?_ <;> intro h
 ·refine .g (.s (ld T.t160 hS.p1 z z z z z) z (.q z ?_))
  have ⟨y2,hy2,h⟩:=bnd h
  refine .c (.cV hS Tryz.func160 (lc hy2 (hS.keep aL) (hS.keep bT) (hS.keep bN)) z z ?_)
  intro v2 W hS
  obtain rfl:=o9 h
  exact .qn z (.ret (ab (vs:=[_]) v2 (rt z rn) z (hS.to [0])))
 refine .g (.q z (.q z (.nil ?_)))
 refine .cs z h ?_ ?_ <;> intro h
 ·refine .g (.s (ld T.t160 hS.p1 z z z z z) z (.q z ?_))
  have ⟨y3,hy3,h⟩:=bnd h
  refine .c (.cV hS Tryz.func161 (iI hy3 (hS.keep aL) (hS.keep bT) (hS.keep bN)) z z ?_)
  intro v3 W hS
  obtain rfl:=o9 h
  exact .qn z (.ret (ab (vs:=[_]) v3 (rt z rn) z (hS.to [0])))
 refine .g (.q z (.q z (.nil ?_)))
 refine .cs z h ?_ ?_ <;> intro h
 ·refine .g (.q z (.s (fa T.f160_1 z z z) z (.s (ld T.t3 hS.p1 z z z z z) z (.s (bs T.s107 z z) z (.c (.liv [(al.mk 2 a0.Var 4 0 0)] aX T.u78 T.t107 hS z z z z ?_ z (fun _=>z)))))))
  intro v4 W hS
  have ⟨r1,hr1,h⟩:=bnd h
  have hT0:=hS.p1
  refine .c (.av hr1 hT0 hT0.p1.lv (fun _=>z) T.u78 T.t107 z z z ?_)
  intro v5 W hS
  obtain rfl:=o9 h
  exact .qn z (.ret (ab (vs:=[_]) v5 (rt z rn) z (hS.to [0])))
 refine .g (.q z (.q z (.nil ?_)))
 refine .cs z h ?_ ?_ <;> intro h
 ·refine .g (.q z (.s (fa T.f160_2 z z z) z (.s (ld T.t3 hS.p1 z z z z z) z (.s (bs T.s107 z z) z (.c (.liv [(al.mk 6 0 4 0 a0.Box)] aX T.u78 T.t107 hS z z z z ?_ z (fun _=>z)))))))
  intro v6 W hS
  have ⟨r2,hr2,h⟩:=bnd h
  have hT0:=hS.p1
  refine .c (.av hr2 hT0 hT0.p1.lv (fun _=>z) T.u78 T.t107 z z z ?_)
  intro v7 W hS
  obtain rfl:=o9 h
  exact .qn z (.ret (ab (vs:=[_]) v7 (rt z rn) z (hS.to [0])))
 refine .g (.q z (.q z (.nil ?_)))
 refine .cs z h ?_ ?_ <;> intro h
 ·refine .g (.q z (.s (bs T.s107 z z) z (.c (.liv [(al.mk 9 0 4 0 0)] aX T.u78 T.t107 hS z z z z ?_ z (fun _=>z)))))
  intro v8 W hS
  have ⟨r3,hr3,h⟩:=bnd h
  have hT0:=hS.p1
  refine .c (.av hr3 hT0 hT0.p1.lv (fun _=>z) T.u78 T.t107 z z z ?_)
  intro v9 W hS
  obtain rfl:=o9 h
  exact .qn z (.ret (ab (vs:=[_]) v9 (rt z rn) z (hS.to [0])))
 refine .g (.q z (.q z (.nil ?_)))
 refine .cs z h ?_ ?_ <;> intro h
 ·refine .g (.s (fa T.f160_1 z z z) z (.s (ld T.t3 hS.p1 z z z z z) z (.s (fa T.f160_2 z z z) z (.s (ld T.t3 hS.p1 z z z z z) z (.s (bs T.s107 z z) z (.c (.liv [(al.mk 7 a0.Var 0 0 a0.Box)] aX T.u78 T.t107 hS z z z z ?_ z (fun _=>z))))))))
  intro v10 W hS
  cases h
  exact .qn z (.ret (ab (vs:=[_]) v10 (rt z rn) z (hS.to [0])))
 refine .skip (.g (.s (bs T.s107 z z) z (.c (.liv [(al.mk 8 0 0 0 0)] aX T.u78 T.t107 hS z z z z ?_ z (fun _=>z)))))
 intro v11 W hS
 cases h
 exact .qn z (.ret (ab (vs:=[_]) v11 (rt z rn) z (hS.to [0])))
theorem vt {k : Nat} {bA : List az → Int → Option ((List al))} {bz : az → Int → Option ((List al))} {cr : az → Int → Option ((List al))} {bF : az → Int → Option ((List al))} (eL : eC bA) (jz : fO bz) (lc : iH cr) (iI : eK bF) : iH (jR k bA bz cr bF):=by
 intro a0 a1 aZ co cq w r h aL bT bN
 unfold jR at h
 refine ay Tryz.func160 z z ?_
 have hS:=Sep.start w
 refine .g (.c (.box hS z z ?_))
 intro g1 W hS
 refine .qn z (.g (.s (fa T.f160_3 z z z) z (.s (ld T.t158 hS z z z z z) z ?_)))
 have ⟨y1,hy1,h⟩:=bnd h
 refine .c (.cV hS Tryz.func159 (lK hy1 (hS.keep aL)) z z ?_)
 intro v1 W hS
 refine .qn z (.g (.s (fa T.f160_4 z z z) z (.s (ld T.t123 hS.p1 z z z z z) z (.q z (.q z (.s (bq hS.lv T.u78 z z) z (.q z (.q z ?_))))))))
 have ⟨y2,hy2,h⟩:=bnd h
 refine .c (.cV hS Tryz.func121 (eL hy2 (hS.keep bT)) z z ?_)
 intro v2 W hS
 refine .qn z (.g (.q z (.q z (.s (bq hS.p1.lv T.u78 z z) z (.q z (.q z (.q z (.s (bq hS.lv T.u78 z z) z (.q z (.qn z (.seq (.g (.s (fa T.f160_5 z z z) z (.s (ld T.t123 hS.p2 z z z z z) z (.s (bq (hS.keep bN) T.u123 z z) z (.q z (.nil ?_)))))))))))))))))
 refine .cs z h ?_ ?_ <;> intro h
 ·refine .g (.q z (.q z (.s (bs T.s107 z z) z (.c (.liv [(al.mk 5 0 4 0 (w64 ((w64 ((w64 (a1 + (y1.length : Int))) + 1)) + (y2.length : Int))))] aX T.u78 T.t107 hS z z z z ?_ z (fun _=>z))))))
  intro v3 W hS
  have ⟨r1,hr1,h⟩:=bnd h
  have hT0:=hS.p2
  refine .c (.av hr1 hT0 hT0.p1.lv (fun _=>z) T.u78 T.t107 z z z ?_)
  intro v4 W hS
  refine .qn z (.g (.q z (.q z ?_)))
  have ⟨r2,hr2,h⟩:=bnd h
  have hT0:=hS
  refine .c (.av hr2 hT0 hT0.p2.lv (fun _=>z) T.u78 T.t107 z z z ?_)
  intro v5 W hS
  obtain rfl:=o9 h
  exact .qn z (.ret (ab (vs:=[_]) v5 (rt z rn) z (hS.to [0])))
 refine .skip (.g (.s (fa T.f160_5 z z z) z (.s (ld T.t123 hS.p2 z z z z z) z (.q z (.q z ?_)))))
 have ⟨y3,hy3,h⟩:=bnd h
 refine .c (.cV hS Tryz.func121 (eL hy3 (hS.keep bN)) z z ?_)
 intro v6 W hS
 refine .qn z (.g (.q z (.q z (.q z (.s (bs T.s107 z z) z (.c (.liv [(al.mk 5 0 4 0 (w64 ((w64 ((w64 ((w64 (a1 + (y1.length : Int))) + 1)) + (y2.length : Int))) + 1)))] aX T.u78 T.t107 hS z z z z ?_ z (fun _=>z))))))))
 intro v7 W hS
 have ⟨r3,hr3,h⟩:=bnd h
 have hT0:=hS.p3
 refine .c (.av hr3 hT0 hT0.p1.lv (fun _=>z) T.u78 T.t107 z z z ?_)
 intro v8 W hS
 refine .qn z (.g (.q z (.q z ?_)))
 have ⟨r4,hr4,h⟩:=bnd h
 have hT0:=hS
 refine .c (.av hr4 hT0 hT0.p3.lv (fun _=>z) T.u78 T.t107 z z z ?_)
 intro v9 W hS
 refine .qn z (.g (.q z (.q z (.q z (.q z (.s (bq hS.p2.lv T.u78 z z) z (.q z (.s (bs T.s107 z z) z (.c (.liv [(al.mk 4 0 0 0 (w64 ((w64 ((w64 ((w64 ((w64 (a1 + (y1.length : Int))) + 1)) + (y2.length : Int))) + 1)) + (y3.length : Int))))] aX T.u78 T.t107 hS z z z z ?_ z (fun _=>z)))))))))))
 intro v10 W hS
 have ⟨r5,hr5,h⟩:=bnd h
 have hT0:=hS.p1
 refine .c (.av hr5 hT0 hT0.p1.lv (fun _=>z) T.u78 T.t107 z z z ?_)
 intro v11 W hS
 refine .qn z (.g (.q z (.q z ?_)))
 have ⟨r6,hr6,h⟩:=bnd h
 have hT0:=hS
 refine .c (.av hr6 hT0 hT0.p3.lv (fun _=>z) T.u78 T.t107 z z z ?_)
 intro v12 W hS
 obtain rfl:=o9 h
 exact .qn z (.ret (ab (vs:=[_]) v12 (rt z rn) z (hS.to [0])))
theorem sa {k : Nat} {bA : List az → Int → Option ((List al))} {bz : az → Int → Option ((List al))} {cr : az → Int → Option ((List al))} {bF : az → Int → Option ((List al))} (eL : eC bA) (jz : fO bz) (lc : iH cr) (iI : eK bF) : eK (gh k bA bz cr bF):=by
 intro a0 a1 aZ co cq w r h aL bT bN
 unfold gh at h
 refine ay Tryz.func161 z z ?_
 have hS:=Sep.start w
 refine .g (.c (.box hS z z ?_))
 intro g1 W hS
 refine .qn z (.g (.s (fa T.f160_3 z z z) z (.s (ld T.t158 hS z z z z z) z ?_)))
 have ⟨y1,hy1,h⟩:=bnd h
 refine .c (.cV hS Tryz.func159 (lK hy1 (hS.keep aL)) z z ?_)
 intro v1 W hS
 refine .qn z (.g (.s (fa T.f160_4 z z z) z (.s (ld T.t123 hS.p1 z z z z z) z (.q z (.q z (.s (bq hS.lv T.u78 z z) z (.q z (.q z ?_))))))))
 have ⟨y2,hy2,h⟩:=bnd h
 refine .c (.cV hS Tryz.func121 (eL hy2 (hS.keep bT)) z z ?_)
 intro v2 W hS
 refine .qn z (.g (.q z (.q z (.q z (.s (bq hS.p1.lv T.u78 z z) z (.q z (.q z (.q z (.s (bq hS.lv T.u78 z z) z (.q z (.q z (.s (bs T.s107 z z) z (.c (.liv [(al.mk 5 0 4 0 (w64 ((w64 ((w64 ((w64 (a1 + (y1.length : Int))) + 1)) + (y2.length : Int))) + 1)))] aX T.u78 T.t107 hS z z z z ?_ z (fun _=>z)))))))))))))))
 intro v3 W hS
 have ⟨r1,hr1,h⟩:=bnd h
 have hT0:=hS.p2
 refine .c (.av hr1 hT0 hT0.p1.lv (fun _=>z) T.u78 T.t107 z z z ?_)
 intro v4 W hS
 refine .qn z (.g (.q z (.q z ?_)))
 have ⟨r2,hr2,h⟩:=bnd h
 have hT0:=hS
 refine .c (.av hr2 hT0 hT0.p2.lv (fun _=>z) T.u78 T.t107 z z z ?_)
 intro v5 W hS
 refine .qn z (.g (.q z (.q z (.s (bs T.s107 z z) z (.c (.liv [(al.mk 4 0 0 0 a1)] aX T.u78 T.t107 hS z z z z ?_ z (fun _=>z)))))))
 intro v6 W hS
 have ⟨r3,hr3,h⟩:=bnd h
 have hT0:=hS.p1
 refine .c (.av hr3 hT0 hT0.p1.lv (fun _=>z) T.u78 T.t107 z z z ?_)
 intro v7 W hS
 obtain rfl:=o9 h
 exact .qn z (.ret (ab (vs:=[_]) v7 (rt z rn) z (hS.to [0])))
theorem oM (k : Nat) : eC (eU k) ∧ fO (il k) ∧ iH (ma k) ∧ eK (iX k):=by
  induction k with
  | zero=>exact ⟨by intro a0 a1 v_0 w r h q_0; exact no h,by intro a0 a1 aZ co cq w r h aL bT bN; exact no h,by intro a0 a1 aZ co cq w r h aL bT bN; exact no h,by intro a0 a1 aZ co cq w r h aL bT bN; exact no h⟩
  | succ k ih=>exact ⟨tX (k:=k) ih.1 ih.2.1 ih.2.2.1 ih.2.2.2,tY (k:=k) ih.1 ih.2.1 ih.2.2.1 ih.2.2.2,vt (k:=k) ih.1 ih.2.1 ih.2.2.1 ih.2.2.2,sa (k:=k) ih.1 ih.2.1 ih.2.2.1 ih.2.2.2⟩
theorem sd {k : Nat} : eC (eU k):=(oM k).1
theorem oO {k : Nat} {a0 : List az} {v_0 : Hd} {w : World} {r : (List al) × Bool} (h : fB k a0 = some r) (q_0 : RO w v_0 160 8 aG a0) : Cl 90 #[(sv v_0)] w (Ret No w (fun s : Hd=>.tuple #[(sv s),.bool r.2]) (fun s=>[ae (sv s) 107 5 aX r.1])):=by
 unfold fB at h
 refine ay Tryz.func90 z z ?_
 have hS:=Sep.start w
 refine .g (.q z (.qn z (.seq (.g (.q z ?_)))))
 have ⟨y1,hy1,h⟩:=bnd h
 refine .c (.cO hS Tryz.func120 (pA hy1 (hS.keep q_0)) z z ?_)
 intro W hS
 refine .q z (.nil ?_)
 refine .cs z h ?_ ?_ <;> intro h
 ·refine .g (.c (.liv [] aX T.u78 T.t107 hS z z z z ?_ z (fun _=>z)))
  intro v1 W hS
  cases h
  exact .q z (.qn z (.ret (ab (vs:=[_,_]) v1 (rt z (rt z rn)) z (hS.to [0]))))
 refine .skip (.g (.q z ?_))
 have ⟨y2,hy2,h⟩:=bnd h
 refine .c (.cV hS Tryz.func121 (sd hy2 (hS.keep q_0)) z z ?_)
 intro v2 W hS
 refine .s (bs T.s107 z z) z (.c (.liv [(al.mk 10 0 0 0 0)] aX T.u78 T.t107 hS z z z z ?_ z (fun _=>z)))
 intro v3 W hS
 have ⟨r1,hr1,h⟩:=bnd h
 have hT0:=hS.p1
 refine .c (.av hr1 hT0 hT0.p1.lv (fun _=>z) T.u78 T.t107 z z z ?_)
 intro v4 W hS
 cases h
 exact .q z (.qn z (.ret (ab (vs:=[_,_]) v4 (rt z (rt z rn)) z (hS.to [0]))))
theorem di {a0 : Int} {a1 : Expr} {a2 : Expr} {tZ : Hd} {t0 : Hd} {S : Nat → Prop} {w : World} {r : Expr} (h : jH a0 a1 a2 = some r) (hO : bG w [ae (sv tZ) 158 3 bg a1.Args,ae (sv t0) 158 3 bg a2.Args] S) (hlt : ∀ b,S b → b < w.heap.size) : Cl 183 #[iv a0,.agg #[iv a1.Op,iv a1.N,(sv tZ)],.agg #[iv a2.Op,iv a2.N,(sv t0)]] w (Ret S w (fun s : Hd=>.agg #[iv r.Op,iv r.N,(sv s)]) (fun s=>[ae (sv s) 158 3 bg r.Args])):=by
 unfold jH at h
 refine ay Tryz.func183 z z ?_
 have hS:=Sep.sm hO hlt
 refine .g (.c (.box hS z z ?_))
 intro g1 W hS
 refine .c (.box hS z z ?_)
 intro g2 W hS
 refine .c (.alloc T.t158 hS ?_)
 intro g3 W hS
 refine .nil (.g (.q z (.s (ld T.t158 hS.p2 z z z z z) z (.s (ld T.t158 hS.p1 z z z z z) z (.c (.lg (L1:=[ae (sv tZ) 158 3 bg a1.Args,ae (sv t0) 158 3 bg a2.Args]) [(Expr.mk a1.Op a1.N a1.Args),(Expr.mk a2.Op a2.N a2.Args)] bg T.u156 T.t158 (hS.to [3,3,0,0,0]) z z z (.aggE (eP _) (.flat (c1:=[iv a1.Op]) z (.flat (c1:=[iv a1.N]) z (.row (.aggE (eP _) (.flat (c1:=[iv a2.Op]) z (.flat (c1:=[iv a2.N]) z (.row .nil)))))))) ?_ z yM))))))
 intro v1 W hS
 refine .s (bs T.s158 z z) z (.c (.st T.t158 hS.p1 z z z ?_))
 intro W hS
 cases h
 exact .nil (.ret (ab (vs:=[_]) v1 (rc hS T.t158 z rn z z) z (hS.to [1])))
theorem bj {a0 : Int} {a1 : Int} {w : World} {r : Expr} (h : dS a0 a1 = some r) : Cl 184 #[iv a0,iv a1] w (Ret No w (fun s : Hd=>.agg #[iv r.Op,iv r.N,(sv s)]) (fun s=>[ae (sv s) 158 3 bg r.Args])):=by
 unfold dS at h
 refine ay Tryz.func184 z z ?_
 have hS:=Sep.start w
 refine .g (.c (.alloc T.t158 hS ?_))
 intro g1 W hS
 refine .nil (.g (.q z (.q z (.c (.lg (L1:=[]) [] bg T.u156 T.t158 (hS.to [0]) z z z (.nil) ?_ z yM)))))
 intro v1 W hS
 refine .s (bs T.s158 z z) z (.c (.st T.t158 hS.p1 z z z ?_))
 intro W hS
 cases h
 exact .nil (.ret (ab (vs:=[_]) v1 (rc hS T.t158 z rn z z) z (hS.to [1])))
theorem sg {a0 : aU} {ax : Hd} {g_0 : Nat} {S : Nat → Prop} {w : World} {r : Expr × Int} (h : io a0 = some r) (aQ : RV w (Old S w) (sv ax) 5 1 (D.int .u8) a0.b) (hO : bG w [.box g_0 74 [(sv ax),iv a0.p]] S) (hlt : ∀ b,S b → b < w.heap.size) : Cl 185 #[pt g_0] w (Ret S w (fun s : Hd=>.agg #[iv r.1.Op,iv r.1.N,(sv s)]) (fun s=>[.box g_0 74 [(sv ax),iv r.2],ae (sv s) 158 3 bg r.1.Args])):=by
 unfold io at h
 refine ay Tryz.func185 z z ?_
 have hS:=Sep.sm hO hlt
 refine .g (.c (.alloc T.t158 hS ?_))
 intro g1 W hS
 refine .nil (.seq (.g (.q z ?_)))
 have ⟨y1,hy1,h⟩:=bnd h
 have hS:=hS.p1
 refine .c (.cS (L0:=[.box g_0 74 [(sv ax),iv a0.p]]) hS Tryz.func18 (fun S h1 h2 h3=>(ak hy1 (hS.ks aQ h1) h2 (zz h1))) z z ?_)
 rintro ⟨⟩ W hS
 refine .nil (.block (.g (.q z (.qn z (.cond z (fun hb=>?_) (fun hb=>?_))))))
 ·have h:=aI hb h
  refine .g (.q z ?_)
  have ⟨y2,hy2,h⟩:=bnd h
  refine .c (.cS (L0:=[.box g_0 74 [(sv ax),iv y1.2]]) hS Tryz.func18 (fun S h1 h2 h3=>(ak hy2 (hS.ks aQ h1) h2 (zz h1))) z z ?_)
  rintro ⟨⟩ W hS
  have ⟨y3,hy3,h⟩:=bnd h
  refine .c (.cV hS Tryz.func184 (bj hy3) z z ?_)
  intro v1 W hS
  refine .c (.st T.t158 hS.p2 z z z ?_)
  intro W hS
  cases h
  exact .nil (.ret (ab (vs:=[_]) v1 (rc hS T.t158 z rn z z) z (hS.to [2,1])))
 have h:=aJ hb h
 refine .g (.q z (.qn z (.cond z (fun hb=>?_) (fun hb=>?_))))
 ·have h:=aI hb h
  refine .g (.c (.liv [5,31,32,100,2047,2048,65536,99999] (D.int .i64) T.u23 T.t3 hS z z z z ?_ z (fun _=>z)))
  intro v2 W hS
  refine .q z ?_
  have ⟨y4,hy4,h⟩:=bnd h
  have hS:=hS.p1
  refine .c (.cS (L0:=[.box g_0 74 [(sv ax),iv y1.2]]) hS Tryz.func18 (fun S h1 h2 h3=>(ak hy4 (hS.ks aQ h1) h2 (zz h1))) z z ?_)
  rintro ⟨⟩ W hS
  have ⟨x1,hx1,h⟩:=bnd h
  refine .s (ixv hS.p1.lv hx1 T.u23 T.t3 z z z) z (.s (lde (RV.flat hS.p1.lv hx1 z) T.t3 z z z z z) z ?_)
  have ⟨y5,hy5,h⟩:=bnd h
  refine .c (.cV hS Tryz.func184 (bj hy5) z z ?_)
  intro v3 W hS
  refine .c (.st T.t158 hS.p3 z z z ?_)
  intro W hS
  cases h
  exact .nil (.ret (ab (vs:=[_]) v3 (rc hS T.t158 z rn z z) z (hS.to [2,1])))
 have h:=aJ hb h
 refine .skip (.g (.q z ?_))
 have ⟨y6,hy6,h⟩:=bnd h
 refine .c (.cS (L0:=[.box g_0 74 [(sv ax),iv y1.2]]) hS Tryz.func18 (fun S h1 h2 h3=>(ak hy6 (hS.ks aQ h1) h2 (zz h1))) z z ?_)
 rintro ⟨⟩ W hS
 have ⟨y7,hy7,h⟩:=bnd h
 refine .c (.cV hS Tryz.func184 (bj hy7) z z ?_)
 intro v4 W hS
 refine .c (.st T.t158 hS.p2 z z z ?_)
 intro W hS
 cases h
 exact .nil (.ret (ab (vs:=[_]) v4 (rc hS T.t158 z rn z z) z (hS.to [2,1])))
def ko (F : aU → Int → Option (Expr × Int)) : Prop:=∀ {a0 : aU} {a1 : Int} {ax : Hd} {g_0 : Nat} {S : Nat → Prop} {w : World} {r : Expr × Int} (h : F a0 a1 = some r) (aQ : RV w (Old S w) (sv ax) 5 1 (D.int .u8) a0.b) (hO : bG w [.box g_0 74 [(sv ax),iv a0.p]] S) (hlt : ∀ b,S b → b < w.heap.size) , Cl 166 #[pt g_0,iv a1] w (Ret S w (fun s : Hd=>.agg #[iv r.1.Op,iv r.1.N,(sv s)]) (fun s=>[.box g_0 74 [(sv ax),iv r.2],ae (sv s) 158 3 bg r.1.Args]))
end
noncomputable section
theorem t6 {k : Nat} {gM : aU → Int → Option (Expr × Int)} (nH : ko gM) : ko (gL k gM):=by
 intro a0 a1 ax g_0 S w r h aQ hO hlt
 unfold gL at h
 refine ay Tryz.func166 z z ?_
 have hS:=Sep.sm hO hlt
 refine .g (.c (.alloc T.t158 hS ?_))
 intro g1 W hS
 refine .nil (.seq (.g (.q z (.q z (.q z ?_)))))
 have ⟨b1,hb1,h⟩:=bnd h
 refine .chunkL 4 13 (b1.1) (M:=S) (w0:=w) (L:=[.box g1 158 [iv 0,iv 0,(sv aP)],.box g_0 74 [(sv ax),iv b1.2]]) ?_ ?_
 ·refine .both (decide (a1 < 2)) (fun hb=>?_) (fun hb=>?_)
  ·refine .xx hb z (.xx hb z (.xx hb z ?_))
   cases aI hb hb1
   exact .s (pkt hb z z z) z (.nil (ck 4 (hS.to [0,0])))
  have hg1:=hb
  have h:=aJ hb hb1
  refine .g hg1 (.q z ?_)
  have ⟨y1,hy1,h⟩:=bnd h
  have hS:=hS.p1
  refine .g hg1 (.c (.cS (L0:=[.box g_0 74 [(sv ax),iv a0.p]]) hS Tryz.func18 (fun S h1 h2 h3=>(ak hy1 (hS.ks aQ h1) h2 (zz h1))) z z ?_))
  rintro ⟨⟩ W hS
  refine .g hg1 (.q z (.s (pkf hg1 z z z) z ?_))
  cases h
  exact .nil (ck 4 (hS.to [1,0]))
 intro W hS
 refine .nil (.cond z (fun hb=>?_) (fun hb=>?_))
 ·have h:=aI hb h
  refine .g (.q z ?_)
  have ⟨y2,hy2,h⟩:=bnd h
  have hS:=hS.p1
  refine .c (.cS (L0:=[.box g_0 74 [(sv ax),iv b1.2]]) hS Tryz.func185 (fun S h1 h2 h3=>(sg hy2 (hS.ks aQ h1) h2 (zz h1))) z z ?_)
  rintro v1 W hS
  refine .c (.st T.t158 hS.p2 z z z ?_)
  intro W hS
  cases h
  exact .nil (.ret (ab (vs:=[_]) v1 (rc hS T.t158 z rn z z) z (hS.to [1,1])))
 have h:=aJ hb h
 refine .skip (.g (.q z ?_))
 have ⟨y3,hy3,h⟩:=bnd h
 have hS:=hS.p1
 refine .c (.cS (L0:=[.box g_0 74 [(sv ax),iv b1.2]]) hS Tryz.func143 (fun S h1 h2 h3=>(pb hy3 (hS.ks aQ h1) h2 (zz h1))) z z ?_)
 rintro ⟨⟩ W hS
 refine .qn z (.g (.q z (.q z (.q z ?_))))
 have ⟨y4,hy4,h⟩:=bnd h
 refine .c (.cS (L0:=[.box g_0 74 [(sv ax),iv y3.2]]) hS Tryz.func166 (fun S h1 h2 h3=>(nH hy4 (hS.ks aQ h1) h2 (zz h1))) z z ?_)
 rintro v2 W hS
 refine .c (.alloc T.t158 hS ?_)
 intro g2 W hS
 refine .c (.st T.t158 hS z z z ?_)
 intro W hS
 refine .nil (.seq (.rk 7 hS [0,2] T.mix ?_))
 intro W hS
 have hT:=hS.to [0,2]
 refine .tp' 0 z z hT (.ts' 1 z (fun W hT=>ld T.t158 hT z z z z z) hT z (.tp' 2 z z hT (.tp' 3 z z hT (.tp' 4 z z hT ?_))))
 have ⟨y5,hy5,h⟩:=bnd h
 have hS:=hS.p1
 refine .by1 5 z (.cS (L0:=[.box g_0 74 [(sv ax),iv y4.2]]) hS Tryz.func166 (fun S h1 h2 h3=>(nH hy5 (hS.ks aQ h1) h2 (zz h1))) z z ?_)
 rintro v3 W hS
 have hT:=hS.to [2,3]
 refine ⟨fun _=>hT,?_⟩
 have ⟨y6,hy6,h⟩:=bnd h
 have hS:=hS.p1
 have hS:=hS.p3
 refine .by1 6 z (.cS (L0:=[ae (sv v2) 158 3 bg y4.1.Args,ae (sv v3) 158 3 bg y5.1.Args]) hS Tryz.func183 (fun S h1 h2 h3=>(di hy6 h2 (zz h1))) z z ?_)
 rintro v4 W hS
 have hT:=hS.to [2,2]
 refine ⟨fun _=>hT,.by1 7 z (.st T.t158 hS.p3 z z z ?_)⟩
 intro W hS
 refine ⟨fun h=>absurd z h,?_⟩
 cases h
 exact .done (.ret (ab (vs:=[_]) v4 (rc hS T.t158 z rn z z) z (hS.to [2,1])))
theorem oP (k : Nat) : ko (ed k):=by
  induction k with
  | zero=>exact by intro a0 a1 ax g_0 S w r h aQ hO hlt; exact no h
  | succ k ih=>exact t6 (k:=k) ih
theorem jA {k : Nat} : ko (ed k):=(oP k)
theorem oc {k : Nat} {a0 : aU} {ax : Hd} {g_0 : Nat} {S : Nat → Prop} {w : World} {r : az × Int} (h : jI k a0 = some r) (aQ : RV w (Old S w) (sv ax) 5 1 (D.int .u8) a0.b) (hO : bG w [.box g_0 74 [(sv ax),iv a0.p]] S) (hlt : ∀ b,S b → b < w.heap.size) : Cl 162 #[pt g_0] w (Ret S w (fun s : Hd × Hd × Hd=>.agg #[iv r.1.Kind,iv r.1.Var,iv r.1.Box,iv r.1.Expr.Op,iv r.1.Expr.N,(sv s.1),(sv s.2.1),(sv s.2.2)]) (fun s=>[.box g_0 74 [(sv ax),iv r.2],ae (sv s.1) 158 3 bg r.1.Expr.Args,ae (sv s.2.1) 160 8 aG r.1.Body,ae (sv s.2.2) 160 8 aG r.1.Else])):=by
 unfold jI at h
 refine ay Tryz.func162 z z ?_
 have hS:=Sep.sm hO hlt
 refine .g (.c (.alloc T.t160 hS ?_))
 intro g1 W hS
 refine .nil (.g (.q z ?_))
 have ⟨y1,hy1,h⟩:=bnd h
 have hS:=hS.p1
 refine .c (.cS (L0:=[.box g_0 74 [(sv ax),iv a0.p]]) hS Tryz.func18 (fun S h1 h2 h3=>(ak hy1 (hS.ks aQ h1) h2 (zz h1))) z z ?_)
 rintro ⟨⟩ W hS
 refine .qn z (.g (.q z (.q z (.q z ?_))))
 have ⟨y2,hy2,h⟩:=bnd h
 refine .c (.cS (L0:=[.box g_0 74 [(sv ax),iv y1.2]]) hS Tryz.func18 (fun S h1 h2 h3=>(ak hy2 (hS.ks aQ h1) h2 (zz h1))) z z ?_)
 rintro ⟨⟩ W hS
 refine .q z ?_
 have ⟨y3,hy3,h⟩:=bnd h
 refine .c (.cS (L0:=[.box g_0 74 [(sv ax),iv y2.2]]) hS Tryz.func166 (fun S h1 h2 h3=>(jA hy3 (hS.ks aQ h1) h2 (zz h1))) z z ?_)
 rintro v1 W hS
 refine .s (bs T.s160 z z) z (.c (.st T.t160 hS.p2 z z z ?_))
 intro W hS
 refine .nil (.ret ?_)
 have hS:=hS.nilv 160 8 aG
 have hS:=hS.nilv 160 8 aG
 cases h
 exact ab (vs:=[_]) (v1,aP,aP) (rc hS.p2 T.t160 z rn z z) z (hS.to [3,3,1,0])
theorem sh {k : Nat} {a0 : aU} {a1 : Int} {ax : Hd} {g_0 : Nat} {S : Nat → Prop} {w : World} {r : az × Int} (h : jS k a0 a1 = some r) (aQ : RV w (Old S w) (sv ax) 5 1 (D.int .u8) a0.b) (hO : bG w [.box g_0 74 [(sv ax),iv a0.p]] S) (hlt : ∀ b,S b → b < w.heap.size) : Cl 165 #[pt g_0,iv a1] w (Ret S w (fun s : Hd × Hd × Hd=>.agg #[iv r.1.Kind,iv r.1.Var,iv r.1.Box,iv r.1.Expr.Op,iv r.1.Expr.N,(sv s.1),(sv s.2.1),(sv s.2.2)]) (fun s=>[.box g_0 74 [(sv ax),iv r.2],ae (sv s.1) 158 3 bg r.1.Expr.Args,ae (sv s.2.1) 160 8 aG r.1.Body,ae (sv s.2.2) 160 8 aG r.1.Else])):=by
 unfold jS at h
 refine ay Tryz.func165 z z ?_
 have hS:=Sep.sm hO hlt
 refine .g (.c (.alloc T.t160 hS ?_))
 intro g1 W hS
 refine .nil (.seq (.g (.q z (.qn z (.cond z (fun hb=>?_) (fun hb=>?_))))))
 ·have h:=aI hb h
  refine .g (.q z ?_)
  have ⟨y1,hy1,h⟩:=bnd h
  have hS:=hS.p1
  refine .c (.cS (L0:=[.box g_0 74 [(sv ax),iv a0.p]]) hS Tryz.func162 (fun S h1 h2 h3=>(oc hy1 (hS.ks aQ h1) h2 (zz h1))) z z ?_)
  rintro ⟨v1,v2,v3⟩ W hS
  refine .c (.st T.t160 hS.p4 z z z ?_)
  intro W hS
  cases h
  exact .nil (.ret (ab (vs:=[_]) (v1,v2,v3) (rc hS T.t160 z rn z z) z (hS.to [1,1,1,1])))
 have h:=aJ hb h
 refine .skip (.g (.q z (.q z ?_)))
 have ⟨y2,hy2,h⟩:=bnd h
 have hS:=hS.p1
 refine .c (.cS (L0:=[.box g_0 74 [(sv ax),iv a0.p]]) hS Tryz.func18 (fun S h1 h2 h3=>(ak hy2 (hS.ks aQ h1) h2 (zz h1))) z z ?_)
 rintro ⟨⟩ W hS
 refine .qn z (.seq (.g (.q z ?_)))
 have ⟨y3,hy3,h⟩:=bnd h
 refine .c (.cS (L0:=[.box g_0 74 [(sv ax),iv y2.2]]) hS Tryz.func18 (fun S h1 h2 h3=>(ak hy3 (hS.ks aQ h1) h2 (zz h1))) z z ?_)
 rintro ⟨⟩ W hS
 refine .qn z (.cond z (fun hb=>?_) (fun hb=>?_))
 ·have h:=aI hb h
  refine .g (.q z (.q z (.q z ?_)))
  have ⟨y4,hy4,h⟩:=bnd h
  refine .c (.cS (L0:=[.box g_0 74 [(sv ax),iv y3.2]]) hS Tryz.func18 (fun S h1 h2 h3=>(ak hy4 (hS.ks aQ h1) h2 (zz h1))) z z ?_)
  rintro ⟨⟩ W hS
  refine .q z ?_
  have ⟨y5,hy5,h⟩:=bnd h
  refine .c (.cS (L0:=[.box g_0 74 [(sv ax),iv y4.2]]) hS Tryz.func166 (fun S h1 h2 h3=>(jA hy5 (hS.ks aQ h1) h2 (zz h1))) z z ?_)
  rintro v4 W hS
  refine .s (bs T.s160 z z) z (.c (.st T.t160 hS.p2 z z z ?_))
  intro W hS
  refine .nil (.ret ?_)
  have hS:=hS.nilv 160 8 aG
  have hS:=hS.nilv 160 8 aG
  cases h
  exact ab (vs:=[_]) (v4,aP,aP) (rc hS.p2 T.t160 z rn z z) z (hS.to [3,3,1,0])
 have h:=aJ hb h
 refine .skip (.g (.q z (.q z ?_)))
 have ⟨y6,hy6,h⟩:=bnd h
 refine .c (.cS (L0:=[.box g_0 74 [(sv ax),iv y3.2]]) hS Tryz.func18 (fun S h1 h2 h3=>(ak hy6 (hS.ks aQ h1) h2 (zz h1))) z z ?_)
 rintro ⟨⟩ W hS
 refine .s (bs T.s160 z z) z (.c (.st T.t160 hS.p1 z z z ?_))
 intro W hS
 refine .nil (.ret ?_)
 have hS:=hS.nilv 158 3 bg
 have hS:=hS.nilv 160 8 aG
 have hS:=hS.nilv 160 8 aG
 cases h
 exact ab (vs:=[_]) (aP,aP,aP) (rc hS.p3 T.t160 z rn z z) z (hS.to [4,2,1,0])
def d7 (F : aU → Int → Int → Int → Bool → Option ((List az) × Int)) : Prop:=∀ {a0 : aU} {a1 : Int} {a2 : Int} {a3 : Int} {a4 : Bool} {ax : Hd} {g_0 : Nat} {S : Nat → Prop} {w : World} {r : (List az) × Int} (h : F a0 a1 a2 a3 a4 = some r) (aQ : RV w (Old S w) (sv ax) 5 1 (D.int .u8) a0.b) (hO : bG w [.box g_0 74 [(sv ax),iv a0.p]] S) (hlt : ∀ b,S b → b < w.heap.size) , Cl 122 #[pt g_0,iv a1,iv a2,iv a3,.bool a4] w (Ret S w (fun s : Hd=>(sv s)) (fun s=>[.box g_0 74 [(sv ax),iv r.2],ae (sv s) 160 8 aG r.1]))
def fP (F : aU → Int → Int → Bool → Option ((List az) × Int)) : Prop:=∀ {a0 : aU} {a1 : Int} {a2 : Int} {a3 : Bool} {ax : Hd} {g_0 : Nat} {S : Nat → Prop} {w : World} {r : (List az) × Int} (h : F a0 a1 a2 a3 = some r) (aQ : RV w (Old S w) (sv ax) 5 1 (D.int .u8) a0.b) (hO : bG w [.box g_0 74 [(sv ax),iv a0.p]] S) (hlt : ∀ b,S b → b < w.heap.size) , Cl 146 #[pt g_0,iv a1,iv a2,.bool a3] w (Ret S w (fun s : Hd=>(sv s)) (fun s=>[.box g_0 74 [(sv ax),iv r.2],ae (sv s) 160 8 aG r.1]))
def iJ (F : aU → Int → Int → Bool → Option (az × Int)) : Prop:=∀ {a0 : aU} {a1 : Int} {a2 : Int} {a3 : Bool} {ax : Hd} {g_0 : Nat} {S : Nat → Prop} {w : World} {r : az × Int} (h : F a0 a1 a2 a3 = some r) (aQ : RV w (Old S w) (sv ax) 5 1 (D.int .u8) a0.b) (hO : bG w [.box g_0 74 [(sv ax),iv a0.p]] S) (hlt : ∀ b,S b → b < w.heap.size) , Cl 163 #[pt g_0,iv a1,iv a2,.bool a3] w (Ret S w (fun s : Hd × Hd × Hd=>.agg #[iv r.1.Kind,iv r.1.Var,iv r.1.Box,iv r.1.Expr.Op,iv r.1.Expr.N,(sv s.1),(sv s.2.1),(sv s.2.2)]) (fun s=>[.box g_0 74 [(sv ax),iv r.2],ae (sv s.1) 158 3 bg r.1.Expr.Args,ae (sv s.2.1) 160 8 aG r.1.Body,ae (sv s.2.2) 160 8 aG r.1.Else]))
def fQ (F : aU → Int → Int → Option ((List az) × Int)) : Prop:=∀ {a0 : aU} {a1 : Int} {a2 : Int} {ax : Hd} {g_0 : Nat} {S : Nat → Prop} {w : World} {r : (List az) × Int} (h : F a0 a1 a2 = some r) (aQ : RV w (Old S w) (sv ax) 5 1 (D.int .u8) a0.b) (hO : bG w [.box g_0 74 [(sv ax),iv a0.p]] S) (hlt : ∀ b,S b → b < w.heap.size) , Cl 164 #[pt g_0,iv a1,iv a2] w (Ret S w (fun s : Hd=>(sv s)) (fun s=>[.box g_0 74 [(sv ax),iv r.2],ae (sv s) 160 8 aG r.1]))
theorem si {k : Nat} {bk : aU → Int → Int → Int → Bool → Option ((List az) × Int)} {bB : aU → Int → Int → Bool → Option ((List az) × Int)} {cw : aU → Int → Int → Bool → Option (az × Int)} {bR : aU → Int → Int → Option ((List az) × Int)} (er : d7 bk) (jB : fP bB) (lf : iJ cw) (jC : fQ bR) : d7 (gi k bk bB cw bR):=by
 intro a0 a1 a2 a3 a4 ax g_0 S w r h aQ hO hlt
 unfold gi at h
 refine ay Tryz.func122 z z ?_
 have hS:=Sep.sm hO hlt
 refine .g (.qn z (.g (.c (.lg (L1:=[]) [] aG T.u123 T.t160 (hS.to [0]) z z z (.nil) ?_ z kz))))
 intro v1 W hS
 refine .qn z (.seq (.g (.qn z (.block ?_))))
 have ⟨y1,hy1,h⟩:=bnd h
 refine .via (.iter (fun s1 E' W'=>∃ (v4 : Hd),aK E' [(0,pt g_0),(1,iv a1),(2,iv a2),(3,iv a3),(4,.bool a4),(11,(sv v4)),(12,iv s1.2.1)] ∧ Sep S w W' [.box g_0 74 [(sv ax),iv s1.2.2],ae (sv v4) 160 8 aG s1.1]) (fun y2 x E' W'=>x = .exit 0 ∧ ∃ (v5 : Hd),aK E' [(11,(sv v5))] ∧ Sep S w W' [.box g_0 74 [(sv ax),iv y2.2],ae (sv v5) 160 8 aG y2.1]) hy1 ⟨v1,sb z,hS.to [1,0]⟩ ?_) ?_
 ·intro s1 y3 E W h hI
  obtain ⟨v3,hE,hS⟩:=hI
  refine CW.sub hE ?_
  unfold kD at h
  refine .seq (.g (.q z (.q z (.qn z (.cond z (fun hb=>?_) (fun hb=>?_))))))
  ·have h:=aI hb h
   refine .skip (.seq (.block (.region (.q z (.q z (.q z (.q z (.q z ?_))))))))
   have ⟨y4,hy4,h⟩:=bnd h
   refine .c (.cS (L0:=[.box g_0 74 [(sv ax),iv s1.2.2]]) hS Tryz.func146 (fun S h1 h2 h3=>(jB hy4 (hS.ks aQ h1) h2 (zz h1))) z z ?_)
   rintro v6 W hS
   have ⟨r1,hr1,h⟩:=bnd h
   refine .c (.appv hr1 (hS.to [2,1,0]) T.u123 T.t160 z z z ?_)
   intro v7 W hS
   refine .qn z (.region (.q z (.q z (.q z (.nil ?_)))))
   cases h
   exact ⟨z,v7,sb z,hS.to [1,0]⟩
  have h:=aJ hb h
  refine .exit ?_
  cases h
  exact ⟨by simp,z,v3,sb z,hS.to [0,0]⟩
 intro x E W hJ
 obtain ⟨rfl,v8,hE,hS⟩:=hJ
 refine ⟨_,hE.sub,?_⟩
 cases h
 exact .g (.q z (.qn z (.ret (ab (vs:=[_]) v8 (rt z rn) z (hS.to [0,0])))))
def t8 (w : World) (S : Nat → Prop) (ax : Hd) (g_0 : Nat) (a0 : aU) (a1 : Int) (a2 : Int) (a3 : Bool) (r : (List az) × Int) : Env → World → Prop:=Fin Tryz.prog Tryz.f146 S w (fun s : Hd=>(sv s)) (fun s=>[.box g_0 74 [(sv ax),iv r.2],ae (sv s) 160 8 aG r.1]) .ret
theorem t9 {k : Nat} {bk : aU → Int → Int → Int → Bool → Option ((List az) × Int)} {bB : aU → Int → Int → Bool → Option ((List az) × Int)} {cw : aU → Int → Int → Bool → Option (az × Int)} {bR : aU → Int → Int → Option ((List az) × Int)} (er : d7 bk) (jB : fP bB) (lf : iJ cw) (jC : fQ bR) : fP (gN k bk bB cw bR):=by
 intro a0 a1 a2 a3 ax g_0 S w r h aQ hO hlt
 unfold gN at h
 refine ay Tryz.func146 z z ?_
 have hS:=Sep.sm hO hlt
 refine .g (.q z (.nil ?_))
 have ⟨y1,hy1,h⟩:=bnd h
 refine .seq (CW.via (R':=fun x E' W'=>(match y1 with | .inl o1=>x = .normal ∧ aK E' [(0,pt g_0)] ∧ Sep S w W' [.box g_0 74 [(sv ax),iv o1]] | .inr o2=>x = .ret ∧ t8 w S ax g_0 a0 a1 a2 a3 o2 E' W')) ?_ ?_)
 ·have h:=hy1
  refine .g (.q z ?_)
  have ⟨y2,hy2,h⟩:=bnd h
  refine .c (.cS (L0:=[.box g_0 74 [(sv ax),iv a0.p]]) hS Tryz.func18 (fun S h1 h2 h3=>(ak hy2 (hS.ks aQ h1) h2 (zz h1))) z z ?_)
  rintro ⟨⟩ W hS
  refine .nil (.block ?_)
  have ⟨y3,hy3,h⟩:=bnd h
  refine .seq (CW.via (R':=fun x E' W'=>x = .normal ∧ aK E' [(0,pt g_0),(1,iv a1),(2,iv a2),(3,.bool a3),(10,iv y2.1),(11,.bool y3)] ∧ Sep S w W' [.box g_0 74 [(sv ax),iv y2.2]]) ?_ ?_)
  ·have h:=hy3
   refine .g (.q z (.q z (.nil ?_)))
   refine .cs z h ?_ ?_ <;> intro h
   ·refine .skip ?_
    cases h
    exact ⟨z,sb z,hS.to [0]⟩
   refine .region (.q z (.q z (.nil ?_)))
   cases h
   exact ⟨z,sb z,hS.to [0]⟩
  intro x E W hJ
  obtain ⟨rfl,hE,hS⟩:=hJ
  refine ⟨_,hE.sub,?_⟩
  refine .cond z (fun hb=>?_) (fun hb=>?_)
  ·have h:=aI hb h
   refine .g (.q z ?_)
   have ⟨y4,hy4,h⟩:=bnd h
   refine .c (.cS (L0:=[.box g_0 74 [(sv ax),iv y2.2]]) hS Tryz.func162 (fun S h1 h2 h3=>(oc hy4 (hS.ks aQ h1) h2 (zz h1))) z z ?_)
   rintro ⟨v1,v2,v3⟩ W hS
   refine .c (.lg (L1:=[ae (sv v1) 158 3 bg y4.1.Expr.Args,ae (sv v2) 160 8 aG y4.1.Body,ae (sv v3) 160 8 aG y4.1.Else]) [(az.mk y4.1.Kind y4.1.Var y4.1.Box (Expr.mk y4.1.Expr.Op y4.1.Expr.N y4.1.Expr.Args) y4.1.Body y4.1.Else)] aG T.u123 T.t160 (hS.to [1,1,1,0]) z z z (.aggE (gG _) (.flat (c1:=[iv y4.1.Kind]) z (.flat (c1:=[iv y4.1.Var]) z (.flat (c1:=[iv y4.1.Box]) z (.aggE (eP _) (.flat (c1:=[iv y4.1.Expr.Op]) z (.flat (c1:=[iv y4.1.Expr.N]) z (.row (.row (.row .nil)))))))))) ?_ z kz)
   intro v4 W hS
   refine .qn z (.ret ?_)
   cases h
   exact ⟨z,ab (vs:=[_]) v4 (rt z rn) z (hS.to [1,0])⟩
  have h:=aJ hb h
  refine .g (.q z (.q z (.nil ?_)))
  refine .cs z h ?_ ?_ <;> intro h
  ·refine .g (.q z (.qn z (.cond z (fun hb=>?_) (fun hb=>?_))))
   ·have h:=aI hb h
    refine .g (.q z (.q z (.q z (.q z ?_))))
    have ⟨y5,hy5,h⟩:=bnd h
    refine .c (.cS (L0:=[.box g_0 74 [(sv ax),iv y2.2]]) hS Tryz.func163 (fun S h1 h2 h3=>(lf hy5 (hS.ks aQ h1) h2 (zz h1))) z z ?_)
    rintro ⟨v5,v6,v7⟩ W hS
    refine .c (.lg (L1:=[ae (sv v5) 158 3 bg y5.1.Expr.Args,ae (sv v6) 160 8 aG y5.1.Body,ae (sv v7) 160 8 aG y5.1.Else]) [(az.mk y5.1.Kind y5.1.Var y5.1.Box (Expr.mk y5.1.Expr.Op y5.1.Expr.N y5.1.Expr.Args) y5.1.Body y5.1.Else)] aG T.u123 T.t160 (hS.to [1,1,1,0]) z z z (.aggE (gG _) (.flat (c1:=[iv y5.1.Kind]) z (.flat (c1:=[iv y5.1.Var]) z (.flat (c1:=[iv y5.1.Box]) z (.aggE (eP _) (.flat (c1:=[iv y5.1.Expr.Op]) z (.flat (c1:=[iv y5.1.Expr.N]) z (.row (.row (.row .nil)))))))))) ?_ z kz)
    intro v8 W hS
    refine .qn z (.ret ?_)
    cases h
    exact ⟨z,ab (vs:=[_]) v8 (rt z rn) z (hS.to [1,0])⟩
   have h:=aJ hb h
   refine .skip ?_
   cases h
   exact ⟨z,sb z,hS.to [0]⟩
  refine .g (.q z (.q z (.nil ?_)))
  refine .cs z h ?_ ?_ <;> intro h
  ·refine .g (.q z (.q z (.q z (.cu 2 33 ((decide (a2 > 0)) && a3) hS ?_ ?_))))
   ·refine .both (decide (a2 > 0)) (fun hb=>?_) (fun hb=>?_)
    ·have hg1:=hb
     exact .g hg1 (.q z (.s (pkt hg1 z z z) z (.nil (ck 2 hS z (bH hg1)))))
    exact .xx hb z (.s (pkf hb z z z) z (.nil (ck 2 hS z (bI hb))))
   intro W hS
   refine .nil (.cond z (fun hb=>?_) (fun hb=>?_))
   ·have h:=aI hb h
    refine .g (.q z (.q z (.q z ?_)))
    have ⟨y6,hy6,h⟩:=bnd h
    refine .c (.cS (L0:=[.box g_0 74 [(sv ax),iv y2.2]]) hS Tryz.func164 (fun S h1 h2 h3=>(jC hy6 (hS.ks aQ h1) h2 (zz h1))) z z ?_)
    rintro v9 W hS
    refine .qn z (.ret ?_)
    cases h
    exact ⟨z,ab (vs:=[_]) v9 (rt z rn) z (hS.to [0,0])⟩
   have h:=aJ hb h
   refine .skip ?_
   cases h
   exact ⟨z,sb z,hS.to [0]⟩
  have ⟨y7,hy7,h⟩:=bnd h
  refine .seq (CW.via (R':=fun x E' W'=>x = .normal ∧ aK E' [(0,pt g_0),(1,iv a1),(10,iv y2.1),(38,.bool y7)] ∧ Sep S w W' [.box g_0 74 [(sv ax),iv y2.2]]) ?_ ?_)
  ·have h:=hy7
   refine .g (.q z (.q z (.nil ?_)))
   refine .cs z h ?_ ?_ <;> intro h
   ·refine .skip ?_
    cases h
    exact ⟨z,sb z,hS.to [0]⟩
   refine .g (.q z (.q z (.nil ?_)))
   refine .cs z h ?_ ?_ <;> intro h
   ·refine .skip ?_
    cases h
    exact ⟨z,sb z,hS.to [0]⟩
   refine .region (.q z (.q z (.nil ?_)))
   cases h
   exact ⟨z,sb z,hS.to [0]⟩
  intro x E W hJ
  obtain ⟨rfl,hE,hS⟩:=hJ
  refine ⟨_,hE.sub,?_⟩
  refine .cond z (fun hb=>?_) (fun hb=>?_)
  ·have h:=aI hb h
   refine .g (.q z (.q z ?_))
   have ⟨y8,hy8,h⟩:=bnd h
   refine .c (.cS (L0:=[.box g_0 74 [(sv ax),iv y2.2]]) hS Tryz.func165 (fun S h1 h2 h3=>(sh hy8 (hS.ks aQ h1) h2 (zz h1))) z z ?_)
   rintro ⟨v10,v11,v12⟩ W hS
   refine .c (.lg (L1:=[ae (sv v10) 158 3 bg y8.1.Expr.Args,ae (sv v11) 160 8 aG y8.1.Body,ae (sv v12) 160 8 aG y8.1.Else]) [(az.mk y8.1.Kind y8.1.Var y8.1.Box (Expr.mk y8.1.Expr.Op y8.1.Expr.N y8.1.Expr.Args) y8.1.Body y8.1.Else)] aG T.u123 T.t160 (hS.to [1,1,1,0]) z z z (.aggE (gG _) (.flat (c1:=[iv y8.1.Kind]) z (.flat (c1:=[iv y8.1.Var]) z (.flat (c1:=[iv y8.1.Box]) z (.aggE (eP _) (.flat (c1:=[iv y8.1.Expr.Op]) z (.flat (c1:=[iv y8.1.Expr.N]) z (.row (.row (.row .nil)))))))))) ?_ z kz)
   intro v13 W hS
   refine .qn z (.ret ?_)
   cases h
   exact ⟨z,ab (vs:=[_]) v13 (rt z rn) z (hS.to [1,0])⟩
  have h:=aJ hb h
  refine .g (.q z (.q z (.nil ?_)))
  refine .cs z h ?_ ?_ <;> intro h
  ·refine .g (.s (bs T.s160 z z) z ?_)
   have hS:=hS.nilv 158 3 bg
   have hS:=hS.nilv 160 8 aG
   have hS:=hS.nilv 160 8 aG
   refine .c (.lg (L1:=[ae (sv aP) 158 3 bg [],ae (sv aP) 160 8 aG [],ae (sv aP) 160 8 aG []]) [(az.mk 6 0 0 (Expr.mk 0 0 []) [] [])] aG T.u123 T.t160 (hS.to [2,1,0,0]) z z z (.aggE (gG _) (.flat (c1:=[iv 6]) z (.flat (c1:=[iv 0]) z (.flat (c1:=[iv 0]) z (.aggE (eP _) (.flat (c1:=[iv 0]) z (.flat (c1:=[iv 0]) z (.row (.row (.row .nil)))))))))) ?_ z kz)
   intro v14 W hS
   refine .qn z (.ret ?_)
   cases h
   exact ⟨z,ab (vs:=[_]) v14 (rt z rn) z (hS.to [1,0])⟩
  refine .skip ?_
  cases h
  exact ⟨z,sb z,hS.to [0]⟩
 intro x E W hJ
 rcases y1 with o3 | o4
 ·obtain ⟨rfl,hE,hS⟩:=hJ
  refine ⟨_,hE.sub,?_⟩
  refine .g (.q z (.q z ?_))
  have ⟨y9,hy9,h⟩:=bnd h
  refine .c (.cS (L0:=[.box g_0 74 [(sv ax),iv o3]]) hS Tryz.func18 (fun S h1 h2 h3=>(ak hy9 (hS.ks aQ h1) h2 (zz h1))) z z ?_)
  rintro ⟨⟩ W hS
  refine .q z ?_
  have ⟨y10,hy10,h⟩:=bnd h
  refine .c (.cS (L0:=[.box g_0 74 [(sv ax),iv y9.2]]) hS Tryz.func166 (fun S h1 h2 h3=>(jA hy10 (hS.ks aQ h1) h2 (zz h1))) z z ?_)
  rintro v15 W hS
  refine .s (bs T.s160 z z) z ?_
  have hS:=hS.nilv 160 8 aG
  have hS:=hS.nilv 160 8 aG
  refine .c (.lg (L1:=[ae (sv v15) 158 3 bg y10.1.Args,ae (sv aP) 160 8 aG [],ae (sv aP) 160 8 aG []]) [(az.mk 7 0 0 (Expr.mk y10.1.Op y10.1.N y10.1.Args) [] [])] aG T.u123 T.t160 (hS.to [3,1,0,0]) z z z (.aggE (gG _) (.flat (c1:=[iv 7]) z (.flat (c1:=[iv 0]) z (.flat (c1:=[iv 0]) z (.aggE (eP _) (.flat (c1:=[iv y10.1.Op]) z (.flat (c1:=[iv y10.1.N]) z (.row (.row (.row .nil)))))))))) ?_ z kz)
  intro v16 W hS
  cases h
  exact .qn z (.ret (ab (vs:=[_]) v16 (rt z rn) z (hS.to [1,0])))
 obtain ⟨rfl,hF⟩:=hJ
 refine ⟨_,fun _ _ h=>h,?_⟩
 cases h
 exact hF
theorem vu {k : Nat} {bk : aU → Int → Int → Int → Bool → Option ((List az) × Int)} {bB : aU → Int → Int → Bool → Option ((List az) × Int)} {cw : aU → Int → Int → Bool → Option (az × Int)} {bR : aU → Int → Int → Option ((List az) × Int)} (er : d7 bk) (jB : fP bB) (lf : iJ cw) (jC : fQ bR) : iJ (jT k bk bB cw bR):=by
 intro a0 a1 a2 a3 ax g_0 S w r h aQ hO hlt
 unfold jT at h
 refine ay Tryz.func163 z z ?_
 have hS:=Sep.sm hO hlt
 refine .g (.c (.alloc T.t160 hS ?_))
 intro g1 W hS
 refine .nil (.g (.q z (.q z ?_)))
 have ⟨y1,hy1,h⟩:=bnd h
 have hS:=hS.p1
 refine .c (.cS (L0:=[.box g_0 74 [(sv ax),iv a0.p]]) hS Tryz.func18 (fun S h1 h2 h3=>(ak hy1 (hS.ks aQ h1) h2 (zz h1))) z z ?_)
 rintro ⟨⟩ W hS
 refine .q z ?_
 have ⟨y2,hy2,h⟩:=bnd h
 refine .c (.cS (L0:=[.box g_0 74 [(sv ax),iv y1.2]]) hS Tryz.func166 (fun S h1 h2 h3=>(jA hy2 (hS.ks aQ h1) h2 (zz h1))) z z ?_)
 rintro v1 W hS
 refine .c (.alloc T.t158 hS ?_)
 intro g2 W hS
 refine .c (.st T.t158 hS z z z ?_)
 intro W hS
 refine .nil (.g (.q z (.q z (.q z (.q z (.q z ?_))))))
 have ⟨y3,hy3,h⟩:=bnd h
 have hS:=hS.p1
 refine .c (.cS (L0:=[.box g_0 74 [(sv ax),iv y2.2]]) hS Tryz.func18 (fun S h1 h2 h3=>(ak hy3 (hS.ks aQ h1) h2 (zz h1))) z z ?_)
 rintro ⟨⟩ W hS
 refine .q z ?_
 have ⟨y4,hy4,h⟩:=bnd h
 refine .c (.cS (L0:=[.box g_0 74 [(sv ax),iv y3.2]]) hS Tryz.func122 (fun S h1 h2 h3=>(er hy4 (hS.ks aQ h1) h2 (zz h1))) z z ?_)
 rintro v2 W hS
 refine .qn z (.seq (.rk 11 hS [1,1,1,1] T.mix ?_))
 intro W hS
 have hT:=hS.to [1,1,1,1]
 refine .ts' 0 z (fun W hT=>ld T.t158 hT.p1 z z z z z) hT z (.tp' 1 z z hT (.tp' 2 z z hT (.tp' 3 z z hT (.tp' 4 z z hT (.tp' 5 z z hT (.tp' 6 z z hT (.tp' 8 z z hT ?_)))))))
 have ⟨y5,hy5,h⟩:=bnd h
 refine .by1 7 z (.cS (L0:=[.box g_0 74 [(sv ax),iv y4.2]]) hS Tryz.func18 (fun S h1 h2 h3=>(ak hy5 (hS.ks aQ h1) h2 (zz h1))) z z ?_)
 rintro ⟨⟩ W hS
 have hT:=hS.to [1,1,1,1]
 refine ⟨fun _=>hT,?_⟩
 have ⟨y6,hy6,h⟩:=bnd h
 refine .by1 9 z (.cS (L0:=[.box g_0 74 [(sv ax),iv y5.2]]) hS Tryz.func122 (fun S h1 h2 h3=>(er hy6 (hS.ks aQ h1) h2 (zz h1))) z z ?_)
 rintro v3 W hS
 have hT:=hS.to [2,2,2,2]
 refine ⟨fun _=>hT,.ts' 10 z (fun W hT=>bs T.s160 z z) hT z (.by1 11 z (.st T.t160 hS.p5 z z z ?_))⟩
 intro W hS
 refine ⟨fun h=>absurd z h,?_⟩
 cases h
 exact .done (.ret (ab (vs:=[_]) (v1,v2,v3) (rc hS T.t160 z rn z z) z (hS.to [1,4,2,1])))
theorem ua {k : Nat} {bk : aU → Int → Int → Int → Bool → Option ((List az) × Int)} {bB : aU → Int → Int → Bool → Option ((List az) × Int)} {cw : aU → Int → Int → Bool → Option (az × Int)} {bR : aU → Int → Int → Option ((List az) × Int)} (er : d7 bk) (jB : fP bB) (lf : iJ cw) (jC : fQ bR) : fQ (gO k bk bB cw bR):=by
 intro a0 a1 a2 ax g_0 S w r h aQ hO hlt
 unfold gO at h
 refine ay Tryz.func164 z z ?_
 have hS:=Sep.sm hO hlt
 refine .g (.qn z (.g (.qn z (.g (.q z (.q z (.q z (.q z (.q z ?_)))))))))
 have ⟨y1,hy1,h⟩:=bnd h
 refine .c (.cS (L0:=[.box g_0 74 [(sv ax),iv a0.p]]) hS Tryz.func18 (fun S h1 h2 h3=>(ak hy1 (hS.ks aQ h1) h2 (zz h1))) z z ?_)
 rintro ⟨⟩ W hS
 have ⟨y2,hy2,h⟩:=bnd h
 refine .c (.cS (L0:=[.box g_0 74 [(sv ax),iv y1.2]]) hS Tryz.func122 (fun S h1 h2 h3=>(er hy2 (hS.ks aQ h1) h2 (zz h1))) z z ?_)
 rintro v1 W hS
 refine .qn z (.g (.q z (.q z ?_)))
 have ⟨y3,hy3,h⟩:=bnd h
 refine .c (.cV hS Tryz.func184 (bj hy3) z z ?_)
 intro v2 W hS
 have ⟨y4,hy4,h⟩:=bnd h
 refine .c (.cV hS Tryz.func184 (bj hy4) z z ?_)
 intro v3 W hS
 have ⟨y5,hy5,h⟩:=bnd h
 have hS:=hS.p1
 refine .c (.cS (L0:=[ae (sv v2) 158 3 bg y3.Args,ae (sv v3) 158 3 bg y4.Args]) hS Tryz.func183 (fun S h1 h2 h3=>(di hy5 h2 (zz h1))) z z ?_)
 rintro v4 W hS
 refine .s (bs T.s160 z z) z (.c (.alloc T.t160 hS ?_))
 intro g1 W hS
 refine .c (.st T.t160 hS z z z ?_)
 intro W hS
 refine .nil (.seq ?_)
 have ⟨y6,hy6,h⟩:=bnd h
 have ⟨y7,hy7,h⟩:=bnd h
 have ⟨y8,hy8,h⟩:=bnd h
 have ⟨y9,hy9,h⟩:=bnd h
 have ⟨r1,hr1,h⟩:=bnd h
 refine .via (R':=fun x E' W'=>x = .normal ∧ ∃ (g2 : Nat) (v5 : Hd) (v6 : Hd) (v7 : Hd),aK E' [(7,iv 3),(10,pt g2)] ∧ Sep S w W' [.box g_0 74 [(sv ax),iv y7.2],.box g2 160 [iv 3,iv 0,iv 0,iv y9.Op,iv y9.N,(sv v5),(sv v6),(sv v7)],ae (sv v5) 158 3 bg y9.Args,ae (sv v6) 160 8 aG r1,ae (sv v7) 160 8 aG []]) ?_ ?_
 ·refine .rk 13 hS [0] T.mix ?_
  intro W hS
  have hT:=hS.to [0]
  refine .memo (fun E' W'=>∃ (v10 : Hd) (v11 : Hd),aK E' [(7,iv 3),(30,.agg #[iv y9.Op,iv y9.N,(sv v10)]),(31,(sv v1)),(33,(sv v11))] ∧ Sep S w W' [.box g1 160 [iv 1,iv 3,iv 0,iv y5.Op,iv y5.N,(sv v4),(sv aP),(sv aP)],.box g_0 74 [(sv ax),iv y7.2],ae (sv v1) 160 8 aG y2.1,ae (sv v10) 158 3 bg y9.Args,ae (sv v11) 160 8 aG [(az.mk 1 3 0 (Expr.mk y5.Op y5.N y5.Args) [] [])]]) 4 (ky 14 [0,1,2,3,4,5,6,7,8,9]) ?_ ?_
  ·intro E W hJ
   obtain ⟨v12,v13,hE,hS⟩:=hJ
   refine .sub hE ?_
   have hT:=hS.to [0]
   refine .by [10,12] ⟨⟨_,z,?_⟩,⟨_,z,?_⟩,trivial⟩
   ·refine (.appv hr1 (hS.to [2,3,0,0,0]) T.u123 T.t160 z z z ?_)
    intro v14 W hS
    have hT:=hS.to [1]
    refine ⟨fun _=>hT,.ts' 11 z (fun W hT=>bs T.s160 z z) hT z (.by1 12 z (.alloc T.t160 hS ?_))⟩
    intro g3 W hS
    have hT:=hS.to [2]
    refine ⟨fun _=>hT,.by1 13 z (.st T.t160 hS z z z ?_)⟩
    intro W hS
    refine ⟨fun h=>absurd z h,?_⟩
    refine .done ?_
    have hS:=hS.nilv 160 8 aG
    exact ⟨z,g3,v12,v14,aP,sb z,hS.to [4,1,3,1,0]⟩
   refine (.alloc T.t160 hS ?_)
   intro g4 W hS
   have hT:=hS.to [1]
   refine ⟨fun _=>hT,.by1 10 z (.appv hr1 (hS.to [3,4,0,0,0,0]) T.u123 T.t160 z z z ?_)⟩
   intro v15 W hS
   have hT:=hS.to [2]
   refine ⟨fun _=>hT,.ts' 11 z (fun W hT=>bs T.s160 z z) hT z (.by1 13 z (.st T.t160 hS.p1 z z z ?_))⟩
   intro W hS
   refine ⟨fun h=>absurd z h,?_⟩
   refine .done ?_
   have hS:=hS.nilv 160 8 aG
   exact ⟨z,g4,v12,v15,aP,sb z,hS.to [4,1,3,1,0]⟩
  intro J1
  refine .memo (fun E' W'=>∃ (g6 : Nat) (v17 : Hd),aK E' [(7,iv 3),(10,pt g6),(30,.agg #[iv y9.Op,iv y9.N,(sv v17)]),(31,(sv v1)),(32,.agg #[iv 1,iv 3,iv 0,iv y5.Op,iv y5.N,(sv v4),(sv aP),(sv aP)])] ∧ Sep S w W' [.box g1 160 [iv 1,iv 3,iv 0,iv y5.Op,iv y5.N,(sv v4),(sv aP),(sv aP)],ae (sv v4) 158 3 bg y5.Args,.box g_0 74 [(sv ax),iv y7.2],ae (sv v1) 160 8 aG y2.1,.box g6 160 [iv 0,iv 0,iv 0,iv 0,iv 0,(sv aP),(sv aP),(sv aP)],ae (sv v17) 158 3 bg y9.Args]) 4 (ky 14 [0,1,2,3,4,5,6,7,8,12]) ?_ ?_
  ·intro E W hJ
   obtain ⟨g7,v18,hE,hS⟩:=hJ
   refine .sub hE ?_
   have hT:=hS.to [0]
   have hS:=hS.nilv 160 8 aG
   have hS:=hS.nilv 160 8 aG
   refine .by1 9 z (.lg (L1:=[ae (sv v4) 158 3 bg y5.Args,ae (sv aP) 160 8 aG [],ae (sv aP) 160 8 aG []]) [(az.mk 1 3 0 (Expr.mk y5.Op y5.N y5.Args) [] [])] aG T.u123 T.t160 (hS.to [3,1,0,0,0,0,0,0]) z z z (.aggE (gG _) (.flat (c1:=[iv 1]) z (.flat (c1:=[iv 3]) z (.flat (c1:=[iv 0]) z (.aggE (eP _) (.flat (c1:=[iv y5.Op]) z (.flat (c1:=[iv y5.N]) z (.row (.row (.row .nil)))))))))) ?_ z kz)
   intro v19 W hS
   have hT:=hS.to [1]
   refine ⟨fun _=>hT,.by1 10 z (.appv hr1 (hS.to [3,0,0,0,0,0]) T.u123 T.t160 z z z ?_)⟩
   intro v20 W hS
   have hT:=hS.to [1]
   refine ⟨fun _=>hT,.ts' 11 z (fun W hT=>bs T.s160 z z) hT z (.by1 13 z (.st T.t160 hS.p3 z z z ?_))⟩
   intro W hS
   refine ⟨fun h=>absurd z h,?_⟩
   refine .done ?_
   have hS:=hS.nilv 160 8 aG
   exact ⟨z,g7,v18,v20,aP,sb z,hS.to [4,1,3,1,0]⟩
  intro J2
  refine .memo (fun E' W'=>∃ (g9 : Nat) (v24 : Hd) (v25 : Hd) (v26 : Hd),aK E' [(7,iv 3),(10,pt g9),(25,.agg #[iv y6.Op,iv y6.N,(sv v24)]),(29,.agg #[iv y8.Op,iv y8.N,(sv v25)]),(31,(sv v1)),(33,(sv v26))] ∧ Sep S w W' [.box g1 160 [iv 1,iv 3,iv 0,iv y5.Op,iv y5.N,(sv v4),(sv aP),(sv aP)],.box g_0 74 [(sv ax),iv y7.2],ae (sv v1) 160 8 aG y2.1,.box g9 160 [iv 0,iv 0,iv 0,iv 0,iv 0,(sv aP),(sv aP),(sv aP)],ae (sv v24) 158 3 bg y6.Args,ae (sv v25) 158 3 bg y8.Args,ae (sv v26) 160 8 aG [(az.mk 1 3 0 (Expr.mk y5.Op y5.N y5.Args) [] [])]]) 4 (ky 14 [0,1,2,3,4,5,7,8,9,12]) ?_ ?_
  ·intro E W hJ
   obtain ⟨g10,v27,v28,v29,hE,hS⟩:=hJ
   refine .sub hE ?_
   have hT:=hS.to [0]
   have hS:=hS.p5
   have hS:=hS.p5
   refine .by1 6 z (.cS (L0:=[ae (sv v27) 158 3 bg y6.Args,ae (sv v28) 158 3 bg y8.Args]) hS Tryz.func183 (fun S h1 h2 h3=>(di hy9 h2 (zz h1))) z z ?_)
   rintro v30 W hS
   have hT:=hS.to [1]
   refine ⟨fun _=>hT,.by1 10 z (.appv hr1 (hS.to [3,4,0,0,0,0]) T.u123 T.t160 z z z ?_)⟩
   intro v31 W hS
   have hT:=hS.to [2]
   refine ⟨fun _=>hT,.ts' 11 z (fun W hT=>bs T.s160 z z) hT z (.by1 13 z (.st T.t160 hS.p4 z z z ?_))⟩
   intro W hS
   refine ⟨fun h=>absurd z h,?_⟩
   refine .done ?_
   have hS:=hS.nilv 160 8 aG
   exact ⟨z,g10,v30,v31,aP,sb z,hS.to [5,1,2,1,0]⟩
  intro J3
  refine .memo (fun E' W'=>∃ (v35 : Hd) (v36 : Hd) (v37 : Hd),aK E' [(7,iv 3),(25,.agg #[iv y6.Op,iv y6.N,(sv v35)]),(29,.agg #[iv y8.Op,iv y8.N,(sv v36)]),(31,(sv v1)),(33,(sv v37))] ∧ Sep S w W' [.box g1 160 [iv 1,iv 3,iv 0,iv y5.Op,iv y5.N,(sv v4),(sv aP),(sv aP)],.box g_0 74 [(sv ax),iv y7.2],ae (sv v1) 160 8 aG y2.1,ae (sv v35) 158 3 bg y6.Args,ae (sv v36) 158 3 bg y8.Args,ae (sv v37) 160 8 aG [(az.mk 1 3 0 (Expr.mk y5.Op y5.N y5.Args) [] [])]]) 5 (ky 14 [0,1,2,3,4,5,7,8,9]) ?_ ?_
  ·intro E W hJ
   obtain ⟨v38,v39,v40,hE,hS⟩:=hJ
   refine .sub hE ?_
   have hT:=hS.to [0]
   refine .by [6,12] ⟨⟨_,z,?_⟩,⟨_,z,?_⟩,trivial⟩
   ·have hS:=hS.p4
    have hS:=hS.p4
    refine (.cS (L0:=[ae (sv v38) 158 3 bg y6.Args,ae (sv v39) 158 3 bg y8.Args]) hS Tryz.func183 (fun S h1 h2 h3=>(di hy9 h2 (zz h1))) z z ?_)
    rintro v41 W hS
    have hT:=hS.to [1]
    refine ⟨fun _=>hT,?_⟩
    exact .atl (J1 _ _ ⟨v41,v40,sb z,hS.to [1,1,1,0,0]⟩) (by kernel_rfl)
   refine (.alloc T.t160 hS ?_)
   intro g11 W hS
   have hT:=hS.to [1]
   refine ⟨fun _=>hT,?_⟩
   exact .atl (J3 _ _ ⟨g11,v38,v39,v40,sb z,hS.to [1,1,1,0,0,0,0]⟩) (by kernel_rfl)
  intro J4
  refine .memo (fun E' W'=>∃ (g13 : Nat) (v44 : Hd) (v45 : Hd),aK E' [(7,iv 3),(10,pt g13),(25,.agg #[iv y6.Op,iv y6.N,(sv v44)]),(29,.agg #[iv y8.Op,iv y8.N,(sv v45)]),(31,(sv v1)),(32,.agg #[iv 1,iv 3,iv 0,iv y5.Op,iv y5.N,(sv v4),(sv aP),(sv aP)])] ∧ Sep S w W' [.box g1 160 [iv 1,iv 3,iv 0,iv y5.Op,iv y5.N,(sv v4),(sv aP),(sv aP)],ae (sv v4) 158 3 bg y5.Args,.box g_0 74 [(sv ax),iv y7.2],ae (sv v1) 160 8 aG y2.1,.box g13 160 [iv 0,iv 0,iv 0,iv 0,iv 0,(sv aP),(sv aP),(sv aP)],ae (sv v44) 158 3 bg y6.Args,ae (sv v45) 158 3 bg y8.Args]) 5 (ky 14 [0,1,2,3,4,5,7,8,12]) ?_ ?_
  ·intro E W hJ
   obtain ⟨g14,v46,v47,hE,hS⟩:=hJ
   refine .sub hE ?_
   have hT:=hS.to [0]
   refine .by [6,9] ⟨⟨_,z,?_⟩,⟨_,z,?_⟩,trivial⟩
   ·have hS:=hS.p6
    have hS:=hS.p6
    refine (.cS (L0:=[ae (sv v46) 158 3 bg y6.Args,ae (sv v47) 158 3 bg y8.Args]) hS Tryz.func183 (fun S h1 h2 h3=>(di hy9 h2 (zz h1))) z z ?_)
    rintro v48 W hS
    have hT:=hS.to [1]
    refine ⟨fun _=>hT,?_⟩
    exact .atl (J2 _ _ ⟨g14,v48,sb z,hS.to [1,1,1,1,1,0]⟩) (by kernel_rfl)
   have hS:=hS.nilv 160 8 aG
   have hS:=hS.nilv 160 8 aG
   refine (.lg (L1:=[ae (sv v4) 158 3 bg y5.Args,ae (sv aP) 160 8 aG [],ae (sv aP) 160 8 aG []]) [(az.mk 1 3 0 (Expr.mk y5.Op y5.N y5.Args) [] [])] aG T.u123 T.t160 (hS.to [3,1,0,0,0,0,0,0,0]) z z z (.aggE (gG _) (.flat (c1:=[iv 1]) z (.flat (c1:=[iv 3]) z (.flat (c1:=[iv 0]) z (.aggE (eP _) (.flat (c1:=[iv y5.Op]) z (.flat (c1:=[iv y5.N]) z (.row (.row (.row .nil)))))))))) ?_ z kz)
   intro v49 W hS
   have hT:=hS.to [1]
   refine ⟨fun _=>hT,?_⟩
   exact .atl (J3 _ _ ⟨g14,v46,v47,v49,sb z,hS.to [1,1,1,1,1,1,0]⟩) (by kernel_rfl)
  intro J5
  refine .memo (fun E' W'=>∃ (g16 : Nat) (v52 : Hd) (v53 : Hd),aK E' [(7,iv 3),(10,pt g16),(25,.agg #[iv y6.Op,iv y6.N,(sv v52)]),(28,iv (w64 (1 + y7.1))),(31,(sv v1)),(33,(sv v53))] ∧ Sep S w W' [.box g1 160 [iv 1,iv 3,iv 0,iv y5.Op,iv y5.N,(sv v4),(sv aP),(sv aP)],.box g_0 74 [(sv ax),iv y7.2],ae (sv v1) 160 8 aG y2.1,.box g16 160 [iv 0,iv 0,iv 0,iv 0,iv 0,(sv aP),(sv aP),(sv aP)],ae (sv v52) 158 3 bg y6.Args,ae (sv v53) 160 8 aG [(az.mk 1 3 0 (Expr.mk y5.Op y5.N y5.Args) [] [])]]) 5 (ky 14 [0,1,2,3,4,7,8,9,12]) ?_ ?_
  ·intro E W hJ
   obtain ⟨g17,v54,v55,hE,hS⟩:=hJ
   refine .sub hE ?_
   have hT:=hS.to [0]
   refine .by1 5 z (.cV hS Tryz.func184 (bj hy8) z z ?_)
   intro v56 W hS
   have hT:=hS.to [1]
   refine ⟨fun _=>hT,?_⟩
   have hS:=hS.p5
   refine .by1 6 z (.cS (L0:=[ae (sv v54) 158 3 bg y6.Args,ae (sv v56) 158 3 bg y8.Args]) hS Tryz.func183 (fun S h1 h2 h3=>(di hy9 h2 (zz h1))) z z ?_)
   rintro v57 W hS
   have hT:=hS.to [1]
   refine ⟨fun _=>hT,.by1 10 z (.appv hr1 (hS.to [3,4,0,0,0,0]) T.u123 T.t160 z z z ?_)⟩
   intro v58 W hS
   have hT:=hS.to [2]
   refine ⟨fun _=>hT,.ts' 11 z (fun W hT=>bs T.s160 z z) hT z (.by1 13 z (.st T.t160 hS.p4 z z z ?_))⟩
   intro W hS
   refine ⟨fun h=>absurd z h,?_⟩
   refine .done ?_
   have hS:=hS.nilv 160 8 aG
   exact ⟨z,g17,v57,v58,aP,sb z,hS.to [5,1,2,1,0]⟩
  intro J6
  refine .memo (fun E' W'=>∃ (g19 : Nat) (v61 : Hd) (v62 : Hd),aK E' [(7,iv 3),(10,pt g19),(25,.agg #[iv y6.Op,iv y6.N,(sv v61)]),(26,pt g_0),(31,(sv v1)),(33,(sv v62))] ∧ Sep S w W' [.box g1 160 [iv 1,iv 3,iv 0,iv y5.Op,iv y5.N,(sv v4),(sv aP),(sv aP)],.box g_0 74 [(sv ax),iv y2.2],ae (sv v1) 160 8 aG y2.1,.box g19 160 [iv 0,iv 0,iv 0,iv 0,iv 0,(sv aP),(sv aP),(sv aP)],ae (sv v61) 158 3 bg y6.Args,ae (sv v62) 160 8 aG [(az.mk 1 3 0 (Expr.mk y5.Op y5.N y5.Args) [] [])]]) 7 (ky 14 [0,1,2,7,8,9,12]) ?_ ?_
  ·intro E W hJ
   obtain ⟨g20,v63,v64,hE,hS⟩:=hJ
   refine .sub hE ?_
   have hT:=hS.to [0]
   have hS:=hS.p1
   refine .by1 3 z (.cS (L0:=[.box g_0 74 [(sv ax),iv y2.2]]) hS Tryz.func18 (fun S h1 h2 h3=>(ak hy7 (hS.ks aQ h1) h2 (zz h1))) z z ?_)
   rintro ⟨⟩ W hS
   have hT:=hS.to [1]
   refine ⟨fun _=>hT,.tp' 4 z z hT (.by1 5 z (.cV hS Tryz.func184 (bj hy8) z z ?_))⟩
   intro v65 W hS
   have hT:=hS.to [2]
   refine ⟨fun _=>hT,?_⟩
   have hS:=hS.p5
   refine .by1 6 z (.cS (L0:=[ae (sv v63) 158 3 bg y6.Args,ae (sv v65) 158 3 bg y8.Args]) hS Tryz.func183 (fun S h1 h2 h3=>(di hy9 h2 (zz h1))) z z ?_)
   rintro v66 W hS
   have hT:=hS.to [2]
   refine ⟨fun _=>hT,.by1 10 z (.appv hr1 (hS.to [3,4,0,0,0,0]) T.u123 T.t160 z z z ?_)⟩
   intro v67 W hS
   have hT:=hS.to [3]
   refine ⟨fun _=>hT,.ts' 11 z (fun W hT=>bs T.s160 z z) hT z (.by1 13 z (.st T.t160 hS.p4 z z z ?_))⟩
   intro W hS
   refine ⟨fun h=>absurd z h,?_⟩
   refine .done ?_
   have hS:=hS.nilv 160 8 aG
   exact ⟨z,g20,v66,v67,aP,sb z,hS.to [4,1,2,1,0]⟩
  intro J7
  refine .memo (fun E' W'=>∃ (v70 : Hd) (v71 : Hd),aK E' [(7,iv 3),(25,.agg #[iv y6.Op,iv y6.N,(sv v70)]),(26,pt g_0),(31,(sv v1)),(33,(sv v71))] ∧ Sep S w W' [.box g1 160 [iv 1,iv 3,iv 0,iv y5.Op,iv y5.N,(sv v4),(sv aP),(sv aP)],.box g_0 74 [(sv ax),iv y2.2],ae (sv v1) 160 8 aG y2.1,ae (sv v70) 158 3 bg y6.Args,ae (sv v71) 160 8 aG [(az.mk 1 3 0 (Expr.mk y5.Op y5.N y5.Args) [] [])]]) 8 (ky 14 [0,1,2,7,8,9]) ?_ ?_
  ·intro E W hJ
   obtain ⟨v72,v73,hE,hS⟩:=hJ
   refine .sub hE ?_
   have hT:=hS.to [0]
   refine .by [3,12] ⟨⟨_,z,?_⟩,⟨_,z,?_⟩,trivial⟩
   ·have hS:=hS.p1
    refine (.cS (L0:=[.box g_0 74 [(sv ax),iv y2.2]]) hS Tryz.func18 (fun S h1 h2 h3=>(ak hy7 (hS.ks aQ h1) h2 (zz h1))) z z ?_)
    rintro ⟨⟩ W hS
    have hT:=hS.to [1]
    refine ⟨fun _=>hT,.tp' 4 z z hT (.by [5,12] ⟨⟨_,z,?_⟩,⟨_,z,?_⟩,trivial⟩)⟩
    ·refine (.cV hS Tryz.func184 (bj hy8) z z ?_)
     intro v74 W hS
     have hT:=hS.to [2]
     refine ⟨fun _=>hT,?_⟩
     exact .atl (J4 _ _ ⟨v72,v74,v73,sb z,hS.to [2,1,1,1,0,0]⟩) (by kernel_rfl)
    refine (.alloc T.t160 hS ?_)
    intro g21 W hS
    have hT:=hS.to [2]
    refine ⟨fun _=>hT,?_⟩
    exact .atl (J6 _ _ ⟨g21,v72,v73,sb z,hS.to [2,1,1,0,0,0]⟩) (by kernel_rfl)
   refine (.alloc T.t160 hS ?_)
   intro g22 W hS
   have hT:=hS.to [1]
   refine ⟨fun _=>hT,?_⟩
   exact .atl (J7 _ _ ⟨g22,v72,v73,sb z,hS.to [1,1,1,0,0,0]⟩) (by kernel_rfl)
  intro J8
  refine .memo (fun E' W'=>∃ (g24 : Nat) (v76 : Hd),aK E' [(7,iv 3),(10,pt g24),(25,.agg #[iv y6.Op,iv y6.N,(sv v76)]),(26,pt g_0),(31,(sv v1)),(32,.agg #[iv 1,iv 3,iv 0,iv y5.Op,iv y5.N,(sv v4),(sv aP),(sv aP)])] ∧ Sep S w W' [.box g1 160 [iv 1,iv 3,iv 0,iv y5.Op,iv y5.N,(sv v4),(sv aP),(sv aP)],ae (sv v4) 158 3 bg y5.Args,.box g_0 74 [(sv ax),iv y2.2],ae (sv v1) 160 8 aG y2.1,.box g24 160 [iv 0,iv 0,iv 0,iv 0,iv 0,(sv aP),(sv aP),(sv aP)],ae (sv v76) 158 3 bg y6.Args]) 8 (ky 14 [0,1,2,7,8,12]) ?_ ?_
  ·intro E W hJ
   obtain ⟨g25,v77,hE,hS⟩:=hJ
   refine .sub hE ?_
   have hT:=hS.to [0]
   refine .by [3,9] ⟨⟨_,z,?_⟩,⟨_,z,?_⟩,trivial⟩
   ·have hS:=hS.p2
    refine (.cS (L0:=[.box g_0 74 [(sv ax),iv y2.2]]) hS Tryz.func18 (fun S h1 h2 h3=>(ak hy7 (hS.ks aQ h1) h2 (zz h1))) z z ?_)
    rintro ⟨⟩ W hS
    have hT:=hS.to [1]
    refine ⟨fun _=>hT,.tp' 4 z z hT (.by [5,9] ⟨⟨_,z,?_⟩,⟨_,z,?_⟩,trivial⟩)⟩
    ·refine (.cV hS Tryz.func184 (bj hy8) z z ?_)
     intro v78 W hS
     have hT:=hS.to [2]
     refine ⟨fun _=>hT,?_⟩
     exact .atl (J5 _ _ ⟨g25,v77,v78,sb z,hS.to [2,2,1,1,1,1,0]⟩) (by kernel_rfl)
    have hS:=hS.nilv 160 8 aG
    have hS:=hS.nilv 160 8 aG
    refine (.lg (L1:=[ae (sv v4) 158 3 bg y5.Args,ae (sv aP) 160 8 aG [],ae (sv aP) 160 8 aG []]) [(az.mk 1 3 0 (Expr.mk y5.Op y5.N y5.Args) [] [])] aG T.u123 T.t160 (hS.to [4,1,0,0,0,0,0,0]) z z z (.aggE (gG _) (.flat (c1:=[iv 1]) z (.flat (c1:=[iv 3]) z (.flat (c1:=[iv 0]) z (.aggE (eP _) (.flat (c1:=[iv y5.Op]) z (.flat (c1:=[iv y5.N]) z (.row (.row (.row .nil)))))))))) ?_ z kz)
    intro v79 W hS
    have hT:=hS.to [2]
    refine ⟨fun _=>hT,?_⟩
    exact .atl (J6 _ _ ⟨g25,v77,v79,sb z,hS.to [2,1,1,1,1,0]⟩) (by kernel_rfl)
   have hS:=hS.nilv 160 8 aG
   have hS:=hS.nilv 160 8 aG
   refine (.lg (L1:=[ae (sv v4) 158 3 bg y5.Args,ae (sv aP) 160 8 aG [],ae (sv aP) 160 8 aG []]) [(az.mk 1 3 0 (Expr.mk y5.Op y5.N y5.Args) [] [])] aG T.u123 T.t160 (hS.to [3,1,0,0,0,0,0,0]) z z z (.aggE (gG _) (.flat (c1:=[iv 1]) z (.flat (c1:=[iv 3]) z (.flat (c1:=[iv 0]) z (.aggE (eP _) (.flat (c1:=[iv y5.Op]) z (.flat (c1:=[iv y5.N]) z (.row (.row (.row .nil)))))))))) ?_ z kz)
   intro v80 W hS
   have hT:=hS.to [1]
   refine ⟨fun _=>hT,?_⟩
   exact .atl (J7 _ _ ⟨g25,v77,v80,sb z,hS.to [1,1,1,1,1,0]⟩) (by kernel_rfl)
  intro J9
  refine .tp' 0 z z hT (.tp' 2 z z hT (.tp' 7 z z hT (.ts' 8 z (fun W hT=>ld T.t160 hT z z z z z) hT z (.by [1,9,12] ⟨⟨_,z,?_⟩,⟨_,z,?_⟩,⟨_,z,?_⟩,trivial⟩))))
  ·refine (.cV hS Tryz.func184 (bj hy6) z z ?_)
   intro v81 W hS
   have hT:=hS.to [1]
   refine ⟨fun _=>hT,.by [3,9,12] ⟨⟨_,z,?_⟩,⟨_,z,?_⟩,⟨_,z,?_⟩,trivial⟩⟩
   ·have hS:=hS.p3
    refine (.cS (L0:=[.box g_0 74 [(sv ax),iv y2.2]]) hS Tryz.func18 (fun S h1 h2 h3=>(ak hy7 (hS.ks aQ h1) h2 (zz h1))) z z ?_)
    rintro ⟨⟩ W hS
    have hT:=hS.to [2]
    refine ⟨fun _=>hT,.tp' 4 z z hT (.by [5,9,12] ⟨⟨_,z,?_⟩,⟨_,z,?_⟩,⟨_,z,?_⟩,trivial⟩)⟩
    ·refine (.cV hS Tryz.func184 (bj hy8) z z ?_)
     intro v82 W hS
     have hT:=hS.to [3]
     refine ⟨fun _=>hT,.by [6,9,12] ⟨⟨_,z,?_⟩,⟨_,z,?_⟩,⟨_,z,?_⟩,trivial⟩⟩
     ·have hS:=hS.p2
      refine (.cS (L0:=[ae (sv v81) 158 3 bg y6.Args,ae (sv v82) 158 3 bg y8.Args]) hS Tryz.func183 (fun S h1 h2 h3=>(di hy9 h2 (zz h1))) z z ?_)
      rintro v83 W hS
      have hT:=hS.to [2]
      refine ⟨fun _=>hT,.by [9,12] ⟨⟨_,z,?_⟩,⟨_,z,?_⟩,trivial⟩⟩
      ·have hS:=hS.nilv 160 8 aG
       have hS:=hS.nilv 160 8 aG
       refine (.lg (L1:=[ae (sv v4) 158 3 bg y5.Args,ae (sv aP) 160 8 aG [],ae (sv aP) 160 8 aG []]) [(az.mk 1 3 0 (Expr.mk y5.Op y5.N y5.Args) [] [])] aG T.u123 T.t160 (hS.to [5,1,0,0,0,0,0]) z z z (.aggE (gG _) (.flat (c1:=[iv 1]) z (.flat (c1:=[iv 3]) z (.flat (c1:=[iv 0]) z (.aggE (eP _) (.flat (c1:=[iv y5.Op]) z (.flat (c1:=[iv y5.N]) z (.row (.row (.row .nil)))))))))) ?_ z kz)
       intro v84 W hS
       have hT:=hS.to [3]
       refine ⟨fun _=>hT,?_⟩
       exact .atl (J1 _ _ ⟨v83,v84,sb z,hS.to [3,2,2,1,0]⟩) (by kernel_rfl)
      refine (.alloc T.t160 hS ?_)
      intro g26 W hS
      have hT:=hS.to [3]
      refine ⟨fun _=>hT,?_⟩
      exact .atl (J2 _ _ ⟨g26,v83,sb z,hS.to [3,3,2,2,0,0]⟩) (by kernel_rfl)
     ·have hS:=hS.nilv 160 8 aG
      have hS:=hS.nilv 160 8 aG
      refine (.lg (L1:=[ae (sv v4) 158 3 bg y5.Args,ae (sv aP) 160 8 aG [],ae (sv aP) 160 8 aG []]) [(az.mk 1 3 0 (Expr.mk y5.Op y5.N y5.Args) [] [])] aG T.u123 T.t160 (hS.to [6,1,0,0,0,0,0,0]) z z z (.aggE (gG _) (.flat (c1:=[iv 1]) z (.flat (c1:=[iv 3]) z (.flat (c1:=[iv 0]) z (.aggE (eP _) (.flat (c1:=[iv y5.Op]) z (.flat (c1:=[iv y5.N]) z (.row (.row (.row .nil)))))))))) ?_ z kz)
      intro v85 W hS
      have hT:=hS.to [4]
      refine ⟨fun _=>hT,?_⟩
      exact .atl (J4 _ _ ⟨v81,v82,v85,sb z,hS.to [4,2,3,2,1,0]⟩) (by kernel_rfl)
     refine (.alloc T.t160 hS ?_)
     intro g27 W hS
     have hT:=hS.to [4]
     refine ⟨fun _=>hT,?_⟩
     exact .atl (J5 _ _ ⟨g27,v81,v82,sb z,hS.to [4,4,2,3,0,1,0]⟩) (by kernel_rfl)
    ·have hS:=hS.nilv 160 8 aG
     have hS:=hS.nilv 160 8 aG
     refine (.lg (L1:=[ae (sv v4) 158 3 bg y5.Args,ae (sv aP) 160 8 aG [],ae (sv aP) 160 8 aG []]) [(az.mk 1 3 0 (Expr.mk y5.Op y5.N y5.Args) [] [])] aG T.u123 T.t160 (hS.to [5,1,0,0,0,0,0]) z z z (.aggE (gG _) (.flat (c1:=[iv 1]) z (.flat (c1:=[iv 3]) z (.flat (c1:=[iv 0]) z (.aggE (eP _) (.flat (c1:=[iv y5.Op]) z (.flat (c1:=[iv y5.N]) z (.row (.row (.row .nil)))))))))) ?_ z kz)
     intro v86 W hS
     have hT:=hS.to [3]
     refine ⟨fun _=>hT,.by [5,12] ⟨⟨_,z,?_⟩,⟨_,z,?_⟩,trivial⟩⟩
     ·refine (.cV hS Tryz.func184 (bj hy8) z z ?_)
      intro v87 W hS
      have hT:=hS.to [4]
      refine ⟨fun _=>hT,?_⟩
      exact .atl (J4 _ _ ⟨v81,v87,v86,sb z,hS.to [4,2,3,2,0,0]⟩) (by kernel_rfl)
     refine (.alloc T.t160 hS ?_)
     intro g28 W hS
     have hT:=hS.to [4]
     refine ⟨fun _=>hT,?_⟩
     exact .atl (J6 _ _ ⟨g28,v81,v86,sb z,hS.to [4,2,3,0,1,0]⟩) (by kernel_rfl)
    refine (.alloc T.t160 hS ?_)
    intro g29 W hS
    have hT:=hS.to [3]
    refine ⟨fun _=>hT,.by [5,9] ⟨⟨_,z,?_⟩,⟨_,z,?_⟩,trivial⟩⟩
    ·refine (.cV hS Tryz.func184 (bj hy8) z z ?_)
     intro v88 W hS
     have hT:=hS.to [4]
     refine ⟨fun _=>hT,?_⟩
     exact .atl (J5 _ _ ⟨g29,v81,v88,sb z,hS.to [4,4,2,3,1,1,0]⟩) (by kernel_rfl)
    have hS:=hS.nilv 160 8 aG
    have hS:=hS.nilv 160 8 aG
    refine (.lg (L1:=[ae (sv v4) 158 3 bg y5.Args,ae (sv aP) 160 8 aG [],ae (sv aP) 160 8 aG []]) [(az.mk 1 3 0 (Expr.mk y5.Op y5.N y5.Args) [] [])] aG T.u123 T.t160 (hS.to [6,1,0,0,0,0,0,0]) z z z (.aggE (gG _) (.flat (c1:=[iv 1]) z (.flat (c1:=[iv 3]) z (.flat (c1:=[iv 0]) z (.aggE (eP _) (.flat (c1:=[iv y5.Op]) z (.flat (c1:=[iv y5.N]) z (.row (.row (.row .nil)))))))))) ?_ z kz)
    intro v89 W hS
    have hT:=hS.to [4]
    refine ⟨fun _=>hT,?_⟩
    exact .atl (J6 _ _ ⟨g29,v81,v89,sb z,hS.to [4,2,3,1,1,0]⟩) (by kernel_rfl)
   ·have hS:=hS.nilv 160 8 aG
    have hS:=hS.nilv 160 8 aG
    refine (.lg (L1:=[ae (sv v4) 158 3 bg y5.Args,ae (sv aP) 160 8 aG [],ae (sv aP) 160 8 aG []]) [(az.mk 1 3 0 (Expr.mk y5.Op y5.N y5.Args) [] [])] aG T.u123 T.t160 (hS.to [4,1,0,0,0,0,0]) z z z (.aggE (gG _) (.flat (c1:=[iv 1]) z (.flat (c1:=[iv 3]) z (.flat (c1:=[iv 0]) z (.aggE (eP _) (.flat (c1:=[iv y5.Op]) z (.flat (c1:=[iv y5.N]) z (.row (.row (.row .nil)))))))))) ?_ z kz)
    intro v90 W hS
    have hT:=hS.to [2]
    refine ⟨fun _=>hT,?_⟩
    exact .atl (J8 _ _ ⟨v81,v90,sb z,hS.to [2,2,2,1,0]⟩) (by kernel_rfl)
   refine (.alloc T.t160 hS ?_)
   intro g30 W hS
   have hT:=hS.to [2]
   refine ⟨fun _=>hT,?_⟩
   exact .atl (J9 _ _ ⟨g30,v81,sb z,hS.to [2,2,2,2,0,0]⟩) (by kernel_rfl)
  ·have hS:=hS.nilv 160 8 aG
   have hS:=hS.nilv 160 8 aG
   refine (.lg (L1:=[ae (sv v4) 158 3 bg y5.Args,ae (sv aP) 160 8 aG [],ae (sv aP) 160 8 aG []]) [(az.mk 1 3 0 (Expr.mk y5.Op y5.N y5.Args) [] [])] aG T.u123 T.t160 (hS.to [3,1,0,0,0,0]) z z z (.aggE (gG _) (.flat (c1:=[iv 1]) z (.flat (c1:=[iv 3]) z (.flat (c1:=[iv 0]) z (.aggE (eP _) (.flat (c1:=[iv y5.Op]) z (.flat (c1:=[iv y5.N]) z (.row (.row (.row .nil)))))))))) ?_ z kz)
   intro v91 W hS
   have hT:=hS.to [1]
   refine ⟨fun _=>hT,.by [1,12] ⟨⟨_,z,?_⟩,⟨_,z,?_⟩,trivial⟩⟩
   ·refine (.cV hS Tryz.func184 (bj hy6) z z ?_)
    intro v92 W hS
    have hT:=hS.to [2]
    refine ⟨fun _=>hT,?_⟩
    exact .atl (J8 _ _ ⟨v92,v91,sb z,hS.to [2,2,2,0,0]⟩) (by kernel_rfl)
   refine (.alloc T.t160 hS ?_)
   intro g31 W hS
   have hT:=hS.to [2]
   refine ⟨fun _=>hT,.by1 1 z (.cV hS Tryz.func184 (bj hy6) z z ?_)⟩
   intro v93 W hS
   have hT:=hS.to [3]
   refine ⟨fun _=>hT,?_⟩
   have hS:=hS.p4
   refine .by1 3 z (.cS (L0:=[.box g_0 74 [(sv ax),iv y2.2]]) hS Tryz.func18 (fun S h1 h2 h3=>(ak hy7 (hS.ks aQ h1) h2 (zz h1))) z z ?_)
   rintro ⟨⟩ W hS
   have hT:=hS.to [4]
   refine ⟨fun _=>hT,.tp' 4 z z hT (.by1 5 z (.cV hS Tryz.func184 (bj hy8) z z ?_))⟩
   intro v94 W hS
   have hT:=hS.to [5]
   refine ⟨fun _=>hT,?_⟩
   have hS:=hS.p2
   refine .by1 6 z (.cS (L0:=[ae (sv v93) 158 3 bg y6.Args,ae (sv v94) 158 3 bg y8.Args]) hS Tryz.func183 (fun S h1 h2 h3=>(di hy9 h2 (zz h1))) z z ?_)
   rintro v95 W hS
   have hT:=hS.to [4]
   refine ⟨fun _=>hT,.by1 10 z (.appv hr1 (hS.to [5,3,0,0,0,0]) T.u123 T.t160 z z z ?_)⟩
   intro v96 W hS
   have hT:=hS.to [4]
   refine ⟨fun _=>hT,.ts' 11 z (fun W hT=>bs T.s160 z z) hT z (.by1 13 z (.st T.t160 hS.p3 z z z ?_))⟩
   intro W hS
   refine ⟨fun h=>absurd z h,?_⟩
   refine .done ?_
   have hS:=hS.nilv 160 8 aG
   exact ⟨z,g31,v95,v96,aP,sb z,hS.to [4,1,2,1,0]⟩
  refine (.alloc T.t160 hS ?_)
  intro g32 W hS
  have hT:=hS.to [1]
  refine ⟨fun _=>hT,.by [1,9] ⟨⟨_,z,?_⟩,⟨_,z,?_⟩,trivial⟩⟩
  ·refine (.cV hS Tryz.func184 (bj hy6) z z ?_)
   intro v97 W hS
   have hT:=hS.to [2]
   refine ⟨fun _=>hT,?_⟩
   exact .atl (J9 _ _ ⟨g32,v97,sb z,hS.to [2,2,2,2,1,0]⟩) (by kernel_rfl)
  have hS:=hS.nilv 160 8 aG
  have hS:=hS.nilv 160 8 aG
  refine (.lg (L1:=[ae (sv v4) 158 3 bg y5.Args,ae (sv aP) 160 8 aG [],ae (sv aP) 160 8 aG []]) [(az.mk 1 3 0 (Expr.mk y5.Op y5.N y5.Args) [] [])] aG T.u123 T.t160 (hS.to [4,1,0,0,0,0,0]) z z z (.aggE (gG _) (.flat (c1:=[iv 1]) z (.flat (c1:=[iv 3]) z (.flat (c1:=[iv 0]) z (.aggE (eP _) (.flat (c1:=[iv y5.Op]) z (.flat (c1:=[iv y5.N]) z (.row (.row (.row .nil)))))))))) ?_ z kz)
  intro v98 W hS
  have hT:=hS.to [2]
  refine ⟨fun _=>hT,.by1 1 z (.cV hS Tryz.func184 (bj hy6) z z ?_)⟩
  intro v99 W hS
  have hT:=hS.to [3]
  refine ⟨fun _=>hT,?_⟩
  have hS:=hS.p4
  refine .by1 3 z (.cS (L0:=[.box g_0 74 [(sv ax),iv y2.2]]) hS Tryz.func18 (fun S h1 h2 h3=>(ak hy7 (hS.ks aQ h1) h2 (zz h1))) z z ?_)
  rintro ⟨⟩ W hS
  have hT:=hS.to [4]
  refine ⟨fun _=>hT,.tp' 4 z z hT (.by1 5 z (.cV hS Tryz.func184 (bj hy8) z z ?_))⟩
  intro v100 W hS
  have hT:=hS.to [5]
  refine ⟨fun _=>hT,?_⟩
  have hS:=hS.p2
  refine .by1 6 z (.cS (L0:=[ae (sv v99) 158 3 bg y6.Args,ae (sv v100) 158 3 bg y8.Args]) hS Tryz.func183 (fun S h1 h2 h3=>(di hy9 h2 (zz h1))) z z ?_)
  rintro v101 W hS
  have hT:=hS.to [4]
  refine ⟨fun _=>hT,.by1 10 z (.appv hr1 (hS.to [5,2,0,0,0,0]) T.u123 T.t160 z z z ?_)⟩
  intro v102 W hS
  have hT:=hS.to [4]
  refine ⟨fun _=>hT,.ts' 11 z (fun W hT=>bs T.s160 z z) hT z (.by1 13 z (.st T.t160 hS.p3 z z z ?_))⟩
  intro W hS
  refine ⟨fun h=>absurd z h,?_⟩
  refine .done ?_
  have hS:=hS.nilv 160 8 aG
  exact ⟨z,g32,v101,v102,aP,sb z,hS.to [4,1,2,1,0]⟩
 intro x E W hJ
 obtain ⟨rfl,g33,v103,v104,v105,hE,hS⟩:=hJ
 refine ⟨_,hE.sub,?_⟩
 refine .seq (.rk 6 hS [0,0] T.mix ?_)
 intro W hS
 have hT:=hS.to [0,0]
 refine .tp' 0 z z hT (.ts' 3 z (fun W hT=>ld T.t160 hT.p1 z z z z z) hT z ?_)
 have ⟨y10,hy10,h⟩:=bnd h
 refine .by1 1 z (.cV hS Tryz.func184 (bj hy10) z z ?_)
 intro v106 W hS
 have hT:=hS.to [1,1]
 refine ⟨fun _=>hT,.ts' 2 z (fun W hT=>bs T.s160 z z) hT z ?_⟩
 have hS:=hS.nilv 160 8 aG
 have hS:=hS.nilv 160 8 aG
 refine .by1 4 z (.lg (L1:=[ae (sv v106) 158 3 bg y10.Args,ae (sv aP) 160 8 aG [],ae (sv aP) 160 8 aG [],ae (sv v103) 158 3 bg y9.Args,ae (sv v104) 160 8 aG r1,ae (sv v105) 160 8 aG []]) [(az.mk 1 3 0 (Expr.mk y10.Op y10.N y10.Args) [] []),(az.mk 3 0 0 (Expr.mk y9.Op y9.N y9.Args) r1 [])] aG T.u123 T.t160 (hS.to [2,1,0,2,2,2,0,0]) z z z (.aggE (gG _) (.flat (c1:=[iv 1]) z (.flat (c1:=[iv 3]) z (.flat (c1:=[iv 0]) z (.aggE (eP _) (.flat (c1:=[iv y10.Op]) z (.flat (c1:=[iv y10.N]) z (.row (.row (.row (.aggE (gG _) (.flat (c1:=[iv 3]) z (.flat (c1:=[iv 0]) z (.flat (c1:=[iv 0]) z (.aggE (eP _) (.flat (c1:=[iv y9.Op]) z (.flat (c1:=[iv y9.N]) z (.row (.row (.row .nil)))))))))))))))))))) ?_ z kz)
 intro v107 W hS
 have hT:=hS.to [1,1]
 refine ⟨fun _=>hT,?_⟩
 cases h
 exact .tp' 5 z z hT (.done (.ret (ab (vs:=[_]) v107 (rt z rn) z (hS.to [1,0]))))
theorem oe (k : Nat) : d7 (dK k) ∧ fP (ip k) ∧ iJ (mb k) ∧ fQ (jU k):=by
  induction k with
  | zero=>exact ⟨by intro a0 a1 a2 a3 a4 ax g_0 S w r h aQ hO hlt; exact no h,by intro a0 a1 a2 a3 ax g_0 S w r h aQ hO hlt; exact no h,by intro a0 a1 a2 a3 ax g_0 S w r h aQ hO hlt; exact no h,by intro a0 a1 a2 ax g_0 S w r h aQ hO hlt; exact no h⟩
  | succ k ih=>exact ⟨si (k:=k) ih.1 ih.2.1 ih.2.2.1 ih.2.2.2,t9 (k:=k) ih.1 ih.2.1 ih.2.2.1 ih.2.2.2,vu (k:=k) ih.1 ih.2.1 ih.2.2.1 ih.2.2.2,ua (k:=k) ih.1 ih.2.1 ih.2.2.1 ih.2.2.2⟩
theorem qU {k : Nat} : d7 (dK k):=(oe k).1
theorem qV {k : Nat} {a0 : aU} {a1 : Int} {ax : Hd} {g_0 : Nat} {S : Nat → Prop} {w : World} {r : (List az) × Int} (h : iY k a0 a1 = some r) (aQ : RV w (Old S w) (sv ax) 5 1 (D.int .u8) a0.b) (hO : bG w [.box g_0 74 [(sv ax),iv a0.p]] S) (hlt : ∀ b,S b → b < w.heap.size) : Cl 91 #[pt g_0,iv a1] w (Ret S w (fun s : Hd=>(sv s)) (fun s=>[.box g_0 74 [(sv ax),iv r.2],ae (sv s) 160 8 aG r.1])):=by
 unfold iY at h
 refine ay Tryz.func91 z z ?_
 have hS:=Sep.sm hO hlt
 refine .g (.qn z (.g (.q z (.q z (.q z ?_)))))
 have ⟨y1,hy1,h⟩:=bnd h
 refine .c (.cS (L0:=[.box g_0 74 [(sv ax),iv a0.p]]) hS Tryz.func18 (fun S h1 h2 h3=>(ak hy1 (hS.ks aQ h1) h2 (zz h1))) z z ?_)
 rintro ⟨⟩ W hS
 refine .q z ?_
 have ⟨y2,hy2,h⟩:=bnd h
 refine .c (.cS (L0:=[.box g_0 74 [(sv ax),iv y1.2]]) hS Tryz.func122 (fun S h1 h2 h3=>(qU hy2 (hS.ks aQ h1) h2 (zz h1))) z z ?_)
 rintro v1 W hS
 refine .qn z (.seq (.block ?_))
 have ⟨y3,hy3,h⟩:=bnd h
 refine .via (.iter (fun s1 E' W'=>∃ (v4 : Hd),aK E' [(5,(sv v4))] ∧ Sep S w W' [.box g_0 74 [(sv ax),iv y2.2],ae (sv v4) 160 8 aG s1]) (fun y4 x E' W'=>x = .exit 0 ∧ ∃ (v5 : Hd),aK E' [(5,(sv v5))] ∧ Sep S w W' [.box g_0 74 [(sv ax),iv y2.2],ae (sv v5) 160 8 aG y4]) hy3 ⟨v1,sb z,hS.to [0,0]⟩ ?_) ?_
 ·intro s1 y5 E W h hI
  obtain ⟨v3,hE,hS⟩:=hI
  refine CW.sub hE ?_
  unfold kE at h
  refine .seq (.g (.q z ?_))
  have ⟨y6,hy6,h⟩:=bnd h
  refine .c (.cO hS Tryz.func123 (m8 hy6 hS.p1.lv) z z ?_)
  intro W hS
  refine .q z (.nil ?_)
  refine .cs z h ?_ ?_ <;> intro h
  ·refine .skip (.block (.region (.q z (.q z (.s (bq hS.p1.lv T.u123 z z) z (.q z ?_))))))
   have ⟨r1,hr1,h⟩:=bnd h
   refine .c (.cuto hr1 hS.p1 T.u123 T.t160 z z z z ?_)
   intro v6 hS
   refine .q z (.nil ?_)
   cases h
   exact ⟨z,v6,sb z,hS.to [1,0]⟩
  refine .exit ?_
  cases h
  exact ⟨by simp,z,v3,sb z,hS.to [0,0]⟩
 intro x E W hJ
 obtain ⟨rfl,v7,hE,hS⟩:=hJ
 refine ⟨_,hE.sub,?_⟩
 cases h
 exact .g (.q z (.qn z (.ret (ab (vs:=[_]) v7 (rt z rn) z (hS.to [0,0])))))
theorem dB {a0 : Int} {w : World} {r : Bool} (h : cj a0 = some r) : Cl 83 #[iv a0] w (RU w (.bool r)):=by
 unfold cj at h
 refine ay Tryz.func83 z z ?_
 have hS:=Sep.start w
 refine .g (.qn z (.g (.q z ?_)))
 have ⟨y1,hy1,h⟩:=bnd h
 refine .c (.cO hS Tryz.func23 (aM hy1) z z ?_)
 intro W hS
 obtain rfl:=o9 h
 exact .qn z (.ret (ab (vs:=[_]) () (rt z rn) z (hS.to [])))
theorem mn {a0 : Int} {a1 : Bool} {w : World} {r : Bool} (h : gP a0 a1 = some r) : Cl 186 #[iv a0,.bool a1] w (RU w (.bool r)):=by
 unfold gP at h
 refine ay Tryz.func186 z z ?_
 have hS:=Sep.start w
 refine .g (.qn z (.seq (.g (.q z (.nil ?_)))))
 refine .cs z h ?_ ?_ <;> intro h
 ·refine .g (.q z ?_)
  have ⟨y1,hy1,h⟩:=bnd h
  refine .c (.cO hS Tryz.func23 (aM hy1) z z ?_)
  intro W hS
  obtain rfl:=o9 h
  exact .qn z (.ret (ab (vs:=[_]) () (rt z rn) z (hS.to [])))
 cases h
 exact .skip (.g (.q z (.q z (.qn z (.ret (ab (vs:=[_]) () (rt z rn) z (hS.to [])))))))
theorem dl {a0 : al} {a1 : Bool} {a2 : Bool} {a3 : Bool} {w : World} {r : Bool} (h : cQ a0 a1 a2 a3 = some r) : Cl 167 #[.agg #[iv a0.Op,iv a0.Dst,iv a0.A,iv a0.B,iv a0.N],.bool a1,.bool a2,.bool a3] w (RU w (.bool r)):=by
 unfold cQ at h
 refine ay Tryz.func167 z z ?_
 have hS:=Sep.start w
 refine .g (.c (.box hS z z ?_))
 intro g1 W hS
 refine .qn z (.g (.s (fa T.f107_1 z z z) z (.s (ld T.t3 hS z z z z z) z (.q z ?_))))
 have ⟨y1,hy1,h⟩:=bnd h
 refine .c (.cO hS Tryz.func186 (mn hy1) z z ?_)
 intro W hS
 refine .q z ?_
 have ⟨b1,hb1,h⟩:=bnd h
 refine .cu 5 18 (b1) hS ?_ ?_
 ·refine .both (y1) (fun hb=>?_) (fun hb=>?_)
  ·have hg1:=hb
   have h:=aI hb hb1
   refine .g hg1 (.s (fa T.f107_2 z z z) z (.g hg1 (.s (ld T.t3 hS z z z z z) z (.g hg1 (.q z ?_)))))
   have ⟨y2,hy2,h⟩:=bnd h
   refine .g hg1 (.c (.cO hS Tryz.func186 (mn hy2) z z ?_))
   intro W hS
   refine .s (pkt hg1 z z z) z ?_
   cases h
   exact .nil (ck 5 hS)
  refine .xx hb z (.xx hb z (.xx hb z (.xx hb z ?_)))
  cases aJ hb hb1
  exact .s (pkf hb z z z) z (.nil (ck 5 hS))
 intro W hS
 refine .q z ?_
 have ⟨b2,hb2,h⟩:=bnd h
 refine .cu 5 24 (b2) hS ?_ ?_
 ·refine .both (b1) (fun hb=>?_) (fun hb=>?_)
  ·have hg2:=hb
   have h:=aI hb hb2
   refine .g hg2 (.s (fa T.f107_3 z z z) z (.g hg2 (.s (ld T.t3 hS z z z z z) z (.g hg2 (.q z ?_)))))
   have ⟨y3,hy3,h⟩:=bnd h
   refine .g hg2 (.c (.cO hS Tryz.func186 (mn hy3) z z ?_))
   intro W hS
   refine .s (pkt hg2 z z z) z ?_
   cases h
   exact .nil (ck 5 hS)
  refine .xx hb z (.xx hb z (.xx hb z (.xx hb z ?_)))
  cases aJ hb hb2
  exact .s (pkf hb z z z) z (.nil (ck 5 hS))
 intro W hS
 obtain rfl:=o9 h
 exact .qn z (.ret (ab (vs:=[_]) () (rt z rn) z (hS.to [])))
theorem kr {a0 : al} {a1 : Int} {w : World} {r : Bool} (h : ew a0 a1 = some r) : Cl 147 #[.agg #[iv a0.Op,iv a0.Dst,iv a0.A,iv a0.B,iv a0.N],iv a1] w (RU w (.bool r)):=by
 unfold ew at h
 refine ay Tryz.func147 z z ?_
 have hS:=Sep.start w
 refine .g (.c (.box hS z z ?_))
 intro g1 W hS
 refine .qn z (.seq (.g (.s (fa T.f107_0 z z z) z (.s (ld T.t3 hS z z z z z) z (.nil (.block (.g (.q z (.q z (.nil ?_))))))))))
 refine .cs z h ?_ ?_ <;> intro h
 ·refine .g (.s (ld T.t107 hS z z z z z) z ?_)
  have ⟨y1,hy1,h⟩:=bnd h
  refine .c (.cO hS Tryz.func167 (dl hy1) z z ?_)
  intro W hS
  refine .q z ?_
  have ⟨b1,hb1,h⟩:=bnd h
  refine .cu 4 15 (b1) hS ?_ ?_
  ·refine .both (y1) (fun hb=>?_) (fun hb=>?_)
   ·have hg1:=hb
    have h:=aI hb hb1
    refine .g hg1 (.s (fa T.f107_4 z z z) z (.g hg1 (.s (ld T.t3 hS z z z z z) z ?_)))
    have ⟨y2,hy2,h⟩:=bnd h
    refine .g hg1 (.c (.cO hS Tryz.func83 (dB hy2) z z ?_))
    intro W hS
    refine .s (pkt hg1 z z z) z ?_
    cases h
    exact .nil (ck 4 hS)
   refine .xx hb z (.xx hb z (.xx hb z ?_))
   cases aJ hb hb1
   exact .s (pkf hb z z z) z (.nil (ck 4 hS))
  intro W hS
  obtain rfl:=o9 h
  exact .qn z (.ret (ab (vs:=[_]) () (rt z rn) z (hS.to [])))
 refine .g (.q z (.q z (.nil ?_)))
 refine .cs z h ?_ ?_ <;> intro h
 ·refine .g (.s (ld T.t107 hS z z z z z) z ?_)
  have ⟨y3,hy3,h⟩:=bnd h
  refine .c (.cO hS Tryz.func167 (dl hy3) z z ?_)
  intro W hS
  refine .q z (.cu 4 24 (y3 && (a0.N == 0)) hS ?_ ?_)
  ·refine .both (y3) (fun hb=>?_) (fun hb=>?_)
   ·have hg2:=hb
    exact .g hg2 (.s (fa T.f107_4 z z z) z (.g hg2 (.s (ld T.t3 hS z z z z z) z (.g hg2 (.q z (.s (pkt hg2 z z z) z (.nil (ck 4 hS z (bH hg2)))))))))
   exact .xx hb z (.xx hb z (.xx hb z (.s (pkf hb z z z) z (.nil (ck 4 hS z (bI hb))))))
  intro W hS
  cases h
  exact .qn z (.ret (ab (vs:=[_]) () (rt z rn) z (hS.to [])))
 refine .g (.q z (.q z (.nil ?_)))
 refine .cs z h ?_ ?_ <;> intro h
 ·refine .g (.s (ld T.t107 hS z z z z z) z ?_)
  have ⟨y4,hy4,h⟩:=bnd h
  refine .c (.cO hS Tryz.func167 (dl hy4) z z ?_)
  intro W hS
  refine .q z ?_
  have ⟨b2,hb2,h⟩:=bnd h
  refine .cu 4 33 (b2) hS ?_ ?_
  ·refine .both (y4) (fun hb=>?_) (fun hb=>?_)
   ·have hg3:=hb
    have h:=aI hb hb2
    refine .g hg3 (.s (fa T.f107_4 z z z) z (.g hg3 (.s (ld T.t3 hS z z z z z) z ?_)))
    have ⟨y5,hy5,h⟩:=bnd h
    refine .g hg3 (.c (.cO hS Tryz.func154 (lJ hy5) z z ?_))
    intro W hS
    refine .s (pkt hg3 z z z) z ?_
    cases h
    exact .nil (ck 4 hS)
   refine .xx hb z (.xx hb z (.xx hb z ?_))
   cases aJ hb hb2
   exact .s (pkf hb z z z) z (.nil (ck 4 hS))
  intro W hS
  obtain rfl:=o9 h
  exact .qn z (.ret (ab (vs:=[_]) () (rt z rn) z (hS.to [])))
 refine .g (.q z (.q z (.nil ?_)))
 refine .cs z h ?_ ?_ <;> intro h
 ·refine .g (.s (ld T.t107 hS z z z z z) z ?_)
  have ⟨y6,hy6,h⟩:=bnd h
  refine .c (.cO hS Tryz.func167 (dl hy6) z z ?_)
  intro W hS
  refine .q z (.cu 4 42 (y6 && (decide (a0.N ≥ 0))) hS ?_ ?_)
  ·refine .both (y6) (fun hb=>?_) (fun hb=>?_)
   ·have hg4:=hb
    exact .g hg4 (.s (fa T.f107_4 z z z) z (.g hg4 (.s (ld T.t3 hS z z z z z) z (.g hg4 (.q z (.s (pkt hg4 z z z) z (.nil (ck 4 hS z (bH hg4)))))))))
   exact .xx hb z (.xx hb z (.xx hb z (.s (pkf hb z z z) z (.nil (ck 4 hS z (bI hb))))))
  intro W hS
  refine .q z (.cu 5 48 ((y6 && (decide (a0.N ≥ 0))) && (decide (a0.N < a1))) hS ?_ ?_)
  ·refine .both (y6 && (decide (a0.N ≥ 0))) (fun hb=>?_) (fun hb=>?_)
   ·have hg5:=hb
    exact .g hg5 (.s (fa T.f107_4 z z z) z (.g hg5 (.s (ld T.t3 hS z z z z z) z (.g hg5 (.q z (.g hg5 (.q z (.s (pkt hg5 z z z) z (.nil (ck 5 hS z (bH hg5)))))))))))
   exact .xx hb z (.xx hb z (.xx hb z (.xx hb z (.s (pkf hb z z z) z (.nil (ck 5 hS z (bI hb)))))))
  intro W hS
  cases h
  exact .qn z (.ret (ab (vs:=[_]) () (rt z rn) z (hS.to [])))
 refine .g (.q z (.q z (.nil ?_)))
 refine .cs z h ?_ ?_ <;> intro h
 ·refine .g (.s (ld T.t107 hS z z z z z) z ?_)
  have ⟨y7,hy7,h⟩:=bnd h
  refine .c (.cO hS Tryz.func167 (dl hy7) z z ?_)
  intro W hS
  refine .q z (.cu 4 57 (y7 && (decide (a0.N ≥ 0))) hS ?_ ?_)
  ·refine .both (y7) (fun hb=>?_) (fun hb=>?_)
   ·have hg6:=hb
    exact .g hg6 (.s (fa T.f107_4 z z z) z (.g hg6 (.s (ld T.t3 hS z z z z z) z (.g hg6 (.q z (.s (pkt hg6 z z z) z (.nil (ck 4 hS z (bH hg6)))))))))
   exact .xx hb z (.xx hb z (.xx hb z (.s (pkf hb z z z) z (.nil (ck 4 hS z (bI hb))))))
  intro W hS
  refine .q z (.cu 5 63 ((y7 && (decide (a0.N ≥ 0))) && (decide (a0.N < a1))) hS ?_ ?_)
  ·refine .both (y7 && (decide (a0.N ≥ 0))) (fun hb=>?_) (fun hb=>?_)
   ·have hg7:=hb
    exact .g hg7 (.s (fa T.f107_4 z z z) z (.g hg7 (.s (ld T.t3 hS z z z z z) z (.g hg7 (.q z (.g hg7 (.q z (.s (pkt hg7 z z z) z (.nil (ck 5 hS z (bH hg7)))))))))))
   exact .xx hb z (.xx hb z (.xx hb z (.xx hb z (.s (pkf hb z z z) z (.nil (ck 5 hS z (bI hb)))))))
  intro W hS
  cases h
  exact .qn z (.ret (ab (vs:=[_]) () (rt z rn) z (hS.to [])))
 refine .g (.q z (.q z (.nil ?_)))
 refine .cs z h ?_ ?_ <;> intro h
 ·refine .g (.s (ld T.t107 hS z z z z z) z ?_)
  have ⟨y8,hy8,h⟩:=bnd h
  refine .c (.cO hS Tryz.func167 (dl hy8) z z ?_)
  intro W hS
  refine .q z ?_
  have ⟨b3,hb3,h⟩:=bnd h
  refine .cu 4 72 (b3) hS ?_ ?_
  ·refine .both (y8) (fun hb=>?_) (fun hb=>?_)
   ·have hg8:=hb
    have h:=aI hb hb3
    refine .g hg8 (.s (fa T.f107_4 z z z) z (.g hg8 (.s (ld T.t3 hS z z z z z) z ?_)))
    have ⟨y9,hy9,h⟩:=bnd h
    refine .g hg8 (.c (.cO hS Tryz.func23 (aM hy9) z z ?_))
    intro W hS
    refine .s (pkt hg8 z z z) z ?_
    cases h
    exact .nil (ck 4 hS)
   refine .xx hb z (.xx hb z (.xx hb z ?_))
   cases aJ hb hb3
   exact .s (pkf hb z z z) z (.nil (ck 4 hS))
  intro W hS
  obtain rfl:=o9 h
  exact .qn z (.ret (ab (vs:=[_]) () (rt z rn) z (hS.to [])))
 refine .g (.q z (.q z (.nil ?_)))
 refine .cs z h ?_ ?_ <;> intro h
 ·refine .g (.s (ld T.t107 hS z z z z z) z ?_)
  have ⟨y10,hy10,h⟩:=bnd h
  refine .c (.cO hS Tryz.func167 (dl hy10) z z ?_)
  intro W hS
  refine .q z ?_
  have ⟨b4,hb4,h⟩:=bnd h
  refine .cu 4 81 (b4) hS ?_ ?_
  ·refine .both (y10) (fun hb=>?_) (fun hb=>?_)
   ·have hg9:=hb
    have h:=aI hb hb4
    refine .g hg9 (.s (fa T.f107_4 z z z) z (.g hg9 (.s (ld T.t3 hS z z z z z) z ?_)))
    have ⟨y11,hy11,h⟩:=bnd h
    refine .g hg9 (.c (.cO hS Tryz.func23 (aM hy11) z z ?_))
    intro W hS
    refine .s (pkt hg9 z z z) z ?_
    cases h
    exact .nil (ck 4 hS)
   refine .xx hb z (.xx hb z (.xx hb z ?_))
   cases aJ hb hb4
   exact .s (pkf hb z z z) z (.nil (ck 4 hS))
  intro W hS
  obtain rfl:=o9 h
  exact .qn z (.ret (ab (vs:=[_]) () (rt z rn) z (hS.to [])))
 refine .g (.q z (.q z (.nil ?_)))
 refine .cs z h ?_ ?_ <;> intro h
 ·refine .g (.s (ld T.t107 hS z z z z z) z ?_)
  have ⟨y12,hy12,h⟩:=bnd h
  refine .c (.cO hS Tryz.func167 (dl hy12) z z ?_)
  intro W hS
  refine .q z (.cu 4 90 (y12 && (a0.N == 0)) hS ?_ ?_)
  ·refine .both (y12) (fun hb=>?_) (fun hb=>?_)
   ·have hg10:=hb
    exact .g hg10 (.s (fa T.f107_4 z z z) z (.g hg10 (.s (ld T.t3 hS z z z z z) z (.g hg10 (.q z (.s (pkt hg10 z z z) z (.nil (ck 4 hS z (bH hg10)))))))))
   exact .xx hb z (.xx hb z (.xx hb z (.s (pkf hb z z z) z (.nil (ck 4 hS z (bI hb))))))
  intro W hS
  cases h
  exact .qn z (.ret (ab (vs:=[_]) () (rt z rn) z (hS.to [])))
 have ⟨y13,hy13,h⟩:=bnd h
 refine .seq (CW.via (R':=fun x E' W'=>x = .normal ∧ aK E' [(2,pt g1),(91,.bool y13)] ∧ Sep No w W' [.box g1 107 [iv a0.Op,iv a0.Dst,iv a0.A,iv a0.B,iv a0.N]]) ?_ ?_)
 ·have h:=hy13
  refine .g (.q z (.q z (.nil ?_)))
  refine .cs z h ?_ ?_ <;> intro h
  ·refine .skip ?_
   cases h
   exact ⟨z,sb z,hS.to [0]⟩
  refine .region (.q z (.q z (.nil ?_)))
  cases h
  exact ⟨z,sb z,hS.to [0]⟩
 intro x E W hJ
 obtain ⟨rfl,hE,hS⟩:=hJ
 refine ⟨_,hE.sub,?_⟩
 refine .cs z h ?_ ?_ <;> intro h
 ·refine .g (.s (ld T.t107 hS z z z z z) z ?_)
  have ⟨y14,hy14,h⟩:=bnd h
  refine .c (.cO hS Tryz.func167 (dl hy14) z z ?_)
  intro W hS
  refine .q z (.cu 4 100 (y14 && (a0.N == 0)) hS ?_ ?_)
  ·refine .both (y14) (fun hb=>?_) (fun hb=>?_)
   ·have hg11:=hb
    exact .g hg11 (.s (fa T.f107_4 z z z) z (.g hg11 (.s (ld T.t3 hS z z z z z) z (.g hg11 (.q z (.s (pkt hg11 z z z) z (.nil (ck 4 hS z (bH hg11)))))))))
   exact .xx hb z (.xx hb z (.xx hb z (.s (pkf hb z z z) z (.nil (ck 4 hS z (bI hb))))))
  intro W hS
  cases h
  exact .qn z (.ret (ab (vs:=[_]) () (rt z rn) z (hS.to [])))
 obtain rfl:=o9 h
 exact .skip (.g (.qn z (.ret (ab (vs:=[_]) () (rt z rn) z (hS.to [])))))
def qW (w : World) (r : Bool) : Env → World → Prop:=Fin Tryz.prog Tryz.f124 No w (fun s : Unit=>.bool r) (fun s=>[]) .ret
theorem cz {a0 : List al} {v_0 : Hd} {w : World} {r : Bool} (h : ca a0 = some r) (q_0 : RO w v_0 107 5 aX a0) : Cl 124 #[(sv v_0)] w (RU w (.bool r)):=by
 unfold ca at h
 refine ay Tryz.func124 z z ?_
 have hS:=Sep.start w
 refine .g (.qn z (.g (.q z (.s (bq (hS.keep q_0) T.u78 z z) z (.qn z (.seq (.g (.q z ?_))))))))
 have ⟨y1,hy1,h⟩:=bnd h
 refine .c (.cO hS Tryz.func23 (aM hy1) z z ?_)
 intro W hS
 refine .q z (.nil ?_)
 refine .cs z h ?_ ?_ <;> intro h
 ·obtain rfl:=o9 h
  exact .g (.qn z (.ret (ab (vs:=[_]) () (rt z rn) z (hS.to []))))
 refine .skip (.seq (.g (.qn z (.block ?_))))
 have ⟨y2,hy2,h⟩:=bnd h
 refine .via (.iter (fun s1 E' W'=>aK E' [(0,(sv v_0)),(3,iv (a0.length : Int)),(4,iv s1)] ∧ Sep No w W' []) (fun y3 x E' W'=>(match y3 with | .inl o1=>x = .ret ∧ qW w o1 E' W' | .inr o2=>x = .exit 0 ∧ aK E' [(0,(sv v_0)),(3,iv (a0.length : Int))] ∧ Sep No w W' [])) hy2 ⟨sb rfl,hS.to [] rfl⟩ ?_) ?_
 ·intro s1 y4 E W h hI
  obtain ⟨hE,hS⟩:=hI
  refine CW.sub hE ?_
  unfold jV at h
  refine .seq (.g (.q z (.q z (.q z (.nil ?_)))))
  refine .cs z h ?_ ?_ <;> intro h
  ·refine .skip (.seq (.block (.g (.q z (.q z ?_)))))
   have ⟨x1,hx1,h⟩:=bnd h
   refine .s (ixv (hS.keep q_0) hx1 T.u78 T.t107 z z z) z (.s (lde (RV.flat (hS.keep q_0) hx1 z) T.t107 z z z z z) z (.q z ?_))
   have ⟨y5,hy5,h⟩:=bnd h
   refine .c (.cO hS Tryz.func147 (kr hy5) z z ?_)
   intro W hS
   refine .q z (.nil ?_)
   refine .cs z h ?_ ?_ <;> intro h
   ·refine .g (.qn z (.ret ?_))
    cases h
    exact ⟨by simp,z,ab (vs:=[_]) () (rt z rn) z (hS.to [])⟩
   refine .skip (.region (.q z (.q z (.q z (.nil ?_)))))
   cases h
   exact ⟨z,sb z,hS.to []⟩
  refine .exit ?_
  cases h
  exact ⟨by simp,z,sb z,hS.to []⟩
 intro x E W hJ
 rcases y2 with o3 | o4
 ·obtain ⟨rfl,hF⟩:=hJ
  refine ⟨_,fun _ _ h=>h,?_⟩
  cases h
  exact hF
 obtain ⟨rfl,hE,hS⟩:=hJ
 refine ⟨_,hE.sub,?_⟩
 refine .g (.q z (.q z (.q z ?_)))
 have ⟨x2,hx2,h⟩:=bnd h
 refine .s (ixv (hS.keep q_0) hx2 T.u78 T.t107 z z z) z (.s (fe T.f107_0 z z z) z (.s (lde (RV.flat (hS.keep q_0) hx2 z) T.t3 z z z z z) z (.q z (.q z ?_))))
 have ⟨b1,hb1,h⟩:=bnd h
 refine .cu 8 37 (b1) hS ?_ ?_
 ·refine .both (x2.Op == 10) (fun hb=>?_) (fun hb=>?_)
  ·refine .xx hb z (.xx hb z (.xx hb z (.xx hb z (.xx hb z (.xx hb z (.xx hb z ?_))))))
   cases aI hb hb1
   exact .s (pkt hb z z z) z (.nil (ck 8 hS))
  have hg1:=hb
  have h:=aJ hb hb1
  refine .g hg1 (.q z (.g hg1 (.q z (.g hg1 (.q z ?_)))))
  have ⟨x3,hx3,h⟩:=bnd h
  refine .g hg1 (.s (ixv (hS.keep q_0) hx3 T.u78 T.t107 z z z) z (.g hg1 (.s (fe T.f107_0 z z z) z (.g hg1 (.s (lde (RV.flat (hS.keep q_0) hx3 z) T.t3 z z z z z) z (.g hg1 (.q z (.s (pkf hg1 z z z) z ?_))))))))
  cases h
  exact .nil (ck 8 hS)
 intro W hS
 obtain rfl:=o9 h
 exact .qn z (.ret (ab (vs:=[_]) () (rt z rn) z (hS.to [])))
theorem jD {a0 : List al} {a1 : Int} {v_0 : Hd} {w : World} {r : (List Int)} (h : dL a0 a1 = some r) (q_0 : RO w v_0 107 5 aX a0) : Cl 193 #[(sv v_0),iv a1] w (Ret No w (fun s : Hd=>(sv s)) (fun s=>[ae (sv s) 3 1 (D.int .i64) r])):=by
 unfold dL at h
 refine ay Tryz.func193 z z ?_
 have hS:=Sep.start w
 refine .g (.qn z (.g (.q z (.q z ?_))))
 have ⟨x1,hx1,h⟩:=bnd h
 refine .s (ixv (hS.keep q_0) hx1 T.u78 T.t107 z z z) z (.s (lde (RV.flat (hS.keep q_0) hx1 z) T.t107 z z z z z) z (.c (.alloc T.t107 hS ?_)))
 intro g1 W hS
 refine .c (.st T.t107 hS z z z ?_)
 intro W hS
 refine .nil (.seq (.block (.g (.s (fa T.f107_0 z z z) z (.s (ld T.t3 hS z z z z z) z (.q z (.q z (.nil ?_))))))))
 refine .cs z h ?_ ?_ <;> intro h
 ·refine .g (.c (.liv [] (D.int .i64) T.u23 T.t3 hS z z z z ?_ z (fun _=>z)))
  intro v1 W hS
  cases h
  exact .qn z (.ret (ab (vs:=[_]) v1 (rt z rn) z (hS.to [0])))
 refine .g (.s (fa T.f107_0 z z z) z (.s (ld T.t3 hS z z z z z) z (.q z (.q z (.nil ?_)))))
 refine .cs z h ?_ ?_ <;> intro h
 ·refine .g (.s (fa T.f107_4 z z z) z (.s (ld T.t3 hS z z z z z) z (.c (.liv [x1.N] (D.int .i64) T.u23 T.t3 hS z z z z ?_ z (fun _=>z)))))
  intro v2 W hS
  cases h
  exact .qn z (.ret (ab (vs:=[_]) v2 (rt z rn) z (hS.to [0])))
 refine .g (.s (fa T.f107_0 z z z) z (.s (ld T.t3 hS z z z z z) z (.q z (.q z (.cu 6 32 ((x1.Op == 5) && (decide (x1.N < (w64 (a1 + 1))))) hS ?_ ?_)))))
 ·refine .both (x1.Op == 5) (fun hb=>?_) (fun hb=>?_)
  ·have hg1:=hb
   exact .g hg1 (.s (fa T.f107_4 z z z) z (.g hg1 (.s (ld T.t3 hS z z z z z) z (.g hg1 (.q z (.g hg1 (.q z (.g hg1 (.q z (.s (pkt hg1 z z z) z (.nil (ck 6 hS z (bH hg1)))))))))))))
  exact .xx hb z (.xx hb z (.xx hb z (.xx hb z (.xx hb z (.s (pkf hb z z z) z (.nil (ck 6 hS z (bI hb))))))))
 intro W hS
 refine .q z (.nil ?_)
 refine .cs z h ?_ ?_ <;> intro h
 ·refine .g (.s (fa T.f107_4 z z z) z (.s (ld T.t3 hS z z z z z) z (.q z (.q z (.c (.liv [x1.N,w64 (a1 + 1)] (D.int .i64) T.u23 T.t3 hS z z z z ?_ z (fun _=>z)))))))
  intro v3 W hS
  cases h
  exact .qn z (.ret (ab (vs:=[_]) v3 (rt z rn) z (hS.to [0])))
 refine .g (.s (fa T.f107_0 z z z) z (.s (ld T.t3 hS z z z z z) z (.q z (.q z (.cu 6 48 ((x1.Op == 5) && (decide (x1.N > (w64 (a1 + 1))))) hS ?_ ?_)))))
 ·refine .both (x1.Op == 5) (fun hb=>?_) (fun hb=>?_)
  ·have hg2:=hb
   exact .g hg2 (.s (fa T.f107_4 z z z) z (.g hg2 (.s (ld T.t3 hS z z z z z) z (.g hg2 (.q z (.g hg2 (.q z (.g hg2 (.q z (.s (pkt hg2 z z z) z (.nil (ck 6 hS z (bH hg2)))))))))))))
  exact .xx hb z (.xx hb z (.xx hb z (.xx hb z (.xx hb z (.s (pkf hb z z z) z (.nil (ck 6 hS z (bI hb))))))))
 intro W hS
 refine .q z (.nil ?_)
 refine .cs z h ?_ ?_ <;> intro h
 ·refine .g (.q z (.q z (.s (fa T.f107_4 z z z) z (.s (ld T.t3 hS z z z z z) z (.c (.liv [w64 (a1 + 1),x1.N] (D.int .i64) T.u23 T.t3 hS z z z z ?_ z (fun _=>z)))))))
  intro v4 W hS
  cases h
  exact .qn z (.ret (ab (vs:=[_]) v4 (rt z rn) z (hS.to [0])))
 refine .skip (.g (.q z (.q z (.c (.liv [w64 (a1 + 1)] (D.int .i64) T.u23 T.t3 hS z z z z ?_ z (fun _=>z))))))
 intro v5 W hS
 cases h
 exact .qn z (.ret (ab (vs:=[_]) v5 (rt z rn) z (hS.to [0])))
theorem qX {a0 : List al} {a1 : List bi} {a2 : Int} {v_0 : Hd} {v_1 : Hd} {w : World} {r : (List Int)} (h : iZ a0 a1 a2 = some r) (q_0 : RO w v_0 107 5 aX a0) (q_1 : RO w v_1 196 2 bZ a1) : Cl 197 #[(sv v_0),(sv v_1),iv a2] w (Ret No w (fun s : Hd=>(sv s)) (fun s=>[ae (sv s) 3 1 (D.int .i64) r])):=by
 unfold iZ at h
 refine ay Tryz.func197 z z ?_
 have hS:=Sep.start w
 refine .g (.qn z (.g (.q z (.q z ?_))))
 have ⟨x1,hx1,h⟩:=bnd h
 refine .s (ixv (hS.keep q_0) hx1 T.u78 T.t107 z z z) z (.s (lde (RV.flat (hS.keep q_0) hx1 z) T.t107 z z z z z) z (.c (.alloc T.t107 hS ?_)))
 intro g1 W hS
 refine .c (.st T.t107 hS z z z ?_)
 intro W hS
 refine .nil (.seq (.g (.s (fa T.f107_0 z z z) z (.s (ld T.t3 hS z z z z z) z (.q z (.q z ?_))))))
 have ⟨b1,hb1,h⟩:=bnd h
 refine .cu 8 23 (b1) hS ?_ ?_
 ·refine .both (x1.Op != 5) (fun hb=>?_) (fun hb=>?_)
  ·refine .xx hb z (.xx hb z (.xx hb z (.xx hb z (.xx hb z (.xx hb z (.xx hb z ?_))))))
   cases aI hb hb1
   exact .s (pkt hb z z z) z (.nil (ck 8 hS))
  have hg1:=hb
  have h:=aJ hb hb1
  refine .g hg1 (.q z (.g hg1 (.s (fa T.f107_2 z z z) z (.g hg1 (.s (ld T.t3 hS z z z z z) z ?_)))))
  have ⟨x2,hx2,h⟩:=bnd h
  refine .g hg1 (.s (ixv (hS.keep q_1) hx2 T.u176 T.t196 z z z) z (.g hg1 (.s (fe T.f196_0 z z z) z (.g hg1 (.s (lde (RV.flat (hS.keep q_1) hx2 z) T.t3 z z z z z) z (.g hg1 (.q z (.s (pkf hg1 z z z) z ?_))))))))
  cases h
  exact .nil (ck 8 hS)
 intro W hS
 refine .nil ?_
 refine .cs z h ?_ ?_ <;> intro h
 ·refine .g (.q z (.q z ?_))
  have ⟨y1,hy1,h⟩:=bnd h
  refine .c (.cV hS Tryz.func193 (jD hy1 (hS.keep q_0)) z z ?_)
  intro v1 W hS
  obtain rfl:=o9 h
  exact .qn z (.ret (ab (vs:=[_]) v1 (rt z rn) z (hS.to [0])))
 refine .skip (.seq (.g (.q z (.s (fa T.f107_2 z z z) z (.s (ld T.t3 hS z z z z z) z ?_)))))
 have ⟨x3,hx3,h⟩:=bnd h
 refine .s (ixv (hS.keep q_1) hx3 T.u176 T.t196 z z z) z (.s (fe T.f196_1 z z z) z (.s (lde (RV.flat (hS.keep q_1) hx3 z) T.t3 z z z z z) z (.q z (.nil ?_))))
 refine .cs z h ?_ ?_ <;> intro h
 ·refine .g (.s (fa T.f107_4 z z z) z (.s (ld T.t3 hS z z z z z) z (.c (.liv [x1.N] (D.int .i64) T.u23 T.t3 hS z z z z ?_ z (fun _=>z)))))
  intro v2 W hS
  cases h
  exact .qn z (.ret (ab (vs:=[_]) v2 (rt z rn) z (hS.to [0])))
 refine .skip (.g (.q z (.q z (.c (.liv [w64 (a2 + 1)] (D.int .i64) T.u23 T.t3 hS z z z z ?_ z (fun _=>z))))))
 intro v3 W hS
 cases h
 exact .qn z (.ret (ab (vs:=[_]) v3 (rt z rn) z (hS.to [0])))
theorem mo {a0 : Bool} {w : World} {r : Int} (h : fS a0 = some r) : Cl 117 #[.bool a0] w (RU w (.int .i64 r)):=by
 unfold fS at h
 refine ay Tryz.func117 z z ?_
 have hS:=Sep.start w
 refine .g (.qn z (.seq (.g (.q z (.nil ?_)))))
 refine .cs z h ?_ ?_ <;> intro h
 ·cases h
  exact .g (.qn z (.ret (ab (vs:=[_]) () (rt z rn) z (hS.to []))))
 cases h
 exact .skip (.g (.qn z (.ret (ab (vs:=[_]) () (rt z rn) z (hS.to [])))))
theorem nI {a0 : Int} {a1 : Int} {a2 : Bool} {w : World} {r : Int} (h : eV a0 a1 a2 = some r) : Cl 155 #[iv a0,iv a1,.bool a2] w (RU w (.int .i64 r)):=by
 unfold eV at h
 refine ay Tryz.func155 z z ?_
 have hS:=Sep.start w
 refine .g (.qn z (.seq (.g (.q z (.nil ?_)))))
 refine .cs z h ?_ ?_ <;> intro h
 ·refine .g (.q z (.q z (.q z ?_)))
  have ⟨d1,hd1,h⟩:=bnd h
  obtain rfl:=o9 h
  exact .s (la hd1 z z z) z (.qn z (.ret (ab (vs:=[_]) () (rt z rn) z (hS.to []))))
 refine .skip (.g (.q z (.q z (.q z ?_))))
 have ⟨d2,hd2,h⟩:=bnd h
 refine .s (la hd2 z z z) z ?_
 have ⟨y1,hy1,h⟩:=bnd h
 refine .c (.cO hS Tryz.func74 (cC hy1) z z ?_)
 intro W hS
 obtain rfl:=o9 h
 exact .qn z (.ret (ab (vs:=[_]) () (rt z rn) z (hS.to [])))
theorem qY {a0 : Int} {a1 : Int} {w : World} {r : Int} (h : gr a0 a1 = some r) : Cl 156 #[iv a0,iv a1] w (RU w (.int .i64 r)):=by
 unfold gr at h
 refine ay Tryz.func156 z z ?_
 have hS:=Sep.start w
 refine .g (.qn z (.seq (.g (.q z (.q z (.nil ?_))))))
 refine .cs z h ?_ ?_ <;> intro h
 ·cases h
  exact .g (.qn z (.ret (ab (vs:=[_]) () (rt z rn) z (hS.to []))))
 refine .skip (.g (.q z (.q z ?_)))
 have ⟨d1,hd1,h⟩:=bnd h
 refine .s (dq hd1 z z z) z ?_
 have ⟨y1,hy1,h⟩:=bnd h
 refine .c (.cO hS Tryz.func74 (cC hy1) z z ?_)
 intro W hS
 obtain rfl:=o9 h
 exact .qn z (.ret (ab (vs:=[_]) () (rt z rn) z (hS.to [])))
theorem qZ {a0 : Int} {a1 : Int} {w : World} {r : Int} (h : gu a0 a1 = some r) : Cl 157 #[iv a0,iv a1] w (RU w (.int .i64 r)):=by
 unfold gu at h
 refine ay Tryz.func157 z z ?_
 have hS:=Sep.start w
 refine .g (.qn z (.seq (.g (.q z (.q z (.nil ?_))))))
 refine .cs z h ?_ ?_ <;> intro h
 ·obtain rfl:=o9 h
  exact .g (.q z (.qn z (.ret (ab (vs:=[_]) () (rt z rn) z (hS.to [])))))
 refine .skip (.g (.q z (.q z ?_)))
 have ⟨d1,hd1,h⟩:=bnd h
 obtain rfl:=o9 h
 exact .s (dr hd1 z z z) z (.qn z (.ret (ab (vs:=[_]) () (rt z rn) z (hS.to []))))
end

end Go.Proofs.YtcljimkjmklkmaaGreatDoor.N
