/- Printed by a program of mine: that the program's functions compute it. -/
import Derived.Test.YtcljimkjmklkmaaGreatK6
set_option linter.unusedVariables false
set_option linter.unusedSimpArgs false
set_option maxRecDepth 100000
set_option maxHeartbeats 4000000
namespace Go.Proofs.YtcljimkjmklkmaaGreat.N
open Go.Proofs.YtcljimkjmklkmaaGreat.X
theorem fat {a0 : Squad} {v_0_Harts : Hd} {v_0_Boxes : Hd} {v_0_Out : Hd} {w : World} {r : Bool} (h : f4r a0 = some r) (q_0_Harts : RV w (Old No w) (sv v_0_Harts) 36 3 dMachine a0.Harts) (q_0_Boxes : RV w (Old No w) (sv v_0_Boxes) 61 2 dBox a0.Boxes) (q_0_Out : RV w (Old No w) (sv v_0_Out) 3 1 (D.int .i64) a0.Out) : Calls Tryz.prog 13 #[.agg #[(sv v_0_Harts),(sv v_0_Boxes),.int .i64 a0.Turn,.int .i64 a0.Idle,(sv v_0_Out)]] w (Ret No w (fun s : Unit=>.bool r) (fun s=>[])):=by
 unfold f4r at h
 refine enter Tryz.func13 z z ?_
 have hS:=Sep.start w
 refine .g (.c (.box hS z z ?_ z z))
 intro g1 W hS
 refine .qn z (.g (.s (fa T.f27_0 z z z) z (.s (ld T.t23 hS z z z z z) z (.s (lenv (hS.keep q_0_Harts) T.u23 z z) z (.qn z (.seq (.g (.q z ?_))))))))
 have ⟨y1,hy1,h⟩:=bnd h
 refine .c (.call0 hS Tryz.func27 (f04 hy1) z z ?_ z z z z)
 intro W hS
 refine .q z (.q z ?_)
 have ⟨b1,hb1,h⟩:=bnd h
 refine .chunk 5 16 (b1) hS ?_ ?_
 ·refine .both (!y1) (fun hb=>?_) (fun hb=>?_)
  ·refine .xx hb z (.xx hb z (.xx hb z (.xx hb z ?_)))
   cases sel_t hb hb1
   exact .s (pkt hb z z z) z (.nil (ck 5 hS z z z z))
  have hg1:=hb
  have h:=sel_f hb hb1
  refine .g hg1 (.s (fa T.f27_1 z z z) z (.g hg1 (.s (ld T.t24 hS z z z z z) z ?_) z)) z
  have ⟨y2,hy2,h⟩:=bnd h
  refine .g hg1 (.c (.call0 hS Tryz.func28 (fdh hy2 (hS.keep q_0_Boxes)) z z ?_ z z z z)) z
  intro W hS
  refine .g hg1 (.q z (.s (pkf hg1 z z z) z ?_)) z
  cases h
  exact .nil (ck 5 hS z z z z)
 intro W hS
 refine .q z ?_
 have ⟨b2,hb2,h⟩:=bnd h
 refine .chunk 7 24 (b2) hS ?_ ?_
 ·refine .both (b1) (fun hb=>?_) (fun hb=>?_)
  ·refine .xx hb z (.xx hb z (.xx hb z (.xx hb z (.xx hb z (.xx hb z ?_)))))
   cases sel_t hb hb2
   exact .s (pkt hb z z z) z (.nil (ck 7 hS z z z z))
  have hg2:=hb
  have h:=sel_f hb hb2
  refine .g hg2 (.s (fa T.f27_2 z z z) z (.g hg2 (.s (ld T.t3 hS z z z z z) z (.g hg2 (.q z (.g hg2 (.q z ?_) z)) z)) z)) z
  have ⟨y3,hy3,h⟩:=bnd h
  refine .g hg2 (.c (.call0 hS Tryz.func27 (f04 hy3) z z ?_ z z z z)) z
  intro W hS
  refine .g hg2 (.q z (.s (pkf hg2 z z z) z ?_)) z
  cases h
  exact .nil (ck 7 hS z z z z)
 intro W hS
 refine .q z ?_
 have ⟨b3,hb3,h⟩:=bnd h
 refine .chunk 6 31 (b3) hS ?_ ?_
 ·refine .both (b2) (fun hb=>?_) (fun hb=>?_)
  ·refine .xx hb z (.xx hb z (.xx hb z (.xx hb z (.xx hb z ?_))))
   cases sel_t hb hb3
   exact .s (pkt hb z z z) z (.nil (ck 6 hS z z z z))
  have hg3:=hb
  have h:=sel_f hb hb3
  refine .g hg3 (.s (fa T.f27_3 z z z) z (.g hg3 (.s (ld T.t3 hS z z z z z) z (.g hg3 (.q z ?_) z)) z)) z
  have ⟨y4,hy4,h⟩:=bnd h
  refine .g hg3 (.c (.call0 hS Tryz.func27 (f04 hy4) z z ?_ z z z z)) z
  intro W hS
  refine .g hg3 (.q z (.s (pkf hg3 z z z) z ?_)) z
  cases h
  exact .nil (ck 6 hS z z z z)
 intro W hS
 refine .nil ?_
 refine .cs z h ?_ ?_ <;> intro h
 ·obtain rfl:=Option.some.inj h
  exact .g (.qn z (.ret (fin_ret (vs:=[_]) () (rt z rn) z (hS.to [] z))))
 refine .skip (.seq (.g (.qn z (.block ?_))))
 have ⟨y5,hy5,h⟩:=bnd h
 refine .via (.iter (fun s1 E' W'=>SubL E' [(1,.pointer (some ⟨g1,0,none⟩)),(3,.int .i64 (a0.Harts.length : Int)),(4,.int .i64 s1)] ∧ Sep No w W' [.box g1 27 [(sv v_0_Harts),(sv v_0_Boxes),.int .i64 a0.Turn,.int .i64 a0.Idle,(sv v_0_Out)]]) (fun y6 x E' W'=>(match y6 with | .inl o1=>x = .ret ∧ fe2 w o1 E' W' | .inr o2=>x = .exit 0 ∧ SubL E' [(1,.pointer (some ⟨g1,0,none⟩))] ∧ Sep No w W' [.box g1 27 [(sv v_0_Harts),(sv v_0_Boxes),.int .i64 a0.Turn,.int .i64 a0.Idle,(sv v_0_Out)]])) hy5 ⟨sb rfl,hS.to [0] rfl⟩ ?_) ?_
 ·intro s1 y7 E W h hI
  obtain ⟨hE,hS⟩:=hI
  refine CW.sub hE ?_
  unfold f4l at h
  refine .seq (.g (.q z (.q z (.q z (.nil ?_)))))
  refine .cs z h ?_ ?_ <;> intro h
  ·refine .skip (.seq (.block (.g (.s (fa T.f27_0 z z z) z (.s (ld T.t23 hS z z z z z) z (.q z ?_))))))
   have ⟨x1,hx1,h⟩:=bnd h
   obtain ⟨k1,hd,hck1⟩:=RV.el2 q_0_Harts hx1
   have hd1:=ragg hd
   obtain ⟨v1,k1,rfl,q1,hd2⟩:=rrowv q_0_Harts hd1
   obtain ⟨k1,rfl,hd3⟩:=rflat q_0_Harts z hd2
   obtain ⟨v2,k1,rfl,q2,hd4⟩:=rrowv q_0_Harts hd3
   obtain rfl:=rnil q_0_Harts hd4
   refine .s (ixv (hS.keep q_0_Harts) hx1 T.u23 T.t36 z z z) z (.s (lde (hck1 _ hS.agree) T.t36 z z z z z) z ?_)
   have ⟨y8,hy8,h⟩:=bnd h
   refine .c (.call0 hS Tryz.func29 (fbt hy8 (hS.keep (q1 _ q_0_Harts)) (hS.keep (q2 _ q_0_Harts))) z z ?_ z z z z)
   intro W hS
   refine .q z (.nil ?_)
   refine .cs z h ?_ ?_ <;> intro h
   ·refine .g (.qn z (.ret ?_))
    cases h
    exact ⟨by simp,z,fin_ret (vs:=[_]) () (rt z rn) z (hS.to [] z)⟩
   refine .skip (.region (.q z (.q z (.q z (.nil ?_)))))
   cases h
   exact ⟨z,sb z,hS.to [0] z⟩
  refine .exit ?_
  cases h
  exact ⟨by simp,z,sb z,hS.to [0] z⟩
 intro x E W hJ
 rcases y5 with o3 | o4
 ·obtain ⟨rfl,hF⟩:=hJ
  refine ⟨_,fun _ _ h=>h,?_⟩
  cases h
  exact hF
 obtain ⟨rfl,hE,hS⟩:=hJ
 refine ⟨_,hE.sub,?_⟩
 refine .g (.s (fa T.f27_4 z z z) z (.s (ld T.t25 hS z z z z z) z (.s (fa T.f27_4 z z z) z (.s (ld T.t25 hS z z z z z) z (.s (lenv (hS.keep q_0_Out) T.u25 z z) z ?_)))))
 have ⟨y9,hy9,h⟩:=bnd h
 refine .c (.call0 hS Tryz.func30 (f7k hy9 (hS.keep q_0_Out)) z z ?_ z z z z)
 intro W hS
 obtain rfl:=Option.some.inj h
 exact .qn z (.ret (fin_ret (vs:=[_]) () (rt z rn) z (hS.to [] z)))
theorem f0c {a0 : List Box} {v_0 : Hd} {w : World} {r : (List Box)} (h : f3x a0 = some r) (q_0 : RV w (Old No w) (sv v_0) 61 2 dBox a0) : Calls Tryz.prog 48 #[(sv v_0)] w (Ret No w (fun s : Hd=>(sv s)) (fun s=>[rowV (sv s) 61 2 dBox r])):=by
 unfold f3x at h
 refine enter Tryz.func48 z z ?_
 have hS:=Sep.start w
 refine .g (.qn z (.g (.c (.ligv (L1:=[]) [] dBox T.u24 T.t61 (hS.to [] z) z z z (.nil) ?_ z (fun _=>z) z z z z z))))
 intro v1 W hS
 refine .qn z (.seq (.g (.qn z (.block ?_))))
 have ⟨y1,hy1,h⟩:=bnd h
 refine .via (.iter (fun s1 E' W'=>∃ (v4 : Hd),SubL E' [(0,(sv v_0)),(3,(sv v4)),(4,.int .i64 s1.2)] ∧ Sep No w W' [rowV (sv v4) 61 2 dBox s1.1]) (fun y2 x E' W'=>x = .exit 0 ∧ ∃ (v5 : Hd),SubL E' [(3,(sv v5))] ∧ Sep No w W' [rowV (sv v5) 61 2 dBox y2]) hy1 ⟨v1,sb z,hS.to [0] z⟩ ?_) ?_
 ·intro s1 y3 E W h hI
  obtain ⟨v3,hE,hS⟩:=hI
  refine CW.sub hE ?_
  unfold f2i at h
  refine .seq (.g (.q z (.q z (.s (lenv (hS.keep q_0) T.u24 z z) z (.q z (.nil ?_))))))
  refine .cs z h ?_ ?_ <;> intro h
  ·refine .skip (.seq (.block (.rk 17 hS [] T.mix ?_)))
   intro W hS
   have hT:=hS.to [] z
   refine .tp 0 z z hT (by kernel_rfl) (.tp 1 z z hT (by kernel_rfl) (.tp 2 z z hT (by kernel_rfl) ?_))
   have ⟨x1,hx1,h⟩:=bnd h
   obtain ⟨k1,hd,hck1⟩:=RV.el2 q_0 hx1
   have hd1:=ragg hd
   obtain ⟨k1,rfl,hd2⟩:=rflat q_0 z hd1
   obtain ⟨v6,k1,rfl,q5,hd3⟩:=rrowv q_0 hd2
   obtain rfl:=rnil q_0 hd3
   refine .ts 3 z (fun W hT=>ixv (hS.keep q_0) hx1 T.u24 T.t61 z z z) hT z (by kernel_rfl) (.ts 4 z (fun W hT=>fe T.f61_0 z z z) hT z (by kernel_rfl) (.ts 5 z (fun W hT=>lde (hck1 _ hT.agree) T.t3 z z z z z) hT z (by kernel_rfl) (.tp 7 z z hT (by kernel_rfl) (.tp 8 z z hT (by kernel_rfl) ?_))))
   have ⟨x2,hx2,h⟩:=bnd h
   obtain ⟨k2,hd,hck2⟩:=RV.el2 q_0 hx2
   have hd1:=ragg hd
   obtain ⟨k2,rfl,hd2⟩:=rflat q_0 z hd1
   obtain ⟨v7,k2,rfl,q6,hd3⟩:=rrowv q_0 hd2
   obtain rfl:=rnil q_0 hd3
   refine .ts 9 z (fun W hT=>ixv (hS.keep q_0) hx2 T.u24 T.t61 z z z) hT z (by kernel_rfl) (.ts 10 z (fun W hT=>fe T.f61_1 z z z) hT z (by kernel_rfl) (.ts 11 z (fun W hT=>lde (hck2 _ hT.agree) T.t25 z z z z z) hT z (by kernel_rfl) (.by1 6 z (.liv [] (D.int .i64) T.u25 T.t3 hS z z z z ?_ z (fun _=>z) z z z z) (by kernel_rfl))))
   intro v8 W hS
   have hT:=hS.to [] z
   refine ⟨fun _=>hT,?_⟩
   have ⟨r1,hr1,h⟩:=bnd h
   refine .by1 12 z (.apprv hr1 hS (hS.keep (q6 _ q_0)) (fun _=>z) T.u25 T.t3 z z z ?_ z z z z z) (by kernel_rfl)
   intro v9 W hS
   have hT:=hS.to [] z
   refine ⟨fun _=>hT,.ts 13 z (fun W hT=>bs T.s61 z z) hT z (by kernel_rfl) (.by1 14 z (.ligv (L1:=[rowV (sv v9) 3 1 (D.int .i64) r1]) [(Box.mk x1.Room r1)] dBox T.u24 T.t61 (hS.to [0,0] z) z z z (.agg (.flat (c1:=[.int .i64 x1.Room]) z (.row .nil))) ?_ z (fun _=>z) z z z z z) (by kernel_rfl))⟩
   intro v10 W hS
   have hT:=hS.to [] z
   refine ⟨fun _=>hT,?_⟩
   have ⟨r2,hr2,h⟩:=bnd h
   refine .by1 15 z (.appv hr2 (hS.to [1,0] z) T.u24 T.t61 z z z ?_ z z z z z) (by kernel_rfl)
   intro v11 W hS
   have hT:=hS.to [] z
   refine ⟨fun _=>hT,.tp 16 z z hT (by kernel_rfl) (.done (.region (.q z (.q z (.q z (.nil ?_))))) (by kernel_rfl))⟩
   cases h
   exact ⟨z,v11,sb z,hS.to [0] z⟩
  refine .exit ?_
  cases h
  exact ⟨by simp,z,v3,sb z,hS.to [0] z⟩
 intro x E W hJ
 obtain ⟨rfl,v12,hE,hS⟩:=hJ
 refine ⟨_,hE.sub,?_⟩
 obtain rfl:=Option.some.inj h
 exact .g (.q z (.qn z (.ret (fin_ret (vs:=[_]) v12 (rt z rn) z (hS.to [0] z)))))
theorem fer {a0 : Machine} {v_0_Regs : Hd} {v_0_Mem : Hd} {w : World} {r : Machine} (h : f85 a0 = some r) (q_0_Regs : RV w (Old No w) (sv v_0_Regs) 3 1 (D.int .i64) a0.Regs) (q_0_Mem : RV w (Old No w) (sv v_0_Mem) 3 1 (D.int .i64) a0.Mem) : Calls Tryz.prog 49 #[.agg #[(sv v_0_Regs),.int .i64 a0.Pc,(sv v_0_Mem)]] w (Ret No w (fun s : Hd × Hd=>.agg #[(sv s.1),.int .i64 r.Pc,(sv s.2)]) (fun s=>[rowV (sv s.1) 3 1 (D.int .i64) r.Regs,rowV (sv s.2) 3 1 (D.int .i64) r.Mem])):=by
 unfold f85 at h
 refine enter Tryz.func49 z z ?_
 have hS:=Sep.start w
 refine .g (.c (.box hS z z ?_ z z))
 intro g1 W hS
 refine .c (.alloc T.t36 hS ?_ z z z)
 intro g2 W hS
 refine .nil (.seq ?_)
 have ⟨r1,hr1,h⟩:=bnd h
 have ⟨r2,hr2,h⟩:=bnd h
 refine .via (R':=fun x E' W'=>x = .normal ∧ ∃ (v1 : Hd) (v2 : Hd),SubL E' [(2,.pointer (some ⟨g2,0,none⟩))] ∧ Sep No w W' [.box g2 36 [(sv v1),.int .i64 a0.Pc,(sv v2)],.box g1 36 [(sv v_0_Regs),.int .i64 a0.Pc,(sv v_0_Mem)],rowV (sv v1) 3 1 (D.int .i64) r1,rowV (sv v2) 3 1 (D.int .i64) r2]) ?_ ?_
 ·refine .rk 11 hS [0,0] T.mix ?_
  intro W hS
  have hT:=hS.to [0,0] z
  refine .ts 1 z (fun W hT=>fa T.f36_0 z z z) hT z (by kernel_rfl) (.ts 2 z (fun W hT=>ld T.t25 hT.p1 z z z z z) hT z (by kernel_rfl) (.ts 4 z (fun W hT=>fa T.f36_1 z z z) hT z (by kernel_rfl) (.ts 5 z (fun W hT=>ld T.t3 hT.p1 z z z z z) hT z (by kernel_rfl) (.ts 7 z (fun W hT=>fa T.f36_2 z z z) hT z (by kernel_rfl) (.ts 8 z (fun W hT=>ld T.t25 hT.p1 z z z z z) hT z (by kernel_rfl) (.by [0,6] ⟨⟨_,z,?_⟩,⟨_,z,?_⟩,trivial⟩ (by kernel_rfl) z))))))
  ·refine (.liv [] (D.int .i64) T.u25 T.t3 hS z z z z ?_ z (fun _=>z) z z z z)
   intro v3 W hS
   have hT:=hS.to [1,1] z
   refine ⟨fun _=>hT,.by [3,6] ⟨⟨_,z,?_⟩,⟨_,z,?_⟩,trivial⟩ (by kernel_rfl) z⟩
   ·refine (.apprv hr1 hS (hS.keep q_0_Regs) (fun _=>z) T.u25 T.t3 z z z ?_ z z z z z)
    intro v4 W hS
    have hT:=hS.to [1,1] z
    refine ⟨fun _=>hT,.by1 6 z (.liv [] (D.int .i64) T.u25 T.t3 hS z z z z ?_ z (fun _=>z) z z z z) (by kernel_rfl)⟩
    intro v5 W hS
    have hT:=hS.to [2,2] z
    refine ⟨fun _=>hT,.by1 9 z (.apprv hr2 hS (hS.keep q_0_Mem) (fun _=>z) T.u25 T.t3 z z z ?_ z z z z z) (by kernel_rfl)⟩
    intro v6 W hS
    have hT:=hS.to [2,2] z
    refine ⟨fun _=>hT,.ts 10 z (fun W hT=>bs T.s36 z z) hT z (by kernel_rfl) (.by1 11 z (.st T.t36 hS.p2 z z z ?_ z z z z z) (by kernel_rfl))⟩
    intro W hS
    refine ⟨fun h=>absurd z h,?_⟩
    exact .done (⟨z,v4,v6,sb z,hS.to [0,2,1,0] z⟩) (by kernel_rfl)
   refine (.liv [] (D.int .i64) T.u25 T.t3 hS z z z z ?_ z (fun _=>z) z z z z)
   intro v7 W hS
   have hT:=hS.to [2,2] z
   refine ⟨fun _=>hT,.by1 3 z (.apprv hr1 hS.p1 (hS.keep q_0_Regs) (fun _=>z) T.u25 T.t3 z z z ?_ z z z z z) (by kernel_rfl)⟩
   intro v8 W hS
   have hT:=hS.to [2,2] z
   refine ⟨fun _=>hT,.by1 9 z (.apprv hr2 hS.p1 (hS.keep q_0_Mem) (fun _=>z) T.u25 T.t3 z z z ?_ z z z z z) (by kernel_rfl)⟩
   intro v9 W hS
   have hT:=hS.to [2,2] z
   refine ⟨fun _=>hT,.ts 10 z (fun W hT=>bs T.s36 z z) hT z (by kernel_rfl) (.by1 11 z (.st T.t36 hS.p2 z z z ?_ z z z z z) (by kernel_rfl))⟩
   intro W hS
   refine ⟨fun h=>absurd z h,?_⟩
   exact .done (⟨z,v8,v9,sb z,hS.to [0,2,1,0] z⟩) (by kernel_rfl)
  refine (.liv [] (D.int .i64) T.u25 T.t3 hS z z z z ?_ z (fun _=>z) z z z z)
  intro v10 W hS
  have hT:=hS.to [1,1] z
  refine ⟨fun _=>hT,.by1 0 z (.liv [] (D.int .i64) T.u25 T.t3 hS z z z z ?_ z (fun _=>z) z z z z) (by kernel_rfl)⟩
  intro v11 W hS
  have hT:=hS.to [2,2] z
  refine ⟨fun _=>hT,.by1 3 z (.apprv hr1 hS (hS.keep q_0_Regs) (fun _=>z) T.u25 T.t3 z z z ?_ z z z z z) (by kernel_rfl)⟩
  intro v12 W hS
  have hT:=hS.to [2,2] z
  refine ⟨fun _=>hT,.by1 9 z (.apprv hr2 hS.p1 (hS.keep q_0_Mem) (fun _=>z) T.u25 T.t3 z z z ?_ z z z z z) (by kernel_rfl)⟩
  intro v13 W hS
  have hT:=hS.to [2,2] z
  refine ⟨fun _=>hT,.ts 10 z (fun W hT=>bs T.s36 z z) hT z (by kernel_rfl) (.by1 11 z (.st T.t36 hS.p2 z z z ?_ z z z z z) (by kernel_rfl))⟩
  intro W hS
  refine ⟨fun h=>absurd z h,?_⟩
  exact .done (⟨z,v12,v13,sb z,hS.to [0,2,1,0] z⟩) (by kernel_rfl)
 intro x E W hJ
 obtain ⟨rfl,v14,v15,hE,hS⟩:=hJ
 refine ⟨_,hE.sub,?_⟩
 cases h
 exact .ret (fin_ret (vs:=[_]) (v14,v15) (rc hS T.t36 z rn z z) z (hS.to [2,2] z))
theorem fe4 {a0 : Squad} {v_0_Harts : Hd} {v_0_Boxes : Hd} {v_0_Out : Hd} {w : World} {r : Squad} (h : f7t a0 = some r) (q_0_Harts : RV w (Old No w) (sv v_0_Harts) 36 3 dMachine a0.Harts) (q_0_Boxes : RV w (Old No w) (sv v_0_Boxes) 61 2 dBox a0.Boxes) (q_0_Out : RV w (Old No w) (sv v_0_Out) 3 1 (D.int .i64) a0.Out) : Calls Tryz.prog 36 #[.agg #[(sv v_0_Harts),(sv v_0_Boxes),.int .i64 a0.Turn,.int .i64 a0.Idle,(sv v_0_Out)]] w (Ret No w (fun s : Hd × Hd × Hd=>.agg #[(sv s.1),(sv s.2.1),.int .i64 r.Turn,.int .i64 r.Idle,(sv s.2.2)]) (fun s=>[rowV (sv s.1) 36 3 dMachine r.Harts,rowV (sv s.2.1) 61 2 dBox r.Boxes,rowV (sv s.2.2) 3 1 (D.int .i64) r.Out])):=by
 unfold f7t at h
 refine enter Tryz.func36 z z ?_
 have hS:=Sep.start w
 refine .g (.c (.box hS z z ?_ z z))
 intro g1 W hS
 refine .c (.alloc T.t27 hS ?_ z z z)
 intro g2 W hS
 refine .nil (.seq ?_)
 have ⟨y1,hy1,h⟩:=bnd h
 have ⟨r1,hr1,h⟩:=bnd h
 refine .via (R':=fun x E' W'=>x = .normal ∧ ∃ (g3 : Nat) (v1 : Hd) (v2 : Hd) (v3 : Hd),SubL E' [(1,.pointer (some ⟨g1,0,none⟩)),(2,.pointer (some ⟨g2,0,none⟩)),(3,.pointer (some ⟨g3,0,none⟩))] ∧ Sep No w W' [.box g2 27 [(sv nilH),(sv nilH),.int .i64 0,.int .i64 0,(sv nilH)],.box g1 27 [(sv v_0_Harts),(sv v_0_Boxes),.int .i64 a0.Turn,.int .i64 a0.Idle,(sv v_0_Out)],.box g3 27 [(sv v1),(sv v2),.int .i64 a0.Turn,.int .i64 a0.Idle,(sv v3)],rowV (sv v1) 36 3 dMachine [],rowV (sv v2) 61 2 dBox y1,rowV (sv v3) 3 1 (D.int .i64) r1]) ?_ ?_
 ·refine .rk 14 hS [0,0] T.mix ?_
  intro W hS
  have hT:=hS.to [0,0] z
  refine .ts 1 z (fun W hT=>fa T.f27_1 z z z) hT z (by kernel_rfl) (.ts 2 z (fun W hT=>ld T.t24 hT.p1 z z z z z) hT z (by kernel_rfl) (.ts 4 z (fun W hT=>fa T.f27_2 z z z) hT z (by kernel_rfl) (.ts 5 z (fun W hT=>ld T.t3 hT.p1 z z z z z) hT z (by kernel_rfl) (.ts 6 z (fun W hT=>fa T.f27_3 z z z) hT z (by kernel_rfl) (.ts 7 z (fun W hT=>ld T.t3 hT.p1 z z z z z) hT z (by kernel_rfl) (.ts 9 z (fun W hT=>fa T.f27_4 z z z) hT z (by kernel_rfl) (.ts 10 z (fun W hT=>ld T.t25 hT.p1 z z z z z) hT z (by kernel_rfl) (.by [0,3,8,13] ⟨⟨_,z,?_⟩,⟨_,z,?_⟩,⟨_,z,?_⟩,⟨_,z,?_⟩,trivial⟩ (by kernel_rfl) z))))))))
  ·refine (.ligv (L1:=[]) [] dMachine T.u23 T.t36 (hS.to [0,0] z) z z z (.nil) ?_ z (fun _=>z) z z z z z)
   intro v4 W hS
   have hT:=hS.to [1,1] z
   refine ⟨fun _=>hT,.by [3,8,13] ⟨⟨_,z,?_⟩,⟨_,z,?_⟩,⟨_,z,?_⟩,trivial⟩ (by kernel_rfl) z⟩
   ·refine (.call1v hS Tryz.func48 (f0c hy1 (hS.keep q_0_Boxes)) z z ?_ z z z z)
    intro v5 W hS
    have hT:=hS.to [2,2] z
    refine ⟨fun _=>hT,.by [8,13] ⟨⟨_,z,?_⟩,⟨_,z,?_⟩,trivial⟩ (by kernel_rfl) z⟩
    ·refine (.liv [] (D.int .i64) T.u25 T.t3 hS z z z z ?_ z (fun _=>z) z z z z)
     intro v6 W hS
     have hT:=hS.to [3,3] z
     refine ⟨fun _=>hT,.by [11,13] ⟨⟨_,z,?_⟩,⟨_,z,?_⟩,trivial⟩ (by kernel_rfl) z⟩
     ·refine (.apprv hr1 hS (hS.keep q_0_Out) (fun _=>z) T.u25 T.t3 z z z ?_ z z z z z)
      intro v7 W hS
      have hT:=hS.to [3,3] z
      refine ⟨fun _=>hT,.ts 12 z (fun W hT=>bs T.s27 z z) hT z (by kernel_rfl) (.by1 13 z (.alloc T.t27 hS ?_ z z z) (by kernel_rfl))⟩
      intro g4 W hS
      have hT:=hS.to [4,4] z
      refine ⟨fun _=>hT,.by1 14 z (.st T.t27 hS z z z ?_ z z z z z) (by kernel_rfl)⟩
      intro W hS
      refine ⟨fun h=>absurd z h,?_⟩
      exact .done (⟨z,g4,v4,v5,v7,sb z,hS.to [4,4,0,2,1,0] z⟩) (by kernel_rfl)
     refine (.alloc T.t27 hS ?_ z z z)
     intro g5 W hS
     have hT:=hS.to [4,4] z
     refine ⟨fun _=>hT,.by1 11 z (.apprv hr1 hS.p1 (hS.keep q_0_Out) (fun _=>z) T.u25 T.t3 z z z ?_ z z z z z) (by kernel_rfl)⟩
     intro v8 W hS
     have hT:=hS.to [4,4] z
     refine ⟨fun _=>hT,.ts 12 z (fun W hT=>bs T.s27 z z) hT z (by kernel_rfl) (.by1 14 z (.st T.t27 hS.p1 z z z ?_ z z z z z) (by kernel_rfl))⟩
     intro W hS
     refine ⟨fun h=>absurd z h,?_⟩
     exact .done (⟨z,g5,v4,v5,v8,sb z,hS.to [4,4,0,2,1,0] z⟩) (by kernel_rfl)
    refine (.alloc T.t27 hS ?_ z z z)
    intro g6 W hS
    have hT:=hS.to [3,3] z
    refine ⟨fun _=>hT,.by1 8 z (.liv [] (D.int .i64) T.u25 T.t3 hS z z z z ?_ z (fun _=>z) z z z z) (by kernel_rfl)⟩
    intro v9 W hS
    have hT:=hS.to [4,4] z
    refine ⟨fun _=>hT,.by1 11 z (.apprv hr1 hS (hS.keep q_0_Out) (fun _=>z) T.u25 T.t3 z z z ?_ z z z z z) (by kernel_rfl)⟩
    intro v10 W hS
    have hT:=hS.to [4,4] z
    refine ⟨fun _=>hT,.ts 12 z (fun W hT=>bs T.s27 z z) hT z (by kernel_rfl) (.by1 14 z (.st T.t27 hS.p1 z z z ?_ z z z z z) (by kernel_rfl))⟩
    intro W hS
    refine ⟨fun h=>absurd z h,?_⟩
    exact .done (⟨z,g6,v4,v5,v10,sb z,hS.to [4,4,0,2,1,0] z⟩) (by kernel_rfl)
   ·refine (.liv [] (D.int .i64) T.u25 T.t3 hS z z z z ?_ z (fun _=>z) z z z z)
    intro v11 W hS
    have hT:=hS.to [2,2] z
    refine ⟨fun _=>hT,.by [3,13] ⟨⟨_,z,?_⟩,⟨_,z,?_⟩,trivial⟩ (by kernel_rfl) z⟩
    ·refine (.call1v hS Tryz.func48 (f0c hy1 (hS.keep q_0_Boxes)) z z ?_ z z z z)
     intro v12 W hS
     have hT:=hS.to [3,3] z
     refine ⟨fun _=>hT,.by [11,13] ⟨⟨_,z,?_⟩,⟨_,z,?_⟩,trivial⟩ (by kernel_rfl) z⟩
     ·refine (.apprv hr1 hS.p1 (hS.keep q_0_Out) (fun _=>z) T.u25 T.t3 z z z ?_ z z z z z)
      intro v13 W hS
      have hT:=hS.to [3,3] z
      refine ⟨fun _=>hT,.ts 12 z (fun W hT=>bs T.s27 z z) hT z (by kernel_rfl) (.by1 13 z (.alloc T.t27 hS ?_ z z z) (by kernel_rfl))⟩
      intro g7 W hS
      have hT:=hS.to [4,4] z
      refine ⟨fun _=>hT,.by1 14 z (.st T.t27 hS z z z ?_ z z z z z) (by kernel_rfl)⟩
      intro W hS
      refine ⟨fun h=>absurd z h,?_⟩
      exact .done (⟨z,g7,v4,v12,v13,sb z,hS.to [4,4,0,2,1,0] z⟩) (by kernel_rfl)
     refine (.alloc T.t27 hS ?_ z z z)
     intro g8 W hS
     have hT:=hS.to [4,4] z
     refine ⟨fun _=>hT,.by1 11 z (.apprv hr1 hS.p2 (hS.keep q_0_Out) (fun _=>z) T.u25 T.t3 z z z ?_ z z z z z) (by kernel_rfl)⟩
     intro v14 W hS
     have hT:=hS.to [4,4] z
     refine ⟨fun _=>hT,.ts 12 z (fun W hT=>bs T.s27 z z) hT z (by kernel_rfl) (.by1 14 z (.st T.t27 hS.p1 z z z ?_ z z z z z) (by kernel_rfl))⟩
     intro W hS
     refine ⟨fun h=>absurd z h,?_⟩
     exact .done (⟨z,g8,v4,v12,v14,sb z,hS.to [4,4,0,2,1,0] z⟩) (by kernel_rfl)
    refine (.alloc T.t27 hS ?_ z z z)
    intro g9 W hS
    have hT:=hS.to [3,3] z
    refine ⟨fun _=>hT,.by1 3 z (.call1v hS Tryz.func48 (f0c hy1 (hS.keep q_0_Boxes)) z z ?_ z z z z) (by kernel_rfl)⟩
    intro v15 W hS
    have hT:=hS.to [4,4] z
    refine ⟨fun _=>hT,.by1 11 z (.apprv hr1 hS.p2 (hS.keep q_0_Out) (fun _=>z) T.u25 T.t3 z z z ?_ z z z z z) (by kernel_rfl)⟩
    intro v16 W hS
    have hT:=hS.to [4,4] z
    refine ⟨fun _=>hT,.ts 12 z (fun W hT=>bs T.s27 z z) hT z (by kernel_rfl) (.by1 14 z (.st T.t27 hS.p2 z z z ?_ z z z z z) (by kernel_rfl))⟩
    intro W hS
    refine ⟨fun h=>absurd z h,?_⟩
    exact .done (⟨z,g9,v4,v15,v16,sb z,hS.to [4,4,0,2,1,0] z⟩) (by kernel_rfl)
   refine (.alloc T.t27 hS ?_ z z z)
   intro g10 W hS
   have hT:=hS.to [2,2] z
   refine ⟨fun _=>hT,.by [3,8] ⟨⟨_,z,?_⟩,⟨_,z,?_⟩,trivial⟩ (by kernel_rfl) z⟩
   ·refine (.call1v hS Tryz.func48 (f0c hy1 (hS.keep q_0_Boxes)) z z ?_ z z z z)
    intro v17 W hS
    have hT:=hS.to [3,3] z
    refine ⟨fun _=>hT,.by1 8 z (.liv [] (D.int .i64) T.u25 T.t3 hS z z z z ?_ z (fun _=>z) z z z z) (by kernel_rfl)⟩
    intro v18 W hS
    have hT:=hS.to [4,4] z
    refine ⟨fun _=>hT,.by1 11 z (.apprv hr1 hS (hS.keep q_0_Out) (fun _=>z) T.u25 T.t3 z z z ?_ z z z z z) (by kernel_rfl)⟩
    intro v19 W hS
    have hT:=hS.to [4,4] z
    refine ⟨fun _=>hT,.ts 12 z (fun W hT=>bs T.s27 z z) hT z (by kernel_rfl) (.by1 14 z (.st T.t27 hS.p2 z z z ?_ z z z z z) (by kernel_rfl))⟩
    intro W hS
    refine ⟨fun h=>absurd z h,?_⟩
    exact .done (⟨z,g10,v4,v17,v19,sb z,hS.to [4,4,0,2,1,0] z⟩) (by kernel_rfl)
   refine (.liv [] (D.int .i64) T.u25 T.t3 hS z z z z ?_ z (fun _=>z) z z z z)
   intro v20 W hS
   have hT:=hS.to [3,3] z
   refine ⟨fun _=>hT,.by1 3 z (.call1v hS Tryz.func48 (f0c hy1 (hS.keep q_0_Boxes)) z z ?_ z z z z) (by kernel_rfl)⟩
   intro v21 W hS
   have hT:=hS.to [4,4] z
   refine ⟨fun _=>hT,.by1 11 z (.apprv hr1 hS.p1 (hS.keep q_0_Out) (fun _=>z) T.u25 T.t3 z z z ?_ z z z z z) (by kernel_rfl)⟩
   intro v22 W hS
   have hT:=hS.to [4,4] z
   refine ⟨fun _=>hT,.ts 12 z (fun W hT=>bs T.s27 z z) hT z (by kernel_rfl) (.by1 14 z (.st T.t27 hS.p2 z z z ?_ z z z z z) (by kernel_rfl))⟩
   intro W hS
   refine ⟨fun h=>absurd z h,?_⟩
   exact .done (⟨z,g10,v4,v21,v22,sb z,hS.to [4,4,0,2,1,0] z⟩) (by kernel_rfl)
  ·refine (.call1v hS Tryz.func48 (f0c hy1 (hS.keep q_0_Boxes)) z z ?_ z z z z)
   intro v23 W hS
   have hT:=hS.to [1,1] z
   refine ⟨fun _=>hT,.by [0,8,13] ⟨⟨_,z,?_⟩,⟨_,z,?_⟩,⟨_,z,?_⟩,trivial⟩ (by kernel_rfl) z⟩
   ·refine (.ligv (L1:=[]) [] dMachine T.u23 T.t36 (hS.to [0,0,0] z) z z z (.nil) ?_ z (fun _=>z) z z z z z)
    intro v24 W hS
    have hT:=hS.to [2,2] z
    refine ⟨fun _=>hT,.by [8,13] ⟨⟨_,z,?_⟩,⟨_,z,?_⟩,trivial⟩ (by kernel_rfl) z⟩
    ·refine (.liv [] (D.int .i64) T.u25 T.t3 hS z z z z ?_ z (fun _=>z) z z z z)
     intro v25 W hS
     have hT:=hS.to [3,3] z
     refine ⟨fun _=>hT,.by [11,13] ⟨⟨_,z,?_⟩,⟨_,z,?_⟩,trivial⟩ (by kernel_rfl) z⟩
     ·refine (.apprv hr1 hS (hS.keep q_0_Out) (fun _=>z) T.u25 T.t3 z z z ?_ z z z z z)
      intro v26 W hS
      have hT:=hS.to [3,3] z
      refine ⟨fun _=>hT,.ts 12 z (fun W hT=>bs T.s27 z z) hT z (by kernel_rfl) (.by1 13 z (.alloc T.t27 hS ?_ z z z) (by kernel_rfl))⟩
      intro g11 W hS
      have hT:=hS.to [4,4] z
      refine ⟨fun _=>hT,.by1 14 z (.st T.t27 hS z z z ?_ z z z z z) (by kernel_rfl)⟩
      intro W hS
      refine ⟨fun h=>absurd z h,?_⟩
      exact .done (⟨z,g11,v24,v23,v26,sb z,hS.to [4,4,0,1,1,0] z⟩) (by kernel_rfl)
     refine (.alloc T.t27 hS ?_ z z z)
     intro g12 W hS
     have hT:=hS.to [4,4] z
     refine ⟨fun _=>hT,.by1 11 z (.apprv hr1 hS.p1 (hS.keep q_0_Out) (fun _=>z) T.u25 T.t3 z z z ?_ z z z z z) (by kernel_rfl)⟩
     intro v27 W hS
     have hT:=hS.to [4,4] z
     refine ⟨fun _=>hT,.ts 12 z (fun W hT=>bs T.s27 z z) hT z (by kernel_rfl) (.by1 14 z (.st T.t27 hS.p1 z z z ?_ z z z z z) (by kernel_rfl))⟩
     intro W hS
     refine ⟨fun h=>absurd z h,?_⟩
     exact .done (⟨z,g12,v24,v23,v27,sb z,hS.to [4,4,0,1,1,0] z⟩) (by kernel_rfl)
    refine (.alloc T.t27 hS ?_ z z z)
    intro g13 W hS
    have hT:=hS.to [3,3] z
    refine ⟨fun _=>hT,.by1 8 z (.liv [] (D.int .i64) T.u25 T.t3 hS z z z z ?_ z (fun _=>z) z z z z) (by kernel_rfl)⟩
    intro v28 W hS
    have hT:=hS.to [4,4] z
    refine ⟨fun _=>hT,.by1 11 z (.apprv hr1 hS (hS.keep q_0_Out) (fun _=>z) T.u25 T.t3 z z z ?_ z z z z z) (by kernel_rfl)⟩
    intro v29 W hS
    have hT:=hS.to [4,4] z
    refine ⟨fun _=>hT,.ts 12 z (fun W hT=>bs T.s27 z z) hT z (by kernel_rfl) (.by1 14 z (.st T.t27 hS.p1 z z z ?_ z z z z z) (by kernel_rfl))⟩
    intro W hS
    refine ⟨fun h=>absurd z h,?_⟩
    exact .done (⟨z,g13,v24,v23,v29,sb z,hS.to [4,4,0,1,1,0] z⟩) (by kernel_rfl)
   ·refine (.liv [] (D.int .i64) T.u25 T.t3 hS z z z z ?_ z (fun _=>z) z z z z)
    intro v30 W hS
    have hT:=hS.to [2,2] z
    refine ⟨fun _=>hT,.by [0,11,13] ⟨⟨_,z,?_⟩,⟨_,z,?_⟩,⟨_,z,?_⟩,trivial⟩ (by kernel_rfl) z⟩
    ·refine (.ligv (L1:=[]) [] dMachine T.u23 T.t36 (hS.to [0,0,0,0] z) z z z (.nil) ?_ z (fun _=>z) z z z z z)
     intro v31 W hS
     have hT:=hS.to [3,3] z
     refine ⟨fun _=>hT,.by [11,13] ⟨⟨_,z,?_⟩,⟨_,z,?_⟩,trivial⟩ (by kernel_rfl) z⟩
     ·refine (.apprv hr1 hS.p1 (hS.keep q_0_Out) (fun _=>z) T.u25 T.t3 z z z ?_ z z z z z)
      intro v32 W hS
      have hT:=hS.to [3,3] z
      refine ⟨fun _=>hT,.ts 12 z (fun W hT=>bs T.s27 z z) hT z (by kernel_rfl) (.by1 13 z (.alloc T.t27 hS ?_ z z z) (by kernel_rfl))⟩
      intro g14 W hS
      have hT:=hS.to [4,4] z
      refine ⟨fun _=>hT,.by1 14 z (.st T.t27 hS z z z ?_ z z z z z) (by kernel_rfl)⟩
      intro W hS
      refine ⟨fun h=>absurd z h,?_⟩
      exact .done (⟨z,g14,v31,v23,v32,sb z,hS.to [4,4,0,1,1,0] z⟩) (by kernel_rfl)
     refine (.alloc T.t27 hS ?_ z z z)
     intro g15 W hS
     have hT:=hS.to [4,4] z
     refine ⟨fun _=>hT,.by1 11 z (.apprv hr1 hS.p2 (hS.keep q_0_Out) (fun _=>z) T.u25 T.t3 z z z ?_ z z z z z) (by kernel_rfl)⟩
     intro v33 W hS
     have hT:=hS.to [4,4] z
     refine ⟨fun _=>hT,.ts 12 z (fun W hT=>bs T.s27 z z) hT z (by kernel_rfl) (.by1 14 z (.st T.t27 hS.p1 z z z ?_ z z z z z) (by kernel_rfl))⟩
     intro W hS
     refine ⟨fun h=>absurd z h,?_⟩
     exact .done (⟨z,g15,v31,v23,v33,sb z,hS.to [4,4,0,1,1,0] z⟩) (by kernel_rfl)
    ·refine (.apprv hr1 hS (hS.keep q_0_Out) (fun _=>z) T.u25 T.t3 z z z ?_ z z z z z)
     intro v34 W hS
     have hT:=hS.to [2,2] z
     refine ⟨fun _=>hT,.by [0,13] ⟨⟨_,z,?_⟩,⟨_,z,?_⟩,trivial⟩ (by kernel_rfl) z⟩
     ·refine (.ligv (L1:=[]) [] dMachine T.u23 T.t36 (hS.to [0,0,0,0] z) z z z (.nil) ?_ z (fun _=>z) z z z z z)
      intro v35 W hS
      have hT:=hS.to [3,3] z
      refine ⟨fun _=>hT,.ts 12 z (fun W hT=>bs T.s27 z z) hT z (by kernel_rfl) (.by1 13 z (.alloc T.t27 hS ?_ z z z) (by kernel_rfl))⟩
      intro g16 W hS
      have hT:=hS.to [4,4] z
      refine ⟨fun _=>hT,.by1 14 z (.st T.t27 hS z z z ?_ z z z z z) (by kernel_rfl)⟩
      intro W hS
      refine ⟨fun h=>absurd z h,?_⟩
      exact .done (⟨z,g16,v35,v23,v34,sb z,hS.to [4,4,0,0,1,0] z⟩) (by kernel_rfl)
     refine (.alloc T.t27 hS ?_ z z z)
     intro g17 W hS
     have hT:=hS.to [3,3] z
     refine ⟨fun _=>hT,.by1 0 z (.ligv (L1:=[]) [] dMachine T.u23 T.t36 (hS.to [0,0,0,0,0] z) z z z (.nil) ?_ z (fun _=>z) z z z z z) (by kernel_rfl)⟩
     intro v36 W hS
     have hT:=hS.to [4,4] z
     refine ⟨fun _=>hT,.ts 12 z (fun W hT=>bs T.s27 z z) hT z (by kernel_rfl) (.by1 14 z (.st T.t27 hS.p1 z z z ?_ z z z z z) (by kernel_rfl))⟩
     intro W hS
     refine ⟨fun h=>absurd z h,?_⟩
     exact .done (⟨z,g17,v36,v23,v34,sb z,hS.to [4,4,0,0,1,0] z⟩) (by kernel_rfl)
    refine (.alloc T.t27 hS ?_ z z z)
    intro g18 W hS
    have hT:=hS.to [3,3] z
    refine ⟨fun _=>hT,.by [0,11] ⟨⟨_,z,?_⟩,⟨_,z,?_⟩,trivial⟩ (by kernel_rfl) z⟩
    ·refine (.ligv (L1:=[]) [] dMachine T.u23 T.t36 (hS.to [0,0,0,0,0] z) z z z (.nil) ?_ z (fun _=>z) z z z z z)
     intro v37 W hS
     have hT:=hS.to [4,4] z
     refine ⟨fun _=>hT,.by1 11 z (.apprv hr1 hS.p2 (hS.keep q_0_Out) (fun _=>z) T.u25 T.t3 z z z ?_ z z z z z) (by kernel_rfl)⟩
     intro v38 W hS
     have hT:=hS.to [4,4] z
     refine ⟨fun _=>hT,.ts 12 z (fun W hT=>bs T.s27 z z) hT z (by kernel_rfl) (.by1 14 z (.st T.t27 hS.p2 z z z ?_ z z z z z) (by kernel_rfl))⟩
     intro W hS
     refine ⟨fun h=>absurd z h,?_⟩
     exact .done (⟨z,g18,v37,v23,v38,sb z,hS.to [4,4,0,1,1,0] z⟩) (by kernel_rfl)
    refine (.apprv hr1 hS.p1 (hS.keep q_0_Out) (fun _=>z) T.u25 T.t3 z z z ?_ z z z z z)
    intro v39 W hS
    have hT:=hS.to [3,3] z
    refine ⟨fun _=>hT,.by1 0 z (.ligv (L1:=[]) [] dMachine T.u23 T.t36 (hS.to [0,0,0,0,0] z) z z z (.nil) ?_ z (fun _=>z) z z z z z) (by kernel_rfl)⟩
    intro v40 W hS
    have hT:=hS.to [4,4] z
    refine ⟨fun _=>hT,.ts 12 z (fun W hT=>bs T.s27 z z) hT z (by kernel_rfl) (.by1 14 z (.st T.t27 hS.p2 z z z ?_ z z z z z) (by kernel_rfl))⟩
    intro W hS
    refine ⟨fun h=>absurd z h,?_⟩
    exact .done (⟨z,g18,v40,v23,v39,sb z,hS.to [4,4,0,0,1,0] z⟩) (by kernel_rfl)
   refine (.alloc T.t27 hS ?_ z z z)
   intro g19 W hS
   have hT:=hS.to [2,2] z
   refine ⟨fun _=>hT,.by [0,8] ⟨⟨_,z,?_⟩,⟨_,z,?_⟩,trivial⟩ (by kernel_rfl) z⟩
   ·refine (.ligv (L1:=[]) [] dMachine T.u23 T.t36 (hS.to [0,0,0,0] z) z z z (.nil) ?_ z (fun _=>z) z z z z z)
    intro v41 W hS
    have hT:=hS.to [3,3] z
    refine ⟨fun _=>hT,.by1 8 z (.liv [] (D.int .i64) T.u25 T.t3 hS z z z z ?_ z (fun _=>z) z z z z) (by kernel_rfl)⟩
    intro v42 W hS
    have hT:=hS.to [4,4] z
    refine ⟨fun _=>hT,.by1 11 z (.apprv hr1 hS (hS.keep q_0_Out) (fun _=>z) T.u25 T.t3 z z z ?_ z z z z z) (by kernel_rfl)⟩
    intro v43 W hS
    have hT:=hS.to [4,4] z
    refine ⟨fun _=>hT,.ts 12 z (fun W hT=>bs T.s27 z z) hT z (by kernel_rfl) (.by1 14 z (.st T.t27 hS.p2 z z z ?_ z z z z z) (by kernel_rfl))⟩
    intro W hS
    refine ⟨fun h=>absurd z h,?_⟩
    exact .done (⟨z,g19,v41,v23,v43,sb z,hS.to [4,4,0,1,1,0] z⟩) (by kernel_rfl)
   refine (.liv [] (D.int .i64) T.u25 T.t3 hS z z z z ?_ z (fun _=>z) z z z z)
   intro v44 W hS
   have hT:=hS.to [3,3] z
   refine ⟨fun _=>hT,.by [0,11] ⟨⟨_,z,?_⟩,⟨_,z,?_⟩,trivial⟩ (by kernel_rfl) z⟩
   ·refine (.ligv (L1:=[]) [] dMachine T.u23 T.t36 (hS.to [0,0,0,0,0] z) z z z (.nil) ?_ z (fun _=>z) z z z z z)
    intro v45 W hS
    have hT:=hS.to [4,4] z
    refine ⟨fun _=>hT,.by1 11 z (.apprv hr1 hS.p1 (hS.keep q_0_Out) (fun _=>z) T.u25 T.t3 z z z ?_ z z z z z) (by kernel_rfl)⟩
    intro v46 W hS
    have hT:=hS.to [4,4] z
    refine ⟨fun _=>hT,.ts 12 z (fun W hT=>bs T.s27 z z) hT z (by kernel_rfl) (.by1 14 z (.st T.t27 hS.p2 z z z ?_ z z z z z) (by kernel_rfl))⟩
    intro W hS
    refine ⟨fun h=>absurd z h,?_⟩
    exact .done (⟨z,g19,v45,v23,v46,sb z,hS.to [4,4,0,1,1,0] z⟩) (by kernel_rfl)
   refine (.apprv hr1 hS (hS.keep q_0_Out) (fun _=>z) T.u25 T.t3 z z z ?_ z z z z z)
   intro v47 W hS
   have hT:=hS.to [3,3] z
   refine ⟨fun _=>hT,.by1 0 z (.ligv (L1:=[]) [] dMachine T.u23 T.t36 (hS.to [0,0,0,0,0] z) z z z (.nil) ?_ z (fun _=>z) z z z z z) (by kernel_rfl)⟩
   intro v48 W hS
   have hT:=hS.to [4,4] z
   refine ⟨fun _=>hT,.ts 12 z (fun W hT=>bs T.s27 z z) hT z (by kernel_rfl) (.by1 14 z (.st T.t27 hS.p2 z z z ?_ z z z z z) (by kernel_rfl))⟩
   intro W hS
   refine ⟨fun h=>absurd z h,?_⟩
   exact .done (⟨z,g19,v48,v23,v47,sb z,hS.to [4,4,0,0,1,0] z⟩) (by kernel_rfl)
  ·refine (.liv [] (D.int .i64) T.u25 T.t3 hS z z z z ?_ z (fun _=>z) z z z z)
   intro v49 W hS
   have hT:=hS.to [1,1] z
   refine ⟨fun _=>hT,.by [0,3,13] ⟨⟨_,z,?_⟩,⟨_,z,?_⟩,⟨_,z,?_⟩,trivial⟩ (by kernel_rfl) z⟩
   ·refine (.ligv (L1:=[]) [] dMachine T.u23 T.t36 (hS.to [0,0,0] z) z z z (.nil) ?_ z (fun _=>z) z z z z z)
    intro v50 W hS
    have hT:=hS.to [2,2] z
    refine ⟨fun _=>hT,.by [3,13] ⟨⟨_,z,?_⟩,⟨_,z,?_⟩,trivial⟩ (by kernel_rfl) z⟩
    ·refine (.call1v hS Tryz.func48 (f0c hy1 (hS.keep q_0_Boxes)) z z ?_ z z z z)
     intro v51 W hS
     have hT:=hS.to [3,3] z
     refine ⟨fun _=>hT,.by [11,13] ⟨⟨_,z,?_⟩,⟨_,z,?_⟩,trivial⟩ (by kernel_rfl) z⟩
     ·refine (.apprv hr1 hS.p2 (hS.keep q_0_Out) (fun _=>z) T.u25 T.t3 z z z ?_ z z z z z)
      intro v52 W hS
      have hT:=hS.to [3,3] z
      refine ⟨fun _=>hT,.ts 12 z (fun W hT=>bs T.s27 z z) hT z (by kernel_rfl) (.by1 13 z (.alloc T.t27 hS ?_ z z z) (by kernel_rfl))⟩
      intro g20 W hS
      have hT:=hS.to [4,4] z
      refine ⟨fun _=>hT,.by1 14 z (.st T.t27 hS z z z ?_ z z z z z) (by kernel_rfl)⟩
      intro W hS
      refine ⟨fun h=>absurd z h,?_⟩
      exact .done (⟨z,g20,v50,v51,v52,sb z,hS.to [4,4,0,2,1,0] z⟩) (by kernel_rfl)
     refine (.alloc T.t27 hS ?_ z z z)
     intro g21 W hS
     have hT:=hS.to [4,4] z
     refine ⟨fun _=>hT,.by1 11 z (.apprv hr1 hS.p3 (hS.keep q_0_Out) (fun _=>z) T.u25 T.t3 z z z ?_ z z z z z) (by kernel_rfl)⟩
     intro v53 W hS
     have hT:=hS.to [4,4] z
     refine ⟨fun _=>hT,.ts 12 z (fun W hT=>bs T.s27 z z) hT z (by kernel_rfl) (.by1 14 z (.st T.t27 hS.p1 z z z ?_ z z z z z) (by kernel_rfl))⟩
     intro W hS
     refine ⟨fun h=>absurd z h,?_⟩
     exact .done (⟨z,g21,v50,v51,v53,sb z,hS.to [4,4,0,2,1,0] z⟩) (by kernel_rfl)
    refine (.alloc T.t27 hS ?_ z z z)
    intro g22 W hS
    have hT:=hS.to [3,3] z
    refine ⟨fun _=>hT,.by1 3 z (.call1v hS Tryz.func48 (f0c hy1 (hS.keep q_0_Boxes)) z z ?_ z z z z) (by kernel_rfl)⟩
    intro v54 W hS
    have hT:=hS.to [4,4] z
    refine ⟨fun _=>hT,.by1 11 z (.apprv hr1 hS.p3 (hS.keep q_0_Out) (fun _=>z) T.u25 T.t3 z z z ?_ z z z z z) (by kernel_rfl)⟩
    intro v55 W hS
    have hT:=hS.to [4,4] z
    refine ⟨fun _=>hT,.ts 12 z (fun W hT=>bs T.s27 z z) hT z (by kernel_rfl) (.by1 14 z (.st T.t27 hS.p2 z z z ?_ z z z z z) (by kernel_rfl))⟩
    intro W hS
    refine ⟨fun h=>absurd z h,?_⟩
    exact .done (⟨z,g22,v50,v54,v55,sb z,hS.to [4,4,0,2,1,0] z⟩) (by kernel_rfl)
   ·refine (.call1v hS Tryz.func48 (f0c hy1 (hS.keep q_0_Boxes)) z z ?_ z z z z)
    intro v56 W hS
    have hT:=hS.to [2,2] z
    refine ⟨fun _=>hT,.by [0,11,13] ⟨⟨_,z,?_⟩,⟨_,z,?_⟩,⟨_,z,?_⟩,trivial⟩ (by kernel_rfl) z⟩
    ·refine (.ligv (L1:=[]) [] dMachine T.u23 T.t36 (hS.to [0,0,0,0] z) z z z (.nil) ?_ z (fun _=>z) z z z z z)
     intro v57 W hS
     have hT:=hS.to [3,3] z
     refine ⟨fun _=>hT,.by [11,13] ⟨⟨_,z,?_⟩,⟨_,z,?_⟩,trivial⟩ (by kernel_rfl) z⟩
     ·refine (.apprv hr1 hS.p2 (hS.keep q_0_Out) (fun _=>z) T.u25 T.t3 z z z ?_ z z z z z)
      intro v58 W hS
      have hT:=hS.to [3,3] z
      refine ⟨fun _=>hT,.ts 12 z (fun W hT=>bs T.s27 z z) hT z (by kernel_rfl) (.by1 13 z (.alloc T.t27 hS ?_ z z z) (by kernel_rfl))⟩
      intro g23 W hS
      have hT:=hS.to [4,4] z
      refine ⟨fun _=>hT,.by1 14 z (.st T.t27 hS z z z ?_ z z z z z) (by kernel_rfl)⟩
      intro W hS
      refine ⟨fun h=>absurd z h,?_⟩
      exact .done (⟨z,g23,v57,v56,v58,sb z,hS.to [4,4,0,1,1,0] z⟩) (by kernel_rfl)
     refine (.alloc T.t27 hS ?_ z z z)
     intro g24 W hS
     have hT:=hS.to [4,4] z
     refine ⟨fun _=>hT,.by1 11 z (.apprv hr1 hS.p3 (hS.keep q_0_Out) (fun _=>z) T.u25 T.t3 z z z ?_ z z z z z) (by kernel_rfl)⟩
     intro v59 W hS
     have hT:=hS.to [4,4] z
     refine ⟨fun _=>hT,.ts 12 z (fun W hT=>bs T.s27 z z) hT z (by kernel_rfl) (.by1 14 z (.st T.t27 hS.p1 z z z ?_ z z z z z) (by kernel_rfl))⟩
     intro W hS
     refine ⟨fun h=>absurd z h,?_⟩
     exact .done (⟨z,g24,v57,v56,v59,sb z,hS.to [4,4,0,1,1,0] z⟩) (by kernel_rfl)
    ·refine (.apprv hr1 hS.p1 (hS.keep q_0_Out) (fun _=>z) T.u25 T.t3 z z z ?_ z z z z z)
     intro v60 W hS
     have hT:=hS.to [2,2] z
     refine ⟨fun _=>hT,.by [0,13] ⟨⟨_,z,?_⟩,⟨_,z,?_⟩,trivial⟩ (by kernel_rfl) z⟩
     ·refine (.ligv (L1:=[]) [] dMachine T.u23 T.t36 (hS.to [0,0,0,0] z) z z z (.nil) ?_ z (fun _=>z) z z z z z)
      intro v61 W hS
      have hT:=hS.to [3,3] z
      refine ⟨fun _=>hT,.ts 12 z (fun W hT=>bs T.s27 z z) hT z (by kernel_rfl) (.by1 13 z (.alloc T.t27 hS ?_ z z z) (by kernel_rfl))⟩
      intro g25 W hS
      have hT:=hS.to [4,4] z
      refine ⟨fun _=>hT,.by1 14 z (.st T.t27 hS z z z ?_ z z z z z) (by kernel_rfl)⟩
      intro W hS
      refine ⟨fun h=>absurd z h,?_⟩
      exact .done (⟨z,g25,v61,v56,v60,sb z,hS.to [4,4,0,0,1,0] z⟩) (by kernel_rfl)
     refine (.alloc T.t27 hS ?_ z z z)
     intro g26 W hS
     have hT:=hS.to [3,3] z
     refine ⟨fun _=>hT,.by1 0 z (.ligv (L1:=[]) [] dMachine T.u23 T.t36 (hS.to [0,0,0,0,0] z) z z z (.nil) ?_ z (fun _=>z) z z z z z) (by kernel_rfl)⟩
     intro v62 W hS
     have hT:=hS.to [4,4] z
     refine ⟨fun _=>hT,.ts 12 z (fun W hT=>bs T.s27 z z) hT z (by kernel_rfl) (.by1 14 z (.st T.t27 hS.p1 z z z ?_ z z z z z) (by kernel_rfl))⟩
     intro W hS
     refine ⟨fun h=>absurd z h,?_⟩
     exact .done (⟨z,g26,v62,v56,v60,sb z,hS.to [4,4,0,0,1,0] z⟩) (by kernel_rfl)
    refine (.alloc T.t27 hS ?_ z z z)
    intro g27 W hS
    have hT:=hS.to [3,3] z
    refine ⟨fun _=>hT,.by [0,11] ⟨⟨_,z,?_⟩,⟨_,z,?_⟩,trivial⟩ (by kernel_rfl) z⟩
    ·refine (.ligv (L1:=[]) [] dMachine T.u23 T.t36 (hS.to [0,0,0,0,0] z) z z z (.nil) ?_ z (fun _=>z) z z z z z)
     intro v63 W hS
     have hT:=hS.to [4,4] z
     refine ⟨fun _=>hT,.by1 11 z (.apprv hr1 hS.p3 (hS.keep q_0_Out) (fun _=>z) T.u25 T.t3 z z z ?_ z z z z z) (by kernel_rfl)⟩
     intro v64 W hS
     have hT:=hS.to [4,4] z
     refine ⟨fun _=>hT,.ts 12 z (fun W hT=>bs T.s27 z z) hT z (by kernel_rfl) (.by1 14 z (.st T.t27 hS.p2 z z z ?_ z z z z z) (by kernel_rfl))⟩
     intro W hS
     refine ⟨fun h=>absurd z h,?_⟩
     exact .done (⟨z,g27,v63,v56,v64,sb z,hS.to [4,4,0,1,1,0] z⟩) (by kernel_rfl)
    refine (.apprv hr1 hS.p2 (hS.keep q_0_Out) (fun _=>z) T.u25 T.t3 z z z ?_ z z z z z)
    intro v65 W hS
    have hT:=hS.to [3,3] z
    refine ⟨fun _=>hT,.by1 0 z (.ligv (L1:=[]) [] dMachine T.u23 T.t36 (hS.to [0,0,0,0,0] z) z z z (.nil) ?_ z (fun _=>z) z z z z z) (by kernel_rfl)⟩
    intro v66 W hS
    have hT:=hS.to [4,4] z
    refine ⟨fun _=>hT,.ts 12 z (fun W hT=>bs T.s27 z z) hT z (by kernel_rfl) (.by1 14 z (.st T.t27 hS.p2 z z z ?_ z z z z z) (by kernel_rfl))⟩
    intro W hS
    refine ⟨fun h=>absurd z h,?_⟩
    exact .done (⟨z,g27,v66,v56,v65,sb z,hS.to [4,4,0,0,1,0] z⟩) (by kernel_rfl)
   refine (.alloc T.t27 hS ?_ z z z)
   intro g28 W hS
   have hT:=hS.to [2,2] z
   refine ⟨fun _=>hT,.by [0,3] ⟨⟨_,z,?_⟩,⟨_,z,?_⟩,trivial⟩ (by kernel_rfl) z⟩
   ·refine (.ligv (L1:=[]) [] dMachine T.u23 T.t36 (hS.to [0,0,0,0] z) z z z (.nil) ?_ z (fun _=>z) z z z z z)
    intro v67 W hS
    have hT:=hS.to [3,3] z
    refine ⟨fun _=>hT,.by1 3 z (.call1v hS Tryz.func48 (f0c hy1 (hS.keep q_0_Boxes)) z z ?_ z z z z) (by kernel_rfl)⟩
    intro v68 W hS
    have hT:=hS.to [4,4] z
    refine ⟨fun _=>hT,.by1 11 z (.apprv hr1 hS.p3 (hS.keep q_0_Out) (fun _=>z) T.u25 T.t3 z z z ?_ z z z z z) (by kernel_rfl)⟩
    intro v69 W hS
    have hT:=hS.to [4,4] z
    refine ⟨fun _=>hT,.ts 12 z (fun W hT=>bs T.s27 z z) hT z (by kernel_rfl) (.by1 14 z (.st T.t27 hS.p3 z z z ?_ z z z z z) (by kernel_rfl))⟩
    intro W hS
    refine ⟨fun h=>absurd z h,?_⟩
    exact .done (⟨z,g28,v67,v68,v69,sb z,hS.to [4,4,0,2,1,0] z⟩) (by kernel_rfl)
   refine (.call1v hS Tryz.func48 (f0c hy1 (hS.keep q_0_Boxes)) z z ?_ z z z z)
   intro v70 W hS
   have hT:=hS.to [3,3] z
   refine ⟨fun _=>hT,.by [0,11] ⟨⟨_,z,?_⟩,⟨_,z,?_⟩,trivial⟩ (by kernel_rfl) z⟩
   ·refine (.ligv (L1:=[]) [] dMachine T.u23 T.t36 (hS.to [0,0,0,0,0] z) z z z (.nil) ?_ z (fun _=>z) z z z z z)
    intro v71 W hS
    have hT:=hS.to [4,4] z
    refine ⟨fun _=>hT,.by1 11 z (.apprv hr1 hS.p3 (hS.keep q_0_Out) (fun _=>z) T.u25 T.t3 z z z ?_ z z z z z) (by kernel_rfl)⟩
    intro v72 W hS
    have hT:=hS.to [4,4] z
    refine ⟨fun _=>hT,.ts 12 z (fun W hT=>bs T.s27 z z) hT z (by kernel_rfl) (.by1 14 z (.st T.t27 hS.p3 z z z ?_ z z z z z) (by kernel_rfl))⟩
    intro W hS
    refine ⟨fun h=>absurd z h,?_⟩
    exact .done (⟨z,g28,v71,v70,v72,sb z,hS.to [4,4,0,1,1,0] z⟩) (by kernel_rfl)
   refine (.apprv hr1 hS.p2 (hS.keep q_0_Out) (fun _=>z) T.u25 T.t3 z z z ?_ z z z z z)
   intro v73 W hS
   have hT:=hS.to [3,3] z
   refine ⟨fun _=>hT,.by1 0 z (.ligv (L1:=[]) [] dMachine T.u23 T.t36 (hS.to [0,0,0,0,0] z) z z z (.nil) ?_ z (fun _=>z) z z z z z) (by kernel_rfl)⟩
   intro v74 W hS
   have hT:=hS.to [4,4] z
   refine ⟨fun _=>hT,.ts 12 z (fun W hT=>bs T.s27 z z) hT z (by kernel_rfl) (.by1 14 z (.st T.t27 hS.p3 z z z ?_ z z z z z) (by kernel_rfl))⟩
   intro W hS
   refine ⟨fun h=>absurd z h,?_⟩
   exact .done (⟨z,g28,v74,v70,v73,sb z,hS.to [4,4,0,0,1,0] z⟩) (by kernel_rfl)
  refine (.alloc T.t27 hS ?_ z z z)
  intro g29 W hS
  have hT:=hS.to [1,1] z
  refine ⟨fun _=>hT,.by [0,3,8] ⟨⟨_,z,?_⟩,⟨_,z,?_⟩,⟨_,z,?_⟩,trivial⟩ (by kernel_rfl) z⟩
  ·refine (.ligv (L1:=[]) [] dMachine T.u23 T.t36 (hS.to [0,0,0] z) z z z (.nil) ?_ z (fun _=>z) z z z z z)
   intro v75 W hS
   have hT:=hS.to [2,2] z
   refine ⟨fun _=>hT,.by [3,8] ⟨⟨_,z,?_⟩,⟨_,z,?_⟩,trivial⟩ (by kernel_rfl) z⟩
   ·refine (.call1v hS Tryz.func48 (f0c hy1 (hS.keep q_0_Boxes)) z z ?_ z z z z)
    intro v76 W hS
    have hT:=hS.to [3,3] z
    refine ⟨fun _=>hT,.by1 8 z (.liv [] (D.int .i64) T.u25 T.t3 hS z z z z ?_ z (fun _=>z) z z z z) (by kernel_rfl)⟩
    intro v77 W hS
    have hT:=hS.to [4,4] z
    refine ⟨fun _=>hT,.by1 11 z (.apprv hr1 hS (hS.keep q_0_Out) (fun _=>z) T.u25 T.t3 z z z ?_ z z z z z) (by kernel_rfl)⟩
    intro v78 W hS
    have hT:=hS.to [4,4] z
    refine ⟨fun _=>hT,.ts 12 z (fun W hT=>bs T.s27 z z) hT z (by kernel_rfl) (.by1 14 z (.st T.t27 hS.p3 z z z ?_ z z z z z) (by kernel_rfl))⟩
    intro W hS
    refine ⟨fun h=>absurd z h,?_⟩
    exact .done (⟨z,g29,v75,v76,v78,sb z,hS.to [4,4,0,2,1,0] z⟩) (by kernel_rfl)
   refine (.liv [] (D.int .i64) T.u25 T.t3 hS z z z z ?_ z (fun _=>z) z z z z)
   intro v79 W hS
   have hT:=hS.to [3,3] z
   refine ⟨fun _=>hT,.by1 3 z (.call1v hS Tryz.func48 (f0c hy1 (hS.keep q_0_Boxes)) z z ?_ z z z z) (by kernel_rfl)⟩
   intro v80 W hS
   have hT:=hS.to [4,4] z
   refine ⟨fun _=>hT,.by1 11 z (.apprv hr1 hS.p1 (hS.keep q_0_Out) (fun _=>z) T.u25 T.t3 z z z ?_ z z z z z) (by kernel_rfl)⟩
   intro v81 W hS
   have hT:=hS.to [4,4] z
   refine ⟨fun _=>hT,.ts 12 z (fun W hT=>bs T.s27 z z) hT z (by kernel_rfl) (.by1 14 z (.st T.t27 hS.p3 z z z ?_ z z z z z) (by kernel_rfl))⟩
   intro W hS
   refine ⟨fun h=>absurd z h,?_⟩
   exact .done (⟨z,g29,v75,v80,v81,sb z,hS.to [4,4,0,2,1,0] z⟩) (by kernel_rfl)
  ·refine (.call1v hS Tryz.func48 (f0c hy1 (hS.keep q_0_Boxes)) z z ?_ z z z z)
   intro v82 W hS
   have hT:=hS.to [2,2] z
   refine ⟨fun _=>hT,.by [0,8] ⟨⟨_,z,?_⟩,⟨_,z,?_⟩,trivial⟩ (by kernel_rfl) z⟩
   ·refine (.ligv (L1:=[]) [] dMachine T.u23 T.t36 (hS.to [0,0,0,0] z) z z z (.nil) ?_ z (fun _=>z) z z z z z)
    intro v83 W hS
    have hT:=hS.to [3,3] z
    refine ⟨fun _=>hT,.by1 8 z (.liv [] (D.int .i64) T.u25 T.t3 hS z z z z ?_ z (fun _=>z) z z z z) (by kernel_rfl)⟩
    intro v84 W hS
    have hT:=hS.to [4,4] z
    refine ⟨fun _=>hT,.by1 11 z (.apprv hr1 hS (hS.keep q_0_Out) (fun _=>z) T.u25 T.t3 z z z ?_ z z z z z) (by kernel_rfl)⟩
    intro v85 W hS
    have hT:=hS.to [4,4] z
    refine ⟨fun _=>hT,.ts 12 z (fun W hT=>bs T.s27 z z) hT z (by kernel_rfl) (.by1 14 z (.st T.t27 hS.p3 z z z ?_ z z z z z) (by kernel_rfl))⟩
    intro W hS
    refine ⟨fun h=>absurd z h,?_⟩
    exact .done (⟨z,g29,v83,v82,v85,sb z,hS.to [4,4,0,1,1,0] z⟩) (by kernel_rfl)
   refine (.liv [] (D.int .i64) T.u25 T.t3 hS z z z z ?_ z (fun _=>z) z z z z)
   intro v86 W hS
   have hT:=hS.to [3,3] z
   refine ⟨fun _=>hT,.by [0,11] ⟨⟨_,z,?_⟩,⟨_,z,?_⟩,trivial⟩ (by kernel_rfl) z⟩
   ·refine (.ligv (L1:=[]) [] dMachine T.u23 T.t36 (hS.to [0,0,0,0,0] z) z z z (.nil) ?_ z (fun _=>z) z z z z z)
    intro v87 W hS
    have hT:=hS.to [4,4] z
    refine ⟨fun _=>hT,.by1 11 z (.apprv hr1 hS.p1 (hS.keep q_0_Out) (fun _=>z) T.u25 T.t3 z z z ?_ z z z z z) (by kernel_rfl)⟩
    intro v88 W hS
    have hT:=hS.to [4,4] z
    refine ⟨fun _=>hT,.ts 12 z (fun W hT=>bs T.s27 z z) hT z (by kernel_rfl) (.by1 14 z (.st T.t27 hS.p3 z z z ?_ z z z z z) (by kernel_rfl))⟩
    intro W hS
    refine ⟨fun h=>absurd z h,?_⟩
    exact .done (⟨z,g29,v87,v82,v88,sb z,hS.to [4,4,0,1,1,0] z⟩) (by kernel_rfl)
   refine (.apprv hr1 hS (hS.keep q_0_Out) (fun _=>z) T.u25 T.t3 z z z ?_ z z z z z)
   intro v89 W hS
   have hT:=hS.to [3,3] z
   refine ⟨fun _=>hT,.by1 0 z (.ligv (L1:=[]) [] dMachine T.u23 T.t36 (hS.to [0,0,0,0,0] z) z z z (.nil) ?_ z (fun _=>z) z z z z z) (by kernel_rfl)⟩
   intro v90 W hS
   have hT:=hS.to [4,4] z
   refine ⟨fun _=>hT,.ts 12 z (fun W hT=>bs T.s27 z z) hT z (by kernel_rfl) (.by1 14 z (.st T.t27 hS.p3 z z z ?_ z z z z z) (by kernel_rfl))⟩
   intro W hS
   refine ⟨fun h=>absurd z h,?_⟩
   exact .done (⟨z,g29,v90,v82,v89,sb z,hS.to [4,4,0,0,1,0] z⟩) (by kernel_rfl)
  refine (.liv [] (D.int .i64) T.u25 T.t3 hS z z z z ?_ z (fun _=>z) z z z z)
  intro v91 W hS
  have hT:=hS.to [2,2] z
  refine ⟨fun _=>hT,.by [0,3] ⟨⟨_,z,?_⟩,⟨_,z,?_⟩,trivial⟩ (by kernel_rfl) z⟩
  ·refine (.ligv (L1:=[]) [] dMachine T.u23 T.t36 (hS.to [0,0,0,0] z) z z z (.nil) ?_ z (fun _=>z) z z z z z)
   intro v92 W hS
   have hT:=hS.to [3,3] z
   refine ⟨fun _=>hT,.by1 3 z (.call1v hS Tryz.func48 (f0c hy1 (hS.keep q_0_Boxes)) z z ?_ z z z z) (by kernel_rfl)⟩
   intro v93 W hS
   have hT:=hS.to [4,4] z
   refine ⟨fun _=>hT,.by1 11 z (.apprv hr1 hS.p2 (hS.keep q_0_Out) (fun _=>z) T.u25 T.t3 z z z ?_ z z z z z) (by kernel_rfl)⟩
   intro v94 W hS
   have hT:=hS.to [4,4] z
   refine ⟨fun _=>hT,.ts 12 z (fun W hT=>bs T.s27 z z) hT z (by kernel_rfl) (.by1 14 z (.st T.t27 hS.p3 z z z ?_ z z z z z) (by kernel_rfl))⟩
   intro W hS
   refine ⟨fun h=>absurd z h,?_⟩
   exact .done (⟨z,g29,v92,v93,v94,sb z,hS.to [4,4,0,2,1,0] z⟩) (by kernel_rfl)
  refine (.call1v hS Tryz.func48 (f0c hy1 (hS.keep q_0_Boxes)) z z ?_ z z z z)
  intro v95 W hS
  have hT:=hS.to [3,3] z
  refine ⟨fun _=>hT,.by [0,11] ⟨⟨_,z,?_⟩,⟨_,z,?_⟩,trivial⟩ (by kernel_rfl) z⟩
  ·refine (.ligv (L1:=[]) [] dMachine T.u23 T.t36 (hS.to [0,0,0,0,0] z) z z z (.nil) ?_ z (fun _=>z) z z z z z)
   intro v96 W hS
   have hT:=hS.to [4,4] z
   refine ⟨fun _=>hT,.by1 11 z (.apprv hr1 hS.p2 (hS.keep q_0_Out) (fun _=>z) T.u25 T.t3 z z z ?_ z z z z z) (by kernel_rfl)⟩
   intro v97 W hS
   have hT:=hS.to [4,4] z
   refine ⟨fun _=>hT,.ts 12 z (fun W hT=>bs T.s27 z z) hT z (by kernel_rfl) (.by1 14 z (.st T.t27 hS.p3 z z z ?_ z z z z z) (by kernel_rfl))⟩
   intro W hS
   refine ⟨fun h=>absurd z h,?_⟩
   exact .done (⟨z,g29,v96,v95,v97,sb z,hS.to [4,4,0,1,1,0] z⟩) (by kernel_rfl)
  refine (.apprv hr1 hS.p1 (hS.keep q_0_Out) (fun _=>z) T.u25 T.t3 z z z ?_ z z z z z)
  intro v98 W hS
  have hT:=hS.to [3,3] z
  refine ⟨fun _=>hT,.by1 0 z (.ligv (L1:=[]) [] dMachine T.u23 T.t36 (hS.to [0,0,0,0,0] z) z z z (.nil) ?_ z (fun _=>z) z z z z z) (by kernel_rfl)⟩
  intro v99 W hS
  have hT:=hS.to [4,4] z
  refine ⟨fun _=>hT,.ts 12 z (fun W hT=>bs T.s27 z z) hT z (by kernel_rfl) (.by1 14 z (.st T.t27 hS.p3 z z z ?_ z z z z z) (by kernel_rfl))⟩
  intro W hS
  refine ⟨fun h=>absurd z h,?_⟩
  exact .done (⟨z,g29,v99,v95,v98,sb z,hS.to [4,4,0,0,1,0] z⟩) (by kernel_rfl)
 intro x E W hJ
 obtain ⟨rfl,g30,v100,v101,v102,hE,hS⟩:=hJ
 refine ⟨_,hE.sub,?_⟩
 refine .seq (.g (.qn z (.block ?_)))
 have ⟨y2,hy2,h⟩:=bnd h
 refine .via (.iter (fun s1 E' W'=>∃ (v105 : Hd),SubL E' [(1,.pointer (some ⟨g1,0,none⟩)),(2,.pointer (some ⟨g2,0,none⟩)),(3,.pointer (some ⟨g30,0,none⟩)),(4,.int .i64 s1.1)] ∧ Sep No w W' [.box g2 27 [(sv nilH),(sv nilH),.int .i64 0,.int .i64 0,(sv nilH)],.box g1 27 [(sv v_0_Harts),(sv v_0_Boxes),.int .i64 a0.Turn,.int .i64 a0.Idle,(sv v_0_Out)],.box g30 27 [(sv v105),(sv v101),.int .i64 a0.Turn,.int .i64 a0.Idle,(sv v102)],rowV (sv v101) 61 2 dBox y1,rowV (sv v102) 3 1 (D.int .i64) r1,rowV (sv v105) 36 3 dMachine s1.2]) (fun y3 x E' W'=>x = .exit 0 ∧ ∃ (v106 : Hd),SubL E' [(2,.pointer (some ⟨g2,0,none⟩)),(3,.pointer (some ⟨g30,0,none⟩))] ∧ Sep No w W' [.box g2 27 [(sv nilH),(sv nilH),.int .i64 0,.int .i64 0,(sv nilH)],.box g1 27 [(sv v_0_Harts),(sv v_0_Boxes),.int .i64 a0.Turn,.int .i64 a0.Idle,(sv v_0_Out)],.box g30 27 [(sv v106),(sv v101),.int .i64 a0.Turn,.int .i64 a0.Idle,(sv v102)],rowV (sv v101) 61 2 dBox y1,rowV (sv v102) 3 1 (D.int .i64) r1,rowV (sv v106) 36 3 dMachine y3]) hy2 ⟨v100,sb z,hS.to [0,0,0,1,1,0] z⟩ ?_) ?_
 ·intro s1 y4 E W h hI
  obtain ⟨v104,hE,hS⟩:=hI
  refine CW.sub hE ?_
  unfold f4z at h
  refine .seq (.g (.q z (.s (fa T.f27_0 z z z) z (.s (ld T.t23 hS.p1 z z z z z) z (.s (lenv (hS.keep q_0_Harts) T.u23 z z) z (.q z (.nil ?_)))))))
  refine .cs z h ?_ ?_ <;> intro h
  ·refine .skip (.seq (.block (.rk 11 hS [0,0,0,0,0] T.mix ?_)))
   intro W hS
   have hT:=hS.to [0,0,0,0,0] z
   refine .ts 0 z (fun W hT=>fa T.f27_0 z z z) hT z (by kernel_rfl) (.ts 1 z (fun W hT=>ld T.t23 hT.p2 z z z z z) hT z (by kernel_rfl) (.ts 2 z (fun W hT=>fa T.f27_0 z z z) hT z (by kernel_rfl) (.ts 3 z (fun W hT=>ld T.t23 hT.p1 z z z z z) hT z (by kernel_rfl) (.tp 4 z z hT (by kernel_rfl) ?_))))
   have ⟨x1,hx1,h⟩:=bnd h
   obtain ⟨k1,hd,hck1⟩:=RV.el2 q_0_Harts hx1
   have hd1:=ragg hd
   obtain ⟨v107,k1,rfl,q13,hd2⟩:=rrowv q_0_Harts hd1
   obtain ⟨k1,rfl,hd3⟩:=rflat q_0_Harts z hd2
   obtain ⟨v108,k1,rfl,q14,hd4⟩:=rrowv q_0_Harts hd3
   obtain rfl:=rnil q_0_Harts hd4
   refine .ts 5 z (fun W hT=>ixv (hS.keep q_0_Harts) hx1 T.u23 T.t36 z z z) hT z (by kernel_rfl) (.ts 6 z (fun W hT=>lde (hck1 _ hT.agree) T.t36 z z z z z) hT z (by kernel_rfl) ?_)
   have ⟨y5,hy5,h⟩:=bnd h
   refine .by1 7 z (.call hS Tryz.func49 (fer hy5 (hS.keep (q13 _ q_0_Harts)) (hS.keep (q14 _ q_0_Harts))) z z ?_ z z z z) (by kernel_rfl)
   rintro ⟨v109,v110⟩ W hS
   have hT:=hS.to [2,2,2,2,2] z
   refine ⟨fun _=>hT,.by1 8 z (.ligv (L1:=[rowV (sv v109) 3 1 (D.int .i64) y5.Regs,rowV (sv v110) 3 1 (D.int .i64) y5.Mem]) [(Machine.mk y5.Regs y5.Pc y5.Mem)] dMachine T.u23 T.t36 (hS.to [0,0,0,0,0,0,0,0] z) z z z (.agg (.row (.flat (c1:=[.int .i64 y5.Pc]) z (.row .nil)))) ?_ z (fun _=>z) z z z z z) (by kernel_rfl)⟩
   intro v111 W hS
   have hT:=hS.to [1,1,1,1,1] z
   refine ⟨fun _=>hT,?_⟩
   have ⟨r2,hr2,h⟩:=bnd h
   refine .by1 9 z (.appv hr2 (hS.to [6,0,0,0,0,0,0] z) T.u23 T.t36 z z z ?_ z z z z z) (by kernel_rfl)
   intro v112 W hS
   have hT:=hS.to [1,1,1,1,1] z
   refine ⟨fun _=>hT,.ts 10 z (fun W hT=>fa T.f27_0 z z z) hT z (by kernel_rfl) (.by1 11 z (.st T.t23 hS.p3 z z z ?_ z z z z z) (by kernel_rfl))⟩
   intro W hS
   refine ⟨fun h=>absurd z h,?_⟩
   refine .done (.region (.q z (.q z (.q z (.nil ?_))))) (by kernel_rfl)
   cases h
   exact ⟨z,v112,sb z,hS.to [2,2,0,1,1,0] z⟩
  refine .exit ?_
  cases h
  exact ⟨by simp,z,v104,sb z,hS.to [0,0,0,0,0,0] z⟩
 intro x E W hJ
 obtain ⟨rfl,v113,hE,hS⟩:=hJ
 refine ⟨_,hE.sub,?_⟩
 refine .g (.s (ld T.t27 hS.p2 z z z z z) z (.c (.st T.t27 hS z z z ?_ z z z z z)))
 intro W hS
 cases h
 exact .nil (.ret (fin_ret (vs:=[_]) (v113,v101,v102) (rc hS T.t27 z rn z z) z (hS.to [5,3,3] z)))
theorem fbg {a0 : Box} {a1 : Int} {v_0_Items : Hd} {w : World} {r : Box × Bool} (h : f5e a0 a1 = some r) (q_0_Items : RV w (Old No w) (sv v_0_Items) 3 1 (D.int .i64) a0.Items) : Calls Tryz.prog 87 #[.agg #[.int .i64 a0.Room,(sv v_0_Items)],.int .i64 a1] w (Ret No w (fun s : Hd=>.tuple #[.agg #[.int .i64 r.1.Room,(sv s)],.bool r.2]) (fun s=>[rowV (sv s) 3 1 (D.int .i64) r.1.Items])):=by
 unfold f5e at h
 refine enter Tryz.func87 z z ?_
 have hS:=Sep.start w
 refine .g (.c (.box hS z z ?_ z z))
 intro g1 W hS
 refine .c (.alloc T.t61 hS ?_ z z z)
 intro g2 W hS
 refine .qn z (.seq (.g (.s (ld T.t61 hS.p1 z z z z z) z ?_)))
 have ⟨y1,hy1,h⟩:=bnd h
 refine .c (.call0 hS Tryz.func42 (f9t hy1 (hS.keep q_0_Items)) z z ?_ z z z z)
 intro W hS
 refine .q z (.q z ?_)
 have ⟨b1,hb1,h⟩:=bnd h
 refine .chunk 4 13 (b1) hS ?_ ?_
 ·refine .both (!y1) (fun hb=>?_) (fun hb=>?_)
  ·refine .xx hb z (.xx hb z (.xx hb z ?_))
   cases sel_t hb hb1
   exact .s (pkt hb z z z) z (.nil (ck 4 hS z z z z))
  have hg1:=hb
  have h:=sel_f hb hb1
  refine .g hg1 (.q z ?_) z
  have ⟨y2,hy2,h⟩:=bnd h
  refine .g hg1 (.c (.call0 hS Tryz.func43 (f1u hy2) z z ?_ z z z z)) z
  intro W hS
  refine .g hg1 (.q z (.s (pkf hg1 z z z) z ?_)) z
  cases h
  exact .nil (ck 4 hS z z z z)
 intro W hS
 refine .q z (.chunk 7 21 (b1 || (decide ((a0.Items.length : Int) ≥ a0.Room))) hS ?_ ?_)
 ·refine .both (b1) (fun hb=>?_) (fun hb=>?_)
  ·exact .xx hb z (.xx hb z (.xx hb z (.xx hb z (.xx hb z (.xx hb z (.s (pkt hb z z z) z (.nil (ck 7 hS z (or_t hb) z z))))))))
  have hg2:=hb
  exact .g hg2 (.s (fa T.f61_1 z z z) z (.g hg2 (.s (ld T.t25 hS.p1 z z z z z) z (.g hg2 (.s (lenv (hS.keep q_0_Items) T.u25 z z) z (.g hg2 (.s (fa T.f61_0 z z z) z (.g hg2 (.s (ld T.t3 hS.p1 z z z z z) z (.g hg2 (.q z (.s (pkf hg2 z z z) z (.nil (ck 7 hS z (or_f hg2) z z)))) z)) z)) z)) z)) z)) z
 intro W hS
 refine .nil ?_
 refine .cs z h ?_ ?_ <;> intro h
 ·refine .g (.s (bs T.s61 z z) z (.c (.st T.t61 hS z z z ?_ z z z z z)))
  intro W hS
  refine .qn z (.ret ?_)
  have hS:=hS.nilv 3 1 (D.int .i64)
  cases h
  exact fin_ret (vs:=[_,_]) nilH (rc hS.p1 T.t61 z (rt z rn) z z) z (hS.to [0] z)
 refine .skip (.seq ?_)
 have ⟨r1,hr1,h⟩:=bnd h
 have ⟨r2,hr2,h⟩:=bnd h
 refine .via (R':=fun x E' W'=>x = .normal ∧ ∃ (v1 : Hd),SubL E' [(4,.pointer (some ⟨g2,0,none⟩)),(5,.bool true)] ∧ Sep No w W' [.box g2 61 [.int .i64 a0.Room,(sv v1)],.box g1 61 [.int .i64 a0.Room,(sv v_0_Items)],rowV (sv v1) 3 1 (D.int .i64) r2]) ?_ ?_
 ·refine .rk 12 hS [1] T.mix ?_
  intro W hS
  have hT:=hS.to [1] z
  refine .ts 0 z (fun W hT=>fa T.f61_0 z z z) hT z (by kernel_rfl) (.ts 1 z (fun W hT=>ld T.t3 hT z z z z z) hT z (by kernel_rfl) (.ts 3 z (fun W hT=>fa T.f61_1 z z z) hT z (by kernel_rfl) (.ts 4 z (fun W hT=>ld T.t25 hT z z z z z) hT z (by kernel_rfl) (.tp 6 z z hT (by kernel_rfl) (.by [2,7] ⟨⟨_,z,?_⟩,⟨_,z,?_⟩,trivial⟩ (by kernel_rfl) z)))))
  ·refine (.liv [] (D.int .i64) T.u25 T.t3 hS z z z z ?_ z (fun _=>z) z z z z)
   intro v2 W hS
   have hT:=hS.to [2] z
   refine ⟨fun _=>hT,.by [5,7] ⟨⟨_,z,?_⟩,⟨_,z,?_⟩,trivial⟩ (by kernel_rfl) z⟩
   ·refine (.apprv hr1 hS (hS.keep q_0_Items) (fun _=>z) T.u25 T.t3 z z z ?_ z z z z z)
    intro v3 W hS
    have hT:=hS.to [2] z
    refine ⟨fun _=>hT,.by1 7 z (.liv [a1] (D.int .i64) T.u25 T.t3 hS z z z z ?_ z (fun _=>z) z z z z) (by kernel_rfl)⟩
    intro v4 W hS
    have hT:=hS.to [3] z
    refine ⟨fun _=>hT,?_⟩
    have hT0:=hS.p1
    refine .by1 8 z (.apprv hr2 hT0 hT0.p1.lendv (fun _=>z) T.u25 T.t3 z z z ?_ z z z z z) (by kernel_rfl)
    intro v5 W hS
    have hT:=hS.to [3] z
    refine ⟨fun _=>hT,.ts 9 z (fun W hT=>bs T.s61 z z) hT z (by kernel_rfl) (.by1 10 z (.st T.t61 hS.p2 z z z ?_ z z z z z) (by kernel_rfl))⟩
    intro W hS
    have hT:=hS.to [3] z
    refine ⟨fun _=>hT,?_⟩
    exact .tp 11 z z hT (by kernel_rfl) (.done (⟨z,v5,sb z,hS.to [0,2,0] z⟩) (by kernel_rfl))
   refine (.liv [a1] (D.int .i64) T.u25 T.t3 hS z z z z ?_ z (fun _=>z) z z z z)
   intro v6 W hS
   have hT:=hS.to [3] z
   refine ⟨fun _=>hT,.by1 5 z (.apprv hr1 hS.p1 (hS.keep q_0_Items) (fun _=>z) T.u25 T.t3 z z z ?_ z z z z z) (by kernel_rfl)⟩
   intro v7 W hS
   have hT:=hS.to [3] z
   refine ⟨fun _=>hT,?_⟩
   have hT0:=hS
   refine .by1 8 z (.apprv hr2 hT0 hT0.p1.lendv (fun _=>z) T.u25 T.t3 z z z ?_ z z z z z) (by kernel_rfl)
   intro v8 W hS
   have hT:=hS.to [3] z
   refine ⟨fun _=>hT,.ts 9 z (fun W hT=>bs T.s61 z z) hT z (by kernel_rfl) (.by1 10 z (.st T.t61 hS.p2 z z z ?_ z z z z z) (by kernel_rfl))⟩
   intro W hS
   have hT:=hS.to [3] z
   refine ⟨fun _=>hT,?_⟩
   exact .tp 11 z z hT (by kernel_rfl) (.done (⟨z,v8,sb z,hS.to [0,2,0] z⟩) (by kernel_rfl))
  refine (.liv [a1] (D.int .i64) T.u25 T.t3 hS z z z z ?_ z (fun _=>z) z z z z)
  intro v9 W hS
  have hT:=hS.to [2] z
  refine ⟨fun _=>hT,.by1 2 z (.liv [] (D.int .i64) T.u25 T.t3 hS z z z z ?_ z (fun _=>z) z z z z) (by kernel_rfl)⟩
  intro v10 W hS
  have hT:=hS.to [3] z
  refine ⟨fun _=>hT,.by1 5 z (.apprv hr1 hS (hS.keep q_0_Items) (fun _=>z) T.u25 T.t3 z z z ?_ z z z z z) (by kernel_rfl)⟩
  intro v11 W hS
  have hT:=hS.to [3] z
  refine ⟨fun _=>hT,?_⟩
  have hT0:=hS
  refine .by1 8 z (.apprv hr2 hT0 hT0.p1.lendv (fun _=>z) T.u25 T.t3 z z z ?_ z z z z z) (by kernel_rfl)
  intro v12 W hS
  have hT:=hS.to [3] z
  refine ⟨fun _=>hT,.ts 9 z (fun W hT=>bs T.s61 z z) hT z (by kernel_rfl) (.by1 10 z (.st T.t61 hS.p2 z z z ?_ z z z z z) (by kernel_rfl))⟩
  intro W hS
  have hT:=hS.to [3] z
  refine ⟨fun _=>hT,?_⟩
  exact .tp 11 z z hT (by kernel_rfl) (.done (⟨z,v12,sb z,hS.to [0,2,0] z⟩) (by kernel_rfl))
 intro x E W hJ
 obtain ⟨rfl,v13,hE,hS⟩:=hJ
 refine ⟨_,hE.sub,?_⟩
 cases h
 exact .ret (fin_ret (vs:=[_,_]) v13 (rc hS T.t61 z (rt z rn) z z) z (hS.to [2] z))
theorem fe7 {a0 : Box} {v_0_Items : Hd} {w : World} {r : Box × Int × Bool} (h : f4m a0 = some r) (q_0_Items : RV w (Old No w) (sv v_0_Items) 3 1 (D.int .i64) a0.Items) : Calls Tryz.prog 88 #[.agg #[.int .i64 a0.Room,(sv v_0_Items)]] w (Ret No w (fun s : Hd=>.tuple #[.agg #[.int .i64 r.1.Room,(sv s)],.int .i64 r.2.1,.bool r.2.2]) (fun s=>[rowV (sv s) 3 1 (D.int .i64) r.1.Items])):=by
 unfold f4m at h
 refine enter Tryz.func88 z z ?_
 have hS:=Sep.start w
 refine .g (.c (.box hS z z ?_ z z))
 intro g1 W hS
 refine .c (.alloc T.t61 hS ?_ z z z)
 intro g2 W hS
 refine .q z (.qn z (.seq (.g (.s (ld T.t61 hS.p1 z z z z z) z ?_))))
 have ⟨y1,hy1,h⟩:=bnd h
 refine .c (.call0 hS Tryz.func42 (f9t hy1 (hS.keep q_0_Items)) z z ?_ z z z z)
 intro W hS
 refine .q z (.q z (.chunk 5 13 ((!y1) || ((a0.Items.length : Int) == 0)) hS ?_ ?_))
 ·refine .both (!y1) (fun hb=>?_) (fun hb=>?_)
  ·exact .xx hb z (.xx hb z (.xx hb z (.xx hb z (.s (pkt hb z z z) z (.nil (ck 5 hS z (or_t hb) z z))))))
  have hg1:=hb
  exact .g hg1 (.s (fa T.f61_1 z z z) z (.g hg1 (.s (ld T.t25 hS.p1 z z z z z) z (.g hg1 (.s (lenv (hS.keep q_0_Items) T.u25 z z) z (.g hg1 (.q z (.s (pkf hg1 z z z) z (.nil (ck 5 hS z (or_f hg1) z z)))) z)) z)) z)) z
 intro W hS
 refine .nil ?_
 refine .cs z h ?_ ?_ <;> intro h
 ·refine .g (.s (bs T.s61 z z) z (.c (.st T.t61 hS z z z ?_ z z z z z)))
  intro W hS
  refine .q z (.qn z (.ret ?_))
  have hS:=hS.nilv 3 1 (D.int .i64)
  cases h
  exact fin_ret (vs:=[_,_,_]) nilH (rc hS.p1 T.t61 z (rt z (rt z rn)) z z) z (hS.to [0] z)
 refine .skip (.seq (.rk 15 hS [1] T.mix ?_))
 intro W hS
 have hT:=hS.to [1] z
 refine .ts 0 z (fun W hT=>fa T.f61_0 z z z) hT z (by kernel_rfl) (.ts 1 z (fun W hT=>ld T.t3 hT z z z z z) hT z (by kernel_rfl) (.ts 3 z (fun W hT=>fa T.f61_1 z z z) hT z (by kernel_rfl) (.ts 4 z (fun W hT=>ld T.t25 hT z z z z z) hT z (by kernel_rfl) ?_)))
 have ⟨r1,hr1,h⟩:=bnd h
 refine .ts 5 z (fun W hT=>slv hr1 q_0_Items T.u25 T.t3 z z z z) hT z (by kernel_rfl) (.ts 8 z (fun W hT=>fa T.f61_1 z z z) hT z (by kernel_rfl) (.ts 9 z (fun W hT=>ld T.t25 hT z z z z z) hT z (by kernel_rfl) ?_))
 have ⟨x1,hx1,h⟩:=bnd h
 refine .ts 10 z (fun W hT=>ixv (hS.keep q_0_Items) hx1 T.u25 T.t3 z z z) hT z (by kernel_rfl) (.ts 11 z (fun W hT=>lde (RV.flat (hT.keep q_0_Items) hx1 z) T.t3 z z z z z) hT z (by kernel_rfl) (.by1 2 z (.liv [] (D.int .i64) T.u25 T.t3 hS z z z z ?_ z (fun _=>z) z z z z) (by kernel_rfl)))
 intro v1 W hS
 have hT:=hS.to [2] z
 refine ⟨fun _=>hT,?_⟩
 have ⟨r2,hr2,h⟩:=bnd h
 refine .by1 6 z (.apprv hr2 hS (hS.keep (slv_rd hr1 q_0_Items)) (fun _=>z) T.u25 T.t3 z z z ?_ z z z z z) (by kernel_rfl)
 intro v2 W hS
 have hT:=hS.to [2] z
 refine ⟨fun _=>hT,.ts 7 z (fun W hT=>bs T.s61 z z) hT z (by kernel_rfl) (.by1 12 z (.st T.t61 hS.p1 z z z ?_ z z z z z) (by kernel_rfl))⟩
 intro W hS
 have hT:=hS.to [2] z
 refine ⟨fun _=>hT,?_⟩
 cases h
 exact .tp 13 z z hT (by kernel_rfl) (.tp 14 z z hT (by kernel_rfl) (.done (.ret (fin_ret (vs:=[_,_,_]) v2 (rc hS T.t61 z (rt z (rt z rn)) z z) z (hS.to [1] z))) (by kernel_rfl)))
theorem fbd {a0 : List Int} {a1 : Int} {v_0 : Hd} {w : World} {r : Bool} (h : f2r a0 a1 = some r) (q_0 : RV w (Old No w) (sv v_0) 3 1 (D.int .i64) a0) : Calls Tryz.prog 71 #[(sv v_0),.int .i64 a1] w (Ret No w (fun s : Unit=>.bool r) (fun s=>[])):=by
 unfold f2r at h
 refine enter Tryz.func71 z z ?_
 have hS:=Sep.start w
 refine .g (.qn z (.g (.q z (.q z (.q z (.chunk 4 11 ((decide (a1 ≥ 0)) && ((Int.tmod a1 4) == 0)) hS ?_ ?_))))))
 ·refine .both (decide (a1 ≥ 0)) (fun hb=>?_) (fun hb=>?_)
  ·have hg1:=hb
   exact .g hg1 (.q z (.g hg1 (.q z (.g hg1 (.q z (.s (pkt hg1 z z z) z (.nil (ck 4 hS z (and_t hg1) z z)))) z)) z)) z
  exact .xx hb z (.xx hb z (.xx hb z (.s (pkf hb z z z) z (.nil (ck 4 hS z (and_f hb) z z)))))
 intro W hS
 refine .q z (.chunk 6 18 (((decide (a1 ≥ 0)) && ((Int.tmod a1 4) == 0)) && (decide ((w64 (Int.tdiv a1 4)) < (a0.length : Int)))) hS ?_ ?_)
 ·refine .both ((decide (a1 ≥ 0)) && ((Int.tmod a1 4) == 0)) (fun hb=>?_) (fun hb=>?_)
  ·have hg2:=hb
   exact .g hg2 (.q z (.g hg2 (.q z (.g hg2 (.q z (.g hg2 (.s (lenv (hS.keep q_0) T.u25 z z) z (.g hg2 (.q z (.s (pkt hg2 z z z) z (.nil (ck 6 hS z (and_t hg2) z z)))) z)) z)) z)) z)) z
  exact .xx hb z (.xx hb z (.xx hb z (.xx hb z (.xx hb z (.s (pkf hb z z z) z (.nil (ck 6 hS z (and_f hb) z z)))))))
 intro W hS
 cases h
 exact .qn z (.ret (fin_ret (vs:=[_]) () (rt z rn) z (hS.to [] z)))
def ffi (w : World) (r : Int) : Env → World → Prop:=Fin Tryz.prog Tryz.f89 No w (fun s : Unit=>.int .i64 r) (fun s=>[]) .ret
end Go.Proofs.YtcljimkjmklkmaaGreat.N
namespace Go.Proofs.YtcljimkjmklkmaaGreat.N
open Go.Proofs.YtcljimkjmklkmaaGreat.X
theorem fbx {a0 : Int} {w : World} {r : Int} (h : f50 a0 = some r) : Calls Tryz.prog 89 #[.int .i64 a0] w (Ret No w (fun s : Unit=>.int .i64 r) (fun s=>[])):=by
 unfold f50 at h
 refine enter Tryz.func89 z z ?_
 have hS:=Sep.start w
 refine .g (.qn z (.seq (.g (.q z ?_))))
 have ⟨y1,hy1,h⟩:=bnd h
 refine .c (.call0 hS Tryz.func83 (f07 hy1) z z ?_ z z z z)
 intro W hS
 refine .nil (.block (.g (.q z (.q z (.nil ?_)))))
 refine .cs z h ?_ ?_ <;> intro h
 ·refine .seq (.g (.qn z (.block ?_)))
  have ⟨y2,hy2,h⟩:=bnd h
  refine .via (.iter (fun s1 E' W'=>SubL E' [(0,.int .i64 a0),(3,.int .i64 s1)] ∧ Sep No w W' []) (fun y3 x E' W'=>(match y3 with | .inl o1=>x = .ret ∧ ffi w o1 E' W' | .inr o2=>x = .exit 1 ∧ SubL E' [] ∧ Sep No w W' [])) hy2 ⟨sb rfl,hS.to [] rfl⟩ ?_) ?_
  ·intro s1 y4 E W h hI
   obtain ⟨hE,hS⟩:=hI
   refine CW.sub hE ?_
   unfold f6s at h
   refine .seq (.g (.q z (.q z (.nil ?_))))
   refine .cs z h ?_ ?_ <;> intro h
   ·refine .skip (.seq (.block (.g (.q z ?_))))
    have ⟨y5,hy5,h⟩:=bnd h
    refine .c (.call0 hS Tryz.func83 (f07 hy5) z z ?_ z z z z)
    intro W hS
    refine .q z ?_
    have ⟨y6,hy6,h⟩:=bnd h
    refine .c (.call0 hS Tryz.func118 (fb5 hy6) z z ?_ z z z z)
    intro W hS
    refine .q z (.q z ?_)
    have ⟨b1,hb1,h⟩:=bnd h
    refine .chunk 6 23 (b1) hS ?_ ?_
    ·refine .both (y5 == y6) (fun hb=>?_) (fun hb=>?_)
     ·have hg1:=hb
      have h:=sel_t hb hb1
      refine .g hg1 (.q z ?_) z
      have ⟨y7,hy7,h⟩:=bnd h
      refine .g hg1 (.c (.call0 hS Tryz.func83 (f07 hy7) z z ?_ z z z z)) z
      intro W hS
      refine .g hg1 (.q z ?_) z
      have ⟨y8,hy8,h⟩:=bnd h
      refine .g hg1 (.c (.call0 hS Tryz.func117 (fb1 hy8) z z ?_ z z z z)) z
      intro W hS
      refine .g hg1 (.q z (.s (pkt hg1 z z z) z ?_)) z
      cases h
      exact .nil (ck 6 hS z z z z)
     refine .xx hb z (.xx hb z (.xx hb z (.xx hb z (.xx hb z ?_))))
     cases sel_f hb hb1
     exact .s (pkf hb z z z) z (.nil (ck 6 hS z z z z))
    intro W hS
    refine .nil ?_
    refine .cs z h ?_ ?_ <;> intro h
    ·refine .g (.q z (.qn z (.ret ?_)))
     cases h
     exact ⟨by simp,z,fin_ret (vs:=[_]) () (rt z rn) z (hS.to [] z)⟩
    refine .skip (.region (.q z (.q z (.q z (.nil ?_)))))
    cases h
    exact ⟨z,sb z,hS.to [] z⟩
   refine .exit ?_
   cases h
   exact ⟨by simp,z,sb z,hS.to [] z⟩
  intro x E W hJ
  rcases y2 with o3 | o4
  ·obtain ⟨rfl,hF⟩:=hJ
   refine ⟨_,fun _ _ h=>h,?_⟩
   cases h
   exact hF
  obtain ⟨rfl,hE,hS⟩:=hJ
  refine ⟨_,hE.sub,?_⟩
  cases h
  exact .g (.qn z (.ret (fin_ret (vs:=[_]) () (rt z rn) z (hS.to [] z))))
 refine .g (.q z (.q z (.nil ?_)))
 refine .cs z h ?_ ?_ <;> intro h
 ·refine .seq (.g (.q z ?_))
  have ⟨y9,hy9,h⟩:=bnd h
  refine .c (.call0 hS Tryz.func83 (f07 hy9) z z ?_ z z z z)
  intro W hS
  refine .q z (.nil ?_)
  refine .cs z h ?_ ?_ <;> intro h
  ·cases h
   exact .g (.qn z (.ret (fin_ret (vs:=[_]) () (rt z rn) z (hS.to [] z))))
  cases h
  exact .skip (.g (.qn z (.ret (fin_ret (vs:=[_]) () (rt z rn) z (hS.to [] z)))))
 refine .g (.q z (.q z (.nil ?_)))
 refine .cs z h ?_ ?_ <;> intro h
 ·cases h
  exact .g (.qn z (.ret (fin_ret (vs:=[_]) () (rt z rn) z (hS.to [] z))))
 refine .g (.q z (.q z (.nil ?_)))
 refine .cs z h ?_ ?_ <;> intro h
 ·cases h
  exact .g (.qn z (.ret (fin_ret (vs:=[_]) () (rt z rn) z (hS.to [] z))))
 refine .g (.q z (.q z (.nil ?_)))
 refine .cs z h ?_ ?_ <;> intro h
 ·cases h
  exact .g (.qn z (.ret (fin_ret (vs:=[_]) () (rt z rn) z (hS.to [] z))))
 refine .g (.q z (.q z (.nil ?_)))
 refine .cs z h ?_ ?_ <;> intro h
 ·refine .seq (.g (.q z ?_))
  have ⟨y10,hy10,h⟩:=bnd h
  refine .c (.call0 hS Tryz.func83 (f07 hy10) z z ?_ z z z z)
  intro W hS
  refine .q z (.nil ?_)
  refine .cs z h ?_ ?_ <;> intro h
  ·cases h
   exact .g (.qn z (.ret (fin_ret (vs:=[_]) () (rt z rn) z (hS.to [] z))))
  cases h
  exact .skip (.g (.qn z (.ret (fin_ret (vs:=[_]) () (rt z rn) z (hS.to [] z)))))
 refine .g (.q z (.q z (.nil ?_)))
 refine .cs z h ?_ ?_ <;> intro h
 ·cases h
  exact .g (.qn z (.ret (fin_ret (vs:=[_]) () (rt z rn) z (hS.to [] z))))
 refine .g (.q z (.q z (.nil ?_)))
 refine .cs z h ?_ ?_ <;> intro h
 ·cases h
  exact .g (.qn z (.ret (fin_ret (vs:=[_]) () (rt z rn) z (hS.to [] z))))
 refine .g (.q z (.q z (.nil ?_)))
 refine .cs z h ?_ ?_ <;> intro h
 ·cases h
  exact .g (.qn z (.ret (fin_ret (vs:=[_]) () (rt z rn) z (hS.to [] z))))
 cases h
 exact .skip (.g (.qn z (.ret (fin_ret (vs:=[_]) () (rt z rn) z (hS.to [] z)))))
theorem fcm {a0 : Int} {a1 : Int} {w : World} {r : Instr} (h : f0b a0 a1 = some r) : Calls Tryz.prog 90 #[.int .i64 a0,.int .i64 a1] w (Ret No w (fun s : Unit=>.agg #[.int .i64 r.Op,.int .i64 r.Rd,.int .i64 r.Rs,.int .i64 r.Rt,.int .i64 r.Imm]) (fun s=>[])):=by
 unfold f0b at h
 refine enter Tryz.func90 z z ?_
 have hS:=Sep.start w
 refine .g (.c (.alloc T.t105 hS ?_ z z z))
 intro g1 W hS
 refine .nil (.g (.q z ?_))
 have ⟨y1,hy1,h⟩:=bnd h
 refine .c (.call0 hS Tryz.func83 (f07 hy1) z z ?_ z z z z)
 intro W hS
 refine .qn z (.g (.q z ?_))
 have ⟨y2,hy2,h⟩:=bnd h
 refine .c (.call0 hS Tryz.func83 (f07 hy2) z z ?_ z z z z)
 intro W hS
 refine .qn z (.g (.q z ?_))
 have ⟨y3,hy3,h⟩:=bnd h
 refine .c (.call0 hS Tryz.func83 (f07 hy3) z z ?_ z z z z)
 intro W hS
 refine .qn z (.seq (.block (.g (.q z (.q z (.q z (.nil ?_)))))))
 refine .cs z h ?_ ?_ <;> intro h
 ·refine .g (.q z (.q z (.q z (.q z (.s (bs T.s105 z z) z (.c (.st T.t105 hS z z z ?_ z z z z z)))))))
  intro W hS
  cases h
  exact .nil (.ret (fin_ret (vs:=[_]) () (rc hS T.t105 z rn z z) z (hS.to [] z)))
 refine .g (.q z (.q z (.q z (.nil ?_))))
 refine .cs z h ?_ ?_ <;> intro h
 ·refine .g (.q z (.q z (.q z (.q z ?_))))
  have ⟨y4,hy4,h⟩:=bnd h
  refine .c (.call0 hS Tryz.func83 (f07 hy4) z z ?_ z z z z)
  intro W hS
  have ⟨y5,hy5,h⟩:=bnd h
  refine .c (.call0 hS Tryz.func82 (f39 hy5) z z ?_ z z z z)
  intro W hS
  refine .s (bs T.s105 z z) z (.c (.st T.t105 hS z z z ?_ z z z z z))
  intro W hS
  cases h
  exact .nil (.ret (fin_ret (vs:=[_]) () (rc hS T.t105 z rn z z) z (hS.to [] z)))
 refine .g (.q z (.q z (.q z (.nil ?_))))
 refine .cs z h ?_ ?_ <;> intro h
 ·refine .g (.q z (.q z (.q z (.q z ?_))))
  have ⟨y6,hy6,h⟩:=bnd h
  refine .c (.call0 hS Tryz.func83 (f07 hy6) z z ?_ z z z z)
  intro W hS
  refine .q z (.q z (.q z ?_))
  have ⟨y7,hy7,h⟩:=bnd h
  refine .c (.call0 hS Tryz.func82 (f39 hy7) z z ?_ z z z z)
  intro W hS
  refine .s (bs T.s105 z z) z (.c (.st T.t105 hS z z z ?_ z z z z z))
  intro W hS
  cases h
  exact .nil (.ret (fin_ret (vs:=[_]) () (rc hS T.t105 z rn z z) z (hS.to [] z)))
 refine .g (.q z (.q z (.q z (.chunk 3 53 ((a0 == 17) || (a0 == 18)) hS ?_ ?_))))
 ·refine .both (a0 == 17) (fun hb=>?_) (fun hb=>?_)
  ·exact .xx hb z (.xx hb z (.s (pkt hb z z z) z (.nil (ck 3 hS z (or_t hb) z z))))
  have hg1:=hb
  exact .g hg1 (.q z (.g hg1 (.q z (.s (pkf hg1 z z z) z (.nil (ck 3 hS z (or_f hg1) z z)))) z)) z
 intro W hS
 refine .q z (.nil ?_)
 refine .cs z h ?_ ?_ <;> intro h
 ·refine .g (.q z ?_)
  have ⟨y8,hy8,h⟩:=bnd h
  refine .c (.call0 hS Tryz.func83 (f07 hy8) z z ?_ z z z z)
  intro W hS
  refine .q z (.q z ?_)
  have ⟨y9,hy9,h⟩:=bnd h
  refine .c (.call0 hS Tryz.func83 (f07 hy9) z z ?_ z z z z)
  intro W hS
  refine .q z (.q z (.q z ?_))
  have ⟨y10,hy10,h⟩:=bnd h
  refine .c (.call0 hS Tryz.func83 (f07 hy10) z z ?_ z z z z)
  intro W hS
  refine .q z (.q z (.q z ?_))
  have ⟨y11,hy11,h⟩:=bnd h
  refine .c (.call0 hS Tryz.func83 (f07 hy11) z z ?_ z z z z)
  intro W hS
  refine .q z (.q z (.qn z (.g (.q z (.q z (.q z (.q z ?_)))))))
  have ⟨y12,hy12,h⟩:=bnd h
  refine .c (.call0 hS Tryz.func82 (f39 hy12) z z ?_ z z z z)
  intro W hS
  refine .s (bs T.s105 z z) z (.c (.st T.t105 hS z z z ?_ z z z z z))
  intro W hS
  cases h
  exact .nil (.ret (fin_ret (vs:=[_]) () (rc hS T.t105 z rn z z) z (hS.to [] z)))
 refine .g (.q z (.q z (.q z (.nil ?_))))
 refine .cs z h ?_ ?_ <;> intro h
 ·refine .g (.q z (.q z (.q z ?_)))
  have ⟨y13,hy13,h⟩:=bnd h
  refine .c (.call0 hS Tryz.func83 (f07 hy13) z z ?_ z z z z)
  intro W hS
  refine .s (bs T.s105 z z) z (.c (.st T.t105 hS z z z ?_ z z z z z))
  intro W hS
  cases h
  exact .nil (.ret (fin_ret (vs:=[_]) () (rc hS T.t105 z rn z z) z (hS.to [] z)))
 refine .g (.q z (.q z (.q z (.nil ?_))))
 refine .cs z h ?_ ?_ <;> intro h
 ·refine .g (.q z ?_)
  have ⟨y14,hy14,h⟩:=bnd h
  refine .c (.call0 hS Tryz.func83 (f07 hy14) z z ?_ z z z z)
  intro W hS
  refine .q z (.q z ?_)
  have ⟨y15,hy15,h⟩:=bnd h
  refine .c (.call0 hS Tryz.func83 (f07 hy15) z z ?_ z z z z)
  intro W hS
  refine .q z (.q z (.q z ?_))
  have ⟨y16,hy16,h⟩:=bnd h
  refine .c (.call0 hS Tryz.func83 (f07 hy16) z z ?_ z z z z)
  intro W hS
  refine .q z (.q z (.q z ?_))
  have ⟨y17,hy17,h⟩:=bnd h
  refine .c (.call0 hS Tryz.func83 (f07 hy17) z z ?_ z z z z)
  intro W hS
  refine .q z (.q z (.qn z (.g (.q z (.q z (.q z ?_))))))
  have ⟨y18,hy18,h⟩:=bnd h
  refine .c (.call0 hS Tryz.func82 (f39 hy18) z z ?_ z z z z)
  intro W hS
  refine .s (bs T.s105 z z) z (.c (.st T.t105 hS z z z ?_ z z z z z))
  intro W hS
  cases h
  exact .nil (.ret (fin_ret (vs:=[_]) () (rc hS T.t105 z rn z z) z (hS.to [] z)))
 refine .skip (.g (.q z (.s (bs T.s105 z z) z (.c (.st T.t105 hS z z z ?_ z z z z z)))))
 intro W hS
 cases h
 exact .nil (.ret (fin_ret (vs:=[_]) () (rc hS T.t105 z rn z z) z (hS.to [] z)))
theorem f7h {a0 : Int} {w : World} {r : Instr × Bool} (h : f1d a0 = some r) : Calls Tryz.prog 72 #[.int .i64 a0] w (Ret No w (fun s : Unit=>.tuple #[.agg #[.int .i64 r.1.Op,.int .i64 r.1.Rd,.int .i64 r.1.Rs,.int .i64 r.1.Rt,.int .i64 r.1.Imm],.bool r.2]) (fun s=>[])):=by
 unfold f1d at h
 refine enter Tryz.func72 z z ?_
 have hS:=Sep.start w
 refine .g (.c (.alloc T.t105 hS ?_ z z z))
 intro g1 W hS
 refine .qn z (.seq (.g (.q z ?_)))
 have ⟨y1,hy1,h⟩:=bnd h
 refine .c (.call0 hS Tryz.func27 (f04 hy1) z z ?_ z z z z)
 intro W hS
 refine .q z (.q z ?_)
 have ⟨b1,hb1,h⟩:=bnd h
 refine .chunk 4 12 (b1) hS ?_ ?_
 ·refine .both (!y1) (fun hb=>?_) (fun hb=>?_)
  ·refine .xx hb z (.xx hb z (.xx hb z ?_))
   cases sel_t hb hb1
   exact .s (pkt hb z z z) z (.nil (ck 4 hS z z z z))
  have hg1:=hb
  have h:=sel_f hb hb1
  refine .g hg1 (.q z ?_) z
  have ⟨y2,hy2,h⟩:=bnd h
  refine .g hg1 (.c (.call0 hS Tryz.func89 (fbx hy2) z z ?_ z z z z)) z
  intro W hS
  refine .g hg1 (.q z (.s (pkf hg1 z z z) z ?_)) z
  cases h
  exact .nil (ck 4 hS z z z z)
 intro W hS
 refine .nil ?_
 refine .cs z h ?_ ?_ <;> intro h
 ·refine .g (.s (bs T.s105 z z) z (.c (.st T.t105 hS z z z ?_ z z z z z)))
  intro W hS
  cases h
  exact .qn z (.ret (fin_ret (vs:=[_,_]) () (rc hS T.t105 z (rt z rn) z z) z (hS.to [] z)))
 refine .skip (.g (.q z ?_))
 have ⟨y3,hy3,h⟩:=bnd h
 refine .c (.call0 hS Tryz.func89 (fbx hy3) z z ?_ z z z z)
 intro W hS
 refine .q z ?_
 have ⟨y4,hy4,h⟩:=bnd h
 refine .c (.call0 hS Tryz.func90 (fcm hy4) z z ?_ z z z z)
 intro W hS
 refine .c (.alloc T.t105 hS ?_ z z z)
 intro g2 W hS
 refine .c (.st T.t105 hS z z z ?_ z z z z z)
 intro W hS
 refine .nil (.seq (.g (.s (ld T.t105 hS z z z z z) z ?_)))
 have ⟨y5,hy5,h⟩:=bnd h
 refine .c (.call0 hS Tryz.func86 (fan hy5) z z ?_ z z z z)
 intro W hS
 refine .q z (.q z (.nil ?_))
 refine .cs z h ?_ ?_ <;> intro h
 ·refine .g (.s (bs T.s105 z z) z (.c (.st T.t105 hS.p1 z z z ?_ z z z z z)))
  intro W hS
  cases h
  exact .qn z (.ret (fin_ret (vs:=[_,_]) () (rc hS T.t105 z (rt z rn) z z) z (hS.to [] z)))
 refine .skip (.g (.s (ld T.t105 hS z z z z z) z (.c (.st T.t105 hS.p1 z z z ?_ z z z z z))))
 intro W hS
 cases h
 exact .qn z (.ret (fin_ret (vs:=[_,_]) () (rc hS T.t105 z (rt z rn) z z) z (hS.to [] z)))
theorem ff3 {a0 : Int} {a1 : Int} {a2 : Int} {w : World} {r : Int} (h : fai a0 a1 a2 = some r) : Calls Tryz.prog 95 #[.int .i64 a0,.int .i64 a1,.int .i64 a2] w (Ret No w (fun s : Unit=>.int .i64 r) (fun s=>[])):=by
 unfold fai at h
 refine enter Tryz.func95 z z ?_
 have hS:=Sep.start w
 refine .g (.qn z (.g (.c (.liv [8,9,10,11,12,3,1,2,6,7,5] (D.int .i64) T.u25 T.t3 hS z z z z ?_ z (fun _=>z) z z z z))))
 intro v1 W hS
 refine .qn z (.g (.q z (.q z (.q z ?_))))
 have ⟨x1,hx1,h⟩:=bnd h
 refine .s (ixv hS.lendv hx1 T.u25 T.t3 z z z) z (.s (lde (RV.flat hS.lendv hx1 z) T.t3 z z z z z) z (.q z (.q z ?_)))
 have ⟨y1,hy1,h⟩:=bnd h
 refine .c (.call0 hS Tryz.func119 (fbv hy1) z z ?_ z z z z)
 intro W hS
 cases h
 exact .q z (.q z (.q z (.q z (.qn z (.g (.q z (.qn z (.ret (fin_ret (vs:=[_]) () (rt z rn) z (hS.to [] z))))))))))
theorem fdk {a0 : Int} {a1 : Int} {a2 : Int} {a3 : Int} {w : World} {r : Int × Int × Bool} (h : f4w a0 a1 a2 a3 = some r) : Calls Tryz.prog 53 #[.int .i64 a0,.int .i64 a1,.int .i64 a2,.int .i64 a3] w (Ret No w (fun s : Unit=>.tuple #[.int .i64 r.1,.int .i64 r.2.1,.bool r.2.2]) (fun s=>[])):=by
 unfold f4w at h
 refine enter Tryz.func53 z z ?_
 have hS:=Sep.start w
 refine .g (.q z (.q z (.qn z (.seq (.g (.q z ?_))))))
 have ⟨y1,hy1,h⟩:=bnd h
 refine .c (.call0 hS Tryz.func27 (f04 hy1) z z ?_ z z z z)
 intro W hS
 refine .q z (.q z ?_)
 have ⟨b1,hb1,h⟩:=bnd h
 refine .chunk 6 20 (b1) hS ?_ ?_
 ·refine .both (!y1) (fun hb=>?_) (fun hb=>?_)
  ·refine .xx hb z (.xx hb z (.xx hb z (.xx hb z (.xx hb z ?_))))
   cases sel_t hb hb1
   exact .s (pkt hb z z z) z (.nil (ck 6 hS z z z z))
  have hg1:=hb
  have h:=sel_f hb hb1
  refine .g hg1 (.q z (.g hg1 (.q z (.g hg1 (.q z ?_) z)) z)) z
  have ⟨y2,hy2,h⟩:=bnd h
  refine .g hg1 (.c (.call0 hS Tryz.func27 (f04 hy2) z z ?_ z z z z)) z
  intro W hS
  refine .g hg1 (.q z (.s (pkf hg1 z z z) z ?_)) z
  cases h
  exact .nil (ck 6 hS z z z z)
 intro W hS
 refine .q z ?_
 have ⟨b2,hb2,h⟩:=bnd h
 refine .chunk 6 27 (b2) hS ?_ ?_
 ·refine .both (b1) (fun hb=>?_) (fun hb=>?_)
  ·refine .xx hb z (.xx hb z (.xx hb z (.xx hb z (.xx hb z ?_))))
   cases sel_t hb hb2
   exact .s (pkt hb z z z) z (.nil (ck 6 hS z z z z))
  have hg2:=hb
  have h:=sel_f hb hb2
  refine .g hg2 (.q z (.g hg2 (.q z (.g hg2 (.q z ?_) z)) z)) z
  have ⟨y3,hy3,h⟩:=bnd h
  refine .g hg2 (.c (.call0 hS Tryz.func27 (f04 hy3) z z ?_ z z z z)) z
  intro W hS
  refine .g hg2 (.q z (.s (pkf hg2 z z z) z ?_)) z
  cases h
  exact .nil (ck 6 hS z z z z)
 intro W hS
 refine .nil ?_
 refine .cs z h ?_ ?_ <;> intro h
 ·cases h
  exact .g (.q z (.q z (.qn z (.ret (fin_ret (vs:=[_,_,_]) () (rt z (rt z (rt z rn))) z (hS.to [] z))))))
 refine .skip (.seq (.g (.qn z (.block (.g (.q z (.q z (.nil ?_))))))))
 refine .cs z h ?_ ?_ <;> intro h
 ·cases h
  exact .g (.q z (.q z (.q z (.qn z (.ret (fin_ret (vs:=[_,_,_]) () (rt z (rt z (rt z rn))) z (hS.to [] z)))))))
 refine .g (.q z (.q z (.nil ?_)))
 refine .cs z h ?_ ?_ <;> intro h
 ·refine .g (.q z (.q z (.q z ?_)))
  have ⟨d1,hd1,h⟩:=bnd h
  cases h
  exact .s (dr hd1 z z z) z (.q z (.q z (.qn z (.ret (fin_ret (vs:=[_,_,_]) () (rt z (rt z (rt z rn))) z (hS.to [] z))))))
 have ⟨y4,hy4,h⟩:=bnd h
 refine .seq (CW.via (R':=fun x E' W'=>x = .normal ∧ SubL E' [(0,.int .i64 a0),(1,.int .i64 a1),(2,.int .i64 a2),(38,.bool y4)] ∧ Sep No w W' []) ?_ ?_)
 ·have h:=hy4
  refine .g (.q z (.q z (.nil ?_)))
  refine .cs z h ?_ ?_ <;> intro h
  ·refine .skip ?_
   cases h
   exact ⟨z,sb z,hS.to [] z⟩
  refine .region (.q z (.q z (.nil ?_)))
  cases h
  exact ⟨z,sb z,hS.to [] z⟩
 intro x E W hJ
 obtain ⟨rfl,hE,hS⟩:=hJ
 refine ⟨_,hE.sub,?_⟩
 refine .cs z h ?_ ?_ <;> intro h
 ·refine .g (.q z (.q z (.q z ?_)))
  have ⟨d2,hd2,h⟩:=bnd h
  cases h
  exact .s (dr hd2 z z z) z (.q z (.q z (.q z (.q z (.qn z (.ret (fin_ret (vs:=[_,_,_]) () (rt z (rt z (rt z rn))) z (hS.to [] z))))))))
 cases h
 exact .skip (.g (.q z (.q z (.qn z (.ret (fin_ret (vs:=[_,_,_]) () (rt z (rt z (rt z rn))) z (hS.to [] z)))))))
theorem fcd {a0 : Machine} {a1 : Int} {v_0_Regs : Hd} {v_0_Mem : Hd} {h_0 : Hd} {A_0 : Type} {e_0 : A_0 → D} {l_0 : List A_0} {k_0 : Nat} {S : Nat → Prop} {w : World} {r : Bool} (h : f5t a0 a1 = some r) (q_0_Regs : RV w (Old S w) (sv v_0_Regs) 3 1 (D.int .i64) a0.Regs) (q_0_Mem : RV w (Old S w) (sv v_0_Mem) 3 1 (D.int .i64) a0.Mem) (hO : Owns w [holeV (sv h_0) 36 3 e_0 l_0 k_0 [(sv v_0_Regs),.int .i64 a0.Pc,(sv v_0_Mem)]] S) (hlt : ∀ b,S b → b < w.heap.size) : Calls Tryz.prog 50 #[.pointer (some (elemA (adr (sv h_0)) (k_0 * 3 + 0))),.int .i64 a1] w (Ret S w (fun s : Unit=>.bool r) (fun s=>[holeV (sv h_0) 36 3 e_0 l_0 k_0 [(sv v_0_Regs),.int .i64 a0.Pc,(sv v_0_Mem)]])):=by
 unfold f5t at h
 refine enter Tryz.func50 z z ?_
 have hS:=Sep.startM hO hlt
 refine .g (.qn z (.g (.q z (.q z (.s (fe T.f36_0 z z z) z (.s (lde (hS.hcellsv) T.t25 z z z z z) z ?_))))))
 have ⟨x1,hx1,h⟩:=bnd h
 refine .s (ixv (hS.keep q_0_Regs) hx1 T.u25 T.t3 z z z) z (.s (lde (RV.flat (hS.keep q_0_Regs) hx1 z) T.t3 z z z z z) z (.qn z (.seq (.g (.q z (.q z (.s (fe T.f36_1 z z z) z (.s (lde (hS.hcellsv) T.t3 z z z z z) z (.q z (.q z ?_))))))))))
 have ⟨b1,hb1,h⟩:=bnd h
 refine .chunk 4 21 (b1) hS ?_ ?_
 ·refine .both (a0.Pc != 0) (fun hb=>?_) (fun hb=>?_)
  ·refine .xx hb z (.xx hb z (.xx hb z ?_))
   cases sel_t hb hb1
   exact .s (pkt hb z z z) z (.nil (ck 4 hS z z z z))
  have hg1:=hb
  have h:=sel_f hb hb1
  refine .g hg1 (.q z ?_) z
  have ⟨y1,hy1,h⟩:=bnd h
  refine .g hg1 (.c (.call0 hS Tryz.func27 (f04 hy1) z z ?_ z z z z)) z
  intro W hS
  refine .g hg1 (.q z (.s (pkf hg1 z z z) z ?_)) z
  cases h
  exact .nil (ck 4 hS z z z z)
 intro W hS
 refine .nil ?_
 refine .cs z h ?_ ?_ <;> intro h
 ·obtain rfl:=Option.some.inj h
  exact .g (.qn z (.ret (fin_ret (vs:=[_]) () (rt z rn) z (hS.to [0] z))))
 refine .skip (.g (.q z (.q z (.q z (.chunk 3 27 ((x1 != 1) && (x1 != 2)) hS ?_ ?_)))))
 ·refine .both (x1 != 1) (fun hb=>?_) (fun hb=>?_)
  ·have hg2:=hb
   exact .g hg2 (.q z (.g hg2 (.q z (.s (pkt hg2 z z z) z (.nil (ck 3 hS z (and_t hg2) z z)))) z)) z
  exact .xx hb z (.xx hb z (.s (pkf hb z z z) z (.nil (ck 3 hS z (and_f hb) z z))))
 intro W hS
 refine .q z ?_
 have ⟨b2,hb2,h⟩:=bnd h
 refine .chunk 10 38 (b2) hS ?_ ?_
 ·refine .both ((x1 != 1) && (x1 != 2)) (fun hb=>?_) (fun hb=>?_)
  ·refine .xx hb z (.xx hb z (.xx hb z (.xx hb z (.xx hb z (.xx hb z (.xx hb z (.xx hb z (.xx hb z ?_))))))))
   cases sel_t hb hb2
   exact .s (pkt hb z z z) z (.nil (ck 10 hS z z z z))
  have hg3:=hb
  have h:=sel_f hb hb2
  refine .g hg3 (.q z (.g hg3 (.q z (.g hg3 (.s (fe T.f36_0 z z z) z (.g hg3 (.s (lde (hS.hcellsv) T.t25 z z z z z) z ?_) z)) z)) z)) z
  have ⟨x2,hx2,h⟩:=bnd h
  refine .g hg3 (.s (ixv (hS.keep q_0_Regs) hx2 T.u25 T.t3 z z z) z (.g hg3 (.s (lde (RV.flat (hS.keep q_0_Regs) hx2 z) T.t3 z z z z z) z (.g hg3 (.q z (.g hg3 (.q z ?_) z)) z)) z)) z
  have ⟨y2,hy2,h⟩:=bnd h
  refine .g hg3 (.c (.call0 hS Tryz.func27 (f04 hy2) z z ?_ z z z z)) z
  intro W hS
  refine .s (pkf hg3 z z z) z ?_
  cases h
  exact .nil (ck 10 hS z z z z)
 intro W hS
 obtain rfl:=Option.some.inj h
 exact .qn z (.ret (fin_ret (vs:=[_]) () (rt z rn) z (hS.to [0] z)))
theorem fc6 {a0 : Machine} {a1 : List Box} {v_0_Regs : Hd} {v_0_Mem : Hd} {h_0 : Hd} {A_0 : Type} {e_0 : A_0 → D} {l_0 : List A_0} {k_0 : Nat} {v_1 : Hd} {S : Nat → Prop} {w : World} {r : Int × (List Int) × Int × (List Box)} (h : f4n a0 a1 = some r) (q_0_Mem : RV w (Old S w) (sv v_0_Mem) 3 1 (D.int .i64) a0.Mem) (hO : Owns w [rowV (sv v_0_Regs) 3 1 (D.int .i64) a0.Regs,holeV (sv h_0) 36 3 e_0 l_0 k_0 [(sv v_0_Regs),.int .i64 a0.Pc,(sv v_0_Mem)],rowV (sv v_1) 61 2 dBox a1] S) (hlt : ∀ b,S b → b < w.heap.size) : Calls Tryz.prog 70 #[.pointer (some (elemA (adr (sv h_0)) (k_0 * 3 + 0))),(sv v_1)] w (Ret S w (fun s : Hd=>.int .i64 r.1) (fun s=>[holeV (sv h_0) 36 3 e_0 l_0 k_0 [(sv s),.int .i64 r.2.2.1,(sv v_0_Mem)],rowV (sv v_1) 61 2 dBox r.2.2.2,rowV (sv s) 3 1 (D.int .i64) r.2.1])):=by
 unfold f4n at h
 refine enter Tryz.func70 z z ?_
 have hS:=Sep.startM hO hlt
 refine .g (.qn z (.g (.q z (.q z (.s (fe T.f36_0 z z z) z (.s (lde (hS.p1.hcellsv) T.t25 z z z z z) z ?_))))))
 have ⟨x1,hx1,h⟩:=bnd h
 refine .s (ixv hS.lendv hx1 T.u25 T.t3 z z z) z (.s (lde (RV.flat hS.lendv hx1 z) T.t3 z z z z z) z (.qn z (.seq (.g (.q z (.q z (.s (fe T.f36_0 z z z) z (.s (lde (hS.p1.hcellsv) T.t25 z z z z z) z ?_))))))))
 have ⟨x2,hx2,h⟩:=bnd h
 refine .s (ixv hS.lendv hx2 T.u25 T.t3 z z z) z (.s (lde (RV.flat hS.lendv hx2 z) T.t3 z z z z z) z (.q z (.nil ?_)))
 refine .cs z h ?_ ?_ <;> intro h
 ·refine .seq ?_
  have ⟨x3,hx3,h⟩:=bnd h
  obtain ⟨k1,hS⟩:=Sep.outv hS.p2 hx3
  have hS:=hS.oagg
  obtain ⟨k1,rfl,hS⟩:=Sep.oflat z hS
  obtain ⟨v1,k1,rfl,hS⟩:=hS.orowv
  obtain ⟨rfl,hS⟩:=hS.onil
  have ⟨x5,hx5,h⟩:=bnd h
  have ⟨y2,hy2,h⟩:=bnd h
  refine .via (R':=fun x E' W'=>x = .normal ∧ ∃ (g2 : Nat) (v3 : Hd),SubL E' [(0,.pointer (some (elemA (adr (sv h_0)) (k_0 * 3 + 0)))),(1,(sv v_1)),(5,.int .i64 x1),(6,.pointer (some ⟨g2,0,none⟩)),(7,.bool y2.2)] ∧ Sep S w W' [rowV (sv v_0_Regs) 3 1 (D.int .i64) a0.Regs,holeV (sv h_0) 36 3 e_0 l_0 k_0 [(sv v_0_Regs),.int .i64 a0.Pc,(sv v_0_Mem)],rowV (sv v_1) 61 2 dBox a1,.box g2 61 [.int .i64 y2.1.Room,(sv v3)],rowV (sv v3) 3 1 (D.int .i64) y2.1.Items]) ?_ ?_
  ·refine .rk 17 hS [0,0,0,0] T.mix ?_
   intro W hS
   have hT:=hS.to [0,0,0,0] z
   refine .tp 0 z z hT (by kernel_rfl) (.tp 1 z z hT (by kernel_rfl) (.ts 2 z (fun W hT=>ixh hT.p1 hx3 T.u24 T.t61 z z z) hT z (by kernel_rfl) (.ts 3 z (fun W hT=>lde (hT.p1.hcellsv) T.t61 z z z z z) hT z (by kernel_rfl) (.tp 4 z z hT (by kernel_rfl) (.tp 5 z z hT (by kernel_rfl) (.ts 6 z (fun W hT=>fe T.f36_0 z z z) hT z (by kernel_rfl) (.ts 7 z (fun W hT=>lde (hT.p3.hcellsv) T.t25 z z z z z) hT z (by kernel_rfl) (.ts 8 z (fun W hT=>ixv hS.p2.lendv hx5 T.u25 T.t3 z z z) hT z (by kernel_rfl) (.ts 9 z (fun W hT=>lde (RV.flat hT.p2.lendv hx5 z) T.t3 z z z z z) hT z (by kernel_rfl) (.by [10,14] ⟨⟨_,z,?_⟩,⟨_,z,?_⟩,trivial⟩ (by kernel_rfl) z))))))))))
   ·refine (.call1v hS Tryz.func87 (fbg hy2 hS.lendv) z z ?_ z z z z)
    intro v4 W hS
    have hT:=hS.to [1,1,1,1] z
    refine ⟨fun _=>hT,.tp 11 z z hT (by kernel_rfl) (.tp 12 z z hT (by kernel_rfl) (.tp 13 z z hT (by kernel_rfl) (.by1 14 z (.alloc T.t61 hS ?_ z z z) (by kernel_rfl))))⟩
    intro g3 W hS
    have hT:=hS.to [2,2,2,2] z
    refine ⟨fun _=>hT,.by1 15 z (.st T.t61 hS z z z ?_ z z z z z) (by kernel_rfl)⟩
    intro W hS
    have hT:=hS.to [2,2,2,2] z
    refine ⟨fun _=>hT,.tp 16 z z hT (by kernel_rfl) (.done ?_ (by kernel_rfl))⟩
    have hS:=Sep.gat (ds:=[dBox x3]) (cs:=[.int .i64 x3.Room,(sv v1)]) (L1:=[rowV (sv v1) 3 1 (D.int .i64) x3.Items]) (.agg (.flat (c1:=[.int .i64 x3.Room]) z (.row .nil))) (hS.to [2,2,0,0,0,0] z)
    have hS : Sep _ _ _ [rowV (sv v_1) 61 2 dBox a1,.box g3 61 [.int .i64 y2.1.Room,(sv v4)],rowV (sv v4) 3 1 (D.int .i64) y2.1.Items,rowV (sv v_0_Regs) 3 1 (D.int .i64) a0.Regs,holeV (sv h_0) 36 3 e_0 l_0 k_0 [(sv v_0_Regs),.int .i64 a0.Pc,(sv v_0_Mem)]]:=Sep.back0v hx3 hS
    exact ⟨z,g3,v4,sb z,hS.to [3,3,0,0,0] z⟩
   refine (.alloc T.t61 hS ?_ z z z)
   intro g4 W hS
   have hT:=hS.to [1,1,1,1] z
   refine ⟨fun _=>hT,.by1 10 z (.call1v hS Tryz.func87 (fbg hy2 hS.p1.lendv) z z ?_ z z z z) (by kernel_rfl)⟩
   intro v5 W hS
   have hT:=hS.to [2,2,2,2] z
   refine ⟨fun _=>hT,.tp 11 z z hT (by kernel_rfl) (.tp 12 z z hT (by kernel_rfl) (.tp 13 z z hT (by kernel_rfl) (.by1 15 z (.st T.t61 hS.p1 z z z ?_ z z z z z) (by kernel_rfl))))⟩
   intro W hS
   have hT:=hS.to [2,2,2,2] z
   refine ⟨fun _=>hT,.tp 16 z z hT (by kernel_rfl) (.done ?_ (by kernel_rfl))⟩
   have hS:=Sep.gat (ds:=[dBox x3]) (cs:=[.int .i64 x3.Room,(sv v1)]) (L1:=[rowV (sv v1) 3 1 (D.int .i64) x3.Items]) (.agg (.flat (c1:=[.int .i64 x3.Room]) z (.row .nil))) (hS.to [2,2,0,0,0,0] z)
   have hS : Sep _ _ _ [rowV (sv v_1) 61 2 dBox a1,.box g4 61 [.int .i64 y2.1.Room,(sv v5)],rowV (sv v5) 3 1 (D.int .i64) y2.1.Items,rowV (sv v_0_Regs) 3 1 (D.int .i64) a0.Regs,holeV (sv h_0) 36 3 e_0 l_0 k_0 [(sv v_0_Regs),.int .i64 a0.Pc,(sv v_0_Mem)]]:=Sep.back0v hx3 hS
   exact ⟨z,g4,v5,sb z,hS.to [3,3,0,0,0] z⟩
  intro x E W hJ
  obtain ⟨rfl,g5,v6,hE,hS⟩:=hJ
  refine ⟨_,hE.sub,?_⟩
  refine .seq (.g (.q z (.q z (.nil ?_))))
  refine .cs z h ?_ ?_ <;> intro h
  ·cases h
   exact .g (.qn z (.ret (fin_ret (vs:=[_]) v_0_Regs (rt z rn) z (hS.to [1,1,0] z))))
  refine .skip (.g (.q z (.q z (.s (ld T.t61 hS.p3 z z z z z) z ?_))))
  have ⟨x6,hx6,h⟩:=bnd h
  refine .s (ixv hS.p2.lendv hx6 T.u24 T.t61 z z z) z ?_
  obtain ⟨k2,hS⟩:=Sep.outv hS.p2 hx6
  have hS:=hS.oagg
  obtain ⟨k2,rfl,hS⟩:=Sep.oflat z hS
  obtain ⟨v7,k2,rfl,hS⟩:=hS.orowv
  obtain ⟨rfl,hS⟩:=hS.onil
  refine .c (.sthv hS.p1 T.t61 z z z ?_ z z z z z z)
  intro W hS
  refine .nil (.g (.q z (.q z (.q z (.s (fe T.f36_0 z z z) z (.s (lde (hS.p3.hcellsv) T.t25 z z z z z) z ?_))))))
  have ⟨x7,hx7,h⟩:=bnd h
  refine .s (ixv hS.p2.lendv hx7 T.u25 T.t3 z z z) z (.s (lde (RV.flat hS.p2.lendv hx7 z) T.t3 z z z z z) z (.q z (.s (fe T.f36_1 z z z) z (.c (.sthv hS.p3 T.t3 z z z ?_ z z z z z z)))))
  intro W hS
  refine .nil (.g (.qn z (.ret ?_)))
  have hS:=Sep.gat (ds:=[dBox (Box.mk y2.1.Room y2.1.Items)]) (cs:=[.int .i64 y2.1.Room,(sv v6)]) (L1:=[rowV (sv v6) 3 1 (D.int .i64) y2.1.Items]) (.agg (.flat (c1:=[.int .i64 y2.1.Room]) z (.row .nil))) (hS.to [5,1,0,0,0,0] z)
  have hS : Sep _ _ _ [rowV (sv v_1) 61 2 dBox (a1.set (Int.toNat x1) (Box.mk y2.1.Room y2.1.Items)),holeV (sv h_0) 36 3 e_0 l_0 k_0 [(sv v_0_Regs),.int .i64 x7,(sv v_0_Mem)],rowV (sv v7) 3 1 (D.int .i64) x6.Items,rowV (sv v_0_Regs) 3 1 (D.int .i64) a0.Regs,.box g5 61 [.int .i64 y2.1.Room,(sv v6)]]:=hS.backv
  cases h
  exact fin_ret (vs:=[_]) v_0_Regs (rt z rn) z (hS.to [1,0,1] z)
 refine .skip (.g (.q z (.q z ?_)))
 have ⟨x8,hx8,h⟩:=bnd h
 refine .s (ixv hS.p2.lendv hx8 T.u24 T.t61 z z z) z ?_
 obtain ⟨k3,hS⟩:=Sep.outv hS.p2 hx8
 have hS:=hS.oagg
 obtain ⟨k3,rfl,hS⟩:=Sep.oflat z hS
 obtain ⟨v8,k3,rfl,hS⟩:=hS.orowv
 obtain ⟨rfl,hS⟩:=hS.onil
 refine .s (lde (hS.p1.hcellsv) T.t61 z z z z z) z ?_
 have ⟨y3,hy3,h⟩:=bnd h
 refine .c (.call1v hS Tryz.func88 (fe7 hy3 hS.lendv) z z ?_ z z z z)
 intro v9 W hS
 refine .q z (.q z (.q z (.q z (.c (.alloc T.t61 hS ?_ z z z)))))
 intro g6 W hS
 refine .c (.st T.t61 hS z z z ?_ z z z z z)
 intro W hS
 refine .q z (.qn z (.seq (.g (.q z (.q z (.nil ?_))))))
 refine .cs z h ?_ ?_ <;> intro h
 ·refine .g (.qn z (.ret ?_))
  have hS:=Sep.gat (ds:=[dBox x8]) (cs:=[.int .i64 x8.Room,(sv v8)]) (L1:=[rowV (sv v8) 3 1 (D.int .i64) x8.Items]) (.agg (.flat (c1:=[.int .i64 x8.Room]) z (.row .nil))) (hS.to [2,2,0,0,0,0] z)
  have hS : Sep _ _ _ [rowV (sv v_1) 61 2 dBox a1,.box g6 61 [.int .i64 y3.1.Room,(sv v9)],rowV (sv v9) 3 1 (D.int .i64) y3.1.Items,rowV (sv v_0_Regs) 3 1 (D.int .i64) a0.Regs,holeV (sv h_0) 36 3 e_0 l_0 k_0 [(sv v_0_Regs),.int .i64 a0.Pc,(sv v_0_Mem)]]:=Sep.back0v hx8 hS
  cases h
  exact fin_ret (vs:=[_]) v_0_Regs (rt z rn) z (hS.to [4,0,2] z)
 refine .skip (.g (.q z (.q z (.s (ld T.t61 hS z z z z z) z (.s (ixh hS.p3 hx8 T.u24 T.t61 z z z) z (.c (.sthv hS.p3 T.t61 z z z ?_ z z z z z z)))))))
 intro W hS
 refine .nil (.g (.q z (.q z (.s (fe T.f36_0 z z z) z (.s (lde (hS.p5.hcellsv) T.t25 z z z z z) z (.q z ?_))))))
 have ⟨x9,hx9,h⟩:=bnd h
 refine .s (ixv hS.p4.lendv hx9 T.u25 T.t3 z z z) z ?_
 have ⟨r1,hr1,h⟩:=bnd h
 refine .c (.sev hr1 hx9 hS.p4 T.t3 z z z z z z ?_ z z z z z z)
 intro W hS
 refine .nil (.g (.q z (.q z (.q z (.s (fe T.f36_0 z z z) z (.s (lde (hS.p5.hcellsv) T.t25 z z z z z) z ?_))))))
 have ⟨x10,hx10,h⟩:=bnd h
 refine .s (ixv hS.lendv hx10 T.u25 T.t3 z z z) z (.s (lde (RV.flat hS.lendv hx10 z) T.t3 z z z z z) z (.q z (.s (fe T.f36_1 z z z) z (.c (.sthv hS.p5 T.t3 z z z ?_ z z z z z z)))))
 intro W hS
 refine .nil (.g (.qn z (.ret ?_)))
 have hS:=Sep.gat (ds:=[dBox (Box.mk y3.1.Room y3.1.Items)]) (cs:=[.int .i64 y3.1.Room,(sv v9)]) (L1:=[rowV (sv v9) 3 1 (D.int .i64) y3.1.Items]) (.agg (.flat (c1:=[.int .i64 y3.1.Room]) z (.row .nil))) (hS.to [4,2,0,0,0,0] z)
 have hS : Sep _ _ _ [rowV (sv v_1) 61 2 dBox (a1.set (Int.toNat x1) (Box.mk y3.1.Room y3.1.Items)),holeV (sv h_0) 36 3 e_0 l_0 k_0 [(sv v_0_Regs),.int .i64 x10,(sv v_0_Mem)],rowV (sv v_0_Regs) 3 1 (D.int .i64) r1,.box g6 61 [.int .i64 y3.1.Room,(sv v9)],rowV (sv v8) 3 1 (D.int .i64) x8.Items]:=hS.backv
 cases h
 exact fin_ret (vs:=[_]) v_0_Regs (rt z rn) z (hS.to [1,0,0] z)
theorem fc9 {a0 : Machine} {a1 : List Box} {v_0_Regs : Hd} {v_0_Mem : Hd} {h_0 : Hd} {A_0 : Type} {e_0 : A_0 → D} {l_0 : List A_0} {k_0 : Nat} {v_1 : Hd} {S : Nat → Prop} {w : World} {r : (List Int) × Int × (List Int) × Int × (List Box)} (h : f1o a0 a1 = some r) (q_0_Mem : RV w (Old S w) (sv v_0_Mem) 3 1 (D.int .i64) a0.Mem) (hO : Owns w [rowV (sv v_0_Regs) 3 1 (D.int .i64) a0.Regs,holeV (sv h_0) 36 3 e_0 l_0 k_0 [(sv v_0_Regs),.int .i64 a0.Pc,(sv v_0_Mem)],rowV (sv v_1) 61 2 dBox a1] S) (hlt : ∀ b,S b → b < w.heap.size) : Calls Tryz.prog 51 #[.pointer (some (elemA (adr (sv h_0)) (k_0 * 3 + 0))),(sv v_1)] w (Ret S w (fun s : Hd × Hd=>.tuple #[(sv s.1),.int .i64 r.2.1]) (fun s=>[holeV (sv h_0) 36 3 e_0 l_0 k_0 [(sv s.2),.int .i64 r.2.2.2.1,(sv v_0_Mem)],rowV (sv v_1) 61 2 dBox r.2.2.2.2,rowV (sv s.1) 3 1 (D.int .i64) r.1,rowV (sv s.2) 3 1 (D.int .i64) r.2.2.1])):=by
 unfold f1o at h
 refine enter Tryz.func51 z z ?_
 have hS:=Sep.startM hO hlt
 refine .g (.q z (.qn z (.seq (.g (.q z (.q z (.s (fe T.f36_0 z z z) z (.s (lde (hS.p1.hcellsv) T.t25 z z z z z) z ?_))))))))
 have ⟨x1,hx1,h⟩:=bnd h
 refine .s (ixv hS.lendv hx1 T.u25 T.t3 z z z) z (.s (lde (RV.flat hS.lendv hx1 z) T.t3 z z z z z) z (.nil (.block ?_)))
 have ⟨y1,hy1,h⟩:=bnd h
 refine .seq (CW.via (R':=fun x E' W'=>x = .normal ∧ SubL E' [(0,.pointer (some (elemA (adr (sv h_0)) (k_0 * 3 + 0)))),(1,(sv v_1)),(11,.int .i64 x1),(12,.bool y1)] ∧ Sep S w W' [rowV (sv v_0_Regs) 3 1 (D.int .i64) a0.Regs,holeV (sv h_0) 36 3 e_0 l_0 k_0 [(sv v_0_Regs),.int .i64 a0.Pc,(sv v_0_Mem)],rowV (sv v_1) 61 2 dBox a1]) ?_ ?_)
 ·have h:=hy1
  refine .g (.q z (.q z (.nil ?_)))
  refine .cs z h ?_ ?_ <;> intro h
  ·refine .skip ?_
   cases h
   exact ⟨z,sb z,hS.to [0,0,0] z⟩
  refine .region (.q z (.q z (.nil ?_)))
  cases h
  exact ⟨z,sb z,hS.to [0,0,0] z⟩
 intro x E W hJ
 obtain ⟨rfl,hE,hS⟩:=hJ
 refine ⟨_,hE.sub,?_⟩
 refine .cond z (fun hb=>?_) (fun hb=>?_)
 ·have h:=sel_t hb h
  refine .g (.c (.liv [] (D.int .i64) T.u25 T.t3 hS z z z z ?_ z (fun _=>z) z z z z))
  intro v1 W hS
  refine .q z (.q z ?_)
  have ⟨y2,hy2,h⟩:=bnd h
  have hS:=hS.p3
  have hS:=hS.p3
  have hS:=hS.p3
  refine .c (.callS2 (L0:=[rowV (sv v_0_Regs) 3 1 (D.int .i64) a0.Regs,holeV (sv h_0) 36 3 e_0 l_0 k_0 [(sv v_0_Regs),.int .i64 a0.Pc,(sv v_0_Mem)],rowV (sv v_1) 61 2 dBox a1]) hS Tryz.func70 (fun S h1 h2 h3=>(fc6 hy2 (hS.keepS q_0_Mem h1) h2 (zz h1))) z z ?_ z z z z)
  rintro v2 W hS
  cases h
  exact .q z (.qn z (.ret (fin_ret (vs:=[_,_]) (v1,v2) (rt z (rt z rn)) z (hS.to [0,0,1,0] z))))
 have h:=sel_f hb h
 refine .g (.q z (.q z (.nil ?_)))
 refine .cs z h ?_ ?_ <;> intro h
 ·refine .g (.c (.liv [] (D.int .i64) T.u25 T.t3 hS z z z z ?_ z (fun _=>z) z z z z))
  intro v3 W hS
  cases h
  exact .q z (.qn z (.ret (fin_ret (vs:=[_,_]) (v3,v_0_Regs) (rt z (rt z rn)) z (hS.to [2,2,0,0] z))))
 refine .skip (.g (.q z (.q z (.q z (.s (fe T.f36_0 z z z) z (.s (lde (hS.p1.hcellsv) T.t25 z z z z z) z ?_))))))
 have ⟨x2,hx2,h⟩:=bnd h
 refine .s (ixv hS.lendv hx2 T.u25 T.t3 z z z) z (.s (lde (RV.flat hS.lendv hx2 z) T.t3 z z z z z) z (.q z (.s (fe T.f36_1 z z z) z (.c (.sthv hS.p1 T.t3 z z z ?_ z z z z z z)))))
 intro W hS
 refine .nil (.seq (.g (.q z (.q z (.s (fe T.f36_0 z z z) z (.s (lde (hS.hcellsv) T.t25 z z z z z) z ?_))))))
 have ⟨x3,hx3,h⟩:=bnd h
 refine .s (ixv hS.p1.lendv hx3 T.u25 T.t3 z z z) z (.s (lde (RV.flat hS.p1.lendv hx3 z) T.t3 z z z z z) z (.q z (.nil ?_)))
 refine .cs z h ?_ ?_ <;> intro h
 ·refine .g (.q z (.q z (.s (fe T.f36_0 z z z) z (.s (lde (hS.hcellsv) T.t25 z z z z z) z ?_))))
  have ⟨x4,hx4,h⟩:=bnd h
  refine .s (ixv hS.p1.lendv hx4 T.u25 T.t3 z z z) z (.s (lde (RV.flat hS.p1.lendv hx4 z) T.t3 z z z z z) z (.c (.liv [x4] (D.int .i64) T.u25 T.t3 hS z z z z ?_ z (fun _=>z) z z z z)))
  intro v4 W hS
  cases h
  exact .q z (.qn z (.ret (fin_ret (vs:=[_,_]) (v4,v_0_Regs) (rt z (rt z rn)) z (hS.to [1,2,0,0] z))))
 refine .skip (.g (.c (.liv [] (D.int .i64) T.u25 T.t3 hS z z z z ?_ z (fun _=>z) z z z z)))
 intro v5 W hS
 cases h
 exact .q z (.qn z (.ret (fin_ret (vs:=[_,_]) (v5,v_0_Regs) (rt z (rt z rn)) z (hS.to [1,2,0,0] z))))
theorem f1t {a0 : Machine} {a1 : Int} {a2 : Int} {v_0_Regs : Hd} {v_0_Mem : Hd} {h_0 : Hd} {A_0 : Type} {e_0 : A_0 → D} {l_0 : List A_0} {k_0 : Nat} {S : Nat → Prop} {w : World} {r : (List Int)} (h : f25 a0 a1 a2 = some r) (q_0_Mem : RV w (Old S w) (sv v_0_Mem) 3 1 (D.int .i64) a0.Mem) (hO : Owns w [rowV (sv v_0_Regs) 3 1 (D.int .i64) a0.Regs,holeV (sv h_0) 36 3 e_0 l_0 k_0 [(sv v_0_Regs),.int .i64 a0.Pc,(sv v_0_Mem)]] S) (hlt : ∀ b,S b → b < w.heap.size) : Calls Tryz.prog 93 #[.pointer (some (elemA (adr (sv h_0)) (k_0 * 3 + 0))),.int .i64 a1,.int .i64 a2] w (Ret S w (fun s : Hd=>.tuple #[]) (fun s=>[holeV (sv h_0) 36 3 e_0 l_0 k_0 [(sv s),.int .i64 a0.Pc,(sv v_0_Mem)],rowV (sv s) 3 1 (D.int .i64) r])):=by
 unfold f25 at h
 refine enter Tryz.func93 z z ?_
 have hS:=Sep.startM hO hlt
 refine .g (.q z (.q z (.nil ?_)))
 refine .cs z h ?_ ?_ <;> intro h
 ·refine .region (.q z (.q z (.s (fe T.f36_0 z z z) z (.s (lde (hS.p1.hcellsv) T.t25 z z z z z) z (.q z (.q z ?_))))))
  have ⟨x1,hx1,h⟩:=bnd h
  refine .s (ixv hS.lendv hx1 T.u25 T.t3 z z z) z ?_
  have ⟨r1,hr1,h⟩:=bnd h
  refine .c (.sev hr1 hx1 hS T.t3 z z z z z z ?_ z z z z z z)
  intro W hS
  obtain rfl:=Option.some.inj h
  exact .nil (fin_ret (vs:=[]) v_0_Regs (rn) z (hS.to [1,0] z))
 cases h
 exact .skip (fin_ret (vs:=[]) v_0_Regs (rn) z (hS.to [1,0] z))
theorem fce {a0 : Machine} {a1 : Instr} {v_0_Regs : Hd} {v_0_Mem : Hd} {h_0 : Hd} {A_0 : Type} {e_0 : A_0 → D} {l_0 : List A_0} {k_0 : Nat} {S : Nat → Prop} {w : World} {r : Bool × (List Int) × Int × (List Int)} (h : fb2 a0 a1 = some r) (hO : Owns w [rowV (sv v_0_Regs) 3 1 (D.int .i64) a0.Regs,rowV (sv v_0_Mem) 3 1 (D.int .i64) a0.Mem,holeV (sv h_0) 36 3 e_0 l_0 k_0 [(sv v_0_Regs),.int .i64 a0.Pc,(sv v_0_Mem)]] S) (hlt : ∀ b,S b → b < w.heap.size) : Calls Tryz.prog 91 #[.pointer (some (elemA (adr (sv h_0)) (k_0 * 3 + 0))),.agg #[.int .i64 a1.Op,.int .i64 a1.Rd,.int .i64 a1.Rs,.int .i64 a1.Rt,.int .i64 a1.Imm]] w (Ret S w (fun s : Hd × Hd=>.bool r.1) (fun s=>[holeV (sv h_0) 36 3 e_0 l_0 k_0 [(sv s.1),.int .i64 r.2.2.1,(sv s.2)],rowV (sv s.1) 3 1 (D.int .i64) r.2.1,rowV (sv s.2) 3 1 (D.int .i64) r.2.2.2])):=by
 unfold fb2 at h
 refine enter Tryz.func91 z z ?_
 have hS:=Sep.startM hO hlt
 refine .g (.c (.box hS z z ?_ z z))
 intro g1 W hS
 refine .qn z (.seq (.rk 13 hS [0,0,0,0] T.mix ?_))
 intro W hS
 have hT:=hS.to [0,0,0,0] z
 refine .tp 0 z z hT (by kernel_rfl) (.tp 1 z z hT (by kernel_rfl) (.ts 2 z (fun W hT=>fe T.f36_0 z z z) hT z (by kernel_rfl) (.ts 3 z (fun W hT=>lde (hT.p3.hcellsv) T.t25 z z z z z) hT z (by kernel_rfl) (.ts 4 z (fun W hT=>fa T.f105_2 z z z) hT z (by kernel_rfl) (.ts 5 z (fun W hT=>ld T.t3 hT z z z z z) hT z (by kernel_rfl) ?_)))))
 have ⟨x1,hx1,h⟩:=bnd h
 refine .ts 6 z (fun W hT=>ixv hS.p1.lendv hx1 T.u25 T.t3 z z z) hT z (by kernel_rfl) (.ts 7 z (fun W hT=>lde (RV.flat hT.p1.lendv hx1 z) T.t3 z z z z z) hT z (by kernel_rfl) (.ts 8 z (fun W hT=>fa T.f105_4 z z z) hT z (by kernel_rfl) (.ts 9 z (fun W hT=>ld T.t3 hT z z z z z) hT z (by kernel_rfl) (.tp 10 z z hT (by kernel_rfl) ?_))))
 have ⟨y1,hy1,h⟩:=bnd h
 refine .by1 11 z (.call0 hS Tryz.func69 (f10 hy1) z z ?_ z z z z) (by kernel_rfl)
 intro W hS
 have hT:=hS.to [0,0,0,0] z
 refine ⟨fun _=>hT,.tp 12 z z hT (by kernel_rfl) (.done (.seq (.g (.q z (.q z (.s (fe T.f36_2 z z z) z (.s (lde (hS.p3.hcellsv) T.t25 z z z z z) z (.q z ?_))))))) (by kernel_rfl))⟩
 have ⟨y2,hy2,h⟩:=bnd h
 refine .c (.call0 hS Tryz.func71 (fbd hy2 hS.p2.lendv) z z ?_ z z z z)
 intro W hS
 refine .q z (.nil ?_)
 refine .cs z h ?_ ?_ <;> intro h
 ·cases h
  exact .g (.qn z (.ret (fin_ret (vs:=[_]) (v_0_Regs,v_0_Mem) (rt z rn) z (hS.to [3,1,1] z))))
 refine .skip ?_
 have ⟨y3,hy3,h⟩:=bnd h
 refine .seq (CW.via (R':=fun x E' W'=>x = .normal ∧ ∃ (v1 : Hd),SubL E' [(0,.pointer (some (elemA (adr (sv h_0)) (k_0 * 3 + 0))))] ∧ Sep S w W' [.box g1 105 [.int .i64 a1.Op,.int .i64 a1.Rd,.int .i64 a1.Rs,.int .i64 a1.Rt,.int .i64 a1.Imm],rowV (sv v_0_Mem) 3 1 (D.int .i64) y3.2,holeV (sv h_0) 36 3 e_0 l_0 k_0 [(sv v1),.int .i64 a0.Pc,(sv v_0_Mem)],rowV (sv v1) 3 1 (D.int .i64) y3.1]) ?_ ?_)
 ·have h:=hy3
  refine .g (.s (fa T.f105_0 z z z) z (.s (ld T.t3 hS z z z z z) z (.qn z (.cond z (fun hb=>?_) (fun hb=>?_)))))
  ·have h:=sel_t hb h
   refine .rk 12 hS [0,1] T.mix ?_
   intro W hS
   have hT:=hS.to [0,1] z
   refine .tp 0 z z hT (by kernel_rfl) (.ts 1 z (fun W hT=>fa T.f105_1 z z z) hT z (by kernel_rfl) (.ts 2 z (fun W hT=>ld T.t3 hT z z z z z) hT z (by kernel_rfl) (.tp 3 z z hT (by kernel_rfl) (.tp 4 z z hT (by kernel_rfl) (.ts 5 z (fun W hT=>fe T.f36_2 z z z) hT z (by kernel_rfl) (.tp 7 z z hT (by kernel_rfl) (.tp 8 z z hT (by kernel_rfl) (.by1 6 z (.runs (lde (hS.p3.hcellsv) T.t25 z z z z z) z z ?_) (by kernel_rfl)))))))))
   have hT:=hS.to [0,1] z
   refine ⟨fun _=>hT,?_⟩
   have ⟨x2,hx2,h⟩:=bnd h
   refine .ts 9 z (fun W hT=>ixv hS.p2.lendv hx2 T.u25 T.t3 z z z) hT z (by kernel_rfl) (.ts 10 z (fun W hT=>lde (RV.flat hT.p1.lendv hx2 z) T.t3 z z z z z) hT z (by kernel_rfl) ?_)
   have ⟨y4,hy4,h⟩:=bnd h
   have hS:=hS.p3
   have hS:=hS.p2
   refine .by1 11 z (.callS2 (L0:=[rowV (sv v_0_Regs) 3 1 (D.int .i64) a0.Regs,holeV (sv h_0) 36 3 e_0 l_0 k_0 [(sv v_0_Regs),.int .i64 a0.Pc,(sv v_0_Mem)]]) hS Tryz.func93 (fun S h1 h2 h3=>(f1t hy4 (h3.rdv (k:=1) z) h2 (zz h1))) z z ?_ z z z z) (by kernel_rfl)
   rintro v2 W hS
   have hT:=hS.to [2,2] z
   refine ⟨fun _=>hT,.done ?_ (by kernel_rfl)⟩
   cases h
   exact ⟨z,v2,sb z,hS.to [2,2,0,0] z⟩
  have h:=sel_f hb h
  refine .rk 15 hS [0,0,0,0] T.mix ?_
  intro W hS
  have hT:=hS.to [0,0,0,0] z
  refine .tp 0 z z hT (by kernel_rfl) (.tp 1 z z hT (by kernel_rfl) (.ts 2 z (fun W hT=>fe T.f36_2 z z z) hT z (by kernel_rfl) (.ts 3 z (fun W hT=>lde (hT.p3.hcellsv) T.t25 z z z z z) hT z (by kernel_rfl) (.tp 4 z z hT (by kernel_rfl) (.tp 5 z z hT (by kernel_rfl) (.tp 6 z z hT (by kernel_rfl) (.tp 7 z z hT (by kernel_rfl) (.ts 8 z (fun W hT=>fe T.f36_0 z z z) hT z (by kernel_rfl) (.ts 9 z (fun W hT=>lde (hT.p3.hcellsv) T.t25 z z z z z) hT z (by kernel_rfl) (.ts 10 z (fun W hT=>fa T.f105_3 z z z) hT z (by kernel_rfl) (.ts 11 z (fun W hT=>ld T.t3 hT z z z z z) hT z (by kernel_rfl) ?_)))))))))))
  have ⟨x3,hx3,h⟩:=bnd h
  refine .ts 12 z (fun W hT=>ixv hS.p1.lendv hx3 T.u25 T.t3 z z z) hT z (by kernel_rfl) (.ts 13 z (fun W hT=>lde (RV.flat hT.p1.lendv hx3 z) T.t3 z z z z z) hT z (by kernel_rfl) ?_)
  have ⟨x4,hx4,h⟩:=bnd h
  refine .ts 14 z (fun W hT=>ixv hS.p2.lendv hx4 T.u25 T.t3 z z z) hT z (by kernel_rfl) ?_
  have ⟨r1,hr1,h⟩:=bnd h
  refine .by1 15 z (.sev hr1 hx4 hS.p2 T.t3 z z z z z z ?_ z z z z z z) (by kernel_rfl)
  intro W hS
  refine ⟨fun h=>absurd z h,?_⟩
  refine .done ?_ (by kernel_rfl)
  cases h
  exact ⟨z,v_0_Regs,sb z,hS.to [1,0,1,0] z⟩
 intro x E W hJ
 obtain ⟨rfl,v3,hE,hS⟩:=hJ
 refine ⟨_,hE.sub,?_⟩
 refine .g (.q z (.q z (.q z (.s (fe T.f36_1 z z z) z (.s (lde (hS.p2.hcellsv) T.t3 z z z z z) z (.q z (.q z (.s (fe T.f36_1 z z z) z (.c (.sthv hS.p2 T.t3 z z z ?_ z z z z z z))))))))))
 intro W hS
 cases h
 exact .nil (.g (.qn z (.ret (fin_ret (vs:=[_]) (v3,v_0_Mem) (rt z rn) z (hS.to [0,2,1] z)))))
theorem fcf {a0 : Machine} {a1 : Instr} {v_0_Regs : Hd} {v_0_Mem : Hd} {h_0 : Hd} {A_0 : Type} {e_0 : A_0 → D} {l_0 : List A_0} {k_0 : Nat} {S : Nat → Prop} {w : World} {r : (List Int) × Int} (h : fav a0 a1 = some r) (q_0_Mem : RV w (Old S w) (sv v_0_Mem) 3 1 (D.int .i64) a0.Mem) (hO : Owns w [rowV (sv v_0_Regs) 3 1 (D.int .i64) a0.Regs,holeV (sv h_0) 36 3 e_0 l_0 k_0 [(sv v_0_Regs),.int .i64 a0.Pc,(sv v_0_Mem)]] S) (hlt : ∀ b,S b → b < w.heap.size) : Calls Tryz.prog 92 #[.pointer (some (elemA (adr (sv h_0)) (k_0 * 3 + 0))),.agg #[.int .i64 a1.Op,.int .i64 a1.Rd,.int .i64 a1.Rs,.int .i64 a1.Rt,.int .i64 a1.Imm]] w (Ret S w (fun s : Hd=>.tuple #[]) (fun s=>[holeV (sv h_0) 36 3 e_0 l_0 k_0 [(sv s),.int .i64 r.2,(sv v_0_Mem)],rowV (sv s) 3 1 (D.int .i64) r.1])):=by
 unfold fav at h
 refine enter Tryz.func92 z z ?_
 have hS:=Sep.startM hO hlt
 refine .g (.c (.box hS z z ?_ z z))
 intro g1 W hS
 refine .nil (.g (.q z (.q z (.s (fe T.f36_1 z z z) z (.s (lde (hS.p2.hcellsv) T.t3 z z z z z) z (.q z ?_))))))
 have ⟨y1,hy1,h⟩:=bnd h
 refine .c (.call0 hS Tryz.func69 (f10 hy1) z z ?_ z z z z)
 intro W hS
 refine .qn z (.seq (.rk 18 hS [0,0,0] T.mix ?_))
 intro W hS
 have hT:=hS.to [0,0,0] z
 refine .tp 0 z z hT (by kernel_rfl) (.tp 1 z z hT (by kernel_rfl) (.ts 2 z (fun W hT=>fe T.f36_0 z z z) hT z (by kernel_rfl) (.ts 3 z (fun W hT=>lde (hT.p2.hcellsv) T.t25 z z z z z) hT z (by kernel_rfl) (.ts 4 z (fun W hT=>fa T.f105_2 z z z) hT z (by kernel_rfl) (.ts 5 z (fun W hT=>ld T.t3 hT z z z z z) hT z (by kernel_rfl) ?_)))))
 have ⟨x1,hx1,h⟩:=bnd h
 refine .ts 6 z (fun W hT=>ixv hS.p1.lendv hx1 T.u25 T.t3 z z z) hT z (by kernel_rfl) (.ts 7 z (fun W hT=>lde (RV.flat hT.p1.lendv hx1 z) T.t3 z z z z z) hT z (by kernel_rfl) (.tp 8 z z hT (by kernel_rfl) (.tp 9 z z hT (by kernel_rfl) (.ts 10 z (fun W hT=>fe T.f36_0 z z z) hT z (by kernel_rfl) (.ts 11 z (fun W hT=>lde (hT.p2.hcellsv) T.t25 z z z z z) hT z (by kernel_rfl) (.ts 12 z (fun W hT=>fa T.f105_3 z z z) hT z (by kernel_rfl) (.ts 13 z (fun W hT=>ld T.t3 hT z z z z z) hT z (by kernel_rfl) ?_)))))))
 have ⟨x2,hx2,h⟩:=bnd h
 refine .ts 14 z (fun W hT=>ixv hS.p1.lendv hx2 T.u25 T.t3 z z z) hT z (by kernel_rfl) (.ts 15 z (fun W hT=>lde (RV.flat hT.p1.lendv hx2 z) T.t3 z z z z z) hT z (by kernel_rfl) (.tp 16 z z hT (by kernel_rfl) (.tp 17 z z hT (by kernel_rfl) (.done (.block (.g (.s (fa T.f105_0 z z z) z (.s (ld T.t3 hS z z z z z) z (.q z (.qn z (.cond z (fun hb=>?_) (fun hb=>?_)))))))) (by kernel_rfl)))))
 ·have h:=sel_t hb h
  refine .seq (.rk 13 hS [0,0,0] T.mix ?_)
  intro W hS
  have hT:=hS.to [0,0,0] z
  refine .tp 0 z z hT (by kernel_rfl) (.tp 1 z z hT (by kernel_rfl) (.ts 2 z (fun W hT=>fe T.f36_0 z z z) hT z (by kernel_rfl) (.ts 3 z (fun W hT=>lde (hT.p2.hcellsv) T.t25 z z z z z) hT z (by kernel_rfl) (.ts 4 z (fun W hT=>fa T.f105_2 z z z) hT z (by kernel_rfl) (.ts 5 z (fun W hT=>ld T.t3 hT z z z z z) hT z (by kernel_rfl) ?_)))))
  have ⟨x3,hx3,h⟩:=bnd h
  refine .ts 6 z (fun W hT=>ixv hS.p1.lendv hx3 T.u25 T.t3 z z z) hT z (by kernel_rfl) (.ts 7 z (fun W hT=>lde (RV.flat hT.p1.lendv hx3 z) T.t3 z z z z z) hT z (by kernel_rfl) (.ts 8 z (fun W hT=>fa T.f105_4 z z z) hT z (by kernel_rfl) (.ts 9 z (fun W hT=>ld T.t3 hT z z z z z) hT z (by kernel_rfl) (.tp 10 z z hT (by kernel_rfl) ?_))))
  have ⟨y2,hy2,h⟩:=bnd h
  refine .by1 11 z (.call0 hS Tryz.func69 (f10 hy2) z z ?_ z z z z) (by kernel_rfl)
  intro W hS
  have hT:=hS.to [0,0,0] z
  refine ⟨fun _=>hT,.tp 12 z z hT (by kernel_rfl) (.done (.g (.q z (.s (fa T.f105_1 z z z) z (.s (ld T.t3 hS z z z z z) z (.q z ?_))))) (by kernel_rfl))⟩
  have ⟨y3,hy3,h⟩:=bnd h
  have hS:=hS.p2
  have hS:=hS.p2
  refine .c (.callS2 (L0:=[rowV (sv v_0_Regs) 3 1 (D.int .i64) a0.Regs,holeV (sv h_0) 36 3 e_0 l_0 k_0 [(sv v_0_Regs),.int .i64 a0.Pc,(sv v_0_Mem)]]) hS Tryz.func93 (fun S h1 h2 h3=>(f1t hy3 (hS.keepS q_0_Mem h1) h2 (zz h1))) z z ?_ z z z z)
  rintro v1 W hS
  refine .nil (.region (.q z (.q z (.q z (.q z (.q z (.q z (.s (fe T.f36_1 z z z) z (.c (.sthv hS T.t3 z z z ?_ z z z z z z))))))))))
  intro W hS
  cases h
  exact .nil (fin_ret (vs:=[]) v1 (rn) z (hS.to [0,0] z))
 have h:=sel_f hb h
 refine .g (.s (fa T.f105_0 z z z) z (.s (ld T.t3 hS z z z z z) z (.q z (.qn z (.cond z (fun hb=>?_) (fun hb=>?_))))))
 ·have h:=sel_t hb h
  refine .g (.q z (.s (fa T.f105_1 z z z) z (.s (ld T.t3 hS z z z z z) z (.q z ?_))))
  have ⟨y4,hy4,h⟩:=bnd h
  have hS:=hS.p2
  have hS:=hS.p2
  refine .c (.callS2 (L0:=[rowV (sv v_0_Regs) 3 1 (D.int .i64) a0.Regs,holeV (sv h_0) 36 3 e_0 l_0 k_0 [(sv v_0_Regs),.int .i64 a0.Pc,(sv v_0_Mem)]]) hS Tryz.func93 (fun S h1 h2 h3=>(f1t hy4 (hS.keepS q_0_Mem h1) h2 (zz h1))) z z ?_ z z z z)
  rintro v2 W hS
  refine .nil (.rk 11 hS [0,0,0] T.mix ?_)
  intro W hS
  have hT:=hS.to [0,0,0] z
  refine .tp 0 z z hT (by kernel_rfl) (.tp 1 z z hT (by kernel_rfl) (.tp 2 z z hT (by kernel_rfl) (.ts 3 z (fun W hT=>fe T.f36_1 z z z) hT z (by kernel_rfl) (.ts 4 z (fun W hT=>lde (hT.hcellsv) T.t3 z z z z z) hT z (by kernel_rfl) (.ts 5 z (fun W hT=>fa T.f105_4 z z z) hT z (by kernel_rfl) (.ts 6 z (fun W hT=>ld T.t3 hT.p2 z z z z z) hT z (by kernel_rfl) (.tp 7 z z hT (by kernel_rfl) ?_)))))))
  have ⟨y5,hy5,h⟩:=bnd h
  refine .by1 8 z (.call0 hS Tryz.func69 (f10 hy5) z z ?_ z z z z) (by kernel_rfl)
  intro W hS
  have hT:=hS.to [0,0,0] z
  refine ⟨fun _=>hT,.by1 9 z (.runs (pr z) z z ?_) (by kernel_rfl)⟩
  have hT:=hS.to [0,0,0] z
  refine ⟨fun _=>hT,.ts 10 z (fun W hT=>fe T.f36_1 z z z) hT z (by kernel_rfl) (.by1 11 z (.sthv hS T.t3 z z z ?_ z z z z z z) (by kernel_rfl))⟩
  intro W hS
  refine ⟨fun h=>absurd z h,?_⟩
  cases h
  exact .done (fin_ret (vs:=[]) v2 (rn) z (hS.to [0,0] z)) (by kernel_rfl)
 have h:=sel_f hb h
 refine .g (.q z (.s (fa T.f105_0 z z z) z (.s (ld T.t3 hS z z z z z) z (.q z (.s (eqb T.u4 z z z) z (.q z (.nil ?_)))))))
 refine .cs z h ?_ ?_ <;> intro h
 ·refine .rk 11 hS [0,0,0] T.mix ?_
  intro W hS
  have hT:=hS.to [0,0,0] z
  refine .tp 0 z z hT (by kernel_rfl) (.tp 1 z z hT (by kernel_rfl) (.tp 2 z z hT (by kernel_rfl) (.ts 3 z (fun W hT=>fe T.f36_1 z z z) hT z (by kernel_rfl) (.ts 4 z (fun W hT=>lde (hT.p2.hcellsv) T.t3 z z z z z) hT z (by kernel_rfl) (.ts 5 z (fun W hT=>fa T.f105_4 z z z) hT z (by kernel_rfl) (.ts 6 z (fun W hT=>ld T.t3 hT z z z z z) hT z (by kernel_rfl) (.tp 7 z z hT (by kernel_rfl) ?_)))))))
  have ⟨y6,hy6,h⟩:=bnd h
  refine .by1 8 z (.call0 hS Tryz.func69 (f10 hy6) z z ?_ z z z z) (by kernel_rfl)
  intro W hS
  have hT:=hS.to [0,0,0] z
  refine ⟨fun _=>hT,.by1 9 z (.runs (pr z) z z ?_) (by kernel_rfl)⟩
  have hT:=hS.to [0,0,0] z
  refine ⟨fun _=>hT,.ts 10 z (fun W hT=>fe T.f36_1 z z z) hT z (by kernel_rfl) (.by1 11 z (.sthv hS.p2 T.t3 z z z ?_ z z z z z z) (by kernel_rfl))⟩
  intro W hS
  refine ⟨fun h=>absurd z h,?_⟩
  cases h
  exact .done (fin_ret (vs:=[]) v_0_Regs (rn) z (hS.to [0,1] z)) (by kernel_rfl)
 refine .region (.q z (.q z (.q z (.s (fe T.f36_1 z z z) z (.c (.sthv hS.p2 T.t3 z z z ?_ z z z z z z))))))
 intro W hS
 cases h
 exact .nil (fin_ret (vs:=[]) v_0_Regs (rn) z (hS.to [0,1] z))
def fev (w : World) (S : Nat → Prop) (v_0_Regs : Hd) (v_0_Mem : Hd) (h_0 : Hd) (A_0 : Type) (e_0 : A_0 → D) (l_0 : List A_0) (k_0 : Nat) (a0 : Machine) (a1 : Instr) (r : Bool × (List Int) × Int × (List Int)) : Env → World → Prop:=Fin Tryz.prog Tryz.f74 S w (fun s : Hd × Hd=>.bool r.1) (fun s=>[holeV (sv h_0) 36 3 e_0 l_0 k_0 [(sv s.1),.int .i64 r.2.2.1,(sv s.2)],rowV (sv s.1) 3 1 (D.int .i64) r.2.1,rowV (sv s.2) 3 1 (D.int .i64) r.2.2.2]) .ret
end Go.Proofs.YtcljimkjmklkmaaGreat.N
namespace Go.Proofs.YtcljimkjmklkmaaGreat.N
open Go.Proofs.YtcljimkjmklkmaaGreat.X
theorem fd4 {a0 : Machine} {a1 : Instr} {v_0_Regs : Hd} {v_0_Mem : Hd} {h_0 : Hd} {A_0 : Type} {e_0 : A_0 → D} {l_0 : List A_0} {k_0 : Nat} {S : Nat → Prop} {w : World} {r : Bool × (List Int) × Int × (List Int)} (h : f1e a0 a1 = some r) (hO : Owns w [rowV (sv v_0_Regs) 3 1 (D.int .i64) a0.Regs,rowV (sv v_0_Mem) 3 1 (D.int .i64) a0.Mem,holeV (sv h_0) 36 3 e_0 l_0 k_0 [(sv v_0_Regs),.int .i64 a0.Pc,(sv v_0_Mem)]] S) (hlt : ∀ b,S b → b < w.heap.size) : Calls Tryz.prog 74 #[.pointer (some (elemA (adr (sv h_0)) (k_0 * 3 + 0))),.agg #[.int .i64 a1.Op,.int .i64 a1.Rd,.int .i64 a1.Rs,.int .i64 a1.Rt,.int .i64 a1.Imm]] w (Ret S w (fun s : Hd × Hd=>.bool r.1) (fun s=>[holeV (sv h_0) 36 3 e_0 l_0 k_0 [(sv s.1),.int .i64 r.2.2.1,(sv s.2)],rowV (sv s.1) 3 1 (D.int .i64) r.2.1,rowV (sv s.2) 3 1 (D.int .i64) r.2.2.2])):=by
 unfold f1e at h
 refine enter Tryz.func74 z z ?_
 have hS:=Sep.startM hO hlt
 refine .g (.c (.box hS z z ?_ z z))
 intro g1 W hS
 refine .qn z (.seq (.rk 9 hS [0,0,0,0] T.mix ?_))
 intro W hS
 have hT:=hS.to [0,0,0,0] z
 refine .tp 0 z z hT (by kernel_rfl) (.tp 1 z z hT (by kernel_rfl) (.ts 2 z (fun W hT=>fe T.f36_0 z z z) hT z (by kernel_rfl) (.ts 3 z (fun W hT=>lde (hT.p3.hcellsv) T.t25 z z z z z) hT z (by kernel_rfl) (.ts 4 z (fun W hT=>fa T.f105_2 z z z) hT z (by kernel_rfl) (.ts 5 z (fun W hT=>ld T.t3 hT z z z z z) hT z (by kernel_rfl) ?_)))))
 have ⟨x1,hx1,h⟩:=bnd h
 refine .ts 6 z (fun W hT=>ixv hS.p1.lendv hx1 T.u25 T.t3 z z z) hT z (by kernel_rfl) (.ts 7 z (fun W hT=>lde (RV.flat hT.p1.lendv hx1 z) T.t3 z z z z z) hT z (by kernel_rfl) (.tp 8 z z hT (by kernel_rfl) (.done ?_ (by kernel_rfl))))
 have ⟨y1,hy1,h⟩:=bnd h
 refine .seq (CW.via (R':=fun x E' W'=>(match y1 with | .inl o1=>x = .normal ∧ ∃ (v1 : Hd),SubL E' [(0,.pointer (some (elemA (adr (sv h_0)) (k_0 * 3 + 0))))] ∧ Sep S w W' [.box g1 105 [.int .i64 a1.Op,.int .i64 a1.Rd,.int .i64 a1.Rs,.int .i64 a1.Rt,.int .i64 a1.Imm],rowV (sv v_0_Mem) 3 1 (D.int .i64) a0.Mem,holeV (sv h_0) 36 3 e_0 l_0 k_0 [(sv v1),.int .i64 a0.Pc,(sv v_0_Mem)],rowV (sv v1) 3 1 (D.int .i64) o1] | .inr o2=>x = .ret ∧ fev w S v_0_Regs v_0_Mem h_0 A_0 e_0 l_0 k_0 a0 a1 o2 E' W')) ?_ ?_)
 ·have h:=hy1
  refine .g (.s (fa T.f105_0 z z z) z (.s (ld T.t3 hS z z z z z) z (.nil (.block ?_))))
  have ⟨y2,hy2,h⟩:=bnd h
  refine .seq (CW.via (R':=fun x E' W'=>x = .normal ∧ SubL E' [(0,.pointer (some (elemA (adr (sv h_0)) (k_0 * 3 + 0)))),(3,.pointer (some ⟨g1,0,none⟩)),(5,.int .i64 x1),(15,.int .i64 a1.Op),(32,.bool y2)] ∧ Sep S w W' [.box g1 105 [.int .i64 a1.Op,.int .i64 a1.Rd,.int .i64 a1.Rs,.int .i64 a1.Rt,.int .i64 a1.Imm],rowV (sv v_0_Regs) 3 1 (D.int .i64) a0.Regs,rowV (sv v_0_Mem) 3 1 (D.int .i64) a0.Mem,holeV (sv h_0) 36 3 e_0 l_0 k_0 [(sv v_0_Regs),.int .i64 a0.Pc,(sv v_0_Mem)]]) ?_ ?_)
  ·have h:=hy2
   refine .g (.q z (.q z (.nil ?_)))
   refine .cs z h ?_ ?_ <;> intro h
   ·refine .skip ?_
    cases h
    exact ⟨z,sb z,hS.to [0,0,0,0] z⟩
   refine .region (.q z (.q z (.nil ?_)))
   cases h
   exact ⟨z,sb z,hS.to [0,0,0,0] z⟩
  intro x E W hJ
  obtain ⟨rfl,hE,hS⟩:=hJ
  refine ⟨_,hE.sub,?_⟩
  refine .cond z (fun hb=>?_) (fun hb=>?_)
  ·have h:=sel_t hb h
   refine .g (.q z (.s (ld T.t105 hS z z z z z) z ?_))
   have ⟨y3,hy3,h⟩:=bnd h
   have hS:=hS.p3
   have hS:=hS.p3
   have hS:=hS.p3
   refine .c (.callS2 (L0:=[rowV (sv v_0_Regs) 3 1 (D.int .i64) a0.Regs,rowV (sv v_0_Mem) 3 1 (D.int .i64) a0.Mem,holeV (sv h_0) 36 3 e_0 l_0 k_0 [(sv v_0_Regs),.int .i64 a0.Pc,(sv v_0_Mem)]]) hS Tryz.func91 (fun S h1 h2 h3=>(fce hy3 h2 (zz h1))) z z ?_ z z z z)
   rintro ⟨v2,v3⟩ W hS
   refine .qn z (.ret ?_)
   cases h
   exact ⟨z,fin_ret (vs:=[_]) (v2,v3) (rt z rn) z (hS.to [0,0,0] z)⟩
  have h:=sel_f hb h
  have ⟨y4,hy4,h⟩:=bnd h
  refine .seq (CW.via (R':=fun x E' W'=>x = .normal ∧ SubL E' [(0,.pointer (some (elemA (adr (sv h_0)) (k_0 * 3 + 0)))),(3,.pointer (some ⟨g1,0,none⟩)),(5,.int .i64 x1),(15,.int .i64 a1.Op),(38,.bool y4)] ∧ Sep S w W' [.box g1 105 [.int .i64 a1.Op,.int .i64 a1.Rd,.int .i64 a1.Rs,.int .i64 a1.Rt,.int .i64 a1.Imm],rowV (sv v_0_Regs) 3 1 (D.int .i64) a0.Regs,rowV (sv v_0_Mem) 3 1 (D.int .i64) a0.Mem,holeV (sv h_0) 36 3 e_0 l_0 k_0 [(sv v_0_Regs),.int .i64 a0.Pc,(sv v_0_Mem)]]) ?_ ?_)
  ·have h:=hy4
   refine .g (.q z (.q z (.nil ?_)))
   refine .cs z h ?_ ?_ <;> intro h
   ·refine .skip ?_
    cases h
    exact ⟨z,sb z,hS.to [0,0,0,0] z⟩
   refine .g (.q z (.q z (.nil ?_)))
   refine .cs z h ?_ ?_ <;> intro h
   ·refine .skip ?_
    cases h
    exact ⟨z,sb z,hS.to [0,0,0,0] z⟩
   refine .g (.q z (.q z (.nil ?_)))
   refine .cs z h ?_ ?_ <;> intro h
   ·refine .skip ?_
    cases h
    exact ⟨z,sb z,hS.to [0,0,0,0] z⟩
   refine .region (.q z (.q z (.nil ?_)))
   cases h
   exact ⟨z,sb z,hS.to [0,0,0,0] z⟩
  intro x E W hJ
  obtain ⟨rfl,hE,hS⟩:=hJ
  refine ⟨_,hE.sub,?_⟩
  refine .cond z (fun hb=>?_) (fun hb=>?_)
  ·have h:=sel_t hb h
   refine .g (.q z (.s (ld T.t105 hS z z z z z) z ?_))
   have ⟨y5,hy5,h⟩:=bnd h
   have hS:=hS.p3
   have hS:=hS.p2
   refine .c (.callS2 (L0:=[rowV (sv v_0_Regs) 3 1 (D.int .i64) a0.Regs,holeV (sv h_0) 36 3 e_0 l_0 k_0 [(sv v_0_Regs),.int .i64 a0.Pc,(sv v_0_Mem)]]) hS Tryz.func92 (fun S h1 h2 h3=>(fcf hy5 (h3.rdv (k:=1) z) h2 (zz h1))) z z ?_ z z z z)
   rintro v4 W hS
   refine .nil (.g (.qn z (.ret ?_)))
   cases h
   exact ⟨z,fin_ret (vs:=[_]) (v4,v_0_Mem) (rt z rn) z (hS.to [0,0,1] z)⟩
  have h:=sel_f hb h
  refine .g (.q z (.qn z (.cond z (fun hb=>?_) (fun hb=>?_))))
  ·have h:=sel_t hb h
   refine .rk 9 hS [0,1] T.mix ?_
   intro W hS
   have hT:=hS.to [0,1] z
   refine .tp 0 z z hT (by kernel_rfl) (.ts 1 z (fun W hT=>fa T.f105_1 z z z) hT z (by kernel_rfl) (.ts 2 z (fun W hT=>ld T.t3 hT z z z z z) hT z (by kernel_rfl) (.tp 3 z z hT (by kernel_rfl) (.ts 4 z (fun W hT=>fa T.f105_4 z z z) hT z (by kernel_rfl) (.ts 5 z (fun W hT=>ld T.t3 hT z z z z z) hT z (by kernel_rfl) (.tp 6 z z hT (by kernel_rfl) ?_))))))
   have ⟨y6,hy6,h⟩:=bnd h
   refine .by1 7 z (.call0 hS Tryz.func69 (f10 hy6) z z ?_ z z z z) (by kernel_rfl)
   intro W hS
   have hT:=hS.to [0,1] z
   refine ⟨fun _=>hT,?_⟩
   have ⟨y7,hy7,h⟩:=bnd h
   have hS:=hS.p3
   have hS:=hS.p2
   refine .by1 8 z (.callS2 (L0:=[rowV (sv v_0_Regs) 3 1 (D.int .i64) a0.Regs,holeV (sv h_0) 36 3 e_0 l_0 k_0 [(sv v_0_Regs),.int .i64 a0.Pc,(sv v_0_Mem)]]) hS Tryz.func93 (fun S h1 h2 h3=>(f1t hy7 (h3.rdv (k:=1) z) h2 (zz h1))) z z ?_ z z z z) (by kernel_rfl)
   rintro v5 W hS
   have hT:=hS.to [2,2] z
   refine ⟨fun _=>hT,.done ?_ (by kernel_rfl)⟩
   cases h
   exact ⟨z,v5,sb z,hS.to [2,2,0,0] z⟩
  have h:=sel_f hb h
  refine .g (.q z (.qn z (.cond z (fun hb=>?_) (fun hb=>?_))))
  ·have h:=sel_t hb h
   refine .rk 11 hS [0,1] T.mix ?_
   intro W hS
   have hT:=hS.to [0,1] z
   refine .tp 0 z z hT (by kernel_rfl) (.ts 1 z (fun W hT=>fa T.f105_1 z z z) hT z (by kernel_rfl) (.ts 2 z (fun W hT=>ld T.t3 hT z z z z z) hT z (by kernel_rfl) (.tp 3 z z hT (by kernel_rfl) (.ts 5 z (fun W hT=>fa T.f105_4 z z z) hT z (by kernel_rfl) (.ts 6 z (fun W hT=>ld T.t3 hT z z z z z) hT z (by kernel_rfl) ?_)))))
   have ⟨y8,hy8,h⟩:=bnd h
   refine .by1 4 z (.call0 hS Tryz.func73 (f2x hy8) z z ?_ z z z z) (by kernel_rfl)
   intro W hS
   have hT:=hS.to [0,1] z
   refine ⟨fun _=>hT,?_⟩
   have ⟨y9,hy9,h⟩:=bnd h
   refine .by1 7 z (.call0 hS Tryz.func73 (f2x hy9) z z ?_ z z z z) (by kernel_rfl)
   intro W hS
   have hT:=hS.to [0,1] z
   refine ⟨fun _=>hT,.tp 8 z z hT (by kernel_rfl) ?_⟩
   have ⟨y10,hy10,h⟩:=bnd h
   refine .by1 9 z (.call0 hS Tryz.func94 (fac hy10) z z ?_ z z z z) (by kernel_rfl)
   intro W hS
   have hT:=hS.to [0,1] z
   refine ⟨fun _=>hT,?_⟩
   have ⟨y11,hy11,h⟩:=bnd h
   have hS:=hS.p3
   have hS:=hS.p2
   refine .by1 10 z (.callS2 (L0:=[rowV (sv v_0_Regs) 3 1 (D.int .i64) a0.Regs,holeV (sv h_0) 36 3 e_0 l_0 k_0 [(sv v_0_Regs),.int .i64 a0.Pc,(sv v_0_Mem)]]) hS Tryz.func93 (fun S h1 h2 h3=>(f1t hy11 (h3.rdv (k:=1) z) h2 (zz h1))) z z ?_ z z z z) (by kernel_rfl)
   rintro v6 W hS
   have hT:=hS.to [2,2] z
   refine ⟨fun _=>hT,.done ?_ (by kernel_rfl)⟩
   cases h
   exact ⟨z,v6,sb z,hS.to [2,2,0,0] z⟩
  have h:=sel_f hb h
  refine .g (.q z (.qn z (.cond z (fun hb=>?_) (fun hb=>?_))))
  ·have h:=sel_t hb h
   refine .rk 8 hS [0,1] T.mix ?_
   intro W hS
   have hT:=hS.to [0,1] z
   refine .tp 0 z z hT (by kernel_rfl) (.ts 1 z (fun W hT=>fa T.f105_1 z z z) hT z (by kernel_rfl) (.ts 2 z (fun W hT=>ld T.t3 hT z z z z z) hT z (by kernel_rfl) (.ts 3 z (fun W hT=>fa T.f105_4 z z z) hT z (by kernel_rfl) (.ts 4 z (fun W hT=>ld T.t3 hT z z z z z) hT z (by kernel_rfl) (.tp 5 z z hT (by kernel_rfl) ?_)))))
   have ⟨y12,hy12,h⟩:=bnd h
   refine .by1 6 z (.call0 hS Tryz.func69 (f10 hy12) z z ?_ z z z z) (by kernel_rfl)
   intro W hS
   have hT:=hS.to [0,1] z
   refine ⟨fun _=>hT,?_⟩
   have ⟨y13,hy13,h⟩:=bnd h
   have hS:=hS.p3
   have hS:=hS.p2
   refine .by1 7 z (.callS2 (L0:=[rowV (sv v_0_Regs) 3 1 (D.int .i64) a0.Regs,holeV (sv h_0) 36 3 e_0 l_0 k_0 [(sv v_0_Regs),.int .i64 a0.Pc,(sv v_0_Mem)]]) hS Tryz.func93 (fun S h1 h2 h3=>(f1t hy13 (h3.rdv (k:=1) z) h2 (zz h1))) z z ?_ z z z z) (by kernel_rfl)
   rintro v7 W hS
   have hT:=hS.to [2,2] z
   refine ⟨fun _=>hT,.done ?_ (by kernel_rfl)⟩
   cases h
   exact ⟨z,v7,sb z,hS.to [2,2,0,0] z⟩
  have h:=sel_f hb h
  refine .rk 16 hS [0,1] T.mix ?_
  intro W hS
  have hT:=hS.to [0,1] z
  refine .tp 0 z z hT (by kernel_rfl) (.ts 1 z (fun W hT=>fa T.f105_1 z z z) hT z (by kernel_rfl) (.ts 2 z (fun W hT=>ld T.t3 hT z z z z z) hT z (by kernel_rfl) (.ts 3 z (fun W hT=>fa T.f105_0 z z z) hT z (by kernel_rfl) (.ts 4 z (fun W hT=>ld T.t3 hT z z z z z) hT z (by kernel_rfl) (.tp 5 z z hT (by kernel_rfl) (.tp 6 z z hT (by kernel_rfl) (.tp 7 z z hT (by kernel_rfl) (.ts 8 z (fun W hT=>fe T.f36_0 z z z) hT z (by kernel_rfl) (.ts 10 z (fun W hT=>fa T.f105_3 z z z) hT z (by kernel_rfl) (.ts 11 z (fun W hT=>ld T.t3 hT z z z z z) hT z (by kernel_rfl) (.by1 9 z (.runs (lde (hS.p3.hcellsv) T.t25 z z z z z) z z ?_) (by kernel_rfl))))))))))))
  have hT:=hS.to [0,1] z
  refine ⟨fun _=>hT,?_⟩
  have ⟨x2,hx2,h⟩:=bnd h
  refine .ts 12 z (fun W hT=>ixv hS.p1.lendv hx2 T.u25 T.t3 z z z) hT z (by kernel_rfl) (.by1 13 z (.runs (lde (RV.flat hS.p1.lendv hx2 z) T.t3 z z z z z) z z ?_) (by kernel_rfl))
  have hT:=hS.to [0,1] z
  refine ⟨fun _=>hT,?_⟩
  have ⟨y14,hy14,h⟩:=bnd h
  refine .by1 14 z (.call0 hS Tryz.func95 (ff3 hy14) z z ?_ z z z z) (by kernel_rfl)
  intro W hS
  have hT:=hS.to [0,1] z
  refine ⟨fun _=>hT,?_⟩
  have ⟨y15,hy15,h⟩:=bnd h
  have hS:=hS.p3
  have hS:=hS.p2
  refine .by1 15 z (.callS2 (L0:=[rowV (sv v_0_Regs) 3 1 (D.int .i64) a0.Regs,holeV (sv h_0) 36 3 e_0 l_0 k_0 [(sv v_0_Regs),.int .i64 a0.Pc,(sv v_0_Mem)]]) hS Tryz.func93 (fun S h1 h2 h3=>(f1t hy15 (h3.rdv (k:=1) z) h2 (zz h1))) z z ?_ z z z z) (by kernel_rfl)
  rintro v8 W hS
  have hT:=hS.to [2,2] z
  refine ⟨fun _=>hT,.done ?_ (by kernel_rfl)⟩
  cases h
  exact ⟨z,v8,sb z,hS.to [2,2,0,0] z⟩
 intro x E W hJ
 rcases y1 with o3 | o4
 ·obtain ⟨rfl,v9,hE,hS⟩:=hJ
  refine ⟨_,hE.sub,?_⟩
  refine .g (.q z (.q z (.q z (.s (fe T.f36_1 z z z) z (.s (lde (hS.p2.hcellsv) T.t3 z z z z z) z (.q z (.q z (.s (fe T.f36_1 z z z) z (.c (.sthv hS.p2 T.t3 z z z ?_ z z z z z z))))))))))
  intro W hS
  cases h
  exact .nil (.g (.qn z (.ret (fin_ret (vs:=[_]) (v9,v_0_Mem) (rt z rn) z (hS.to [0,2,1] z)))))
 obtain ⟨rfl,hF⟩:=hJ
 refine ⟨_,fun _ _ h=>h,?_⟩
 cases h
 exact hF
theorem fch {a0 : Machine} {v_0_Regs : Hd} {v_0_Mem : Hd} {h_0 : Hd} {A_0 : Type} {e_0 : A_0 → D} {l_0 : List A_0} {k_0 : Nat} {S : Nat → Prop} {w : World} {r : Int × (List Int) × Int × (List Int)} (h : f3g a0 = some r) (hO : Owns w [rowV (sv v_0_Regs) 3 1 (D.int .i64) a0.Regs,rowV (sv v_0_Mem) 3 1 (D.int .i64) a0.Mem,holeV (sv h_0) 36 3 e_0 l_0 k_0 [(sv v_0_Regs),.int .i64 a0.Pc,(sv v_0_Mem)]] S) (hlt : ∀ b,S b → b < w.heap.size) : Calls Tryz.prog 52 #[.pointer (some (elemA (adr (sv h_0)) (k_0 * 3 + 0)))] w (Ret S w (fun s : Hd × Hd=>.int .i64 r.1) (fun s=>[holeV (sv h_0) 36 3 e_0 l_0 k_0 [(sv s.1),.int .i64 r.2.2.1,(sv s.2)],rowV (sv s.1) 3 1 (D.int .i64) r.2.1,rowV (sv s.2) 3 1 (D.int .i64) r.2.2.2])):=by
 unfold f3g at h
 refine enter Tryz.func52 z z ?_
 have hS:=Sep.startM hO hlt
 refine .g (.qn z (.seq (.seq (.rk 10 hS [0,0,0] T.mix ?_))))
 intro W hS
 have hT:=hS.to [0,0,0] z
 refine .tp 0 z z hT (by kernel_rfl) (.tp 1 z z hT (by kernel_rfl) (.ts 2 z (fun W hT=>fe T.f36_2 z z z) hT z (by kernel_rfl) (.ts 3 z (fun W hT=>lde (hT.p2.hcellsv) T.t25 z z z z z) hT z (by kernel_rfl) (.tp 4 z z hT (by kernel_rfl) (.tp 5 z z hT (by kernel_rfl) (.ts 6 z (fun W hT=>fe T.f36_1 z z z) hT z (by kernel_rfl) (.ts 7 z (fun W hT=>lde (hT.p2.hcellsv) T.t3 z z z z z) hT z (by kernel_rfl) ?_)))))))
 have ⟨y1,hy1,h⟩:=bnd h
 refine .by1 8 z (.call0 hS Tryz.func71 (fbd hy1 hS.p1.lendv) z z ?_ z z z z) (by kernel_rfl)
 intro W hS
 have hT:=hS.to [0,0,0] z
 refine ⟨fun _=>hT,.tp 9 z z hT (by kernel_rfl) (.done ?_ (by kernel_rfl))⟩
 refine .cs z h ?_ ?_ <;> intro h
 ·cases h
  exact .g (.qn z (.ret (fin_ret (vs:=[_]) (v_0_Regs,v_0_Mem) (rt z rn) z (hS.to [2,0,0] z))))
 refine .skip (.seq ?_)
 have ⟨x1,hx1,h⟩:=bnd h
 have ⟨y2,hy2,h⟩:=bnd h
 have ⟨y3,hy3,h⟩:=bnd h
 refine .via (R':=fun x E' W'=>x = .normal ∧ ∃ (g1 : Nat),SubL E' [(0,.pointer (some (elemA (adr (sv h_0)) (k_0 * 3 + 0)))),(3,.pointer (some ⟨g1,0,none⟩)),(4,.bool y3.2)] ∧ Sep S w W' [rowV (sv v_0_Regs) 3 1 (D.int .i64) a0.Regs,rowV (sv v_0_Mem) 3 1 (D.int .i64) a0.Mem,holeV (sv h_0) 36 3 e_0 l_0 k_0 [(sv v_0_Regs),.int .i64 a0.Pc,(sv v_0_Mem)],.box g1 105 [.int .i64 y3.1.Op,.int .i64 y3.1.Rd,.int .i64 y3.1.Rs,.int .i64 y3.1.Rt,.int .i64 y3.1.Imm]]) ?_ ?_
 ·refine .rk 19 hS [0,0,0] T.mix ?_
  intro W hS
  have hT:=hS.to [0,0,0] z
  refine .tp 0 z z hT (by kernel_rfl) (.tp 1 z z hT (by kernel_rfl) (.ts 2 z (fun W hT=>fe T.f36_2 z z z) hT z (by kernel_rfl) (.ts 3 z (fun W hT=>lde (hT.p2.hcellsv) T.t25 z z z z z) hT z (by kernel_rfl) (.tp 4 z z hT (by kernel_rfl) (.tp 5 z z hT (by kernel_rfl) (.ts 6 z (fun W hT=>fe T.f36_1 z z z) hT z (by kernel_rfl) (.ts 7 z (fun W hT=>lde (hT.p2.hcellsv) T.t3 z z z z z) hT z (by kernel_rfl) (.tp 8 z z hT (by kernel_rfl) (.ts 9 z (fun W hT=>ixv hS.p1.lendv hx1 T.u25 T.t3 z z z) hT z (by kernel_rfl) (.ts 10 z (fun W hT=>lde (RV.flat hT.p1.lendv hx1 z) T.t3 z z z z z) hT z (by kernel_rfl) (.by [11,16] ⟨⟨_,z,?_⟩,⟨_,z,?_⟩,trivial⟩ (by kernel_rfl) z)))))))))))
  ·refine (.call0 hS Tryz.func73 (f2x hy2) z z ?_ z z z z)
   intro W hS
   have hT:=hS.to [0,0,0] z
   refine ⟨fun _=>hT,.by [12,16] ⟨⟨_,z,?_⟩,⟨_,z,?_⟩,trivial⟩ (by kernel_rfl) z⟩
   ·refine (.call0 hS Tryz.func72 (f7h hy3) z z ?_ z z z z)
    intro W hS
    have hT:=hS.to [0,0,0] z
    refine ⟨fun _=>hT,.tp 13 z z hT (by kernel_rfl) (.tp 14 z z hT (by kernel_rfl) (.tp 15 z z hT (by kernel_rfl) (.by1 16 z (.alloc T.t105 hS ?_ z z z) (by kernel_rfl))))⟩
    intro g2 W hS
    have hT:=hS.to [1,1,1] z
    refine ⟨fun _=>hT,.by1 17 z (.st T.t105 hS z z z ?_ z z z z z) (by kernel_rfl)⟩
    intro W hS
    have hT:=hS.to [1,1,1] z
    refine ⟨fun _=>hT,?_⟩
    exact .tp 18 z z hT (by kernel_rfl) (.done (⟨z,g2,sb z,hS.to [1,1,1,0] z⟩) (by kernel_rfl))
   refine (.alloc T.t105 hS ?_ z z z)
   intro g3 W hS
   have hT:=hS.to [1,1,1] z
   refine ⟨fun _=>hT,.by1 12 z (.call0 hS Tryz.func72 (f7h hy3) z z ?_ z z z z) (by kernel_rfl)⟩
   intro W hS
   have hT:=hS.to [1,1,1] z
   refine ⟨fun _=>hT,.tp 13 z z hT (by kernel_rfl) (.tp 14 z z hT (by kernel_rfl) (.tp 15 z z hT (by kernel_rfl) (.by1 17 z (.st T.t105 hS z z z ?_ z z z z z) (by kernel_rfl))))⟩
   intro W hS
   have hT:=hS.to [1,1,1] z
   refine ⟨fun _=>hT,?_⟩
   exact .tp 18 z z hT (by kernel_rfl) (.done (⟨z,g3,sb z,hS.to [1,1,1,0] z⟩) (by kernel_rfl))
  refine (.alloc T.t105 hS ?_ z z z)
  intro g4 W hS
  have hT:=hS.to [1,1,1] z
  refine ⟨fun _=>hT,.by1 11 z (.call0 hS Tryz.func73 (f2x hy2) z z ?_ z z z z) (by kernel_rfl)⟩
  intro W hS
  have hT:=hS.to [1,1,1] z
  refine ⟨fun _=>hT,.by1 12 z (.call0 hS Tryz.func72 (f7h hy3) z z ?_ z z z z) (by kernel_rfl)⟩
  intro W hS
  have hT:=hS.to [1,1,1] z
  refine ⟨fun _=>hT,.tp 13 z z hT (by kernel_rfl) (.tp 14 z z hT (by kernel_rfl) (.tp 15 z z hT (by kernel_rfl) (.by1 17 z (.st T.t105 hS z z z ?_ z z z z z) (by kernel_rfl))))⟩
  intro W hS
  have hT:=hS.to [1,1,1] z
  refine ⟨fun _=>hT,?_⟩
  exact .tp 18 z z hT (by kernel_rfl) (.done (⟨z,g4,sb z,hS.to [1,1,1,0] z⟩) (by kernel_rfl))
 intro x E W hJ
 obtain ⟨rfl,g5,hE,hS⟩:=hJ
 refine ⟨_,hE.sub,?_⟩
 refine .seq (.g (.q z (.q z (.nil ?_))))
 refine .cs z h ?_ ?_ <;> intro h
 ·cases h
  exact .g (.qn z (.ret (fin_ret (vs:=[_]) (v_0_Regs,v_0_Mem) (rt z rn) z (hS.to [2,0,0] z))))
 refine .skip (.seq (.g (.s (fa T.f105_0 z z z) z (.s (ld T.t3 hS.p3 z z z z z) z (.qn z (.cond z (fun hb=>?_) (fun hb=>?_)))))))
 ·have h:=sel_t hb h
  cases h
  exact .g (.qn z (.ret (fin_ret (vs:=[_]) (v_0_Regs,v_0_Mem) (rt z rn) z (hS.to [2,0,0] z))))
 have h:=sel_f hb h
 refine .skip (.seq (.g (.q z (.s (ld T.t105 hS.p3 z z z z z) z ?_))))
 have ⟨y4,hy4,h⟩:=bnd h
 have hS:=hS.p2
 have hS:=hS.p2
 have hS:=hS.p2
 refine .c (.callS2 (L0:=[rowV (sv v_0_Regs) 3 1 (D.int .i64) a0.Regs,rowV (sv v_0_Mem) 3 1 (D.int .i64) a0.Mem,holeV (sv h_0) 36 3 e_0 l_0 k_0 [(sv v_0_Regs),.int .i64 a0.Pc,(sv v_0_Mem)]]) hS Tryz.func74 (fun S h1 h2 h3=>(fd4 hy4 h2 (zz h1))) z z ?_ z z z z)
 rintro ⟨v1,v2⟩ W hS
 refine .q z (.nil ?_)
 refine .cs z h ?_ ?_ <;> intro h
 ·cases h
  exact .g (.qn z (.ret (fin_ret (vs:=[_]) (v1,v2) (rt z rn) z (hS.to [0,0,0] z))))
 cases h
 exact .skip (.g (.qn z (.ret (fin_ret (vs:=[_]) (v1,v2) (rt z rn) z (hS.to [0,0,0] z)))))
def ff6 (w : World) (S : Nat → Prop) (v_0_Harts : Hd) (v_0_Boxes : Hd) (v_0_Out : Hd) (g_0 : Nat) (a0 : Squad) (r : Bool × (List Machine) × (List Box) × Int × Int × (List Int)) : Env → World → Prop:=Fin Tryz.prog Tryz.f37 S w (fun s : Hd × Hd × Hd=>.bool r.1) (fun s=>[.box g_0 27 [(sv s.1),(sv s.2.1),.int .i64 r.2.2.2.1,.int .i64 r.2.2.2.2.1,(sv s.2.2)],rowV (sv s.1) 36 3 dMachine r.2.1,rowV (sv s.2.1) 61 2 dBox r.2.2.1,rowV (sv s.2.2) 3 1 (D.int .i64) r.2.2.2.2.2]) .ret
theorem fee {a0 : Squad} {v_0_Harts : Hd} {v_0_Boxes : Hd} {v_0_Out : Hd} {g_0 : Nat} {S : Nat → Prop} {w : World} {r : Bool × (List Machine) × (List Box) × Int × Int × (List Int)} (h : f5n a0 = some r) (hO : Owns w [rowV (sv v_0_Harts) 36 3 dMachine a0.Harts,rowV (sv v_0_Boxes) 61 2 dBox a0.Boxes,rowV (sv v_0_Out) 3 1 (D.int .i64) a0.Out,.box g_0 27 [(sv v_0_Harts),(sv v_0_Boxes),.int .i64 a0.Turn,.int .i64 a0.Idle,(sv v_0_Out)]] S) (hlt : ∀ b,S b → b < w.heap.size) : Calls Tryz.prog 37 #[.pointer (some ⟨g_0,0,none⟩)] w (Ret S w (fun s : Hd × Hd × Hd=>.bool r.1) (fun s=>[.box g_0 27 [(sv s.1),(sv s.2.1),.int .i64 r.2.2.2.1,.int .i64 r.2.2.2.2.1,(sv s.2.2)],rowV (sv s.1) 36 3 dMachine r.2.1,rowV (sv s.2.1) 61 2 dBox r.2.2.1,rowV (sv s.2.2) 3 1 (D.int .i64) r.2.2.2.2.2])):=by
 unfold f5n at h
 refine enter Tryz.func37 z z ?_
 have hS:=Sep.startM hO hlt
 refine .g (.qn z (.seq (.rk 10 hS [0,0,0,0] T.mix ?_)))
 intro W hS
 have hT:=hS.to [0,0,0,0] z
 refine .tp 0 z z hT (by kernel_rfl) (.tp 1 z z hT (by kernel_rfl) (.ts 2 z (fun W hT=>fa T.f27_0 z z z) hT z (by kernel_rfl) (.ts 3 z (fun W hT=>ld T.t23 hT.p3 z z z z z) hT z (by kernel_rfl) (.tp 4 z z hT (by kernel_rfl) (.tp 5 z z hT (by kernel_rfl) (.ts 6 z (fun W hT=>fa T.f27_2 z z z) hT z (by kernel_rfl) (.ts 7 z (fun W hT=>ld T.t3 hT.p3 z z z z z) hT z (by kernel_rfl) ?_)))))))
 have ⟨x1,hx1,h⟩:=bnd h
 refine .ts 8 z (fun W hT=>ixv hS.lendv hx1 T.u23 T.t36 z z z) hT z (by kernel_rfl) (.tp 9 z z hT (by kernel_rfl) (.done (.g (.q z (.nil ?_))) (by kernel_rfl)))
 have ⟨y1,hy1,h⟩:=bnd h
 refine .seq (CW.via (R':=fun x E' W'=>(match y1 with | .inl o1=>x = .normal ∧ ∃ (v1 : Hd),SubL E' [(0,.pointer (some ⟨g_0,0,none⟩)),(4,.int .i64 o1.1)] ∧ Sep S w W' [rowV (sv v_0_Harts) 36 3 dMachine o1.2.2.1,rowV (sv v_0_Boxes) 61 2 dBox o1.2.2.2,.box g_0 27 [(sv v_0_Harts),(sv v_0_Boxes),.int .i64 a0.Turn,.int .i64 a0.Idle,(sv v1)],rowV (sv v1) 3 1 (D.int .i64) o1.2.1] | .inr o2=>x = .ret ∧ ff6 w S v_0_Harts v_0_Boxes v_0_Out g_0 a0 o2 E' W')) ?_ ?_)
 ·have h:=hy1
  refine .g (.q z (.q z (.s (fe T.f36_1 z z z) z ?_)))
  obtain ⟨k1,hS⟩:=Sep.outv hS hx1
  have hS:=hS.oagg
  obtain ⟨v2,k1,rfl,hS⟩:=hS.orowv
  obtain ⟨k1,rfl,hS⟩:=Sep.oflat z hS
  obtain ⟨v3,k1,rfl,hS⟩:=hS.orowv
  obtain ⟨rfl,hS⟩:=hS.onil
  refine .s (lde (hS.p2.hcellsv) T.t3 z z z z z) z (.qn z (.cond z (fun hb=>?_) (fun hb=>?_)))
  ·have h:=sel_t hb h
   refine .seq (.g (.q z (.q z (.q z (.s (fa T.f27_1 z z z) z (.s (ld T.t24 hS.p5 z z z z z) z (.s (lenv hS.p3.lendv T.u24 z z) z ?_)))))))
   have ⟨y2,hy2,h⟩:=bnd h
   have hS:=hS.p2
   refine .c (.callS2 (L0:=[holeV (sv v_0_Harts) 36 3 dMachine a0.Harts (Int.toNat a0.Turn) [(sv v2),.int .i64 x1.Pc,(sv v3)]]) hS Tryz.func50 (fun S h1 h2 h3=>(fcd hy2 (h3.rdv (k:=1) z) (h3.rdv (k:=0) z) h2 (zz h1))) z z ?_ z z z z)
   rintro ⟨⟩ W hS
   refine .qn z (.cond z (fun hb=>?_) (fun hb=>?_))
   ·have h:=sel_t hb h
    refine .g (.qn z (.ret ?_))
    have hS:=Sep.gat (ds:=[dMachine x1]) (cs:=[(sv v2),.int .i64 x1.Pc,(sv v3)]) (L1:=[rowV (sv v2) 3 1 (D.int .i64) x1.Regs,rowV (sv v3) 3 1 (D.int .i64) x1.Mem]) (.agg (.row (.flat (c1:=[.int .i64 x1.Pc]) z (.row .nil)))) (hS.to [2,1,0,0,0,0] z)
    have hS : Sep _ _ _ [rowV (sv v_0_Harts) 36 3 dMachine a0.Harts,rowV (sv v_0_Boxes) 61 2 dBox a0.Boxes,rowV (sv v_0_Out) 3 1 (D.int .i64) a0.Out,.box g_0 27 [(sv v_0_Harts),(sv v_0_Boxes),.int .i64 a0.Turn,.int .i64 a0.Idle,(sv v_0_Out)]]:=Sep.back0v hx1 hS
    cases h
    exact ⟨z,fin_ret (vs:=[_]) (v_0_Harts,v_0_Boxes,v_0_Out) (rt z rn) z (hS.to [3,0,0,0] z)⟩
   have h:=sel_f hb h
   refine .skip (.g (.q z (.q z (.q z (.s (fa T.f27_1 z z z) z (.s (ld T.t24 hS.p5 z z z z z) z ?_))))))
   have ⟨y3,hy3,h⟩:=bnd h
   have hS:=hS.p3
   have hS:=hS.p1
   have hS:=hS.p3
   refine .c (.callS2 (L0:=[rowV (sv v2) 3 1 (D.int .i64) x1.Regs,holeV (sv v_0_Harts) 36 3 dMachine a0.Harts (Int.toNat a0.Turn) [(sv v2),.int .i64 x1.Pc,(sv v3)],rowV (sv v_0_Boxes) 61 2 dBox a0.Boxes]) hS Tryz.func51 (fun S h1 h2 h3=>(fc9 hy3 (h3.rdv (k:=0) z) h2 (zz h1))) z z ?_ z z z z)
   rintro ⟨v4,v5⟩ W hS
   refine .q z (.q z (.q z (.q z (.qn z (.g (.q z (.q z (.q z (.s (fa T.f27_4 z z z) z (.s (ld T.t25 hS.p6 z z z z z) z (.q z ?_)))))))))))
   have ⟨r1,hr1,h⟩:=bnd h
   have hT0:=hS.p5
   refine .c (.apprv hr1 hT0 hT0.p3.lendv (fun _=>z) T.u25 T.t3 z z z ?_ z z z z z)
   intro v6 W hS
   refine .q z (.s (fa T.f27_4 z z z) z (.c (.st T.t25 hS.p6 z z z ?_ z z z z z)))
   intro W hS
   refine .nil (.region (.q z (.q z (.nil ?_))))
   have hS:=Sep.gat (ds:=[dMachine (Machine.mk y3.2.2.1 y3.2.2.2.1 x1.Mem)]) (cs:=[(sv v5),.int .i64 y3.2.2.2.1,(sv v3)]) (L1:=[rowV (sv v5) 3 1 (D.int .i64) y3.2.2.1,rowV (sv v3) 3 1 (D.int .i64) x1.Mem]) (.agg (.row (.flat (c1:=[.int .i64 y3.2.2.2.1]) z (.row .nil)))) (hS.to [5,5,2,0,0,0,0] z)
   have hS : Sep _ _ _ [rowV (sv v_0_Harts) 36 3 dMachine (a0.Harts.set (Int.toNat a0.Turn) (Machine.mk y3.2.2.1 y3.2.2.2.1 x1.Mem)),.box g_0 27 [(sv v_0_Harts),(sv v_0_Boxes),.int .i64 a0.Turn,.int .i64 a0.Idle,(sv v6)],rowV (sv v6) 3 1 (D.int .i64) r1,rowV (sv v_0_Boxes) 61 2 dBox y3.2.2.2.2,rowV (sv v4) 3 1 (D.int .i64) y3.1]:=hS.backv
   cases h
   exact ⟨z,v6,sb z,hS.to [0,2,0,0] z⟩
  have h:=sel_f hb h
  refine .g (.q z ?_)
  have ⟨y4,hy4,h⟩:=bnd h
  have hS:=hS.p2
  have hS:=hS.p1
  have hS:=hS.p2
  refine .c (.callS2 (L0:=[rowV (sv v2) 3 1 (D.int .i64) x1.Regs,rowV (sv v3) 3 1 (D.int .i64) x1.Mem,holeV (sv v_0_Harts) 36 3 dMachine a0.Harts (Int.toNat a0.Turn) [(sv v2),.int .i64 x1.Pc,(sv v3)]]) hS Tryz.func52 (fun S h1 h2 h3=>(fch hy4 h2 (zz h1))) z z ?_ z z z z)
  rintro ⟨v7,v8⟩ W hS
  refine .q z (.nil ?_)
  refine .cs z h ?_ ?_ <;> intro h
  ·refine .g (.qn z (.ret ?_))
   have hS:=Sep.gat (ds:=[dMachine (Machine.mk y4.2.1 y4.2.2.1 y4.2.2.2)]) (cs:=[(sv v7),.int .i64 y4.2.2.1,(sv v8)]) (L1:=[rowV (sv v7) 3 1 (D.int .i64) y4.2.1,rowV (sv v8) 3 1 (D.int .i64) y4.2.2.2]) (.agg (.row (.flat (c1:=[.int .i64 y4.2.2.1]) z (.row .nil)))) (hS.to [1,1,0,0,0,0] z)
   have hS : Sep _ _ _ [rowV (sv v_0_Harts) 36 3 dMachine (a0.Harts.set (Int.toNat a0.Turn) (Machine.mk y4.2.1 y4.2.2.1 y4.2.2.2)),rowV (sv v_0_Boxes) 61 2 dBox a0.Boxes,rowV (sv v_0_Out) 3 1 (D.int .i64) a0.Out,.box g_0 27 [(sv v_0_Harts),(sv v_0_Boxes),.int .i64 a0.Turn,.int .i64 a0.Idle,(sv v_0_Out)]]:=hS.backv
   cases h
   exact ⟨z,fin_ret (vs:=[_]) (v_0_Harts,v_0_Boxes,v_0_Out) (rt z rn) z (hS.to [3,0,0,0] z)⟩
  refine .skip ?_
  have hS:=Sep.gat (ds:=[dMachine (Machine.mk y4.2.1 y4.2.2.1 y4.2.2.2)]) (cs:=[(sv v7),.int .i64 y4.2.2.1,(sv v8)]) (L1:=[rowV (sv v7) 3 1 (D.int .i64) y4.2.1,rowV (sv v8) 3 1 (D.int .i64) y4.2.2.2]) (.agg (.row (.flat (c1:=[.int .i64 y4.2.2.1]) z (.row .nil)))) (hS.to [1,1,0,0,0,0] z)
  have hS : Sep _ _ _ [rowV (sv v_0_Harts) 36 3 dMachine (a0.Harts.set (Int.toNat a0.Turn) (Machine.mk y4.2.1 y4.2.2.1 y4.2.2.2)),rowV (sv v_0_Boxes) 61 2 dBox a0.Boxes,rowV (sv v_0_Out) 3 1 (D.int .i64) a0.Out,.box g_0 27 [(sv v_0_Harts),(sv v_0_Boxes),.int .i64 a0.Turn,.int .i64 a0.Idle,(sv v_0_Out)]]:=hS.backv
  cases h
  exact ⟨z,v_0_Out,sb z,hS.to [0,0,1,0] z⟩
 intro x E W hJ
 rcases y1 with o3 | o4
 ·obtain ⟨rfl,v9,hE,hS⟩:=hJ
  refine ⟨_,hE.sub,?_⟩
  refine .seq (.rk 22 hS [0,0,0,0] T.mix ?_)
  intro W hS
  have hT:=hS.to [0,0,0,0] z
  refine .tp 0 z z hT (by kernel_rfl) (.tp 1 z z hT (by kernel_rfl) (.ts 2 z (fun W hT=>fa T.f27_0 z z z) hT z (by kernel_rfl) (.ts 3 z (fun W hT=>ld T.t23 hT.p2 z z z z z) hT z (by kernel_rfl) (.ts 4 z (fun W hT=>lenv hS.lendv T.u23 z z) hT z (by kernel_rfl) (.tp 5 z z hT (by kernel_rfl) (.tp 6 z z hT (by kernel_rfl) (.ts 7 z (fun W hT=>fa T.f27_2 z z z) hT z (by kernel_rfl) (.ts 8 z (fun W hT=>ld T.t3 hT.p2 z z z z z) hT z (by kernel_rfl) (.tp 9 z z hT (by kernel_rfl) (.tp 10 z z hT (by kernel_rfl) (.ts 11 z (fun W hT=>fa T.f27_3 z z z) hT z (by kernel_rfl) (.ts 12 z (fun W hT=>ld T.t3 hT.p2 z z z z z) hT z (by kernel_rfl) (.tp 13 z z hT (by kernel_rfl) ?_)))))))))))))
  have ⟨y5,hy5,h⟩:=bnd h
  refine .by1 14 z (.call0 hS Tryz.func53 (fdk hy5) z z ?_ z z z z) (by kernel_rfl)
  intro W hS
  have hT:=hS.to [0,0,0,0] z
  refine ⟨fun _=>hT,.tp 15 z z hT (by kernel_rfl) (.tp 16 z z hT (by kernel_rfl) (.tp 17 z z hT (by kernel_rfl) (.tp 18 z z hT (by kernel_rfl) (.tp 19 z z hT (by kernel_rfl) (.tp 20 z z hT (by kernel_rfl) (.tp 21 z z hT (by kernel_rfl) (.done (.g (.q z (.q z (.q z (.s (fa T.f27_2 z z z) z (.c (.st T.t3 hS.p2 z z z ?_ z z z z z))))))) (by kernel_rfl))))))))⟩
  intro W hS
  refine .nil (.g (.q z (.q z (.q z (.s (fa T.f27_3 z z z) z (.c (.st T.t3 hS z z z ?_ z z z z z)))))))
  intro W hS
  cases h
  exact .nil (.g (.qn z (.ret (fin_ret (vs:=[_]) (v_0_Harts,v_0_Boxes,v9) (rt z rn) z (hS.to [0,0,0,0] z)))))
 obtain ⟨rfl,hF⟩:=hJ
 refine ⟨_,fun _ _ h=>h,?_⟩
 cases h
 exact hF
def fdx (w : World) (r : Squad × Bool) : Env → World → Prop:=Fin Tryz.prog Tryz.f20 No w (fun s : Hd × Hd × Hd=>.tuple #[.agg #[(sv s.1),(sv s.2.1),.int .i64 r.1.Turn,.int .i64 r.1.Idle,(sv s.2.2)],.bool r.2]) (fun s=>[rowV (sv s.1) 36 3 dMachine r.1.Harts,rowV (sv s.2.1) 61 2 dBox r.1.Boxes,rowV (sv s.2.2) 3 1 (D.int .i64) r.1.Out]) .ret
theorem f9n {a0 : Squad} {a1 : Int} {v_0_Harts : Hd} {v_0_Boxes : Hd} {v_0_Out : Hd} {w : World} {r : Squad × Bool} (h : f79 a0 a1 = some r) (q_0_Harts : RV w (Old No w) (sv v_0_Harts) 36 3 dMachine a0.Harts) (q_0_Boxes : RV w (Old No w) (sv v_0_Boxes) 61 2 dBox a0.Boxes) (q_0_Out : RV w (Old No w) (sv v_0_Out) 3 1 (D.int .i64) a0.Out) : Calls Tryz.prog 20 #[.agg #[(sv v_0_Harts),(sv v_0_Boxes),.int .i64 a0.Turn,.int .i64 a0.Idle,(sv v_0_Out)],.int .i64 a1] w (Ret No w (fun s : Hd × Hd × Hd=>.tuple #[.agg #[(sv s.1),(sv s.2.1),.int .i64 r.1.Turn,.int .i64 r.1.Idle,(sv s.2.2)],.bool r.2]) (fun s=>[rowV (sv s.1) 36 3 dMachine r.1.Harts,rowV (sv s.2.1) 61 2 dBox r.1.Boxes,rowV (sv s.2.2) 3 1 (D.int .i64) r.1.Out])):=by
 unfold f79 at h
 refine enter Tryz.func20 z z ?_
 have hS:=Sep.start w
 refine .g (.c (.box hS z z ?_ z z))
 intro g1 W hS
 refine .c (.alloc T.t27 hS ?_ z z z)
 intro g2 W hS
 refine .qn z (.seq (.g (.s (ld T.t27 hS.p1 z z z z z) z ?_)))
 have ⟨y1,hy1,h⟩:=bnd h
 refine .c (.call0 hS Tryz.func13 (fat hy1 (hS.keep q_0_Harts) (hS.keep q_0_Boxes) (hS.keep q_0_Out)) z z ?_ z z z z)
 intro W hS
 refine .q z (.q z ?_)
 have ⟨b1,hb1,h⟩:=bnd h
 refine .chunk 4 15 (b1) hS ?_ ?_
 ·refine .both (!y1) (fun hb=>?_) (fun hb=>?_)
  ·refine .xx hb z (.xx hb z (.xx hb z ?_))
   cases sel_t hb hb1
   exact .s (pkt hb z z z) z (.nil (ck 4 hS z z z z))
  have hg1:=hb
  have h:=sel_f hb hb1
  refine .g hg1 (.q z ?_) z
  have ⟨y2,hy2,h⟩:=bnd h
  refine .g hg1 (.c (.call0 hS Tryz.func27 (f04 hy2) z z ?_ z z z z)) z
  intro W hS
  refine .g hg1 (.q z (.s (pkf hg1 z z z) z ?_)) z
  cases h
  exact .nil (ck 4 hS z z z z)
 intro W hS
 refine .nil ?_
 refine .cs z h ?_ ?_ <;> intro h
 ·refine .g (.s (bs T.s27 z z) z (.c (.st T.t27 hS z z z ?_ z z z z z)))
  intro W hS
  refine .qn z (.ret ?_)
  have hS:=hS.nilv 36 3 dMachine
  have hS:=hS.nilv 61 2 dBox
  have hS:=hS.nilv 3 1 (D.int .i64)
  cases h
  exact fin_ret (vs:=[_,_]) (nilH,nilH,nilH) (rc hS.p3 T.t27 z (rt z rn) z z) z (hS.to [2,1,0] z)
 refine .skip (.g (.s (ld T.t27 hS.p1 z z z z z) z ?_))
 have ⟨y3,hy3,h⟩:=bnd h
 refine .c (.call hS Tryz.func36 (fe4 hy3 (hS.keep q_0_Harts) (hS.keep q_0_Boxes) (hS.keep q_0_Out)) z z ?_ z z z z)
 rintro ⟨v1,v2,v3⟩ W hS
 refine .c (.alloc T.t27 hS ?_ z z z)
 intro g3 W hS
 refine .c (.st T.t27 hS z z z ?_ z z z z z)
 intro W hS
 refine .nil (.seq (.g (.qn z (.block ?_))))
 have ⟨y4,hy4,h⟩:=bnd h
 refine .via (.iter (fun s1 E' W'=>∃ (v10 : Hd) (v11 : Hd) (v12 : Hd),SubL E' [(1,.int .i64 a1),(4,.pointer (some ⟨g2,0,none⟩)),(6,.pointer (some ⟨g3,0,none⟩)),(7,.int .i64 s1.1)] ∧ Sep No w W' [.box g3 27 [(sv v10),(sv v11),.int .i64 s1.2.2.2.1,.int .i64 s1.2.2.2.2.1,(sv v12)],.box g2 27 [(sv nilH),(sv nilH),.int .i64 0,.int .i64 0,(sv nilH)],.box g1 27 [(sv v_0_Harts),(sv v_0_Boxes),.int .i64 a0.Turn,.int .i64 a0.Idle,(sv v_0_Out)],rowV (sv v10) 36 3 dMachine s1.2.1,rowV (sv v11) 61 2 dBox s1.2.2.1,rowV (sv v12) 3 1 (D.int .i64) s1.2.2.2.2.2]) (fun y5 x E' W'=>(match y5 with | .inl o1=>x = .ret ∧ fdx w o1 E' W' | .inr o2=>x = .exit 0 ∧ ∃ (v13 : Hd) (v14 : Hd) (v15 : Hd),SubL E' [(4,.pointer (some ⟨g2,0,none⟩)),(6,.pointer (some ⟨g3,0,none⟩))] ∧ Sep No w W' [.box g3 27 [(sv v13),(sv v14),.int .i64 o2.2.2.1,.int .i64 o2.2.2.2.1,(sv v15)],.box g2 27 [(sv nilH),(sv nilH),.int .i64 0,.int .i64 0,(sv nilH)],.box g1 27 [(sv v_0_Harts),(sv v_0_Boxes),.int .i64 a0.Turn,.int .i64 a0.Idle,(sv v_0_Out)],rowV (sv v13) 36 3 dMachine o2.1,rowV (sv v14) 61 2 dBox o2.2.1,rowV (sv v15) 3 1 (D.int .i64) o2.2.2.2.2])) hy4 ⟨v1,v2,v3,sb rfl,hS.to [0,3,3,0,0,0] rfl⟩ ?_) ?_
 ·intro s1 y6 E W h hI
  obtain ⟨v7,v8,v9,hE,hS⟩:=hI
  refine CW.sub hE ?_
  unfold f9m at h
  refine .seq (.g (.q z (.q z (.q z (.q z (.chunk 7 29 ((decide (s1.1 < a1)) && (decide (s1.2.2.2.2.1 < (s1.2.1.length : Int)))) hS ?_ ?_))))))
  ·refine .both (decide (s1.1 < a1)) (fun hb=>?_) (fun hb=>?_)
   ·have hg2:=hb
    exact .g hg2 (.s (fa T.f27_3 z z z) z (.g hg2 (.s (ld T.t3 hS z z z z z) z (.g hg2 (.s (fa T.f27_0 z z z) z (.g hg2 (.s (ld T.t23 hS z z z z z) z (.g hg2 (.s (lenv hS.p3.lendv T.u23 z z) z (.g hg2 (.q z (.s (pkt hg2 z z z) z (.nil (ck 7 hS z (and_t hg2) z z)))) z)) z)) z)) z)) z)) z
   exact .xx hb z (.xx hb z (.xx hb z (.xx hb z (.xx hb z (.xx hb z (.s (pkf hb z z z) z (.nil (ck 7 hS z (and_f hb) z z))))))))
  intro W hS
  refine .nil (.cond z (fun hb=>?_) (fun hb=>?_))
  ·have h:=sel_t hb h
   refine .skip (.seq (.block (.seq (.region ?_))))
   have ⟨y7,hy7,h⟩:=bnd h
   have hS:=hS.p5
   have hS:=hS.p5
   have hS:=hS.p5
   refine .c (.callS2 (L0:=[rowV (sv v7) 36 3 dMachine s1.2.1,rowV (sv v8) 61 2 dBox s1.2.2.1,rowV (sv v9) 3 1 (D.int .i64) s1.2.2.2.2.2,.box g3 27 [(sv v7),(sv v8),.int .i64 s1.2.2.2.1,.int .i64 s1.2.2.2.2.1,(sv v9)]]) hS Tryz.func37 (fun S h1 h2 h3=>(fee hy7 h2 (zz h1))) z z ?_ z z z z)
   rintro ⟨v16,v17,v18⟩ W hS
   refine .q z (.nil ?_)
   refine .cs z h ?_ ?_ <;> intro h
   ·refine .g (.s (bs T.s27 z z) z (.c (.st T.t27 hS.p4 z z z ?_ z z z z z)))
    intro W hS
    refine .qn z (.ret ?_)
    have hS:=hS.nilv 36 3 dMachine
    have hS:=hS.nilv 61 2 dBox
    have hS:=hS.nilv 3 1 (D.int .i64)
    cases h
    exact ⟨by simp,z,fin_ret (vs:=[_,_]) (nilH,nilH,nilH) (rc hS.p3 T.t27 z (rt z rn) z z) z (hS.to [2,1,0] z)⟩
   refine .skip (.region (.q z (.q z (.q z (.nil ?_)))))
   cases h
   exact ⟨z,v16,v17,v18,sb z,hS.to [0,3,3,0,0,0] z⟩
  have h:=sel_f hb h
  refine .exit ?_
  cases h
  exact ⟨by simp,z,v7,v8,v9,sb z,hS.to [0,0,0,0,0,0] z⟩
 intro x E W hJ
 rcases y4 with o3 | o4
 ·obtain ⟨rfl,hF⟩:=hJ
  refine ⟨_,fun _ _ h=>h,?_⟩
  cases h
  exact hF
 obtain ⟨rfl,v19,v20,v21,hE,hS⟩:=hJ
 refine ⟨_,hE.sub,?_⟩
 refine .g (.s (ld T.t27 hS z z z z z) z (.c (.st T.t27 hS.p1 z z z ?_ z z z z z)))
 intro W hS
 cases h
 exact .qn z (.ret (fin_ret (vs:=[_,_]) (v19,v20,v21) (rc hS T.t27 z (rt z rn) z z) z (hS.to [3,3,3] z)))
theorem fdu {k : Nat} {a0 : L6Rd} {v_0_b : Hd} {g_0 : Nat} {S : Nat → Prop} {w : World} {r : Squad × Int} (h : f6k k a0 = some r) (q_0_b : RV w (Old S w) (sv v_0_b) 5 1 (D.int .u8) a0.b) (hO : Owns w [.box g_0 54 [(sv v_0_b),.int .i64 a0.p]] S) (hlt : ∀ b,S b → b < w.heap.size) : Calls Tryz.prog 9 #[.pointer (some ⟨g_0,0,none⟩)] w (Ret S w (fun s : Hd × Hd × Hd=>.agg #[(sv s.1),(sv s.2.1),.int .i64 r.1.Turn,.int .i64 r.1.Idle,(sv s.2.2)]) (fun s=>[.box g_0 54 [(sv v_0_b),.int .i64 r.2],rowV (sv s.1) 36 3 dMachine r.1.Harts,rowV (sv s.2.1) 61 2 dBox r.1.Boxes,rowV (sv s.2.2) 3 1 (D.int .i64) r.1.Out])):=by
 unfold f6k at h
 refine enter Tryz.func9 z z ?_
 have hS:=Sep.startM hO hlt
 refine .g (.c (.alloc T.t27 hS ?_ z z z))
 intro g1 W hS
 refine .nil (.g (.q z ?_))
 have ⟨y1,hy1,h⟩:=bnd h
 have hS:=hS.p1
 refine .c (.callS2 (L0:=[.box g_0 54 [(sv v_0_b),.int .i64 a0.p]]) hS Tryz.func17 (fun S h1 h2 h3=>(fda hy1 (hS.keepS q_0_b h1) h2 (zz h1))) z z ?_ z z z z)
 rintro v1 W hS
 refine .qn z (.g (.q z ?_))
 have ⟨y2,hy2,h⟩:=bnd h
 refine .c (.callS2 (L0:=[.box g_0 54 [(sv v_0_b),.int .i64 y1.2]]) hS Tryz.func19 (fun S h1 h2 h3=>(f00 hy2 (hS.keepS q_0_b h1) h2 (zz h1))) z z ?_ z z z z)
 rintro ⟨⟩ W hS
 refine .q z (.q z ?_)
 have ⟨y3,hy3,h⟩:=bnd h
 refine .c (.callS2 (L0:=[.box g_0 54 [(sv v_0_b),.int .i64 y2.2]]) hS Tryz.func19 (fun S h1 h2 h3=>(f00 hy3 (hS.keepS q_0_b h1) h2 (zz h1))) z z ?_ z z z z)
 rintro ⟨⟩ W hS
 refine .q z (.c (.liv [w64 (1 + y2.1),w64 (1 + y3.1)] (D.int .i64) T.u25 T.t3 hS z z z z ?_ z (fun _=>z) z z z z))
 intro v2 W hS
 refine .q z ?_
 have ⟨y4,hy4,h⟩:=bnd h
 refine .c (.call hS Tryz.func18 (fdb hy4 hS.lendv hS.p2.lendv) z z ?_ z z z z)
 rintro ⟨v3,v4,v5⟩ W hS
 refine .q z (.q z (.q z (.c (.alloc T.t27 hS ?_ z z z))))
 intro g2 W hS
 refine .c (.st T.t27 hS z z z ?_ z z z z z)
 intro W hS
 refine .qn z (.seq ?_)
 have ⟨y5,hy5,h⟩:=bnd h
 have ⟨y6,hy6,h⟩:=bnd h
 refine .via (R':=fun x E' W'=>x = .normal ∧ ∃ (g3 : Nat) (v6 : Hd) (v7 : Hd) (v8 : Hd),SubL E' [(0,.pointer (some ⟨g_0,0,none⟩)),(2,.pointer (some ⟨g1,0,none⟩)),(6,.pointer (some ⟨g3,0,none⟩))] ∧ Sep S w W' [.box g2 27 [(sv v3),(sv v4),.int .i64 y4.1.Turn,.int .i64 y4.1.Idle,(sv v5)],rowV (sv v3) 36 3 dMachine y4.1.Harts,rowV (sv v4) 61 2 dBox y4.1.Boxes,rowV (sv v5) 3 1 (D.int .i64) y4.1.Out,rowV (sv v2) 3 1 (D.int .i64) [w64 (1 + y2.1),w64 (1 + y3.1)],.box g_0 54 [(sv v_0_b),.int .i64 y5.2],rowV (sv v1) 66 1 (fun (l : List Instr)=>D.row 105 5 (l.map dInstr)) y1.1,.box g1 27 [(sv nilH),(sv nilH),.int .i64 0,.int .i64 0,(sv nilH)],.box g3 27 [(sv v6),(sv v7),.int .i64 y6.1.Turn,.int .i64 y6.1.Idle,(sv v8)],rowV (sv v6) 36 3 dMachine y6.1.Harts,rowV (sv v7) 61 2 dBox y6.1.Boxes,rowV (sv v8) 3 1 (D.int .i64) y6.1.Out]) ?_ ?_
 ·refine .rk 10 hS [0,0,0,0,0,1,1] T.mix ?_
  intro W hS
  have hT:=hS.to [0,0,0,0,0,1,1] z
  refine .ts 0 z (fun W hT=>ld T.t27 hT z z z z z) hT z (by kernel_rfl) (.tp 1 z z hT (by kernel_rfl) (.by [2,7] ⟨⟨_,z,?_⟩,⟨_,z,?_⟩,trivial⟩ (by kernel_rfl) z))
  ·have hS:=hS.p5
   refine (.callS2 (L0:=[.box g_0 54 [(sv v_0_b),.int .i64 y3.2]]) hS Tryz.func19 (fun S h1 h2 h3=>(f00 hy5 (hS.keepS q_0_b h1) h2 (zz h1))) z z ?_ z z z z)
   rintro ⟨⟩ W hS
   have hT:=hS.to [1,1,1,1,1,1,1] z
   refine ⟨fun _=>hT,.by [3,7] ⟨⟨_,z,?_⟩,⟨_,z,?_⟩,trivial⟩ (by kernel_rfl) z⟩
   ·refine (.call hS Tryz.func20 (f9n hy6 hS.p2.lendv hS.p3.lendv hS.p4.lendv) z z ?_ z z z z)
    rintro ⟨v9,v10,v11⟩ W hS
    have hT:=hS.to [4,4,4,4,4,4,4] z
    refine ⟨fun _=>hT,.tp 4 z z hT (by kernel_rfl) (.tp 5 z z hT (by kernel_rfl) (.tp 6 z z hT (by kernel_rfl) (.by1 7 z (.alloc T.t27 hS ?_ z z z) (by kernel_rfl))))⟩
    intro g4 W hS
    have hT:=hS.to [5,5,5,5,5,5,5] z
    refine ⟨fun _=>hT,.by1 8 z (.st T.t27 hS z z z ?_ z z z z z) (by kernel_rfl)⟩
    intro W hS
    have hT:=hS.to [5,5,5,5,5,5,5] z
    refine ⟨fun _=>hT,?_⟩
    exact .tp 9 z z hT (by kernel_rfl) (.done (⟨z,g4,v9,v10,v11,sb z,hS.to [5,5,5,5,5,4,4,4,0,0,0,0] z⟩) (by kernel_rfl))
   refine (.alloc T.t27 hS ?_ z z z)
   intro g5 W hS
   have hT:=hS.to [2,2,2,2,2,2,2] z
   refine ⟨fun _=>hT,.by1 3 z (.call hS Tryz.func20 (f9n hy6 hS.p3.lendv hS.p4.lendv hS.p5.lendv) z z ?_ z z z z) (by kernel_rfl)⟩
   rintro ⟨v12,v13,v14⟩ W hS
   have hT:=hS.to [5,5,5,5,5,5,5] z
   refine ⟨fun _=>hT,.tp 4 z z hT (by kernel_rfl) (.tp 5 z z hT (by kernel_rfl) (.tp 6 z z hT (by kernel_rfl) (.by1 8 z (.st T.t27 hS.p3 z z z ?_ z z z z z) (by kernel_rfl))))⟩
   intro W hS
   have hT:=hS.to [5,5,5,5,5,5,5] z
   refine ⟨fun _=>hT,?_⟩
   exact .tp 9 z z hT (by kernel_rfl) (.done (⟨z,g5,v12,v13,v14,sb z,hS.to [5,5,5,5,5,4,4,4,0,0,0,0] z⟩) (by kernel_rfl))
  refine (.alloc T.t27 hS ?_ z z z)
  intro g6 W hS
  have hT:=hS.to [1,1,1,1,1,2,2] z
  refine ⟨fun _=>hT,?_⟩
  have hS:=hS.p6
  refine .by1 2 z (.callS2 (L0:=[.box g_0 54 [(sv v_0_b),.int .i64 y3.2]]) hS Tryz.func19 (fun S h1 h2 h3=>(f00 hy5 (hS.keepS q_0_b h1) h2 (zz h1))) z z ?_ z z z z) (by kernel_rfl)
  rintro ⟨⟩ W hS
  have hT:=hS.to [2,2,2,2,2,2,2] z
  refine ⟨fun _=>hT,.by1 3 z (.call hS Tryz.func20 (f9n hy6 hS.p3.lendv hS.p4.lendv hS.p5.lendv) z z ?_ z z z z) (by kernel_rfl)⟩
  rintro ⟨v15,v16,v17⟩ W hS
  have hT:=hS.to [5,5,5,5,5,5,5] z
  refine ⟨fun _=>hT,.tp 4 z z hT (by kernel_rfl) (.tp 5 z z hT (by kernel_rfl) (.tp 6 z z hT (by kernel_rfl) (.by1 8 z (.st T.t27 hS.p4 z z z ?_ z z z z z) (by kernel_rfl))))⟩
  intro W hS
  have hT:=hS.to [5,5,5,5,5,5,5] z
  refine ⟨fun _=>hT,?_⟩
  exact .tp 9 z z hT (by kernel_rfl) (.done (⟨z,g6,v15,v16,v17,sb z,hS.to [5,5,5,5,5,4,4,4,0,0,0,0] z⟩) (by kernel_rfl))
 intro x E W hJ
 obtain ⟨rfl,g7,v18,v19,v20,hE,hS⟩:=hJ
 refine ⟨_,hE.sub,?_⟩
 refine .seq (.g (.q z ?_))
 have ⟨y7,hy7,h⟩:=bnd h
 have hS:=hS.p5
 refine .c (.callS2 (L0:=[.box g_0 54 [(sv v_0_b),.int .i64 y5.2]]) hS Tryz.func19 (fun S h1 h2 h3=>(f00 hy7 (hS.keepS q_0_b h1) h2 (zz h1))) z z ?_ z z z z)
 rintro ⟨⟩ W hS
 refine .nil (.block (.g (.q z (.q z (.nil ?_)))))
 refine .cs z h ?_ ?_ <;> intro h
 ·refine .region (.s (fa T.f27_2 z z z) z (.c (.st T.t3 hS.p8 z z z ?_ z z z z z)))
  intro W hS
  refine .nil (.g (.s (ld T.t27 hS z z z z z) z (.c (.st T.t27 hS.p8 z z z ?_ z z z z z))))
  intro W hS
  cases h
  exact .nil (.ret (fin_ret (vs:=[_]) (v18,v19,v20) (rc hS T.t27 z rn z z) z (hS.to [2,8,8,8] z)))
 refine .g (.q z (.q z (.nil ?_)))
 refine .cs z h ?_ ?_ <;> intro h
 ·refine .region (.s (fa T.f27_0 z z z) z (.s (ld T.t23 hS.p8 z z z z z) z ?_))
  have ⟨x1,hx1,h⟩:=bnd h
  refine .s (ixv hS.p9.lendv hx1 T.u23 T.t36 z z z) z (.s (fe T.f36_1 z z z) z ?_)
  obtain ⟨k1,hS⟩:=Sep.outv hS.p9 hx1
  have hS:=hS.oagg
  obtain ⟨v21,k1,rfl,hS⟩:=hS.orowv
  obtain ⟨k1,rfl,hS⟩:=Sep.oflat z hS
  obtain ⟨v22,k1,rfl,hS⟩:=hS.orowv
  obtain ⟨rfl,hS⟩:=hS.onil
  refine .c (.sthv hS.p2 T.t3 z z z ?_ z z z z z z)
  intro W hS
  refine .nil (.g (.s (ld T.t27 hS.p11 z z z z z) z (.c (.st T.t27 hS.p10 z z z ?_ z z z z z))))
  intro W hS
  refine .nil (.ret ?_)
  have hS:=Sep.gat (ds:=[dMachine (Machine.mk x1.Regs 2 x1.Mem)]) (cs:=[(sv v21),.int .i64 2,(sv v22)]) (L1:=[rowV (sv v21) 3 1 (D.int .i64) x1.Regs,rowV (sv v22) 3 1 (D.int .i64) x1.Mem]) (.agg (.row (.flat (c1:=[.int .i64 2]) z (.row .nil)))) (hS.to [3,2,1,0,0,0,0,0,0,0,0,0,0,0] z)
  have hS : Sep _ _ _ [rowV (sv v18) 36 3 dMachine (y6.1.Harts.set (Int.toNat 0) (Machine.mk x1.Regs 2 x1.Mem)),.box g1 27 [(sv v18),(sv v19),.int .i64 y6.1.Turn,.int .i64 y6.1.Idle,(sv v20)],.box g_0 54 [(sv v_0_b),.int .i64 y7.2],.box g2 27 [(sv v3),(sv v4),.int .i64 y4.1.Turn,.int .i64 y4.1.Idle,(sv v5)],rowV (sv v3) 36 3 dMachine y4.1.Harts,rowV (sv v4) 61 2 dBox y4.1.Boxes,rowV (sv v5) 3 1 (D.int .i64) y4.1.Out,rowV (sv v2) 3 1 (D.int .i64) [w64 (1 + y2.1),w64 (1 + y3.1)],rowV (sv v1) 66 1 (fun (l : List Instr)=>D.row 105 5 (l.map dInstr)) y1.1,.box g7 27 [(sv v18),(sv v19),.int .i64 y6.1.Turn,.int .i64 y6.1.Idle,(sv v20)],rowV (sv v19) 61 2 dBox y6.1.Boxes,rowV (sv v20) 3 1 (D.int .i64) y6.1.Out]:=hS.backv
  cases h
  exact fin_ret (vs:=[_]) (v18,v19,v20) (rc hS.p1 T.t27 z rn z z) z (hS.to [2,0,8,8] z)
 refine .g (.q z (.q z (.nil ?_)))
 refine .cs z h ?_ ?_ <;> intro h
 ·refine .region (.s (fa T.f27_4 z z z) z (.s (ld T.t25 hS.p8 z z z z z) z (.c (.liv [(-2147483649)] (D.int .i64) T.u25 T.t3 hS z z z z ?_ z (fun _=>z) z z z z))))
  intro v23 W hS
  have ⟨r1,hr1,h⟩:=bnd h
  have hT0:=(hS.pull (i:=12) z)
  refine .c (.apprv hr1 hT0 hT0.p1.lendv (fun _=>z) T.u25 T.t3 z z z ?_ z z z z z)
  intro v24 W hS
  refine .s (fa T.f27_4 z z z) z (.c (.st T.t25 hS.p10 z z z ?_ z z z z z))
  intro W hS
  refine .nil (.g (.s (ld T.t27 hS z z z z z) z (.c (.st T.t27 hS.p10 z z z ?_ z z z z z))))
  intro W hS
  cases h
  exact .nil (.ret (fin_ret (vs:=[_]) (v18,v19,v24) (rc hS T.t27 z rn z z) z (hS.to [4,10,10,2] z)))
 refine .skip (.g (.s (ld T.t27 hS.p8 z z z z z) z (.c (.st T.t27 hS.p7 z z z ?_ z z z z z))))
 intro W hS
 cases h
 exact .nil (.ret (fin_ret (vs:=[_]) (v18,v19,v20) (rc hS T.t27 z rn z z) z (hS.to [1,8,8,8] z)))
theorem ff5 {a0 : List Int} {v_0 : Hd} {w : World} {r : L6Rd} (h : f8x a0 = some r) (q_0 : RV w (Old No w) (sv v_0) 5 1 (D.int .u8) a0) : Calls Tryz.prog 10 #[(sv v_0)] w (Ret No w (fun s : Nat × {x : Hd // ∀ (T : Nat → Prop),RV w T (sv v_0) 5 1 (D.int .u8) a0 → RV w T (sv x) 5 1 (D.int .u8) r.b}=>.pointer (some ⟨s.1,0,none⟩)) (fun s=>[.box s.1 54 [(sv s.2.1),.int .i64 r.p]])):=by
 unfold f8x at h
 refine enter Tryz.func10 z z ?_
 have hS:=Sep.start w
 refine .g (.q z (.nil ?_))
 have ⟨y1,hy1,h⟩:=bnd h
 refine .seq (CW.via (R':=fun x E' W'=>x = .normal ∧ ∃ (v1 : Hd),(∀ (T : Nat → Prop),RV w T (sv v_0) 5 1 (D.int .u8) a0 → RV w T (sv v1) 5 1 (D.int .u8) y1) ∧ SubL E' [(0,(sv v1))] ∧ Sep No w W' []) ?_ ?_)
 ·have h:=hy1
  refine .g (.q z (.s (lenv (hS.keep q_0) T.u22 z z) z (.q z (.nil ?_))))
  refine .cs z h ?_ ?_ <;> intro h
  ·refine .region (.q z ?_)
   have ⟨r1,hr1,h⟩:=bnd h
   refine .s (slv hr1 q_0 T.u22 T.t5 z z z z) z (.q z (.nil ?_))
   obtain rfl:=Option.some.inj h
   exact ⟨z,(cutH v_0 (Int.toNat 0) 1 r1.length),fun _ q_0=>(slv_rd hr1 q_0),sb z,hS.to [] z⟩
  refine .skip ?_
  obtain rfl:=Option.some.inj h
  exact ⟨z,v_0,fun _ q_0=>q_0,sb z,hS.to [] z⟩
 intro x E W hJ
 obtain ⟨rfl,v2,q2,hE,hS⟩:=hJ
 refine ⟨_,hE.sub,?_⟩
 refine .g (.q z (.s (bs T.s54 z z) z (.c (.box hS z z ?_ z z))))
 intro g1 W hS
 cases h
 exact .qn z (.ret (fin_ret (vs:=[_]) (g1,⟨v2,fun _ q_0=>(q2 _ q_0)⟩) (rt z rn) z (hS.to [0] z)))
theorem fay {k : Nat} {a0 : List Int} {v_0 : Hd} {w : World} {r : Squad} (h : f2g k a0 = some r) (q_0 : RV w (Old No w) (sv v_0) 5 1 (D.int .u8) a0) : Calls Tryz.prog 4 #[(sv v_0)] w (Ret No w (fun s : Hd × Hd × Hd=>.agg #[(sv s.1),(sv s.2.1),.int .i64 r.Turn,.int .i64 r.Idle,(sv s.2.2)]) (fun s=>[rowV (sv s.1) 36 3 dMachine r.Harts,rowV (sv s.2.1) 61 2 dBox r.Boxes,rowV (sv s.2.2) 3 1 (D.int .i64) r.Out])):=by
 unfold f2g at h
 refine enter Tryz.func4 z z ?_
 have hS:=Sep.start w
 have Q_0:=q_0
 refine .g (.c (.alloc T.t27 hS ?_ z z z))
 intro g1 W hS
 refine .nil (.g (.q z ?_))
 have ⟨y1,hy1,h⟩:=bnd h
 have hQ1:=hS
 refine .c (.call hS Tryz.func10 (ff5 hy1 (hS.keep q_0)) z z ?_ z z z z)
 rintro ⟨g2,⟨v1,q1⟩⟩ W hS
 have ⟨y2,hy2,h⟩:=bnd h
 refine .c (.callS2 (L0:=[.box g2 54 [(sv v1),.int .i64 y1.p]]) hS Tryz.func9 (fun S h1 h2 h3=>(fdu hy2 (hS.keepS (hQ1.wasA (q1 _ (hQ1.keepA q_0 Q_0))) h1) h2 (zz h1))) z z ?_ z z z z)
 rintro ⟨v2,v3,v4⟩ W hS
 refine .c (.st T.t27 hS.p4 z z z ?_ z z z z z)
 intro W hS
 cases h
 exact .nil (.ret (fin_ret (vs:=[_]) (v2,v3,v4) (rc hS T.t27 z rn z z) z (hS.to [2,2,2] z)))
theorem faq {a0 : Int} {w : World} {r : Bool} (h : f1j a0 = some r) : Calls Tryz.prog 41 #[.int .i64 a0] w (Ret No w (fun s : Unit=>.bool r) (fun s=>[])):=by
 unfold f1j at h
 refine enter Tryz.func41 z z ?_
 have hS:=Sep.start w
 refine .g (.qn z (.g (.q z (.q z (.q z (.chunk 3 8 ((decide (a0 ≥ (-2147483648))) && (decide (a0 ≤ 2147483647))) hS ?_ ?_))))))
 ·refine .both (decide (a0 ≥ (-2147483648))) (fun hb=>?_) (fun hb=>?_)
  ·have hg1:=hb
   exact .g hg1 (.q z (.g hg1 (.q z (.s (pkt hg1 z z z) z (.nil (ck 3 hS z (and_t hg1) z z)))) z)) z
  exact .xx hb z (.xx hb z (.s (pkf hb z z z) z (.nil (ck 3 hS z (and_f hb) z z))))
 intro W hS
 cases h
 exact .qn z (.ret (fin_ret (vs:=[_]) () (rt z rn) z (hS.to [] z)))
def feb (w : World) (r : Bool) : Env → World → Prop:=Fin Tryz.prog Tryz.f38 No w (fun s : Unit=>.bool r) (fun s=>[]) .ret
theorem f6e {a0 : List Int} {v_0 : Hd} {w : World} {r : Bool} (h : f1i a0 = some r) (q_0 : RV w (Old No w) (sv v_0) 3 1 (D.int .i64) a0) : Calls Tryz.prog 38 #[(sv v_0)] w (Ret No w (fun s : Unit=>.bool r) (fun s=>[])):=by
 unfold f1i at h
 refine enter Tryz.func38 z z ?_
 have hS:=Sep.start w
 refine .g (.qn z (.seq (.g (.q z (.s (lenv (hS.keep q_0) T.u25 z z) z (.qn z (.block ?_)))))))
 have ⟨y1,hy1,h⟩:=bnd h
 refine .via (.iter (fun s1 E' W'=>SubL E' [(5,(sv v_0)),(6,.int .i64 (a0.length : Int)),(7,.int .i64 s1)] ∧ Sep No w W' []) (fun y2 x E' W'=>(match y2 with | .inl o1=>x = .ret ∧ feb w o1 E' W' | .inr o2=>x = .exit 0 ∧ SubL E' [] ∧ Sep No w W' [])) hy1 ⟨sb rfl,hS.to [] rfl⟩ ?_) ?_
 ·intro s1 y3 E W h hI
  obtain ⟨hE,hS⟩:=hI
  refine CW.sub hE ?_
  unfold f4o at h
  refine .g (.qn z (.seq ?_))
  refine .cs z h ?_ ?_ <;> intro h
  ·refine .skip (.seq (.block (.seq (.region ?_))))
   have ⟨x1,hx1,h⟩:=bnd h
   refine .s (ixv (hS.keep q_0) hx1 T.u25 T.t3 z z z) z (.s (lde (RV.flat (hS.keep q_0) hx1 z) T.t3 z z z z z) z (.qn z (.g (.q z ?_))))
   have ⟨y4,hy4,h⟩:=bnd h
   refine .c (.call0 hS Tryz.func41 (faq hy4) z z ?_ z z z z)
   intro W hS
   refine .q z (.nil ?_)
   refine .cs z h ?_ ?_ <;> intro h
   ·refine .g (.qn z (.ret ?_))
    cases h
    exact ⟨by simp,z,fin_ret (vs:=[_]) () (rt z rn) z (hS.to [] z)⟩
   refine .skip (.region (.q z (.q z (.nil ?_))))
   cases h
   exact ⟨z,sb z,hS.to [] z⟩
  refine .exit ?_
  cases h
  exact ⟨by simp,z,sb z,hS.to [] z⟩
 intro x E W hJ
 rcases y1 with o3 | o4
 ·obtain ⟨rfl,hF⟩:=hJ
  refine ⟨_,fun _ _ h=>h,?_⟩
  cases h
  exact hF
 obtain ⟨rfl,hE,hS⟩:=hJ
 refine ⟨_,hE.sub,?_⟩
 obtain rfl:=Option.some.inj h
 exact .g (.qn z (.ret (fin_ret (vs:=[_]) () (rt z rn) z (hS.to [] z))))
theorem fc7 {a0 : Int} {a1 : Int} {a2 : Int} {a3 : List Int} {v_3 : Hd} {w : World} {r : Bool} (h : f7o a0 a1 a2 a3 = some r) (q_3 : RV w (Old No w) (sv v_3) 3 1 (D.int .i64) a3) : Calls Tryz.prog 21 #[.int .i64 a0,.int .i64 a1,.int .i64 a2,(sv v_3)] w (Ret No w (fun s : Unit=>.bool r) (fun s=>[])):=by
 unfold f7o at h
 refine enter Tryz.func21 z z ?_
 have hS:=Sep.start w
 refine .g (.qn z (.g (.q z (.q z (.q z (.chunk 3 14 ((decide (a0 ≥ 1)) && (decide (a0 ≤ 3))) hS ?_ ?_))))))
 ·refine .both (decide (a0 ≥ 1)) (fun hb=>?_) (fun hb=>?_)
  ·have hg1:=hb
   exact .g hg1 (.q z (.g hg1 (.q z (.s (pkt hg1 z z z) z (.nil (ck 3 hS z (and_t hg1) z z)))) z)) z
  exact .xx hb z (.xx hb z (.s (pkf hb z z z) z (.nil (ck 3 hS z (and_f hb) z z))))
 intro W hS
 refine .q z (.chunk 3 18 (((decide (a0 ≥ 1)) && (decide (a0 ≤ 3))) && (decide (a1 ≥ 0))) hS ?_ ?_)
 ·refine .both ((decide (a0 ≥ 1)) && (decide (a0 ≤ 3))) (fun hb=>?_) (fun hb=>?_)
  ·have hg2:=hb
   exact .g hg2 (.q z (.g hg2 (.q z (.s (pkt hg2 z z z) z (.nil (ck 3 hS z (and_t hg2) z z)))) z)) z
  exact .xx hb z (.xx hb z (.s (pkf hb z z z) z (.nil (ck 3 hS z (and_f hb) z z))))
 intro W hS
 refine .q z (.chunk 4 23 ((((decide (a0 ≥ 1)) && (decide (a0 ≤ 3))) && (decide (a1 ≥ 0))) && (decide (a1 < a0))) hS ?_ ?_)
 ·refine .both (((decide (a0 ≥ 1)) && (decide (a0 ≤ 3))) && (decide (a1 ≥ 0))) (fun hb=>?_) (fun hb=>?_)
  ·have hg3:=hb
   exact .g hg3 (.q z (.g hg3 (.q z (.g hg3 (.q z (.s (pkt hg3 z z z) z (.nil (ck 4 hS z (and_t hg3) z z)))) z)) z)) z
  exact .xx hb z (.xx hb z (.xx hb z (.s (pkf hb z z z) z (.nil (ck 4 hS z (and_f hb) z z)))))
 intro W hS
 refine .q z (.chunk 3 27 (((((decide (a0 ≥ 1)) && (decide (a0 ≤ 3))) && (decide (a1 ≥ 0))) && (decide (a1 < a0))) && (decide (a2 ≥ 0))) hS ?_ ?_)
 ·refine .both ((((decide (a0 ≥ 1)) && (decide (a0 ≤ 3))) && (decide (a1 ≥ 0))) && (decide (a1 < a0))) (fun hb=>?_) (fun hb=>?_)
  ·have hg4:=hb
   exact .g hg4 (.q z (.g hg4 (.q z (.s (pkt hg4 z z z) z (.nil (ck 3 hS z (and_t hg4) z z)))) z)) z
  exact .xx hb z (.xx hb z (.s (pkf hb z z z) z (.nil (ck 3 hS z (and_f hb) z z))))
 intro W hS
 refine .q z (.chunk 4 32 ((((((decide (a0 ≥ 1)) && (decide (a0 ≤ 3))) && (decide (a1 ≥ 0))) && (decide (a1 < a0))) && (decide (a2 ≥ 0))) && (decide (a2 ≤ a0))) hS ?_ ?_)
 ·refine .both (((((decide (a0 ≥ 1)) && (decide (a0 ≤ 3))) && (decide (a1 ≥ 0))) && (decide (a1 < a0))) && (decide (a2 ≥ 0))) (fun hb=>?_) (fun hb=>?_)
  ·have hg5:=hb
   exact .g hg5 (.q z (.g hg5 (.q z (.g hg5 (.q z (.s (pkt hg5 z z z) z (.nil (ck 4 hS z (and_t hg5) z z)))) z)) z)) z
  exact .xx hb z (.xx hb z (.xx hb z (.s (pkf hb z z z) z (.nil (ck 4 hS z (and_f hb) z z)))))
 intro W hS
 refine .q z ?_
 have ⟨b1,hb1,h⟩:=bnd h
 refine .chunk 3 36 (b1) hS ?_ ?_
 ·refine .both ((((((decide (a0 ≥ 1)) && (decide (a0 ≤ 3))) && (decide (a1 ≥ 0))) && (decide (a1 < a0))) && (decide (a2 ≥ 0))) && (decide (a2 ≤ a0))) (fun hb=>?_) (fun hb=>?_)
  ·have hg6:=hb
   have h:=sel_t hb hb1
   refine .g hg6 (.q z ?_) z
   have ⟨y1,hy1,h⟩:=bnd h
   refine .g hg6 (.c (.call0 hS Tryz.func38 (f6e hy1 (hS.keep q_3)) z z ?_ z z z z)) z
   intro W hS
   refine .s (pkt hg6 z z z) z ?_
   cases h
   exact .nil (ck 3 hS z z z z)
  refine .xx hb z (.xx hb z ?_)
  cases sel_f hb hb1
  exact .s (pkf hb z z z) z (.nil (ck 3 hS z z z z))
 intro W hS
 obtain rfl:=Option.some.inj h
 exact .qn z (.ret (fin_ret (vs:=[_]) () (rt z rn) z (hS.to [] z)))
theorem fd6 {a0 : Box} {v_0_Items : Hd} {w : World} {r : Bool} (h : f6x a0 = some r) (q_0_Items : RV w (Old No w) (sv v_0_Items) 3 1 (D.int .i64) a0.Items) : Calls Tryz.prog 39 #[.agg #[.int .i64 a0.Room,(sv v_0_Items)]] w (Ret No w (fun s : Unit=>.bool r) (fun s=>[])):=by
 unfold f6x at h
 refine enter Tryz.func39 z z ?_
 have hS:=Sep.start w
 refine .g (.c (.box hS z z ?_ z z))
 intro g1 W hS
 refine .qn z (.g (.s (fa T.f61_0 z z z) z (.s (ld T.t3 hS z z z z z) z (.q z (.q z (.chunk 4 10 ((decide (a0.Room ≥ 1)) && (decide (a0.Room ≤ 4))) hS ?_ ?_))))))
 ·refine .both (decide (a0.Room ≥ 1)) (fun hb=>?_) (fun hb=>?_)
  ·have hg1:=hb
   exact .g hg1 (.s (fa T.f61_0 z z z) z (.g hg1 (.s (ld T.t3 hS z z z z z) z (.g hg1 (.q z (.s (pkt hg1 z z z) z (.nil (ck 4 hS z (and_t hg1) z z)))) z)) z)) z
  exact .xx hb z (.xx hb z (.xx hb z (.s (pkf hb z z z) z (.nil (ck 4 hS z (and_f hb) z z)))))
 intro W hS
 refine .q z (.chunk 7 18 (((decide (a0.Room ≥ 1)) && (decide (a0.Room ≤ 4))) && (decide ((a0.Items.length : Int) ≤ a0.Room))) hS ?_ ?_)
 ·refine .both ((decide (a0.Room ≥ 1)) && (decide (a0.Room ≤ 4))) (fun hb=>?_) (fun hb=>?_)
  ·have hg2:=hb
   exact .g hg2 (.s (fa T.f61_1 z z z) z (.g hg2 (.s (ld T.t25 hS z z z z z) z (.g hg2 (.s (lenv (hS.keep q_0_Items) T.u25 z z) z (.g hg2 (.s (fa T.f61_0 z z z) z (.g hg2 (.s (ld T.t3 hS z z z z z) z (.g hg2 (.q z (.s (pkt hg2 z z z) z (.nil (ck 7 hS z (and_t hg2) z z)))) z)) z)) z)) z)) z)) z
  exact .xx hb z (.xx hb z (.xx hb z (.xx hb z (.xx hb z (.xx hb z (.s (pkf hb z z z) z (.nil (ck 7 hS z (and_f hb) z z))))))))
 intro W hS
 refine .q z ?_
 have ⟨b1,hb1,h⟩:=bnd h
 refine .chunk 4 23 (b1) hS ?_ ?_
 ·refine .both (((decide (a0.Room ≥ 1)) && (decide (a0.Room ≤ 4))) && (decide ((a0.Items.length : Int) ≤ a0.Room))) (fun hb=>?_) (fun hb=>?_)
  ·have hg3:=hb
   have h:=sel_t hb hb1
   refine .g hg3 (.s (fa T.f61_1 z z z) z (.g hg3 (.s (ld T.t25 hS z z z z z) z ?_) z)) z
   have ⟨y1,hy1,h⟩:=bnd h
   refine .g hg3 (.c (.call0 hS Tryz.func38 (f6e hy1 (hS.keep q_0_Items)) z z ?_ z z z z)) z
   intro W hS
   refine .s (pkt hg3 z z z) z ?_
   cases h
   exact .nil (ck 4 hS z z z z)
  refine .xx hb z (.xx hb z (.xx hb z ?_))
  cases sel_f hb hb1
  exact .s (pkf hb z z z) z (.nil (ck 4 hS z z z z))
 intro W hS
 obtain rfl:=Option.some.inj h
 exact .qn z (.ret (fin_ret (vs:=[_]) () (rt z rn) z (hS.to [] z)))
def fcp (w : World) (r : Bool) : Env → World → Prop:=Fin Tryz.prog Tryz.f22 No w (fun s : Unit=>.bool r) (fun s=>[]) .ret
theorem fcb {a0 : List Box} {v_0 : Hd} {w : World} {r : Bool} (h : f5b a0 = some r) (q_0 : RV w (Old No w) (sv v_0) 61 2 dBox a0) : Calls Tryz.prog 22 #[(sv v_0)] w (Ret No w (fun s : Unit=>.bool r) (fun s=>[])):=by
 unfold f5b at h
 refine enter Tryz.func22 z z ?_
 have hS:=Sep.start w
 refine .g (.qn z (.seq (.g (.q z (.s (lenv (hS.keep q_0) T.u24 z z) z (.qn z (.block ?_)))))))
 have ⟨y1,hy1,h⟩:=bnd h
 refine .via (.iter (fun s1 E' W'=>SubL E' [(0,(sv v_0)),(5,(sv v_0)),(6,.int .i64 (a0.length : Int)),(7,.int .i64 s1)] ∧ Sep No w W' []) (fun y2 x E' W'=>(match y2 with | .inl o1=>x = .ret ∧ fcp w o1 E' W' | .inr o2=>x = .exit 0 ∧ SubL E' [(0,(sv v_0))] ∧ Sep No w W' [])) hy1 ⟨sb rfl,hS.to [] rfl⟩ ?_) ?_
 ·intro s1 y3 E W h hI
  obtain ⟨hE,hS⟩:=hI
  refine CW.sub hE ?_
  unfold f3e at h
  refine .g (.qn z (.seq ?_))
  refine .cs z h ?_ ?_ <;> intro h
  ·refine .skip (.seq (.block (.seq (.region ?_))))
   have ⟨x1,hx1,h⟩:=bnd h
   obtain ⟨k1,hd,hck1⟩:=RV.el2 q_0 hx1
   have hd1:=ragg hd
   obtain ⟨k1,rfl,hd2⟩:=rflat q_0 z hd1
   obtain ⟨v1,k1,rfl,q1,hd3⟩:=rrowv q_0 hd2
   obtain rfl:=rnil q_0 hd3
   refine .s (ixv (hS.keep q_0) hx1 T.u24 T.t61 z z z) z (.s (lde (hck1 _ hS.agree) T.t61 z z z z z) z (.c (.alloc T.t61 hS ?_ z z z)))
   intro g1 W hS
   refine .c (.st T.t61 hS z z z ?_ z z z z z)
   intro W hS
   refine .nil (.g (.s (ld T.t61 hS z z z z z) z ?_))
   have ⟨y4,hy4,h⟩:=bnd h
   refine .c (.call0 hS Tryz.func39 (fd6 hy4 (hS.keep (q1 _ q_0))) z z ?_ z z z z)
   intro W hS
   refine .q z (.nil ?_)
   refine .cs z h ?_ ?_ <;> intro h
   ·refine .g (.qn z (.ret ?_))
    cases h
    exact ⟨by simp,z,fin_ret (vs:=[_]) () (rt z rn) z (hS.to [] z)⟩
   refine .skip (.region (.q z (.q z (.nil ?_))))
   cases h
   exact ⟨z,sb z,hS.to [] z⟩
  refine .exit ?_
  cases h
  exact ⟨by simp,z,sb z,hS.to [] z⟩
 intro x E W hJ
 rcases y1 with o3 | o4
 ·obtain ⟨rfl,hF⟩:=hJ
  refine ⟨_,fun _ _ h=>h,?_⟩
  cases h
  exact hF
 obtain ⟨rfl,hE,hS⟩:=hJ
 refine ⟨_,hE.sub,?_⟩
 cases h
 exact .g (.q z (.s (lenv (hS.keep q_0) T.u24 z z) z (.q z (.qn z (.ret (fin_ret (vs:=[_]) () (rt z rn) z (hS.to [] z)))))))
theorem fbn {a0 : Machine} {v_0_Regs : Hd} {v_0_Mem : Hd} {w : World} {r : Bool} (h : f1x a0 = some r) (q_0_Regs : RV w (Old No w) (sv v_0_Regs) 3 1 (D.int .i64) a0.Regs) (q_0_Mem : RV w (Old No w) (sv v_0_Mem) 3 1 (D.int .i64) a0.Mem) : Calls Tryz.prog 25 #[.agg #[(sv v_0_Regs),.int .i64 a0.Pc,(sv v_0_Mem)]] w (Ret No w (fun s : Unit=>.bool r) (fun s=>[])):=by
 unfold f1x at h
 refine enter Tryz.func25 z z ?_
 have hS:=Sep.start w
 refine .g (.c (.box hS z z ?_ z z))
 intro g1 W hS
 refine .qn z (.g (.s (fa T.f36_0 z z z) z (.s (ld T.t25 hS z z z z z) z (.s (lenv (hS.keep q_0_Regs) T.u25 z z) z (.q z (.q z ?_))))))
 have ⟨b1,hb1,h⟩:=bnd h
 refine .chunk 4 11 (b1) hS ?_ ?_
 ·refine .both ((a0.Regs.length : Int) == 32) (fun hb=>?_) (fun hb=>?_)
  ·have hg1:=hb
   have h:=sel_t hb hb1
   refine .g hg1 (.s (fa T.f36_0 z z z) z (.g hg1 (.s (ld T.t25 hS z z z z z) z ?_) z)) z
   have ⟨y1,hy1,h⟩:=bnd h
   refine .g hg1 (.c (.call0 hS Tryz.func38 (f6e hy1 (hS.keep q_0_Regs)) z z ?_ z z z z)) z
   intro W hS
   refine .s (pkt hg1 z z z) z ?_
   cases h
   exact .nil (ck 4 hS z z z z)
  refine .xx hb z (.xx hb z (.xx hb z ?_))
  cases sel_f hb hb1
  exact .s (pkf hb z z z) z (.nil (ck 4 hS z z z z))
 intro W hS
 refine .q z ?_
 have ⟨b2,hb2,h⟩:=bnd h
 refine .chunk 6 18 (b2) hS ?_ ?_
 ·refine .both (b1) (fun hb=>?_) (fun hb=>?_)
  ·have hg2:=hb
   have h:=sel_t hb hb2
   refine .g hg2 (.s (fa T.f36_0 z z z) z (.g hg2 (.s (ld T.t25 hS z z z z z) z ?_) z)) z
   have ⟨x1,hx1,h⟩:=bnd h
   refine .g hg2 (.s (ixv (hS.keep q_0_Regs) hx1 T.u25 T.t3 z z z) z (.g hg2 (.s (lde (RV.flat (hS.keep q_0_Regs) hx1 z) T.t3 z z z z z) z (.g hg2 (.q z (.s (pkt hg2 z z z) z ?_)) z)) z)) z
   cases h
   exact .nil (ck 6 hS z z z z)
  refine .xx hb z (.xx hb z (.xx hb z (.xx hb z (.xx hb z ?_))))
  cases sel_f hb hb2
  exact .s (pkf hb z z z) z (.nil (ck 6 hS z z z z))
 intro W hS
 refine .q z ?_
 have ⟨b3,hb3,h⟩:=bnd h
 refine .chunk 4 23 (b3) hS ?_ ?_
 ·refine .both (b2) (fun hb=>?_) (fun hb=>?_)
  ·have hg3:=hb
   have h:=sel_t hb hb3
   refine .g hg3 (.s (fa T.f36_1 z z z) z (.g hg3 (.s (ld T.t3 hS z z z z z) z ?_) z)) z
   have ⟨y2,hy2,h⟩:=bnd h
   refine .g hg3 (.c (.call0 hS Tryz.func41 (faq hy2) z z ?_ z z z z)) z
   intro W hS
   refine .s (pkt hg3 z z z) z ?_
   cases h
   exact .nil (ck 4 hS z z z z)
  refine .xx hb z (.xx hb z (.xx hb z ?_))
  cases sel_f hb hb3
  exact .s (pkf hb z z z) z (.nil (ck 4 hS z z z z))
 intro W hS
 refine .q z (.chunk 5 29 (b3 && (decide ((a0.Mem.length : Int) ≤ 10000))) hS ?_ ?_)
 ·refine .both (b3) (fun hb=>?_) (fun hb=>?_)
  ·have hg4:=hb
   exact .g hg4 (.s (fa T.f36_2 z z z) z (.g hg4 (.s (ld T.t25 hS z z z z z) z (.g hg4 (.s (lenv (hS.keep q_0_Mem) T.u25 z z) z (.g hg4 (.q z (.s (pkt hg4 z z z) z (.nil (ck 5 hS z (and_t hg4) z z)))) z)) z)) z)) z
  exact .xx hb z (.xx hb z (.xx hb z (.xx hb z (.s (pkf hb z z z) z (.nil (ck 5 hS z (and_f hb) z z))))))
 intro W hS
 refine .q z ?_
 have ⟨b4,hb4,h⟩:=bnd h
 refine .chunk 4 34 (b4) hS ?_ ?_
 ·refine .both (b3 && (decide ((a0.Mem.length : Int) ≤ 10000))) (fun hb=>?_) (fun hb=>?_)
  ·have hg5:=hb
   have h:=sel_t hb hb4
   refine .g hg5 (.s (fa T.f36_2 z z z) z (.g hg5 (.s (ld T.t25 hS z z z z z) z ?_) z)) z
   have ⟨y3,hy3,h⟩:=bnd h
   refine .g hg5 (.c (.call0 hS Tryz.func38 (f6e hy3 (hS.keep q_0_Mem)) z z ?_ z z z z)) z
   intro W hS
   refine .s (pkt hg5 z z z) z ?_
   cases h
   exact .nil (ck 4 hS z z z z)
  refine .xx hb z (.xx hb z (.xx hb z ?_))
  cases sel_f hb hb4
  exact .s (pkf hb z z z) z (.nil (ck 4 hS z z z z))
 intro W hS
 obtain rfl:=Option.some.inj h
 exact .qn z (.ret (fin_ret (vs:=[_]) () (rt z rn) z (hS.to [] z)))
theorem fbl {a0 : Machine} {v_0_Regs : Hd} {v_0_Mem : Hd} {w : World} {r : Bool} (h : f5f a0 = some r) (q_0_Regs : RV w (Old No w) (sv v_0_Regs) 3 1 (D.int .i64) a0.Regs) (q_0_Mem : RV w (Old No w) (sv v_0_Mem) 3 1 (D.int .i64) a0.Mem) : Calls Tryz.prog 24 #[.agg #[(sv v_0_Regs),.int .i64 a0.Pc,(sv v_0_Mem)]] w (Ret No w (fun s : Unit=>.bool r) (fun s=>[])):=by
 unfold f5f at h
 refine enter Tryz.func24 z z ?_
 have hS:=Sep.start w
 refine .g (.c (.box hS z z ?_ z z))
 intro g1 W hS
 refine .qn z (.g (.s (ld T.t36 hS z z z z z) z ?_))
 have ⟨y1,hy1,h⟩:=bnd h
 refine .c (.call0 hS Tryz.func25 (fbn hy1 (hS.keep q_0_Regs) (hS.keep q_0_Mem)) z z ?_ z z z z)
 intro W hS
 cases h
 exact .q z (.qn z (.ret (fin_ret (vs:=[_]) () (rt z rn) z (hS.to [] z))))
def f3z (w : World) (r : Int) : Env → World → Prop:=Fin Tryz.prog Tryz.f40 No w (fun s : Unit=>.int .i64 r) (fun s=>[]) .ret
theorem f3y {a0 : List Machine} {v_0 : Hd} {w : World} {r : Int} (h : f0q a0 = some r) (q_0 : RV w (Old No w) (sv v_0) 36 3 dMachine a0) : Calls Tryz.prog 40 #[(sv v_0),.func (.func 24) #[] #[]] w (Ret No w (fun s : Unit=>.int .i64 r) (fun s=>[])):=by
 unfold f0q at h
 refine enter Tryz.func40 z z ?_
 have hS:=Sep.start w
 refine .g (.qn z (.seq (.g (.q z (.s (lenv (hS.keep q_0) T.u23 z z) z (.qn z (.block ?_)))))))
 have ⟨y1,hy1,h⟩:=bnd h
 refine .via (.iter (fun s1 E' W'=>SubL E' [(0,(sv v_0)),(1,.func (.func 24) #[] #[]),(7,.int .i64 (a0.length : Int)),(8,.int .i64 s1)] ∧ Sep No w W' []) (fun y2 x E' W'=>(match y2 with | .inl o1=>x = .ret ∧ f3z w o1 E' W' | .inr o2=>x = .exit 0 ∧ SubL E' [] ∧ Sep No w W' [])) hy1 ⟨sb rfl,hS.to [] rfl⟩ ?_) ?_
 ·intro s1 y3 E W h hI
  obtain ⟨hE,hS⟩:=hI
  refine CW.sub hE ?_
  unfold f09 at h
  refine .g (.qn z (.seq ?_))
  refine .cs z h ?_ ?_ <;> intro h
  ·refine .skip (.seq (.block (.g (.q z (.qn z (.g (.q z (.q z (.q z ?_)))))))))
   have ⟨x1,hx1,h⟩:=bnd h
   obtain ⟨k1,hd,hck1⟩:=RV.el2 q_0 hx1
   have hd1:=ragg hd
   obtain ⟨v1,k1,rfl,q1,hd2⟩:=rrowv q_0 hd1
   obtain ⟨k1,rfl,hd3⟩:=rflat q_0 z hd2
   obtain ⟨v2,k1,rfl,q2,hd4⟩:=rrowv q_0 hd3
   obtain rfl:=rnil q_0 hd4
   refine .s (ixv (hS.keep q_0) hx1 T.u23 T.t36 z z z) z (.s (lde (hck1 _ hS.agree) T.t36 z z z z z) z ?_)
   have ⟨y4,hy4,h⟩:=bnd h
   refine .c (.callv (vs:=[.agg #[(sv v1),.int .i64 x1.Pc,(sv v2)]]) (cap:=#[]) hS ⟨_,Tryz.func24,z,by kernel_rfl⟩ (fbl hy4 (hS.keep (q1 _ q_0)) (hS.keep (q2 _ q_0))) z z z ?_ z z)
   rintro ⟨⟩ W hS
   refine .nil ?_
   refine .cs z h ?_ ?_ <;> intro h
   ·refine .g (.q z (.qn z (.ret ?_)))
    cases h
    exact ⟨by simp,z,fin_ret (vs:=[_]) () (rt z rn) z (hS.to [] z)⟩
   refine .skip (.region (.q z (.q z (.nil ?_))))
   cases h
   exact ⟨z,sb z,hS.to [] z⟩
  refine .exit ?_
  cases h
  exact ⟨by simp,z,sb z,hS.to [] z⟩
 intro x E W hJ
 rcases y1 with o3 | o4
 ·obtain ⟨rfl,hF⟩:=hJ
  refine ⟨_,fun _ _ h=>h,?_⟩
  cases h
  exact hF
 obtain ⟨rfl,hE,hS⟩:=hJ
 refine ⟨_,hE.sub,?_⟩
 cases h
 exact .g (.qn z (.ret (fin_ret (vs:=[_]) () (rt z rn) z (hS.to [] z))))
theorem f3h {a0 : List Machine} {v_0 : Hd} {w : World} {r : Bool} (h : f0g a0 = some r) (q_0 : RV w (Old No w) (sv v_0) 36 3 dMachine a0) : Calls Tryz.prog 23 #[(sv v_0),.func (.func 24) #[] #[]] w (Ret No w (fun s : Unit=>.bool r) (fun s=>[])):=by
 unfold f0g at h
 refine enter Tryz.func23 z z ?_
 have hS:=Sep.start w
 refine .g (.qn z (.g (.q z (.q z ?_))))
 have ⟨y1,hy1,h⟩:=bnd h
 refine .c (.call0 hS Tryz.func40 (f3y hy1 (hS.keep q_0)) z z ?_ z z z z)
 intro W hS
 cases h
 exact .q z (.qn z (.ret (fin_ret (vs:=[_]) () (rt z rn) z (hS.to [] z))))
theorem fcg {a0 : Squad} {v_0_Harts : Hd} {v_0_Boxes : Hd} {v_0_Out : Hd} {w : World} {r : Bool} (h : f51 a0 = some r) (q_0_Harts : RV w (Old No w) (sv v_0_Harts) 36 3 dMachine a0.Harts) (q_0_Boxes : RV w (Old No w) (sv v_0_Boxes) 61 2 dBox a0.Boxes) (q_0_Out : RV w (Old No w) (sv v_0_Out) 3 1 (D.int .i64) a0.Out) : Calls Tryz.prog 11 #[.agg #[(sv v_0_Harts),(sv v_0_Boxes),.int .i64 a0.Turn,.int .i64 a0.Idle,(sv v_0_Out)]] w (Ret No w (fun s : Unit=>.bool r) (fun s=>[])):=by
 unfold f51 at h
 refine enter Tryz.func11 z z ?_
 have hS:=Sep.start w
 refine .g (.c (.box hS z z ?_ z z))
 intro g1 W hS
 refine .qn z (.g (.s (fa T.f27_0 z z z) z (.s (ld T.t23 hS z z z z z) z (.s (lenv (hS.keep q_0_Harts) T.u23 z z) z (.s (fa T.f27_2 z z z) z (.s (ld T.t3 hS z z z z z) z (.s (fa T.f27_3 z z z) z (.s (ld T.t3 hS z z z z z) z (.s (fa T.f27_4 z z z) z (.s (ld T.t25 hS z z z z z) z ?_))))))))))
 have ⟨y1,hy1,h⟩:=bnd h
 refine .c (.call0 hS Tryz.func21 (fc7 hy1 (hS.keep q_0_Out)) z z ?_ z z z z)
 intro W hS
 refine .q z ?_
 have ⟨b1,hb1,h⟩:=bnd h
 refine .chunk 4 17 (b1) hS ?_ ?_
 ·refine .both (y1) (fun hb=>?_) (fun hb=>?_)
  ·have hg1:=hb
   have h:=sel_t hb hb1
   refine .g hg1 (.s (fa T.f27_1 z z z) z (.g hg1 (.s (ld T.t24 hS z z z z z) z ?_) z)) z
   have ⟨y2,hy2,h⟩:=bnd h
   refine .g hg1 (.c (.call0 hS Tryz.func22 (fcb hy2 (hS.keep q_0_Boxes)) z z ?_ z z z z)) z
   intro W hS
   refine .s (pkt hg1 z z z) z ?_
   cases h
   exact .nil (ck 4 hS z z z z)
  refine .xx hb z (.xx hb z (.xx hb z ?_))
  cases sel_f hb hb1
  exact .s (pkf hb z z z) z (.nil (ck 4 hS z z z z))
 intro W hS
 refine .q z ?_
 have ⟨b2,hb2,h⟩:=bnd h
 refine .chunk 5 23 (b2) hS ?_ ?_
 ·refine .both (b1) (fun hb=>?_) (fun hb=>?_)
  ·have hg2:=hb
   have h:=sel_t hb hb2
   refine .g hg2 (.s (fa T.f27_0 z z z) z (.g hg2 (.s (ld T.t23 hS z z z z z) z ?_) z)) z
   have ⟨y3,hy3,h⟩:=bnd h
   refine .g hg2 (.c (.call0 hS Tryz.func23 (f3h hy3 (hS.keep q_0_Harts)) z z ?_ z z z z)) z
   intro W hS
   refine .g hg2 (.q z (.s (pkt hg2 z z z) z ?_)) z
   cases h
   exact .nil (ck 5 hS z z z z)
  refine .xx hb z (.xx hb z (.xx hb z (.xx hb z ?_)))
  cases sel_f hb hb2
  exact .s (pkf hb z z z) z (.nil (ck 5 hS z z z z))
 intro W hS
 obtain rfl:=Option.some.inj h
 exact .qn z (.ret (fin_ret (vs:=[_]) () (rt z rn) z (hS.to [] z)))
theorem f76 {a0 : List Int} {v_0 : Hd} {w : World} {r : (List Int)} (h : f1b a0 = some r) (q_0 : RV w (Old No w) (sv v_0) 3 1 (D.int .i64) a0) : Calls Tryz.prog 26 #[(sv v_0)] w (Ret No w (fun s : Hd=>(sv s)) (fun s=>[rowV (sv s) 3 1 (D.int .i64) r])):=by
 unfold f1b at h
 refine enter Tryz.func26 z z ?_
 have hS:=Sep.start w
 refine .g (.qn z (.seq (.g (.q z (.s (nilq T.u25 z z) z (.nil (.cond z (fun hb=>?_) (fun hb=>?_))))))))
 ·have hl:=RV.isnil q_0 hb
  subst hl
  refine .g (.qn z (.ret ?_))
  have hS:=hS.nilv 3 1 (D.int .i64)
  have h : some [] = some r:=h
  cases h
  exact fin_ret (vs:=[_]) nilH (rt z rn) z (hS.to [0] z)
 refine .skip (.g (.c (.liv [] (D.int .i64) T.u25 T.t3 hS z z z z ?_ z (fun _=>z) z z z z)))
 intro v1 W hS
 refine .q z ?_
 have ⟨r1,hr1,h⟩:=bnd h
 refine .c (.apprv hr1 hS (hS.keep q_0) (fun _=>z) T.u25 T.t3 z z z ?_ z z z z z)
 intro v2 W hS
 obtain rfl:=Option.some.inj h
 exact .qn z (.ret (fin_ret (vs:=[_]) v2 (rt z rn) z (hS.to [0] z)))
theorem fcv {a0 : List Int} {a1 : List Box} {a2 : Bool} {v_0 : Hd} {v_1 : Hd} {w : World} {r : Outcome} (h : f8l a0 a1 a2 = some r) (q_0 : RV w (Old No w) (sv v_0) 3 1 (D.int .i64) a0) (q_1 : RV w (Old No w) (sv v_1) 61 2 dBox a1) : Calls Tryz.prog 12 #[(sv v_0),(sv v_1),.bool a2] w (Ret No w (fun s : Hd × Hd × Hd=>.agg #[(sv s.1),(sv s.2.1),(sv s.2.2),.bool r.Rest]) (fun s=>[rowV (sv s.1) 3 1 (D.int .i64) r.Out,rowV (sv s.2.1) 25 1 (fun (l : List Int)=>D.row 3 1 (l.map (D.int .i64))) r.Items,rowV (sv s.2.2) 4 1 D.bool r.Ended])):=by
 unfold f8l at h
 refine enter Tryz.func12 z z ?_
 have hS:=Sep.start w
 refine .g (.c (.alloc T.t32 hS ?_ z z z))
 intro g1 W hS
 refine .nil (.g (.q z ?_))
 have ⟨y1,hy1,h⟩:=bnd h
 refine .c (.call1v hS Tryz.func26 (f76 hy1 (hS.keep q_0)) z z ?_ z z z z)
 intro v1 W hS
 refine .q z (.s (bs T.s32 z z) z (.c (.alloc T.t32 hS ?_ z z z)))
 intro g2 W hS
 refine .c (.st T.t32 hS z z z ?_ z z z z z)
 intro W hS
 refine .nil (.seq (.g (.q z (.s (lenv (hS.keep q_1) T.u24 z z) z (.qn z (.block ?_))))))
 have hS:=hS.nilv 25 1 (fun (l : List Int)=>D.row 3 1 (l.map (D.int .i64)))
 have ⟨y2,hy2,h⟩:=bnd h
 refine .via (.iter (fun s1 E' W'=>∃ (v4 : Hd),SubL E' [(6,.pointer (some ⟨g1,0,none⟩)),(7,.pointer (some ⟨g2,0,none⟩)),(14,(sv v_1)),(15,.int .i64 (a1.length : Int)),(16,.int .i64 s1.1)] ∧ Sep No w W' [.box g2 32 [(sv v1),(sv v4),(sv nilH),.bool a2],rowV (sv v1) 3 1 (D.int .i64) y1,.box g1 32 [(sv nilH),(sv nilH),(sv nilH),.bool false],rowV (sv v4) 25 1 (fun (l : List Int)=>D.row 3 1 (l.map (D.int .i64))) s1.2]) (fun y3 x E' W'=>x = .exit 0 ∧ ∃ (v5 : Hd),SubL E' [(6,.pointer (some ⟨g1,0,none⟩)),(7,.pointer (some ⟨g2,0,none⟩))] ∧ Sep No w W' [.box g2 32 [(sv v1),(sv v5),(sv nilH),.bool a2],rowV (sv v1) 3 1 (D.int .i64) y1,.box g1 32 [(sv nilH),(sv nilH),(sv nilH),.bool false],rowV (sv v5) 25 1 (fun (l : List Int)=>D.row 3 1 (l.map (D.int .i64))) y3]) hy2 ⟨nilH,sb z,hS.to [1,1,1,0] z⟩ ?_) ?_
 ·intro s1 y4 E W h hI
  obtain ⟨v3,hE,hS⟩:=hI
  refine CW.sub hE ?_
  unfold f3t at h
  refine .g (.qn z (.seq ?_))
  refine .cs z h ?_ ?_ <;> intro h
  ·refine .skip (.seq (.block (.seq (.region ?_))))
   have ⟨x1,hx1,h⟩:=bnd h
   obtain ⟨k1,hd,hck1⟩:=RV.el2 q_1 hx1
   have hd1:=ragg hd
   obtain ⟨k1,rfl,hd2⟩:=rflat q_1 z hd1
   obtain ⟨v6,k1,rfl,q5,hd3⟩:=rrowv q_1 hd2
   obtain rfl:=rnil q_1 hd3
   refine .s (ixv (hS.keep q_1) hx1 T.u24 T.t61 z z z) z (.s (lde (hck1 _ hS.agree) T.t61 z z z z z) z (.c (.alloc T.t61 hS ?_ z z z)))
   intro g3 W hS
   refine .c (.st T.t61 hS z z z ?_ z z z z z)
   intro W hS
   refine .nil (.rk 8 hS [0,0,0,0] T.mix ?_)
   intro W hS
   have hT:=hS.to [0,0,0,0] z
   refine .ts 0 z (fun W hT=>fa T.f32_1 z z z) hT z (by kernel_rfl) (.ts 1 z (fun W hT=>ld T.t29 hT.p1 z z z z z) hT z (by kernel_rfl) (.ts 2 z (fun W hT=>fa T.f61_1 z z z) hT z (by kernel_rfl) (.ts 3 z (fun W hT=>ld T.t25 hT z z z z z) hT z (by kernel_rfl) ?_)))
   have ⟨y5,hy5,h⟩:=bnd h
   refine .by1 4 z (.call1v hS Tryz.func26 (f76 hy5 (hS.keep (q5 _ q_1))) z z ?_ z z z z) (by kernel_rfl)
   intro v7 W hS
   have hT:=hS.to [1,1,1,1] z
   refine ⟨fun _=>hT,.by1 5 z (.ligv (L1:=[rowV (sv v7) 3 1 (D.int .i64) y5]) [y5] (fun (l : List Int)=>D.row 3 1 (l.map (D.int .i64))) T.u29 T.t25 (hS.to [0,0,0,0,0,0] z) z z z (.row (.nil)) ?_ z (fun _=>z) z z z z z) (by kernel_rfl)⟩
   intro v8 W hS
   have hT:=hS.to [1,1,1,1] z
   refine ⟨fun _=>hT,?_⟩
   have ⟨r1,hr1,h⟩:=bnd h
   refine .by1 6 z (.appv hr1 (hS.to [5,0,0,0,0,0] z) T.u29 T.t25 z z z ?_ z z z z z) (by kernel_rfl)
   intro v9 W hS
   have hT:=hS.to [1,1,1,1] z
   refine ⟨fun _=>hT,.ts 7 z (fun W hT=>fa T.f32_1 z z z) hT z (by kernel_rfl) (.by1 8 z (.st T.t29 hS.p2 z z z ?_ z z z z z) (by kernel_rfl))⟩
   intro W hS
   refine ⟨fun h=>absurd z h,?_⟩
   refine .done (.region (.q z (.q z (.nil ?_)))) (by kernel_rfl)
   cases h
   exact ⟨z,v9,sb z,hS.to [0,2,2,0] z⟩
  refine .exit ?_
  cases h
  exact ⟨by simp,z,v3,sb z,hS.to [0,0,0,0] z⟩
 intro x E W hJ
 obtain ⟨rfl,v10,hE,hS⟩:=hJ
 refine ⟨_,hE.sub,?_⟩
 refine .g (.s (ld T.t32 hS z z z z z) z (.c (.st T.t32 hS.p2 z z z ?_ z z z z z)))
 intro W hS
 refine .nil (.ret ?_)
 have hS:=hS.nilv 4 1 D.bool
 cases h
 exact fin_ret (vs:=[_]) (v1,v10,nilH) (rc hS.p1 T.t32 z rn z z) z (hS.to [3,3,0] z)
theorem fbq {a0 : Squad} {v_0_Harts : Hd} {v_0_Boxes : Hd} {v_0_Out : Hd} {w : World} {r : Outcome} (h : f1y a0 = some r) (q_0_Harts : RV w (Old No w) (sv v_0_Harts) 36 3 dMachine a0.Harts) (q_0_Boxes : RV w (Old No w) (sv v_0_Boxes) 61 2 dBox a0.Boxes) (q_0_Out : RV w (Old No w) (sv v_0_Out) 3 1 (D.int .i64) a0.Out) : Calls Tryz.prog 5 #[.agg #[(sv v_0_Harts),(sv v_0_Boxes),.int .i64 a0.Turn,.int .i64 a0.Idle,(sv v_0_Out)]] w (Ret No w (fun s : Hd × Hd × Hd=>.agg #[(sv s.1),(sv s.2.1),(sv s.2.2),.bool r.Rest]) (fun s=>[rowV (sv s.1) 3 1 (D.int .i64) r.Out,rowV (sv s.2.1) 25 1 (fun (l : List Int)=>D.row 3 1 (l.map (D.int .i64))) r.Items,rowV (sv s.2.2) 4 1 D.bool r.Ended])):=by
 unfold f1y at h
 refine enter Tryz.func5 z z ?_
 have hS:=Sep.start w
 refine .g (.c (.box hS z z ?_ z z))
 intro g1 W hS
 refine .c (.alloc T.t32 hS ?_ z z z)
 intro g2 W hS
 refine .nil (.seq (.g (.s (ld T.t27 hS.p1 z z z z z) z ?_)))
 have ⟨y1,hy1,h⟩:=bnd h
 refine .c (.call0 hS Tryz.func11 (fcg hy1 (hS.keep q_0_Harts) (hS.keep q_0_Boxes) (hS.keep q_0_Out)) z z ?_ z z z z)
 intro W hS
 refine .q z (.nil ?_)
 refine .cs z h ?_ ?_ <;> intro h
 ·refine .g (.s (bs T.s32 z z) z (.c (.st T.t32 hS z z z ?_ z z z z z)))
  intro W hS
  refine .nil (.ret ?_)
  have hS:=hS.nilv 3 1 (D.int .i64)
  have hS:=hS.nilv 25 1 (fun (l : List Int)=>D.row 3 1 (l.map (D.int .i64)))
  have hS:=hS.nilv 4 1 D.bool
  cases h
  exact fin_ret (vs:=[_]) (nilH,nilH,nilH) (rc hS.p3 T.t32 z rn z z) z (hS.to [2,1,0] z)
 refine .skip (.g (.s (fa T.f27_4 z z z) z (.s (ld T.t25 hS.p1 z z z z z) z (.s (fa T.f27_1 z z z) z (.s (ld T.t24 hS.p1 z z z z z) z (.s (fa T.f27_3 z z z) z (.s (ld T.t3 hS.p1 z z z z z) z (.s (fa T.f27_0 z z z) z (.s (ld T.t23 hS.p1 z z z z z) z (.s (lenv (hS.keep q_0_Harts) T.u23 z z) z (.q z ?_)))))))))))
 have ⟨y2,hy2,h⟩:=bnd h
 refine .c (.call hS Tryz.func12 (fcv hy2 (hS.keep q_0_Out) (hS.keep q_0_Boxes)) z z ?_ z z z z)
 rintro ⟨v1,v2,v3⟩ W hS
 refine .c (.alloc T.t32 hS ?_ z z z)
 intro g3 W hS
 refine .c (.st T.t32 hS z z z ?_ z z z z z)
 intro W hS
 refine .nil (.seq (.g (.s (fa T.f27_0 z z z) z (.s (ld T.t23 hS.p5 z z z z z) z (.s (lenv (hS.keep q_0_Harts) T.u23 z z) z (.qn z (.block ?_)))))))
 have ⟨y3,hy3,h⟩:=bnd h
 refine .via (.iter (fun s1 E' W'=>∃ (v6 : Hd),SubL E' [(2,.pointer (some ⟨g2,0,none⟩)),(3,.pointer (some ⟨g3,0,none⟩)),(22,(sv v_0_Harts)),(23,.int .i64 (a0.Harts.length : Int)),(24,.int .i64 s1.1)] ∧ Sep No w W' [.box g3 32 [(sv v1),(sv v2),(sv v6),.bool y2.Rest],rowV (sv v1) 3 1 (D.int .i64) y2.Out,rowV (sv v2) 25 1 (fun (l : List Int)=>D.row 3 1 (l.map (D.int .i64))) y2.Items,.box g2 32 [(sv nilH),(sv nilH),(sv nilH),.bool false],.box g1 27 [(sv v_0_Harts),(sv v_0_Boxes),.int .i64 a0.Turn,.int .i64 a0.Idle,(sv v_0_Out)],rowV (sv v6) 4 1 D.bool s1.2]) (fun y4 x E' W'=>x = .exit 0 ∧ ∃ (v7 : Hd),SubL E' [(2,.pointer (some ⟨g2,0,none⟩)),(3,.pointer (some ⟨g3,0,none⟩))] ∧ Sep No w W' [.box g3 32 [(sv v1),(sv v2),(sv v7),.bool y2.Rest],rowV (sv v1) 3 1 (D.int .i64) y2.Out,rowV (sv v2) 25 1 (fun (l : List Int)=>D.row 3 1 (l.map (D.int .i64))) y2.Items,.box g2 32 [(sv nilH),(sv nilH),(sv nilH),.bool false],.box g1 27 [(sv v_0_Harts),(sv v_0_Boxes),.int .i64 a0.Turn,.int .i64 a0.Idle,(sv v_0_Out)],rowV (sv v7) 4 1 D.bool y4]) hy3 ⟨v3,sb z,hS.to [0,0,0,1,1,0] z⟩ ?_) ?_
 ·intro s1 y5 E W h hI
  obtain ⟨v5,hE,hS⟩:=hI
  refine CW.sub hE ?_
  unfold f2s at h
  refine .g (.qn z (.seq ?_))
  refine .cs z h ?_ ?_ <;> intro h
  ·refine .skip (.seq (.block (.seq (.region ?_))))
   have ⟨x1,hx1,h⟩:=bnd h
   obtain ⟨k1,hd,hck1⟩:=RV.el2 q_0_Harts hx1
   have hd1:=ragg hd
   obtain ⟨v8,k1,rfl,q5,hd2⟩:=rrowv q_0_Harts hd1
   obtain ⟨k1,rfl,hd3⟩:=rflat q_0_Harts z hd2
   obtain ⟨v9,k1,rfl,q6,hd4⟩:=rrowv q_0_Harts hd3
   obtain rfl:=rnil q_0_Harts hd4
   refine .s (ixv (hS.keep q_0_Harts) hx1 T.u23 T.t36 z z z) z (.s (lde (hck1 _ hS.agree) T.t36 z z z z z) z (.c (.alloc T.t36 hS ?_ z z z)))
   intro g4 W hS
   refine .c (.st T.t36 hS z z z ?_ z z z z z)
   intro W hS
   refine .nil ?_
   have ⟨b1,hb1,h⟩:=bnd h
   have ⟨r1,hr1,h⟩:=bnd h
   refine .via (R':=fun x E' W'=>x = .normal ∧ ∃ (v10 : Hd),SubL E' [(2,.pointer (some ⟨g2,0,none⟩)),(3,.pointer (some ⟨g3,0,none⟩)),(22,(sv v_0_Harts)),(23,.int .i64 (a0.Harts.length : Int)),(24,.int .i64 s1.1)] ∧ Sep No w W' [.box g4 36 [(sv v8),.int .i64 x1.Pc,(sv v9)],.box g3 32 [(sv v1),(sv v2),(sv v10),.bool y2.Rest],rowV (sv v1) 3 1 (D.int .i64) y2.Out,rowV (sv v2) 25 1 (fun (l : List Int)=>D.row 3 1 (l.map (D.int .i64))) y2.Items,.box g2 32 [(sv nilH),(sv nilH),(sv nilH),.bool false],.box g1 27 [(sv v_0_Harts),(sv v_0_Boxes),.int .i64 a0.Turn,.int .i64 a0.Idle,(sv v_0_Out)],rowV (sv v10) 4 1 D.bool r1]) ?_ ?_
   ·refine .rk 15 hS [0,0,0,0,0,0] T.mix ?_
    intro W hS
    have hT:=hS.to [0,0,0,0,0,0] z
    refine .ts 0 z (fun W hT=>fa T.f32_2 z z z) hT z (by kernel_rfl) (.ts 1 z (fun W hT=>ld T.t30 hT.p1 z z z z z) hT z (by kernel_rfl) (.ts 2 z (fun W hT=>fa T.f36_1 z z z) hT z (by kernel_rfl) (.ts 3 z (fun W hT=>ld T.t3 hT z z z z z) hT z (by kernel_rfl) (.tp 4 z z hT (by kernel_rfl) (.tp 5 z z hT (by kernel_rfl) (.both (x1.Pc == 0) (fun hb=>?_) (fun hb=>?_)))))))
    ·have hg1:=hb
     have h_b1:=sel_t hb hb1
     refine .t1g 6 z hg1 (fun W hT=>fa T.f36_0 z z z) hT (.t1g 7 z hg1 (fun W hT=>ld T.t25 hT z z z z z) hT ?_ (by kernel_rfl) z z) (by kernel_rfl) z z
     have ⟨x2,hx2,h_b1⟩:=bnd h_b1
     refine .t1g 8 z hg1 (fun W hT=>ixv (hS.keep (q5 _ q_0_Harts)) hx2 T.u25 T.t3 z z z) hT (.t1g 9 z hg1 (fun W hT=>lde (RV.flat (hT.keep (q5 _ q_0_Harts)) hx2 z) T.t3 z z z z z) hT (.t1g 10 z hg1 (fun W hT=>pr z) hT (.ts 11 z (fun W hT=>pkt hg1 z z z) hT z (by kernel_rfl) (.eqv 39 z (bool_eq h_b1) (.by1 12 z (.liv [b1] D.bool T.u30 T.t4 hS z z z z ?_ z (fun _=>z) z z z z) (by kernel_rfl)))) (by kernel_rfl) z z) (by kernel_rfl) z z) (by kernel_rfl) z z
     intro v11 W hS
     have hT:=hS.to [1,1,1,1,1,1] z
     refine ⟨fun _=>hT,?_⟩
     have hT0:=hS.p7
     refine .by1 13 z (.apprv hr1 hT0 hT0.p1.lendv (fun _=>z) T.u30 T.t4 z z z ?_ z z z z z) (by kernel_rfl)
     intro v12 W hS
     have hT:=hS.to [2,2,2,2,2,2] z
     refine ⟨fun _=>hT,.ts 14 z (fun W hT=>fa T.f32_2 z z z) hT z (by kernel_rfl) (.by1 15 z (.st T.t30 hS.p3 z z z ?_ z z z z z) (by kernel_rfl))⟩
     intro W hS
     refine ⟨fun h=>absurd z h,?_⟩
     exact .done (⟨z,v12,sb z,hS.to [3,0,2,2,2,2,0] z⟩) (by kernel_rfl)
    refine .off 6 z hb hT (.off 7 z hb hT (.off 8 z hb hT (.off 9 z hb hT (.off 10 z hb hT (.ts 11 z (fun W hT=>pkf hb z z z) hT z (by kernel_rfl) (.eqv 39 z (bool_eq (sel_f hb hb1)) (.by1 12 z (.liv [b1] D.bool T.u30 T.t4 hS z z z z ?_ z (fun _=>z) z z z z) (by kernel_rfl)))) (by kernel_rfl) z z) (by kernel_rfl) z z) (by kernel_rfl) z z) (by kernel_rfl) z z) (by kernel_rfl) z z
    intro v13 W hS
    have hT:=hS.to [1,1,1,1,1,1] z
    refine ⟨fun _=>hT,?_⟩
    have hT0:=hS.p7
    refine .by1 13 z (.apprv hr1 hT0 hT0.p1.lendv (fun _=>z) T.u30 T.t4 z z z ?_ z z z z z) (by kernel_rfl)
    intro v14 W hS
    have hT:=hS.to [2,2,2,2,2,2] z
    refine ⟨fun _=>hT,.ts 14 z (fun W hT=>fa T.f32_2 z z z) hT z (by kernel_rfl) (.by1 15 z (.st T.t30 hS.p3 z z z ?_ z z z z z) (by kernel_rfl))⟩
    intro W hS
    refine ⟨fun h=>absurd z h,?_⟩
    exact .done (⟨z,v14,sb z,hS.to [3,0,2,2,2,2,0] z⟩) (by kernel_rfl)
   intro x E W hJ
   obtain ⟨rfl,v15,hE,hS⟩:=hJ
   refine ⟨_,hE.sub,?_⟩
   refine .region (.q z (.q z (.nil ?_)))
   cases h
   exact ⟨z,v15,sb z,hS.to [1,1,1,1,1,1] z⟩
  refine .exit ?_
  cases h
  exact ⟨by simp,z,v5,sb z,hS.to [0,0,0,0,0,0] z⟩
 intro x E W hJ
 obtain ⟨rfl,v16,hE,hS⟩:=hJ
 refine ⟨_,hE.sub,?_⟩
 refine .g (.s (ld T.t32 hS z z z z z) z (.c (.st T.t32 hS.p3 z z z ?_ z z z z z)))
 intro W hS
 cases h
 exact .nil (.ret (fin_ret (vs:=[_]) (v1,v2,v16) (rc hS T.t32 z rn z z) z (hS.to [2,2,3] z)))
theorem f0f {a0 : List Box} {v_0 : Hd} {w : World} {r : (List (List Int))} (h : f95 a0 = some r) (q_0 : RV w (Old No w) (sv v_0) 61 2 dBox a0) : Calls Tryz.prog 14 #[(sv v_0)] w (Ret No w (fun s : Hd=>(sv s)) (fun s=>[rowV (sv s) 25 1 (fun (l : List Int)=>D.row 3 1 (l.map (D.int .i64))) r])):=by
 unfold f95 at h
 refine enter Tryz.func14 z z ?_
 have hS:=Sep.start w
 refine .g (.qn z (.g (.c (.ligv (L1:=[]) [] (fun (l : List Int)=>D.row 3 1 (l.map (D.int .i64))) T.u29 T.t25 (hS.to [] z) z z z (.nil) ?_ z (fun _=>z) z z z z z))))
 intro v1 W hS
 refine .qn z (.seq (.g (.qn z (.block ?_))))
 have ⟨y1,hy1,h⟩:=bnd h
 refine .via (.iter (fun s1 E' W'=>∃ (v4 : Hd),SubL E' [(0,(sv v_0)),(3,(sv v4)),(4,.int .i64 s1.2)] ∧ Sep No w W' [rowV (sv v4) 25 1 (fun (l : List Int)=>D.row 3 1 (l.map (D.int .i64))) s1.1]) (fun y2 x E' W'=>x = .exit 0 ∧ ∃ (v5 : Hd),SubL E' [(3,(sv v5))] ∧ Sep No w W' [rowV (sv v5) 25 1 (fun (l : List Int)=>D.row 3 1 (l.map (D.int .i64))) y2]) hy1 ⟨v1,sb z,hS.to [0] z⟩ ?_) ?_
 ·intro s1 y3 E W h hI
  obtain ⟨v3,hE,hS⟩:=hI
  refine CW.sub hE ?_
  unfold f4j at h
  refine .seq (.g (.q z (.q z (.s (lenv (hS.keep q_0) T.u24 z z) z (.q z (.nil ?_))))))
  refine .cs z h ?_ ?_ <;> intro h
  ·refine .skip (.seq (.block (.region (.q z (.c (.liv [] (D.int .i64) T.u25 T.t3 hS z z z z ?_ z (fun _=>z) z z z z))))))
   intro v6 W hS
   refine .q z (.q z ?_)
   have ⟨x1,hx1,h⟩:=bnd h
   obtain ⟨k1,hd,hck1⟩:=RV.el2 q_0 hx1
   have hd1:=ragg hd
   obtain ⟨k1,rfl,hd2⟩:=rflat q_0 z hd1
   obtain ⟨v7,k1,rfl,q5,hd3⟩:=rrowv q_0 hd2
   obtain rfl:=rnil q_0 hd3
   refine .s (ixv (hS.keep q_0) hx1 T.u24 T.t61 z z z) z (.s (fe T.f61_1 z z z) z (.s (lde (hck1 _ hS.agree) T.t25 z z z z z) z ?_))
   have ⟨r1,hr1,h⟩:=bnd h
   refine .c (.apprv hr1 hS (hS.keep (q5 _ q_0)) (fun _=>z) T.u25 T.t3 z z z ?_ z z z z z)
   intro v8 W hS
   refine .c (.ligv (L1:=[rowV (sv v8) 3 1 (D.int .i64) r1]) [r1] (fun (l : List Int)=>D.row 3 1 (l.map (D.int .i64))) T.u29 T.t25 (hS.to [0,0] z) z z z (.row (.nil)) ?_ z (fun _=>z) z z z z z)
   intro v9 W hS
   have ⟨r2,hr2,h⟩:=bnd h
   refine .c (.appv hr2 (hS.to [1,0] z) T.u29 T.t25 z z z ?_ z z z z z)
   intro v10 W hS
   refine .qn z (.region (.q z (.q z (.q z (.nil ?_)))))
   cases h
   exact ⟨z,v10,sb z,hS.to [0] z⟩
  refine .exit ?_
  cases h
  exact ⟨by simp,z,v3,sb z,hS.to [0] z⟩
 intro x E W hJ
 obtain ⟨rfl,v11,hE,hS⟩:=hJ
 refine ⟨_,hE.sub,?_⟩
 obtain rfl:=Option.some.inj h
 exact .g (.q z (.qn z (.ret (fin_ret (vs:=[_]) v11 (rt z rn) z (hS.to [0] z)))))
end Go.Proofs.YtcljimkjmklkmaaGreat.N
