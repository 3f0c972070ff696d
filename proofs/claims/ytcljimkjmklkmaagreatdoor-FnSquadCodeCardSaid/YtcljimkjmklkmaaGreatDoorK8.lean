/- Printed by a program of mine: that the program's functions compute it. What a row says of its arguments, in the program logic's words: data types in general. Wh -/
import Derived.Test.YtcljimkjmklkmaaGreatDoorK7
import Derived.RowKit
import Derived.ChangeSlices
import Derived.ChangeArms
import Derived.WideShapes
import Derived.OpenShut
import Derived.LaidMore
import Derived.LaidLaws
import GoSem.ClaimJoined
set_option linter.unusedVariables false
set_option linter.unusedSimpArgs false
set_option maxRecDepth 100000
set_option maxHeartbeats 40000000
namespace Go.Proofs.YtcljimkjmklkmaaGreatDoor.N
open Go.Proofs.YtcljimkjmklkmaaGreatDoor.X
noncomputable section
def nq (w : World) (S : Nat → Prop) (aB : Hd) (aX : Hd) (h_0 : Hd) (A_0 : Type) (e_0 : A_0 → D) (l_0 : List A_0) (k_0 : Nat) (v_1 : Hd) (v_2 : Hd) (g_2 : Nat) (o_2_0 : Value) (o_2_1 : Value) (o_2_2 : Value) (o_2_3 : Value) (a0 : ah) (a1 : List Box) (a2 : List Int) (r : Int × (List Int) × Int × (List Int) × (List Box)) : Env → World → Prop:=Fin Tryz.prog Tryz.f35 S w (fun s : Hd × Hd=>.int .i64 r.1) (fun s=>[bZ (sv h_0) 38 3 e_0 l_0 k_0 [(sv s.1),vi r.2.2.1,(sv aX)],ae (sv v_1) 44 2 bi r.2.2.2.2,.box g_2 30 [o_2_0,o_2_1,o_2_2,o_2_3,(sv s.2)],ae (sv s.1) 3 1 (D.int .i64) r.2.1,ae (sv s.2) 3 1 (D.int .i64) r.2.2.2.1]) .ret
theorem mZ {a0 : ah} {a1 : List Box} {a2 : List Int} {aB : Hd} {aX : Hd} {h_0 : Hd} {A_0 : Type} {e_0 : A_0 → D} {l_0 : List A_0} {k_0 : Nat} {v_1 : Hd} {v_2 : Hd} {g_2 : Nat} {o_2_0 o_2_1 o_2_2 o_2_3 : Value} {S : Nat → Prop} {w : World} {r : Int × (List Int) × Int × (List Int) × (List Box)} (h : bp a0 a1 a2 = some r) (ir : RV w (Old S w) (sv aX) 3 1 (D.int .i64) a0.Mem) (hO : bJ w [ae (sv aB) 3 1 (D.int .i64) a0.Regs,bZ (sv h_0) 38 3 e_0 l_0 k_0 [(sv aB),vi a0.Pc,(sv aX)],ae (sv v_1) 44 2 bi a1,ae (sv v_2) 3 1 (D.int .i64) a2,.box g_2 30 [o_2_0,o_2_1,o_2_2,o_2_3,(sv v_2)]] S) (hlt : ∀ b,S b → b < w.heap.size) : Cl 35 #[.pointer (some (co (adr (sv h_0)) (k_0 * 3 + 0))),(sv v_1),.pointer (some ⟨g_2,4,none⟩)] w (Ret S w (fun s : Hd × Hd=>.int .i64 r.1) (fun s=>[bZ (sv h_0) 38 3 e_0 l_0 k_0 [(sv s.1),vi r.2.2.1,(sv aX)],ae (sv v_1) 44 2 bi r.2.2.2.2,.box g_2 30 [o_2_0,o_2_1,o_2_2,o_2_3,(sv s.2)],ae (sv s.1) 3 1 (D.int .i64) r.2.1,ae (sv s.2) 3 1 (D.int .i64) r.2.2.2.1])):=by
 unfold bp at h
 refine au Tryz.func35 z z ?_
 have hS:=Sep.sm hO hlt
 refine .g (.qn z (.seq (.rk 14 hS [0,0,0,0,0] T.mix ?_)))
 intro W hS
 have hT:=hS.to [0,0,0,0,0]
 refine .tp' 0 z z hT (.tp' 1 z z hT (.ts' 2 z (fun W hT=>fe T.f38_0 z z z) hT z (.ts' 3 z (fun W hT=>lde (hT.p1.hcellsv) T.t23 z z z z z) hT z ?_)))
 have ⟨x1,hx1,h⟩:=bnd h
 refine .ts' 4 z (fun W hT=>ixv hS.lv hx1 T.u23 T.t3 z z z) hT z (.ts' 5 z (fun W hT=>lde (RV.flat hT.lv hx1 z) T.t3 z z z z z) hT z (.tp' 6 z z hT (.tp' 7 z z hT (.ts' 8 z (fun W hT=>fe T.f38_0 z z z) hT z (.ts' 9 z (fun W hT=>lde (hT.p1.hcellsv) T.t23 z z z z z) hT z ?_)))))
 have ⟨x2,hx2,h⟩:=bnd h
 refine .ts' 10 z (fun W hT=>ixv hS.lv hx2 T.u23 T.t3 z z z) hT z (.ts' 11 z (fun W hT=>lde (RV.flat hT.lv hx2 z) T.t3 z z z z z) hT z (.tp' 12 z z hT (.tp' 13 z z hT (.done (.seq (.g (.q z (.q z (.s (fe T.f38_1 z z z) z (.s (lde (hS.p1.hcellsv) T.t3 z z z z z) z (.q z (.q z (.cu 17 46 ((a0.Pc != 0) || (((x1 == 1) || (x1 == 2)) && ((decide (x2 < 0)) || (decide (x2 ≥ (a1.length : Int)))))) hS ?_ ?_)))))))))))))
 ·refine .both (a0.Pc != 0) (fun hb=>?_) (fun hb=>?_)
  ·exact .xx hb z (.xx hb z (.xx hb z (.xu (.xu (.xx hb z (.xx hb z (.xu (.xu (.xu (.xu (.xu (.xu (.xu (.xu (.xx hb z (.s (pkt hb z z z) z (.nil (ck 17 hS z (gn hb)))))))))))))))))))
  have hg1:=hb
  refine .g hg1 (.q z (.g hg1 (.q z (.g hg1 (.q z (.cu 3 35 ((x1 == 1) || (x1 == 2)) hS ?_ ?_))))))
  ·refine .both (x1 == 1) (fun hb=>?_) (fun hb=>?_)
   ·exact .xx hb z (.xx hb z (.g hg1 (.s (pkt hb z z z) z (.nil (ck 3 hS z (gn hb))))))
   have hg2:=hb
   exact .g hg2 (.q z (.g hg2 (.q z (.g hg1 (.s (pkf hg2 z z z) z (.nil (ck 3 hS z (go hg2))))))))
  intro W hS
  refine .g hg1 (.q z (.cu 9 45 (((x1 == 1) || (x1 == 2)) && ((decide (x2 < 0)) || (decide (x2 ≥ (a1.length : Int))))) hS ?_ ?_))
  ·refine .both ((x1 == 1) || (x1 == 2)) (fun hb=>?_) (fun hb=>?_)
   ·have hg3:=hb
    refine .g hg3 (.q z (.g hg3 (.q z (.g hg3 (.q z (.cu 5 44 ((decide (x2 < 0)) || (decide (x2 ≥ (a1.length : Int)))) hS ?_ ?_))))))
    ·refine .both (decide (x2 < 0)) (fun hb=>?_) (fun hb=>?_)
     ·exact .xx hb z (.xx hb z (.xx hb z (.xx hb z (.g hg3 (.s (pkt hb z z z) z (.nil (ck 5 hS z (gn hb))))))))
     have hg4:=hb
     exact .g hg4 (.q z (.g hg4 (.q z (.g hg4 (.s (bw hS.p2.lv T.u28 z z) z (.g hg4 (.q z (.g hg3 (.s (pkf hg4 z z z) z (.nil (ck 5 hS z (go hg4))))))))))))
    intro W hS
    exact .g hg1 (.s (pkt hg3 z z z) z (.nil (ck 5 hS z (bM hg3))))
   exact .xx hb z (.xx hb z (.xx hb z (.xu (.xu (.xu (.xu (.xx hb z (.g hg1 (.s (pkf hb z z z) z (.nil (ck 9 hS z (bN hb))))))))))))
  intro W hS
  exact .s (pkf hg1 z z z) z (.nil (ck 7 hS z (go hg1)))
 intro W hS
 refine .nil ?_
 refine .cs z h ?_ ?_ <;> intro h
 ·cases h
  exact .g (.qn z (.ret (ac (vs:=[_]) (aB,v_2) (rt z rn) z (hS.to [1,1,2,0,0]))))
 refine .skip (.g (.q z (.nil ?_)))
 have ⟨y1,hy1,h⟩:=bnd h
 refine .seq (CW.via (R':=fun x E' W'=>(match y1 with | .inl o1=>x = .normal ∧ ∃ (v1 : Hd),aD E' [(0,.pointer (some (co (adr (sv h_0)) (k_0 * 3 + 0)))),(9,vi o1.1)] ∧ Sep S w W' [ae (sv aB) 3 1 (D.int .i64) o1.2.2.1,bZ (sv h_0) 38 3 e_0 l_0 k_0 [(sv aB),vi a0.Pc,(sv aX)],ae (sv v_1) 44 2 bi o1.2.2.2,.box g_2 30 [o_2_0,o_2_1,o_2_2,o_2_3,(sv v1)],ae (sv v1) 3 1 (D.int .i64) o1.2.1] | .inr o2=>x = .ret ∧ nq w S aB aX h_0 A_0 e_0 l_0 k_0 v_1 v_2 g_2 o_2_0 o_2_1 o_2_2 o_2_3 a0 a1 a2 o2 E' W')) ?_ ?_)
 ·have h:=hy1
  refine .g (.qn z (.block (.g (.q z (.qn z (.cond z (fun hb=>?_) (fun hb=>?_)))))))
  ·have h:=aI hb h
   refine .seq (.rk 11 hS [0,0,1,1] T.mix ?_)
   intro W hS
   have hT:=hS.to [0,0,1,1]
   refine .tp' 0 z z hT (.tp' 1 z z hT ?_)
   have ⟨x3,hx3,h⟩:=bnd h
   refine .ts' 2 z (fun W hT=>ixv hS.p2.lv hx3 T.u28 T.t44 z z z) hT z (.tp' 3 z z hT (.tp' 4 z z hT (.ts' 5 z (fun W hT=>fe T.f38_0 z z z) hT z (.ts' 6 z (fun W hT=>lde (hT.p1.hcellsv) T.t23 z z z z z) hT z ?_))))
   have ⟨x4,hx4,h⟩:=bnd h
   refine .ts' 7 z (fun W hT=>ixv hS.lv hx4 T.u23 T.t3 z z z) hT z (.ts' 8 z (fun W hT=>lde (RV.flat hT.lv hx4 z) T.t3 z z z z z) hT z ?_)
   obtain ⟨k1,hS⟩:=Sep.ov hS.p2 hx3
   have hS:=hS.oa
   obtain ⟨k1,rfl,hS⟩:=Sep.oF z hS
   obtain ⟨v2,k1,rfl,hS⟩:=hS.ow
   obtain ⟨rfl,hS⟩:=hS.oN
   have ⟨y2,hy2,h⟩:=bnd h
   have hS:=hS.p1
   have hS:=hS.p1
   refine .by1 9 z (.cS (L0:=[ae (sv v2) 3 1 (D.int .i64) x3.Items,bZ (sv v_1) 44 2 bi a1 (Int.toNat x2) [vi x3.Room,(sv v2)]]) hS Tryz.func51 (fun S h1 h2 h3=>(po hy2 h2 (zz h1))) z z ?_)
   rintro v3 W hS
   have hT:=hS.to [2,2,2,2]
   refine ⟨fun _=>hT,.tp' 10 z z hT (.done ?_)⟩
   refine .cs z h ?_ ?_ <;> intro h
   ·refine .g (.qn z (.ret ?_))
    have hS:=Sep.gat (ds:=[bi (Box.mk x3.Room y2.2)]) (cs:=[vi x3.Room,(sv v3)]) (L1:=[ae (sv v3) 3 1 (D.int .i64) y2.2]) (.agg (.flat (c1:=[vi x3.Room]) z (.row .nil))) (hS.to [1,0,0,0,0,0])
    have hS : Sep _ _ _ [ae (sv v_1) 44 2 bi (a1.set (Int.toNat x2) (Box.mk x3.Room y2.2)),ae (sv aB) 3 1 (D.int .i64) a0.Regs,bZ (sv h_0) 38 3 e_0 l_0 k_0 [(sv aB),vi a0.Pc,(sv aX)],ae (sv v_2) 3 1 (D.int .i64) a2,.box g_2 30 [o_2_0,o_2_1,o_2_2,o_2_3,(sv v_2)]]:=hS.bv
    cases h
    exact ⟨z,ac (vs:=[_]) (aB,v_2) (rt z rn) z (hS.to [2,0,2,0,0])⟩
   refine .skip ?_
   have hS:=Sep.gat (ds:=[bi (Box.mk x3.Room y2.2)]) (cs:=[vi x3.Room,(sv v3)]) (L1:=[ae (sv v3) 3 1 (D.int .i64) y2.2]) (.agg (.flat (c1:=[vi x3.Room]) z (.row .nil))) (hS.to [1,0,0,0,0,0])
   have hS : Sep _ _ _ [ae (sv v_1) 44 2 bi (a1.set (Int.toNat x2) (Box.mk x3.Room y2.2)),ae (sv aB) 3 1 (D.int .i64) a0.Regs,bZ (sv h_0) 38 3 e_0 l_0 k_0 [(sv aB),vi a0.Pc,(sv aX)],ae (sv v_2) 3 1 (D.int .i64) a2,.box g_2 30 [o_2_0,o_2_1,o_2_2,o_2_3,(sv v_2)]]:=hS.bv
   cases h
   exact ⟨z,v_2,sb z,hS.to [1,1,0,1,0]⟩
  have h:=aJ hb h
  refine .g (.q z (.qn z (.cond z (fun hb=>?_) (fun hb=>?_))))
  ·have h:=aI hb h
   refine .g (.q z (.q z ?_))
   have ⟨x5,hx5,h⟩:=bnd h
   refine .s (ixv hS.p2.lv hx5 T.u28 T.t44 z z z) z ?_
   obtain ⟨k2,hS⟩:=Sep.ov hS.p2 hx5
   have hS:=hS.oa
   obtain ⟨k2,rfl,hS⟩:=Sep.oF z hS
   obtain ⟨v4,k2,rfl,hS⟩:=hS.ow
   obtain ⟨rfl,hS⟩:=hS.oN
   have ⟨y3,hy3,h⟩:=bnd h
   have hS:=hS.p1
   have hS:=hS.p1
   refine .c (.cS (L0:=[ae (sv v4) 3 1 (D.int .i64) x5.Items,bZ (sv v_1) 44 2 bi a1 (Int.toNat x2) [vi x5.Room,(sv v4)]]) hS Tryz.func52 (fun S h1 h2 h3=>(oI hy3 h2 (zz h1))) z z ?_)
   rintro v5 W hS
   refine .q z (.q z (.q z (.q z (.qn z (.seq (.g (.q z (.q z (.nil ?_)))))))))
   refine .cs z h ?_ ?_ <;> intro h
   ·refine .g (.qn z (.ret ?_))
    have hS:=Sep.gat (ds:=[bi (Box.mk x5.Room y3.2.2)]) (cs:=[vi x5.Room,(sv v5)]) (L1:=[ae (sv v5) 3 1 (D.int .i64) y3.2.2]) (.agg (.flat (c1:=[vi x5.Room]) z (.row .nil))) (hS.to [1,0,0,0,0,0])
    have hS : Sep _ _ _ [ae (sv v_1) 44 2 bi (a1.set (Int.toNat x2) (Box.mk x5.Room y3.2.2)),ae (sv aB) 3 1 (D.int .i64) a0.Regs,bZ (sv h_0) 38 3 e_0 l_0 k_0 [(sv aB),vi a0.Pc,(sv aX)],ae (sv v_2) 3 1 (D.int .i64) a2,.box g_2 30 [o_2_0,o_2_1,o_2_2,o_2_3,(sv v_2)]]:=hS.bv
    cases h
    exact ⟨z,ac (vs:=[_]) (aB,v_2) (rt z rn) z (hS.to [2,0,2,0,0])⟩
   refine .skip (.region (.q z (.q z (.s (fe T.f38_0 z z z) z (.s (lde (hS.p3.hcellsv) T.t23 z z z z z) z (.q z ?_))))))
   have ⟨x6,hx6,h⟩:=bnd h
   refine .s (ixv hS.p2.lv hx6 T.u23 T.t3 z z z) z ?_
   have ⟨r1,hr1,h⟩:=bnd h
   refine .c (.sev hr1 hx6 hS.p2 T.t3 z z z z z z ?_)
   intro W hS
   refine .nil ?_
   have hS:=Sep.gat (ds:=[bi (Box.mk x5.Room y3.2.2)]) (cs:=[vi x5.Room,(sv v5)]) (L1:=[ae (sv v5) 3 1 (D.int .i64) y3.2.2]) (.agg (.flat (c1:=[vi x5.Room]) z (.row .nil))) (hS.to [2,1,0,0,0,0])
   have hS : Sep _ _ _ [ae (sv v_1) 44 2 bi (a1.set (Int.toNat x2) (Box.mk x5.Room y3.2.2)),ae (sv aB) 3 1 (D.int .i64) r1,bZ (sv h_0) 38 3 e_0 l_0 k_0 [(sv aB),vi a0.Pc,(sv aX)],ae (sv v_2) 3 1 (D.int .i64) a2,.box g_2 30 [o_2_0,o_2_1,o_2_2,o_2_3,(sv v_2)]]:=hS.bv
   cases h
   exact ⟨z,v_2,sb z,hS.to [1,1,0,1,0]⟩
  have h:=aJ hb h
  refine .g (.q z (.q z (.nil ?_)))
  refine .cs z h ?_ ?_ <;> intro h
  ·refine .region (.q z (.nil ?_))
   cases h
   exact ⟨z,v_2,sb z,hS.to [0,0,0,1,0]⟩
  refine .g (.q z (.q z (.nil ?_)))
  refine .cs z h ?_ ?_ <;> intro h
  ·refine .rk 13 hS [0,0,0,1] T.mix ?_
   intro W hS
   have hT:=hS.to [0,0,0,1]
   refine .tp' 0 z z hT (.tp' 1 z z hT (.tp' 2 z z hT (.ts' 3 z (fun W hT=>ld T.t23 hT.p3 z z z z z) hT z (.tp' 4 z z hT (.tp' 5 z z hT (.ts' 6 z (fun W hT=>fe T.f38_0 z z z) hT z (.ts' 7 z (fun W hT=>lde (hT.p1.hcellsv) T.t23 z z z z z) hT z ?_)))))))
   have ⟨x7,hx7,h⟩:=bnd h
   refine .ts' 8 z (fun W hT=>ixv hS.lv hx7 T.u23 T.t3 z z z) hT z (.ts' 9 z (fun W hT=>lde (RV.flat hT.lv hx7 z) T.t3 z z z z z) hT z (.by1 10 z (.liv [x7] (D.int .i64) T.u23 T.t3 hS z z z z ?_ z (fun _=>z))))
   intro v6 W hS
   have hT:=hS.to [1,1,1,2]
   refine ⟨fun _=>hT,?_⟩
   have ⟨r2,hr2,h⟩:=bnd h
   have hT0:=hS.p4
   refine .by1 11 z (.av hr2 hT0 hT0.p1.lv (fun _=>z) T.u23 T.t3 z z z ?_)
   intro v7 W hS
   have hT:=hS.to [2,2,2,2]
   refine ⟨fun _=>hT,.tp' 12 z z hT (.by1 13 z (.st T.t23 hS.p5 z z z ?_))⟩
   intro W hS
   refine ⟨fun h=>absurd z h,?_⟩
   refine .done ?_
   cases h
   exact ⟨z,v7,sb z,hS.to [3,3,3,0,0]⟩
  refine .g (.q z (.q z (.nil ?_)))
  refine .cs z h ?_ ?_ <;> intro h
  ·refine .g (.qn z (.ret ?_))
   cases h
   exact ⟨z,ac (vs:=[_]) (aB,v_2) (rt z rn) z (hS.to [1,1,2,0,0])⟩
  refine .g (.qn z (.ret ?_))
  cases h
  exact ⟨z,ac (vs:=[_]) (aB,v_2) (rt z rn) z (hS.to [1,1,2,0,0])⟩
 intro x E W hJ
 rcases y1 with o3 | o4
 ·obtain ⟨rfl,v8,hE,hS⟩:=hJ
  refine ⟨_,hE.sub,?_⟩
  refine .g (.q z (.q z (.q z (.s (fe T.f38_0 z z z) z (.s (lde (hS.p1.hcellsv) T.t23 z z z z z) z ?_)))))
  have ⟨x8,hx8,h⟩:=bnd h
  refine .s (ixv hS.lv hx8 T.u23 T.t3 z z z) z (.s (lde (RV.flat hS.lv hx8 z) T.t3 z z z z z) z (.q z (.s (fe T.f38_1 z z z) z (.c (.sthv hS.p1 T.t3 z z z ?_)))))
  intro W hS
  cases h
  exact .nil (.g (.q z (.qn z (.ret (ac (vs:=[_]) (aB,v8) (rt z rn) z (hS.to [0,1,1,0,0]))))))
 obtain ⟨rfl,hF⟩:=hJ
 refine ⟨_,fun _ _ h=>h,?_⟩
 cases h
 exact hF
theorem ju {a0 : ah} {a1 : Int} {aB : Hd} {aX : Hd} {h_0 : Hd} {A_0 : Type} {e_0 : A_0 → D} {l_0 : List A_0} {k_0 : Nat} {S : Nat → Prop} {w : World} {r : Int} (h : cL a0 a1 = some r) (gQ : RV w (Old S w) (sv aB) 3 1 (D.int .i64) a0.Regs) (ir : RV w (Old S w) (sv aX) 3 1 (D.int .i64) a0.Mem) (hO : bJ w [bZ (sv h_0) 38 3 e_0 l_0 k_0 [(sv aB),vi a0.Pc,(sv aX)]] S) (hlt : ∀ b,S b → b < w.heap.size) : Cl 53 #[.pointer (some (co (adr (sv h_0)) (k_0 * 3 + 0))),vi a1] w (Ret S w (fun s : Unit=>yp (sv aX) 1 r) (fun s=>[bZ (sv h_0) 38 3 e_0 l_0 k_0 [(sv aB),vi a0.Pc,(sv aX)]])):=by
 unfold cL at h
 refine au Tryz.func53 z z ?_
 have hS:=Sep.sm hO hlt
 refine .g (.qn z (.seq (.g (.q z (.q z (.q z (.cu 4 11 ((decide (a1 < 0)) || ((Int.tmod a1 4) != 0)) hS ?_ ?_)))))))
 ·refine .both (decide (a1 < 0)) (fun hb=>?_) (fun hb=>?_)
  ·exact .xx hb z (.xx hb z (.xx hb z (.s (pkt hb z z z) z (.nil (ck 4 hS z (gn hb))))))
  have hg1:=hb
  exact .g hg1 (.q z (.g hg1 (.q z (.g hg1 (.q z (.s (pkf hg1 z z z) z (.nil (ck 4 hS z (go hg1)))))))))
 intro W hS
 refine .q z (.cu 9 21 (((decide (a1 < 0)) || ((Int.tmod a1 4) != 0)) || (decide ((w64 (Int.tdiv a1 4)) ≥ (a0.Mem.length : Int)))) hS ?_ ?_)
 ·refine .both ((decide (a1 < 0)) || ((Int.tmod a1 4) != 0)) (fun hb=>?_) (fun hb=>?_)
  ·exact .xx hb z (.xx hb z (.xx hb z (.xx hb z (.xx hb z (.xx hb z (.xx hb z (.xx hb z (.s (pkt hb z z z) z (.nil (ck 9 hS z (gn hb)))))))))))
  have hg2:=hb
  exact .g hg2 (.q z (.g hg2 (.q z (.g hg2 (.q z (.g hg2 (.q z (.g hg2 (.s (fe T.f38_2 z z z) z (.g hg2 (.s (lde (hS.hcellsv) T.t23 z z z z z) z (.g hg2 (.s (bw (hS.keep ir) T.u23 z z) z (.g hg2 (.q z (.s (pkf hg2 z z z) z (.nil (ck 9 hS z (go hg2)))))))))))))))))))
 intro W hS
 refine .nil ?_
 refine .cs z h ?_ ?_ <;> intro h
 ·cases h
  exact .g (.qn z (.ret (ac (vs:=[_]) () (rt z rn) z (hS.to [0]))))
 refine .skip (.g (.q z (.q z (.s (fe T.f38_2 z z z) z (.s (lde (hS.hcellsv) T.t23 z z z z z) z (.q z (.q z ?_)))))))
 have ⟨x1,hx1,h⟩:=bnd h
 cases h
 exact .s (ixv (hS.keep ir) hx1 T.u23 T.t3 z z z) z (.qn z (.ret (ac (vs:=[_]) () (rt z rn) (ut hx1).symm (hS.to [0]))))
theorem cn {a0 : ah} {a1 : Int} {a2 : Int} {aB : Hd} {aX : Hd} {h_0 : Hd} {A_0 : Type} {e_0 : A_0 → D} {l_0 : List A_0} {k_0 : Nat} {S : Nat → Prop} {w : World} {r : (List Int)} (h : aV a0 a1 a2 = some r) (ir : RV w (Old S w) (sv aX) 3 1 (D.int .i64) a0.Mem) (hO : bJ w [ae (sv aB) 3 1 (D.int .i64) a0.Regs,bZ (sv h_0) 38 3 e_0 l_0 k_0 [(sv aB),vi a0.Pc,(sv aX)]] S) (hlt : ∀ b,S b → b < w.heap.size) : Cl 57 #[.pointer (some (co (adr (sv h_0)) (k_0 * 3 + 0))),vi a1,vi a2] w (Ret S w (fun s : Hd=>.tuple #[]) (fun s=>[bZ (sv h_0) 38 3 e_0 l_0 k_0 [(sv s),vi a0.Pc,(sv aX)],ae (sv s) 3 1 (D.int .i64) r])):=by
 unfold aV at h
 refine au Tryz.func57 z z ?_
 have hS:=Sep.sm hO hlt
 refine .g (.q z (.q z (.nil ?_)))
 refine .cs z h ?_ ?_ <;> intro h
 ·refine .region (.q z (.q z (.s (fe T.f38_0 z z z) z (.s (lde (hS.p1.hcellsv) T.t23 z z z z z) z (.q z (.q z ?_))))))
  have ⟨x1,hx1,h⟩:=bnd h
  refine .s (ixv hS.lv hx1 T.u23 T.t3 z z z) z ?_
  have ⟨r1,hr1,h⟩:=bnd h
  refine .c (.sev hr1 hx1 hS T.t3 z z z z z z ?_)
  intro W hS
  obtain rfl:=o9 h
  exact .nil (ac (vs:=[]) aB (rn) z (hS.to [1,0]))
 cases h
 exact .skip (ac (vs:=[]) aB (rn) z (hS.to [1,0]))
def nr (w : World) (S : Nat → Prop) (aB : Hd) (aX : Hd) (h_0 : Hd) (A_0 : Type) (e_0 : A_0 → D) (l_0 : List A_0) (k_0 : Nat) (a0 : ah) (r : Int × (List Int) × Int × (List Int)) : Env → World → Prop:=Fin Tryz.prog Tryz.f36 S w (fun s : Hd × Hd=>.int .i64 r.1) (fun s=>[bZ (sv h_0) 38 3 e_0 l_0 k_0 [(sv s.1),vi r.2.2.1,(sv s.2)],ae (sv s.1) 3 1 (D.int .i64) r.2.1,ae (sv s.2) 3 1 (D.int .i64) r.2.2.2]) .ret
theorem m4 {a0 : ah} {aB : Hd} {aX : Hd} {h_0 : Hd} {A_0 : Type} {e_0 : A_0 → D} {l_0 : List A_0} {k_0 : Nat} {S : Nat → Prop} {w : World} {r : Int × (List Int) × Int × (List Int)} (h : cM a0 = some r) (hO : bJ w [ae (sv aB) 3 1 (D.int .i64) a0.Regs,ae (sv aX) 3 1 (D.int .i64) a0.Mem,bZ (sv h_0) 38 3 e_0 l_0 k_0 [(sv aB),vi a0.Pc,(sv aX)]] S) (hlt : ∀ b,S b → b < w.heap.size) (hG : Gl w) (hM : ∀ g,g < NGl → ¬ S g) : Cl 36 #[.pointer (some (co (adr (sv h_0)) (k_0 * 3 + 0)))] w (Ret S w (fun s : Hd × Hd=>.int .i64 r.1) (fun s=>[bZ (sv h_0) 38 3 e_0 l_0 k_0 [(sv s.1),vi r.2.2.1,(sv s.2)],ae (sv s.1) 3 1 (D.int .i64) r.2.1,ae (sv s.2) 3 1 (D.int .i64) r.2.2.2])):=by
 unfold cM at h
 refine au Tryz.func36 z z ?_
 have hS:=Sep.sm hO hlt
 refine .g (.qn z (.g (.q z (.q z (.q z (.s (fe T.f38_1 z z z) z (.s (lde (hS.p2.hcellsv) T.t3 z z z z z) z ?_)))))))
 have ⟨y1,hy1,h⟩:=bnd h
 have hS:=hS.p2
 refine .c (.cS (L0:=[bZ (sv h_0) 38 3 e_0 l_0 k_0 [(sv aB),vi a0.Pc,(sv aX)]]) hS Tryz.func53 (fun S h1 h2 h3=>(ju hy1 (h3.rdv (k:=0) z) (h3.rdv (k:=1) z) h2 (zz h1))) z z ?_)
 rintro ⟨⟩ W hS
 refine .qn z (.seq (.g (.q z (.s (BL T.u91 z z) z (.nil ?_)))))
 refine .cs z h ?_ ?_ <;> intro h
 ·cases h
  exact .g (.qn z (.ret (ac (vs:=[_]) (aB,aX) (rt z rn) z (hS.to [0,0,0]))))
 refine .skip (.g (.q z ?_))
 have ⟨x1,hx1,h⟩:=bnd h
 refine .eqv 19 z (ut hx1) (.s (pr z) z (.s (lde (RV.flat hS.p2.lv hx1 z) T.t3 z z z z z) z ?_))
 have ⟨y2,hy2,h⟩:=bnd h
 refine .c (.cO hS Tryz.func55 (ip hy2) z z ?_)
 intro W hS
 have ⟨y3,hy3,h⟩:=bnd h
 refine .c (.cO hS Tryz.func54 (oJ hy3 (hG.at hS hM)) z z ?_)
 intro W hS
 refine .q z (.q z (.q z (.c (.alloc T.t51 hS ?_))))
 intro g1 W hS
 refine .c (.st T.t51 hS z z z ?_)
 intro W hS
 refine .qn z (.seq (.g (.q z (.q z (.nil ?_)))))
 refine .cs z h ?_ ?_ <;> intro h
 ·cases h
  exact .g (.qn z (.ret (ac (vs:=[_]) (aB,aX) (rt z rn) z (hS.to [1,1,1]))))
 refine .skip (.seq (.rk 18 hS [0,0,0,0] T.mix ?_))
 intro W hS
 have hT:=hS.to [0,0,0,0]
 refine .tp' 0 z z hT (.tp' 1 z z hT (.ts' 2 z (fun W hT=>fe T.f38_0 z z z) hT z (.ts' 3 z (fun W hT=>lde (hT.p1.hcellsv) T.t23 z z z z z) hT z (.ts' 4 z (fun W hT=>fa T.f51_2 z z z) hT z (.ts' 5 z (fun W hT=>ld T.t3 hT z z z z z) hT z ?_)))))
 have ⟨x2,hx2,h⟩:=bnd h
 refine .ts' 6 z (fun W hT=>ixv hS.p2.lv hx2 T.u23 T.t3 z z z) hT z (.ts' 7 z (fun W hT=>lde (RV.flat hT.p2.lv hx2 z) T.t3 z z z z z) hT z (.tp' 8 z z hT (.tp' 9 z z hT (.ts' 10 z (fun W hT=>fe T.f38_0 z z z) hT z (.ts' 11 z (fun W hT=>lde (hT.p1.hcellsv) T.t23 z z z z z) hT z (.ts' 12 z (fun W hT=>fa T.f51_3 z z z) hT z (.ts' 13 z (fun W hT=>ld T.t3 hT z z z z z) hT z ?_)))))))
 have ⟨x3,hx3,h⟩:=bnd h
 refine .ts' 14 z (fun W hT=>ixv hS.p2.lv hx3 T.u23 T.t3 z z z) hT z (.ts' 15 z (fun W hT=>lde (RV.flat hT.p2.lv hx3 z) T.t3 z z z z z) hT z (.tp' 16 z z hT (.tp' 17 z z hT (.done (.g (.q z (.q z (.s (fe T.f38_1 z z z) z (.s (lde (hS.p1.hcellsv) T.t3 z z z z z) z (.q z ?_))))))))))
 have ⟨y4,hy4,h⟩:=bnd h
 refine .c (.cO hS Tryz.func56 (cH hy4) z z ?_)
 intro W hS
 refine .q z (.nil ?_)
 have ⟨y5,hy5,h⟩:=bnd h
 refine .seq (CW.via (R':=fun x E' W'=>(match y5 with | .inl o1=>x = .normal ∧ ∃ (v1 : Hd),aD E' [(0,.pointer (some (co (adr (sv h_0)) (k_0 * 3 + 0)))),(8,vi o1.1)] ∧ Sep S w W' [.box g1 51 [vi y3.1.Op,vi y3.1.Rd,vi y3.1.Rs,vi y3.1.Rt,vi y3.1.Imm],bZ (sv h_0) 38 3 e_0 l_0 k_0 [(sv v1),vi a0.Pc,(sv aX)],ae (sv aX) 3 1 (D.int .i64) o1.2.2,ae (sv v1) 3 1 (D.int .i64) o1.2.1] | .inr o2=>x = .ret ∧ nr w S aB aX h_0 A_0 e_0 l_0 k_0 a0 o2 E' W')) ?_ ?_)
 ·have h:=hy5
  refine .g (.s (fa T.f51_0 z z z) z (.s (ld T.t3 hS z z z z z) z (.nil (.block (.g (.q z (.q z (.nil ?_))))))))
  refine .cs z h ?_ ?_ <;> intro h
  ·refine .g (.qn z (.ret ?_))
   cases h
   exact ⟨z,ac (vs:=[_]) (aB,aX) (rt z rn) z (hS.to [1,1,1])⟩
  refine .g (.q z (.qn z (.cond z (fun hb=>?_) (fun hb=>?_))))
  ·have h:=aI hb h
   refine .rk 9 hS [0,2] T.mix ?_
   intro W hS
   have hT:=hS.to [0,2]
   refine .tp' 0 z z hT (.ts' 1 z (fun W hT=>fa T.f51_1 z z z) hT z (.ts' 2 z (fun W hT=>ld T.t3 hT z z z z z) hT z (.tp' 3 z z hT (.ts' 4 z (fun W hT=>fa T.f51_4 z z z) hT z (.ts' 5 z (fun W hT=>ld T.t3 hT z z z z z) hT z (.tp' 6 z z hT ?_))))))
   have ⟨y6,hy6,h⟩:=bnd h
   refine .by1 7 z (.cO hS Tryz.func56 (cH hy6) z z ?_)
   intro W hS
   have hT:=hS.to [0,2]
   refine ⟨fun _=>hT,?_⟩
   have ⟨y7,hy7,h⟩:=bnd h
   have hS:=hS.p1
   have hS:=hS.p2
   refine .by1 8 z (.cS (L0:=[ae (sv aB) 3 1 (D.int .i64) a0.Regs,bZ (sv h_0) 38 3 e_0 l_0 k_0 [(sv aB),vi a0.Pc,(sv aX)]]) hS Tryz.func57 (fun S h1 h2 h3=>(cn hy7 (h3.rdv (k:=1) z) h2 (zz h1))) z z ?_)
   rintro v2 W hS
   have hT:=hS.to [2,2]
   refine ⟨fun _=>hT,.done ?_⟩
   cases h
   exact ⟨z,v2,sb z,hS.to [2,0,1,0]⟩
  have h:=aJ hb h
  refine .g (.q z (.qn z (.cond z (fun hb=>?_) (fun hb=>?_))))
  ·have h:=aI hb h
   refine .rk 11 hS [0,2] T.mix ?_
   intro W hS
   have hT:=hS.to [0,2]
   refine .tp' 0 z z hT (.ts' 1 z (fun W hT=>fa T.f51_1 z z z) hT z (.ts' 2 z (fun W hT=>ld T.t3 hT z z z z z) hT z (.tp' 3 z z hT (.ts' 5 z (fun W hT=>fa T.f51_4 z z z) hT z (.ts' 6 z (fun W hT=>ld T.t3 hT z z z z z) hT z ?_)))))
   have ⟨y8,hy8,h⟩:=bnd h
   refine .by1 4 z (.cO hS Tryz.func55 (ip hy8) z z ?_)
   intro W hS
   have hT:=hS.to [0,2]
   refine ⟨fun _=>hT,?_⟩
   have ⟨y9,hy9,h⟩:=bnd h
   refine .by1 7 z (.cO hS Tryz.func55 (ip hy9) z z ?_)
   intro W hS
   have hT:=hS.to [0,2]
   refine ⟨fun _=>hT,.tp' 8 z z hT ?_⟩
   have ⟨y10,hy10,h⟩:=bnd h
   refine .by1 9 z (.cO hS Tryz.func58 (mE hy10) z z ?_)
   intro W hS
   have hT:=hS.to [0,2]
   refine ⟨fun _=>hT,?_⟩
   have ⟨y11,hy11,h⟩:=bnd h
   have hS:=hS.p1
   have hS:=hS.p2
   refine .by1 10 z (.cS (L0:=[ae (sv aB) 3 1 (D.int .i64) a0.Regs,bZ (sv h_0) 38 3 e_0 l_0 k_0 [(sv aB),vi a0.Pc,(sv aX)]]) hS Tryz.func57 (fun S h1 h2 h3=>(cn hy11 (h3.rdv (k:=1) z) h2 (zz h1))) z z ?_)
   rintro v3 W hS
   have hT:=hS.to [2,2]
   refine ⟨fun _=>hT,.done ?_⟩
   cases h
   exact ⟨z,v3,sb z,hS.to [2,0,1,0]⟩
  have h:=aJ hb h
  have ⟨y12,hy12,h⟩:=bnd h
  refine .seq (CW.via (R':=fun x E' W'=>x = .normal ∧ aD E' [(0,.pointer (some (co (adr (sv h_0)) (k_0 * 3 + 0)))),(4,pt g1),(6,vi x2),(7,vi x3),(8,vi y4),(51,vi y3.1.Op),(90,.bool y12)] ∧ Sep S w W' [.box g1 51 [vi y3.1.Op,vi y3.1.Rd,vi y3.1.Rs,vi y3.1.Rt,vi y3.1.Imm],bZ (sv h_0) 38 3 e_0 l_0 k_0 [(sv aB),vi a0.Pc,(sv aX)],ae (sv aB) 3 1 (D.int .i64) a0.Regs,ae (sv aX) 3 1 (D.int .i64) a0.Mem]) ?_ ?_)
  ·have h:=hy12
   refine .g (.q z (.q z (.nil ?_)))
   refine .cs z h ?_ ?_ <;> intro h
   ·refine .skip ?_
    cases h
    exact ⟨z,sb z,hS.to [0,0,0,0]⟩
   refine .region (.q z (.q z (.nil ?_)))
   cases h
   exact ⟨z,sb z,hS.to [0,0,0,0]⟩
  intro x E W hJ
  obtain ⟨rfl,hE,hS⟩:=hJ
  refine ⟨_,hE.sub,?_⟩
  refine .cond z (fun hb=>?_) (fun hb=>?_)
  ·have h:=aI hb h
   refine .g (.q z (.q z (.s (fa T.f51_4 z z z) z (.s (ld T.t3 hS z z z z z) z (.q z ?_)))))
   have ⟨y13,hy13,h⟩:=bnd h
   refine .c (.cO hS Tryz.func56 (cH hy13) z z ?_)
   intro W hS
   have ⟨y14,hy14,h⟩:=bnd h
   have hS:=hS.p1
   refine .c (.cS (L0:=[bZ (sv h_0) 38 3 e_0 l_0 k_0 [(sv aB),vi a0.Pc,(sv aX)]]) hS Tryz.func53 (fun S h1 h2 h3=>(ju hy14 (h3.rdv (k:=1) z) (h3.rdv (k:=2) z) h2 (zz h1))) z z ?_)
   rintro ⟨⟩ W hS
   refine .qn z (.seq (.g (.q z (.s (BL T.u91 z z) z (.nil ?_)))))
   refine .cs z h ?_ ?_ <;> intro h
   ·refine .g (.qn z (.ret ?_))
    cases h
    exact ⟨z,ac (vs:=[_]) (aB,aX) (rt z rn) z (hS.to [0,1,1])⟩
   refine .skip (.g (.s (fa T.f51_0 z z z) z (.s (ld T.t3 hS.p1 z z z z z) z (.qn z (.cond z (fun hb=>?_) (fun hb=>?_))))))
   ·have h:=aI hb h
    refine .region (.q z (.q z ?_))
    have ⟨x4,hx4,h⟩:=bnd h
    refine .eqv 105 z (ut hx4) (.s (pr z) z ?_)
    have ⟨r1,hr1,h⟩:=bnd h
    refine .c (.sev hr1 hx4 hS.p3 T.t3 z z z z z z ?_)
    intro W hS
    refine .nil ?_
    cases h
    exact ⟨z,aB,sb z,hS.to [2,1,0,0]⟩
   have h:=aJ hb h
   have ⟨x5,hx5,h⟩:=bnd h
   refine .eqv 9 z (ut hx5) (.rk 7 hS [1,2] T.mix ?_)
   intro W hS
   have hT:=hS.to [1,2]
   refine .tp' 0 z z hT (.ts' 1 z (fun W hT=>fa T.f51_1 z z z) hT z (.ts' 2 z (fun W hT=>ld T.t3 hT z z z z z) hT z (.tp' 3 z z hT (.tp' 4 z z hT (.ts' 5 z (fun W hT=>lde (RV.flat hT.p1.lv hx5 z) T.t3 z z z z z) hT z ?_)))))
   have ⟨y15,hy15,h⟩:=bnd h
   have hS:=hS.p2
   refine .by1 6 z (.cS (L0:=[ae (sv aB) 3 1 (D.int .i64) a0.Regs,bZ (sv h_0) 38 3 e_0 l_0 k_0 [(sv aB),vi a0.Pc,(sv aX)]]) hS Tryz.func57 (fun S h1 h2 h3=>(cn hy15 (h3.rdv (k:=1) z) h2 (zz h1))) z z ?_)
   rintro v4 W hS
   have hT:=hS.to [2,2]
   refine ⟨fun _=>hT,.done ?_⟩
   cases h
   exact ⟨z,v4,sb z,hS.to [2,0,1,0]⟩
  have h:=aJ hb h
  refine .g (.q z (.qn z (.cond z (fun hb=>?_) (fun hb=>?_))))
  ·have h:=aI hb h
   refine .g (.q z (.s (fa T.f51_1 z z z) z (.s (ld T.t3 hS z z z z z) z (.q z ?_))))
   have ⟨y16,hy16,h⟩:=bnd h
   have hS:=hS.p1
   have hS:=hS.p2
   refine .c (.cS (L0:=[ae (sv aB) 3 1 (D.int .i64) a0.Regs,bZ (sv h_0) 38 3 e_0 l_0 k_0 [(sv aB),vi a0.Pc,(sv aX)]]) hS Tryz.func57 (fun S h1 h2 h3=>(cn hy16 (h3.rdv (k:=1) z) h2 (zz h1))) z z ?_)
   rintro v5 W hS
   refine .nil (.region (.q z (.s (fa T.f51_4 z z z) z (.s (ld T.t3 hS.p2 z z z z z) z (.q z ?_)))))
   have ⟨y17,hy17,h⟩:=bnd h
   refine .c (.cO hS Tryz.func56 (cH hy17) z z ?_)
   intro W hS
   refine .q z (.q z (.nil ?_))
   cases h
   exact ⟨z,v5,sb z,hS.to [2,0,1,0]⟩
  have h:=aJ hb h
  have ⟨y18,hy18,h⟩:=bnd h
  refine .seq (CW.via (R':=fun x E' W'=>x = .normal ∧ aD E' [(0,.pointer (some (co (adr (sv h_0)) (k_0 * 3 + 0)))),(4,pt g1),(6,vi x2),(7,vi x3),(8,vi y4),(51,vi y3.1.Op),(128,.bool y18)] ∧ Sep S w W' [.box g1 51 [vi y3.1.Op,vi y3.1.Rd,vi y3.1.Rs,vi y3.1.Rt,vi y3.1.Imm],bZ (sv h_0) 38 3 e_0 l_0 k_0 [(sv aB),vi a0.Pc,(sv aX)],ae (sv aB) 3 1 (D.int .i64) a0.Regs,ae (sv aX) 3 1 (D.int .i64) a0.Mem]) ?_ ?_)
  ·have h:=hy18
   refine .g (.q z (.q z (.nil ?_)))
   refine .cs z h ?_ ?_ <;> intro h
   ·refine .skip ?_
    cases h
    exact ⟨z,sb z,hS.to [0,0,0,0]⟩
   refine .region (.q z (.q z (.nil ?_)))
   cases h
   exact ⟨z,sb z,hS.to [0,0,0,0]⟩
  intro x E W hJ
  obtain ⟨rfl,hE,hS⟩:=hJ
  refine ⟨_,hE.sub,?_⟩
  refine .cs z h ?_ ?_ <;> intro h
  ·refine .g (.q z (.q z (.q z (.s (fa T.f51_0 z z z) z (.s (ld T.t3 hS z z z z z) z (.q z (.s (eqb T.u4 z z z) z (.nil ?_))))))))
   refine .cs z h ?_ ?_ <;> intro h
   ·refine .rk 9 hS [0,0,0,0] T.mix ?_
    intro W hS
    have hT:=hS.to [0,0,0,0]
    refine .tp' 0 z z hT (.tp' 1 z z hT (.ts' 2 z (fun W hT=>fe T.f38_1 z z z) hT z (.ts' 3 z (fun W hT=>lde (hT.p1.hcellsv) T.t3 z z z z z) hT z (.ts' 4 z (fun W hT=>fa T.f51_4 z z z) hT z (.ts' 5 z (fun W hT=>ld T.t3 hT z z z z z) hT z (.tp' 6 z z hT ?_))))))
    have ⟨y19,hy19,h⟩:=bnd h
    refine .by1 7 z (.cO hS Tryz.func56 (cH hy19) z z ?_)
    intro W hS
    have hT:=hS.to [0,0,0,0]
    refine ⟨fun _=>hT,.tp' 8 z z hT (.done ?_)⟩
    cases h
    exact ⟨z,aB,sb z,hS.to [0,0,1,0]⟩
   refine .skip ?_
   cases h
   exact ⟨z,aB,sb z,hS.to [0,0,1,0]⟩
  refine .g (.q z (.qn z (.cond z (fun hb=>?_) (fun hb=>?_))))
  ·have h:=aI hb h
   refine .rk 8 hS [0,2] T.mix ?_
   intro W hS
   have hT:=hS.to [0,2]
   refine .tp' 0 z z hT (.ts' 1 z (fun W hT=>fa T.f51_1 z z z) hT z (.ts' 2 z (fun W hT=>ld T.t3 hT z z z z z) hT z (.ts' 3 z (fun W hT=>fa T.f51_4 z z z) hT z (.ts' 4 z (fun W hT=>ld T.t3 hT z z z z z) hT z (.tp' 5 z z hT ?_)))))
   have ⟨y20,hy20,h⟩:=bnd h
   refine .by1 6 z (.cO hS Tryz.func56 (cH hy20) z z ?_)
   intro W hS
   have hT:=hS.to [0,2]
   refine ⟨fun _=>hT,?_⟩
   have ⟨y21,hy21,h⟩:=bnd h
   have hS:=hS.p1
   have hS:=hS.p2
   refine .by1 7 z (.cS (L0:=[ae (sv aB) 3 1 (D.int .i64) a0.Regs,bZ (sv h_0) 38 3 e_0 l_0 k_0 [(sv aB),vi a0.Pc,(sv aX)]]) hS Tryz.func57 (fun S h1 h2 h3=>(cn hy21 (h3.rdv (k:=1) z) h2 (zz h1))) z z ?_)
   rintro v6 W hS
   have hT:=hS.to [2,2]
   refine ⟨fun _=>hT,.done ?_⟩
   cases h
   exact ⟨z,v6,sb z,hS.to [2,0,1,0]⟩
  have h:=aJ hb h
  refine .g (.q z (.qn z (.cond z (fun hb=>?_) (fun hb=>?_))))
  ·have h:=aI hb h
   refine .g (.q z (.s (fa T.f51_1 z z z) z (.s (ld T.t3 hS z z z z z) z (.q z ?_))))
   have ⟨y22,hy22,h⟩:=bnd h
   have hS:=hS.p1
   have hS:=hS.p2
   refine .c (.cS (L0:=[ae (sv aB) 3 1 (D.int .i64) a0.Regs,bZ (sv h_0) 38 3 e_0 l_0 k_0 [(sv aB),vi a0.Pc,(sv aX)]]) hS Tryz.func57 (fun S h1 h2 h3=>(cn hy22 (h3.rdv (k:=1) z) h2 (zz h1))) z z ?_)
   rintro v7 W hS
   refine .nil (.rk 9 hS [0,0,0,0] T.mix ?_)
   intro W hS
   have hT:=hS.to [0,0,0,0]
   refine .tp' 0 z z hT (.tp' 1 z z hT (.ts' 2 z (fun W hT=>fe T.f38_1 z z z) hT z (.ts' 3 z (fun W hT=>lde (hT.hcellsv) T.t3 z z z z z) hT z (.ts' 4 z (fun W hT=>fa T.f51_4 z z z) hT z (.ts' 5 z (fun W hT=>ld T.t3 hT.p2 z z z z z) hT z (.tp' 6 z z hT ?_))))))
   have ⟨y23,hy23,h⟩:=bnd h
   refine .by1 7 z (.cO hS Tryz.func56 (cH hy23) z z ?_)
   intro W hS
   have hT:=hS.to [0,0,0,0]
   refine ⟨fun _=>hT,.tp' 8 z z hT (.done ?_)⟩
   cases h
   exact ⟨z,v7,sb z,hS.to [2,0,1,0]⟩
  have h:=aJ hb h
  refine .rk 12 hS [0,2] T.mix ?_
  intro W hS
  have hT:=hS.to [0,2]
  refine .tp' 0 z z hT (.ts' 1 z (fun W hT=>fa T.f51_1 z z z) hT z (.ts' 2 z (fun W hT=>ld T.t3 hT z z z z z) hT z (.ts' 3 z (fun W hT=>fa T.f51_0 z z z) hT z (.ts' 4 z (fun W hT=>ld T.t3 hT z z z z z) hT z (.tp' 5 z z hT ?_)))))
  have ⟨x6,hx6,h⟩:=bnd h
  refine .ts' 6 z (fun W hT=>ixt hx6 z T.u98 T.t3 z z z) hT z (.ts' 7 z (fun W hT=>ldt (hG.at hT hM).1 hx6 T.t3 z z z z z) hT z (.tp' 8 z z hT (.tp' 9 z z hT ?_)))
  have ⟨y24,hy24,h⟩:=bnd h
  refine .by1 10 z (.cO hS Tryz.func59 (tT hy24) z z ?_)
  intro W hS
  have hT:=hS.to [0,2]
  refine ⟨fun _=>hT,?_⟩
  have ⟨y25,hy25,h⟩:=bnd h
  have hS:=hS.p1
  have hS:=hS.p2
  refine .by1 11 z (.cS (L0:=[ae (sv aB) 3 1 (D.int .i64) a0.Regs,bZ (sv h_0) 38 3 e_0 l_0 k_0 [(sv aB),vi a0.Pc,(sv aX)]]) hS Tryz.func57 (fun S h1 h2 h3=>(cn hy25 (h3.rdv (k:=1) z) h2 (zz h1))) z z ?_)
  rintro v8 W hS
  have hT:=hS.to [2,2]
  refine ⟨fun _=>hT,.done ?_⟩
  cases h
  exact ⟨z,v8,sb z,hS.to [2,0,1,0]⟩
 intro x E W hJ
 rcases y5 with o3 | o4
 ·obtain ⟨rfl,v9,hE,hS⟩:=hJ
  refine ⟨_,hE.sub,?_⟩
  refine .g (.q z (.q z (.q z (.s (fe T.f38_1 z z z) z (.c (.sthv hS.p1 T.t3 z z z ?_))))))
  intro W hS
  cases h
  exact .nil (.g (.qn z (.ret (ac (vs:=[_]) (v9,aX) (rt z rn) z (hS.to [0,2,1])))))
 obtain ⟨rfl,hF⟩:=hJ
 refine ⟨_,fun _ _ h=>h,?_⟩
 cases h
 exact hF
theorem pp {a0 : Int} {a1 : aE} {cI : Hd} {cN : Hd} {fM : Hd} {g_1 : Nat} {S : Nat → Prop} {w : World} {r : Int × (List ah) × (List Box) × (List Int)} (h : cY a0 a1 = some r) (hO : bJ w [ae (sv cI) 38 3 ao a1.Harts,ae (sv cN) 44 2 bi a1.Boxes,ae (sv fM) 3 1 (D.int .i64) a1.Out,.box g_1 30 [(sv cI),(sv cN),vi a1.Turn,vi a1.Idle,(sv fM)]] S) (hlt : ∀ b,S b → b < w.heap.size) (hG : Gl w) (hM : ∀ g,g < NGl → ¬ S g) : Cl 34 #[vi a0,pt g_1] w (Ret S w (fun s : Hd × Hd × Hd=>.int .i64 r.1) (fun s=>[.box g_1 30 [(sv s.1),(sv s.2.1),vi a1.Turn,vi a1.Idle,(sv s.2.2)],ae (sv s.1) 38 3 ao r.2.1,ae (sv s.2.1) 44 2 bi r.2.2.1,ae (sv s.2.2) 3 1 (D.int .i64) r.2.2.2])):=by
 unfold cY at h
 refine au Tryz.func34 z z ?_
 have hS:=Sep.sm hO hlt
 refine .g (.qn z (.g (.s (fa T.f30_0 z z z) z (.s (ld T.t27 hS.p3 z z z z z) z (.q z ?_)))))
 have ⟨x1,hx1,h⟩:=bnd h
 refine .s (ixv hS.lv hx1 T.u27 T.t38 z z z) z (.qn z (.seq (.block (.g (.q z (.q z (.s (fe T.f38_1 z z z) z ?_)))))))
 obtain ⟨k1,hS⟩:=Sep.ov hS hx1
 have hS:=hS.oa
 obtain ⟨v1,k1,rfl,hS⟩:=hS.ow
 obtain ⟨k1,rfl,hS⟩:=Sep.oF z hS
 obtain ⟨v2,k1,rfl,hS⟩:=hS.ow
 obtain ⟨rfl,hS⟩:=hS.oN
 refine .s (lde (hS.p2.hcellsv) T.t3 z z z z z) z (.q z (.qn z (.cond z (fun hb=>?_) (fun hb=>?_))))
 ·have h:=aI hb h
  refine .g (.q z (.s (fa T.f30_1 z z z) z (.s (ld T.t28 hS.p5 z z z z z) z (.s (fa T.f30_4 z z z) z ?_))))
  have ⟨y1,hy1,h⟩:=bnd h
  have hS:=hS.p5
  have hS:=hS.p5
  have hS:=hS.p5
  have hS:=hS.p5
  have hS:=hS.p5
  refine .c (.cS (L0:=[ae (sv v1) 3 1 (D.int .i64) x1.Regs,bZ (sv cI) 38 3 ao a1.Harts (Int.toNat a0) [(sv v1),vi x1.Pc,(sv v2)],ae (sv cN) 44 2 bi a1.Boxes,ae (sv fM) 3 1 (D.int .i64) a1.Out,.box g_1 30 [(sv cI),(sv cN),vi a1.Turn,vi a1.Idle,(sv fM)]]) hS Tryz.func35 (fun S h1 h2 h3=>(mZ hy1 (h3.rdv (k:=0) z) h2 (zz h1))) z z ?_)
  rintro ⟨v3,v4⟩ W hS
  refine .qn z (.ret ?_)
  have hS:=Sep.gat (ds:=[ao (ah.mk y1.2.1 y1.2.2.1 x1.Mem)]) (cs:=[(sv v3),vi y1.2.2.1,(sv v2)]) (L1:=[ae (sv v3) 3 1 (D.int .i64) y1.2.1,ae (sv v2) 3 1 (D.int .i64) x1.Mem]) (.agg (.row (.flat (c1:=[vi y1.2.2.1]) z (.row .nil)))) (hS.to [3,4,0,0,0,0])
  have hS : Sep _ _ _ [ae (sv cI) 38 3 ao (a1.Harts.set (Int.toNat a0) (ah.mk y1.2.1 y1.2.2.1 x1.Mem)),ae (sv cN) 44 2 bi y1.2.2.2.2,.box g_1 30 [(sv cI),(sv cN),vi a1.Turn,vi a1.Idle,(sv v4)],ae (sv v4) 3 1 (D.int .i64) y1.2.2.2.1]:=hS.bv
  cases h
  exact ac (vs:=[_]) (cI,cN,v4) (rt z rn) z (hS.to [2,0,0,0])
 have h:=aJ hb h
 refine .g (.q z ?_)
 have ⟨y2,hy2,h⟩:=bnd h
 have hS:=hS.p2
 have hS:=hS.p1
 have hS:=hS.p2
 refine .c (.cS (L0:=[ae (sv v1) 3 1 (D.int .i64) x1.Regs,ae (sv v2) 3 1 (D.int .i64) x1.Mem,bZ (sv cI) 38 3 ao a1.Harts (Int.toNat a0) [(sv v1),vi x1.Pc,(sv v2)]]) hS Tryz.func36 (fun S h1 h2 h3=>(m4 hy2 h2 (zz h1) (hG.at hS hM) (hG.noS hM h1))) z z ?_)
 rintro ⟨v5,v6⟩ W hS
 refine .q z (.q z (.nil ?_))
 refine .cs z h ?_ ?_ <;> intro h
 ·refine .g (.qn z (.ret ?_))
  have hS:=Sep.gat (ds:=[ao (ah.mk y2.2.1 y2.2.2.1 y2.2.2.2)]) (cs:=[(sv v5),vi y2.2.2.1,(sv v6)]) (L1:=[ae (sv v5) 3 1 (D.int .i64) y2.2.1,ae (sv v6) 3 1 (D.int .i64) y2.2.2.2]) (.agg (.row (.flat (c1:=[vi y2.2.2.1]) z (.row .nil)))) (hS.to [1,1,0,0,0,0])
  have hS : Sep _ _ _ [ae (sv cI) 38 3 ao (a1.Harts.set (Int.toNat a0) (ah.mk y2.2.1 y2.2.2.1 y2.2.2.2)),ae (sv cN) 44 2 bi a1.Boxes,ae (sv fM) 3 1 (D.int .i64) a1.Out,.box g_1 30 [(sv cI),(sv cN),vi a1.Turn,vi a1.Idle,(sv fM)]]:=hS.bv
  cases h
  exact ac (vs:=[_]) (cI,cN,fM) (rt z rn) z (hS.to [3,0,0,0])
 refine .skip (.g (.qn z (.ret ?_)))
 have hS:=Sep.gat (ds:=[ao (ah.mk y2.2.1 y2.2.2.1 y2.2.2.2)]) (cs:=[(sv v5),vi y2.2.2.1,(sv v6)]) (L1:=[ae (sv v5) 3 1 (D.int .i64) y2.2.1,ae (sv v6) 3 1 (D.int .i64) y2.2.2.2]) (.agg (.row (.flat (c1:=[vi y2.2.2.1]) z (.row .nil)))) (hS.to [1,1,0,0,0,0])
 have hS : Sep _ _ _ [ae (sv cI) 38 3 ao (a1.Harts.set (Int.toNat a0) (ah.mk y2.2.1 y2.2.2.1 y2.2.2.2)),ae (sv cN) 44 2 bi a1.Boxes,ae (sv fM) 3 1 (D.int .i64) a1.Out,.box g_1 30 [(sv cI),(sv cN),vi a1.Turn,vi a1.Idle,(sv fM)]]:=hS.bv
 cases h
 exact ac (vs:=[_]) (cI,cN,fM) (rt z rn) z (hS.to [3,0,0,0])
def oK (w : World) (S : Nat → Prop) (m5 : Hd) (m6 : Hd) (pX : Hd) (g_4 : Nat) (a0 : Int) (a1 : Int) (a2 : Int) (a3 : Int) (a4 : aE) (r : Int × Int × Bool × (List ah) × (List Box) × (List Int)) : Env → World → Prop:=Fin Tryz.prog Tryz.f33 S w (fun s : Hd × Hd × Hd=>.tuple #[vi r.1,vi r.2.1,.bool r.2.2.1]) (fun s=>[.box g_4 30 [(sv s.1),(sv s.2.1),vi a4.Turn,vi a4.Idle,(sv s.2.2)],ae (sv s.1) 38 3 ao r.2.2.2.1,ae (sv s.2.1) 44 2 bi r.2.2.2.2.1,ae (sv s.2.2) 3 1 (D.int .i64) r.2.2.2.2.2]) .ret
theorem n8 {a0 : Int} {a1 : Int} {a2 : Int} {a3 : Int} {a4 : aE} {m5 : Hd} {m6 : Hd} {pX : Hd} {g_4 : Nat} {S : Nat → Prop} {w : World} {r : Int × Int × Bool × (List ah) × (List Box) × (List Int)} (h : gh a0 a1 a2 a3 a4 = some r) (hO : bJ w [ae (sv m5) 38 3 ao a4.Harts,ae (sv m6) 44 2 bi a4.Boxes,ae (sv pX) 3 1 (D.int .i64) a4.Out,.box g_4 30 [(sv m5),(sv m6),vi a4.Turn,vi a4.Idle,(sv pX)]] S) (hlt : ∀ b,S b → b < w.heap.size) (hG : Gl w) (hM : ∀ g,g < NGl → ¬ S g) : Cl 33 #[vi a0,vi a1,vi a2,vi a3,.func (.func 34) #[] #[pt g_4]] w (Ret S w (fun s : Hd × Hd × Hd=>.tuple #[vi r.1,vi r.2.1,.bool r.2.2.1]) (fun s=>[.box g_4 30 [(sv s.1),(sv s.2.1),vi a4.Turn,vi a4.Idle,(sv s.2.2)],ae (sv s.1) 38 3 ao r.2.2.2.1,ae (sv s.2.1) 44 2 bi r.2.2.2.2.1,ae (sv s.2.2) 3 1 (D.int .i64) r.2.2.2.2.2])):=by
 unfold gh at h
 refine au Tryz.func33 z z ?_
 have hS:=Sep.sm hO hlt
 refine .g (.q z (.q z (.qn z (.seq (.block ?_)))))
 have ⟨y1,hy1,h⟩:=bnd h
 refine .via (.iter (fun s1 E' W'=>∃ (v7 : Hd) (v8 : Hd) (v9 : Hd),aD E' [(0,vi s1.1),(1,vi a1),(2,vi s1.2.1),(3,vi s1.2.2.1),(4,.func (.func 34) #[] #[pt g_4])] ∧ Sep S w W' [.box g_4 30 [(sv v7),(sv v8),vi a4.Turn,vi a4.Idle,(sv v9)],ae (sv v7) 38 3 ao s1.2.2.2.1,ae (sv v8) 44 2 bi s1.2.2.2.2.1,ae (sv v9) 3 1 (D.int .i64) s1.2.2.2.2.2]) (fun y2 x E' W'=>(match y2 with | .inl o1=>x = .ret ∧ oK w S m5 m6 pX g_4 a0 a1 a2 a3 a4 o1 E' W' | .inr o2=>x = .exit 0 ∧ ∃ (v10 : Hd) (v11 : Hd) (v12 : Hd),aD E' [(2,vi o2.1),(3,vi o2.2.1)] ∧ Sep S w W' [.box g_4 30 [(sv v10),(sv v11),vi a4.Turn,vi a4.Idle,(sv v12)],ae (sv v10) 38 3 ao o2.2.2.1,ae (sv v11) 44 2 bi o2.2.2.2.1,ae (sv v12) 3 1 (D.int .i64) o2.2.2.2.2])) hy1 ⟨m5,m6,pX,sb rfl,hS.to [3,0,0,0] rfl⟩ ?_) ?_
 ·intro s1 y3 E W h hI
  obtain ⟨v4,v5,v6,hE,hS⟩:=hI
  refine CW.sub hE ?_
  unfold a6 at h
  refine .seq (.g (.q z (.q z (.q z (.cu 4 22 ((decide (s1.1 > 0)) && (decide (s1.2.2.1 < a1))) hS ?_ ?_)))))
  ·refine .both (decide (s1.1 > 0)) (fun hb=>?_) (fun hb=>?_)
   ·have hg1:=hb
    exact .g hg1 (.q z (.g hg1 (.q z (.g hg1 (.q z (.s (pkt hg1 z z z) z (.nil (ck 4 hS z (bM hg1)))))))))
   exact .xx hb z (.xx hb z (.xx hb z (.s (pkf hb z z z) z (.nil (ck 4 hS z (bN hb))))))
  intro W hS
  refine .nil (.cond z (fun hb=>?_) (fun hb=>?_))
  ·have h:=aI hb h
   refine .skip (.seq (.block (.g (.q z (.q z (.q z (.q z (.q z ?_))))))))
   have ⟨y4,hy4,h⟩:=bnd h
   have hS:=hS.p3
   have hS:=hS.p3
   have hS:=hS.p3
   refine .c (.callC (L0:=[ae (sv v4) 38 3 ao s1.2.2.2.1,ae (sv v5) 44 2 bi s1.2.2.2.2.1,ae (sv v6) 3 1 (D.int .i64) s1.2.2.2.2.2,.box g_4 30 [(sv v4),(sv v5),vi a4.Turn,vi a4.Idle,(sv v6)]]) (vs:=[vi s1.2.1]) (cap:=[pt g_4]) hS Tryz.func34 (fun S h1 h2 h3=>(pp hy4 h2 (zz h1) (hG.at hS hM) (hG.noS hM h1))) z z z ?_)
   rintro ⟨v13,v14,v15⟩ W hS
   have ⟨y5,hy5,h⟩:=bnd h
   refine .c (.cO hS Tryz.func50 (rh hy5) z z ?_)
   intro W hS
   refine .q z (.q z (.q z (.q z (.q z (.q z (.qn z (.seq (.g (.q z (.q z (.nil ?_)))))))))))
   refine .cs z h ?_ ?_ <;> intro h
   ·refine .g (.q z (.q z (.qn z (.ret ?_))))
    cases h
    exact ⟨by simp,z,ac (vs:=[_,_,_]) (v13,v14,v15) (rt z (rt z (rt z rn))) z (hS.to [0,0,0,0])⟩
   refine .skip (.region (.q z (.q z (.q z (.qn z (.region (.q z (.q z (.q z (.nil ?_))))))))))
   cases h
   exact ⟨z,v13,v14,v15,sb z,hS.to [0,0,0,0]⟩
  have h:=aJ hb h
  refine .exit ?_
  cases h
  exact ⟨by simp,z,v4,v5,v6,sb z,hS.to [0,0,0,0]⟩
 intro x E W hJ
 rcases y1 with o3 | o4
 ·obtain ⟨rfl,hF⟩:=hJ
  refine ⟨_,fun _ _ h=>h,?_⟩
  cases h
  exact hF
 obtain ⟨rfl,v16,v17,v18,hE,hS⟩:=hJ
 refine ⟨_,hE.sub,?_⟩
 cases h
 exact .g (.q z (.q z (.q z (.q z (.qn z (.ret (ac (vs:=[_,_,_]) (v16,v17,v18) (rt z (rt z (rt z rn))) z (hS.to [0,0,0,0]))))))))
theorem rj {a0 : aE} {a1 : Int} {dH : Hd} {ed : Hd} {iu : Hd} {w : World} {r : aE × Bool} (h : gc a0 a1 = some r) (bX : RO w dH 38 3 ao a0.Harts) (kO : RO w ed 44 2 bi a0.Boxes) (my : RO w iu 3 1 (D.int .i64) a0.Out) (hG : Gl w) : Cl 13 #[.agg #[(sv dH),(sv ed),vi a0.Turn,vi a0.Idle,(sv iu)],vi a1] w (Ret No w (fun s : Hd × Hd × Hd=>.tuple #[.agg #[(sv s.1),(sv s.2.1),vi r.1.Turn,vi r.1.Idle,(sv s.2.2)],.bool r.2]) (fun s=>[ae (sv s.1) 38 3 ao r.1.Harts,ae (sv s.2.1) 44 2 bi r.1.Boxes,ae (sv s.2.2) 3 1 (D.int .i64) r.1.Out])):=by
 unfold gc at h
 refine au Tryz.func13 z z ?_
 have hS:=Sep.start w
 refine .g (.c (.box hS z z ?_))
 intro g1 W hS
 refine .c (.alloc T.t30 hS ?_)
 intro g2 W hS
 refine .qn z (.seq (.g (.s (ld T.t30 hS.p1 z z z z z) z ?_)))
 have ⟨y1,hy1,h⟩:=bnd h
 refine .c (.cO hS Tryz.func29 (pn hy1 (hS.keep bX) (hS.keep kO) (hS.keep my)) z z ?_)
 intro W hS
 refine .q z (.q z (.cu 3 18 ((!y1) || (decide (a1 < 0))) hS ?_ ?_))
 ·refine .both (!y1) (fun hb=>?_) (fun hb=>?_)
  ·exact .xx hb z (.xx hb z (.s (pkt hb z z z) z (.nil (ck 3 hS z (gn hb)))))
  have hg1:=hb
  exact .g hg1 (.q z (.g hg1 (.q z (.s (pkf hg1 z z z) z (.nil (ck 3 hS z (go hg1)))))))
 intro W hS
 refine .q z (.cu 3 22 (((!y1) || (decide (a1 < 0))) || (decide (a1 > 1000000))) hS ?_ ?_)
 ·refine .both ((!y1) || (decide (a1 < 0))) (fun hb=>?_) (fun hb=>?_)
  ·exact .xx hb z (.xx hb z (.s (pkt hb z z z) z (.nil (ck 3 hS z (gn hb)))))
  have hg2:=hb
  exact .g hg2 (.q z (.g hg2 (.q z (.s (pkf hg2 z z z) z (.nil (ck 3 hS z (go hg2)))))))
 intro W hS
 refine .nil (.cond z (fun hb=>?_) (fun hb=>?_))
 ·have h:=aI hb h
  refine .g (.s (bs T.s30 z z) z (.c (.st T.t30 hS z z z ?_)))
  intro W hS
  refine .qn z (.ret ?_)
  have hS:=hS.nilv 38 3 ao
  have hS:=hS.nilv 44 2 bi
  have hS:=hS.nilv 3 1 (D.int .i64)
  cases h
  exact ac (vs:=[_,_]) (aN,aN,aN) (rc hS.p3 T.t30 z (rt z rn) z z) z (hS.to [2,1,0])
 have h:=aJ hb h
 refine .skip (.seq ?_)
 have ⟨y2,hy2,h⟩:=bnd h
 have ⟨y3,hy3,h⟩:=bnd h
 refine .via (R':=fun x E' W'=>x = .normal ∧ ∃ (g3 : Nat) (v1 : Hd) (v2 : Hd) (v3 : Hd),aD E' [(1,vi a1),(2,pt g1),(4,pt g2),(6,pt g3)] ∧ Sep No w W' [.box g2 30 [(sv aN),(sv aN),vi 0,vi 0,(sv aN)],.box g1 30 [(sv dH),(sv ed),vi a0.Turn,vi a0.Idle,(sv iu)],.box g3 30 [(sv v1),(sv v2),vi 0,vi 0,(sv v3)],ae (sv v1) 38 3 ao [],ae (sv v2) 44 2 bi y2,ae (sv v3) 3 1 (D.int .i64) y3]) ?_ ?_
 ·refine .rk 8 hS [0,0] T.mix ?_
  intro W hS
  have hT:=hS.to [0,0]
  refine .ts' 0 z (fun W hT=>fa T.f30_1 z z z) hT z (.ts' 1 z (fun W hT=>ld T.t28 hT.p1 z z z z z) hT z (.ts' 3 z (fun W hT=>fa T.f30_4 z z z) hT z (.ts' 4 z (fun W hT=>ld T.t23 hT.p1 z z z z z) hT z (.by [2,7] ⟨⟨_,z,?_⟩,⟨_,z,?_⟩,trivial⟩))))
  ·refine (.cV hS Tryz.func30 (mz hy2 (hS.keep kO)) z z ?_)
   intro v4 W hS
   have hT:=hS.to [1,1]
   refine ⟨fun _=>hT,.by [5,7] ⟨⟨_,z,?_⟩,⟨_,z,?_⟩,trivial⟩⟩
   ·refine (.cV hS Tryz.func31 (ch hy3 (hS.keep my)) z z ?_)
    intro v5 W hS
    have hT:=hS.to [2,2]
    refine ⟨fun _=>hT,.ts' 6 z (fun W hT=>bs T.s30 z z) hT z (.by1 7 z (.alloc T.t30 hS ?_))⟩
    intro g4 W hS
    have hT:=hS.to [3,3]
    refine ⟨fun _=>hT,.by1 8 z (.st T.t30 hS z z z ?_)⟩
    intro W hS
    refine ⟨fun h=>absurd z h,?_⟩
    refine .done ?_
    have hS:=hS.nilv 38 3 ao
    exact ⟨z,g4,aN,v4,v5,sb z,hS.to [4,4,1,0,1,0]⟩
   refine (.alloc T.t30 hS ?_)
   intro g5 W hS
   have hT:=hS.to [2,2]
   refine ⟨fun _=>hT,.by1 5 z (.cV hS Tryz.func31 (ch hy3 (hS.keep my)) z z ?_)⟩
   intro v6 W hS
   have hT:=hS.to [3,3]
   refine ⟨fun _=>hT,.ts' 6 z (fun W hT=>bs T.s30 z z) hT z (.by1 8 z (.st T.t30 hS.p1 z z z ?_))⟩
   intro W hS
   refine ⟨fun h=>absurd z h,?_⟩
   refine .done ?_
   have hS:=hS.nilv 38 3 ao
   exact ⟨z,g5,aN,v4,v6,sb z,hS.to [4,4,1,0,1,0]⟩
  refine (.alloc T.t30 hS ?_)
  intro g6 W hS
  have hT:=hS.to [1,1]
  refine ⟨fun _=>hT,.by1 2 z (.cV hS Tryz.func30 (mz hy2 (hS.keep kO)) z z ?_)⟩
  intro v7 W hS
  have hT:=hS.to [2,2]
  refine ⟨fun _=>hT,.by1 5 z (.cV hS Tryz.func31 (ch hy3 (hS.keep my)) z z ?_)⟩
  intro v8 W hS
  have hT:=hS.to [3,3]
  refine ⟨fun _=>hT,.ts' 6 z (fun W hT=>bs T.s30 z z) hT z (.by1 8 z (.st T.t30 hS.p2 z z z ?_))⟩
  intro W hS
  refine ⟨fun h=>absurd z h,?_⟩
  refine .done ?_
  have hS:=hS.nilv 38 3 ao
  exact ⟨z,g6,aN,v7,v8,sb z,hS.to [4,4,1,0,1,0]⟩
 intro x E W hJ
 obtain ⟨rfl,g7,v9,v10,v11,hE,hS⟩:=hJ
 refine ⟨_,hE.sub,?_⟩
 refine .seq (.g (.s (fa T.f30_0 z z z) z (.s (ld T.t27 hS.p1 z z z z z) z (.s (bw (hS.keep bX) T.u27 z z) z (.qn z (.block ?_))))))
 have ⟨y4,hy4,h⟩:=bnd h
 refine .via (.iter (fun s1 E' W'=>∃ (v14 : Hd),aD E' [(1,vi a1),(2,pt g1),(4,pt g2),(6,pt g7),(32,(sv dH)),(33,vi (a0.Harts.length : Int)),(34,vi s1.1)] ∧ Sep No w W' [.box g2 30 [(sv aN),(sv aN),vi 0,vi 0,(sv aN)],.box g1 30 [(sv dH),(sv ed),vi a0.Turn,vi a0.Idle,(sv iu)],.box g7 30 [(sv v14),(sv v10),vi 0,vi 0,(sv v11)],ae (sv v10) 44 2 bi y2,ae (sv v11) 3 1 (D.int .i64) y3,ae (sv v14) 38 3 ao s1.2]) (fun y5 x E' W'=>x = .exit 0 ∧ ∃ (v15 : Hd),aD E' [(1,vi a1),(2,pt g1),(4,pt g2),(6,pt g7)] ∧ Sep No w W' [.box g2 30 [(sv aN),(sv aN),vi 0,vi 0,(sv aN)],.box g1 30 [(sv dH),(sv ed),vi a0.Turn,vi a0.Idle,(sv iu)],.box g7 30 [(sv v15),(sv v10),vi 0,vi 0,(sv v11)],ae (sv v10) 44 2 bi y2,ae (sv v11) 3 1 (D.int .i64) y3,ae (sv v15) 38 3 ao y5]) hy4 ⟨v9,sb z,hS.to [0,0,0,1,1,0]⟩ ?_) ?_
 ·intro s1 y6 E W h hI
  obtain ⟨v13,hE,hS⟩:=hI
  refine CW.sub hE ?_
  unfold ea at h
  refine .g (.qn z (.seq ?_))
  refine .cs z h ?_ ?_ <;> intro h
  ·refine .skip (.seq (.block (.seq (.region ?_))))
   have ⟨x1,hx1,h⟩:=bnd h
   obtain ⟨k1,hd,hck1⟩:=RV.el2 bX hx1
   have hd1:=ur hd
   obtain ⟨v16,k1,rfl,q13,hd2⟩:=ef bX hd1
   obtain ⟨k1,rfl,hd3⟩:=dn bX z hd2
   obtain ⟨v17,k1,rfl,q14,hd4⟩:=ef bX hd3
   obtain rfl:=m8 bX hd4
   refine .s (ixv (hS.keep bX) hx1 T.u27 T.t38 z z z) z (.s (lde (hck1 _ hS.agree) T.t38 z z z z z) z (.c (.alloc T.t38 hS ?_)))
   intro g8 W hS
   refine .c (.st T.t38 hS z z z ?_)
   intro W hS
   refine .nil (.rk 7 hS [0,0,0,0,0,0] T.mix ?_)
   intro W hS
   have hT:=hS.to [0,0,0,0,0,0]
   refine .ts' 0 z (fun W hT=>fa T.f30_0 z z z) hT z (.ts' 1 z (fun W hT=>ld T.t27 hT.p3 z z z z z) hT z (.ts' 2 z (fun W hT=>ld T.t38 hT z z z z z) hT z ?_))
   have ⟨y7,hy7,h⟩:=bnd h
   refine .by1 3 z (.call hS Tryz.func32 (oH hy7 (hS.keep (q13 _ bX)) (hS.keep (q14 _ bX))) z z ?_)
   rintro ⟨v18,v19⟩ W hS
   have hT:=hS.to [2,2,2,2,2,2]
   refine ⟨fun _=>hT,.by1 4 z (.lg (L1:=[ae (sv v18) 3 1 (D.int .i64) y7.Regs,ae (sv v19) 3 1 (D.int .i64) y7.Mem]) [(ah.mk y7.Regs y7.Pc y7.Mem)] ao T.u27 T.t38 (hS.to [0,0,0,0,0,0,0,0,0]) z z z (.agg (.row (.flat (c1:=[vi y7.Pc]) z (.row .nil)))) ?_ z (fun _=>z))⟩
   intro v20 W hS
   have hT:=hS.to [1,1,1,1,1,1]
   refine ⟨fun _=>hT,?_⟩
   have ⟨r1,hr1,h⟩:=bnd h
   refine .by1 5 z (.appv hr1 (hS.to [7,0,0,0,0,0,0,0]) T.u27 T.t38 z z z ?_)
   intro v21 W hS
   have hT:=hS.to [1,1,1,1,1,1]
   refine ⟨fun _=>hT,.ts' 6 z (fun W hT=>fa T.f30_0 z z z) hT z (.by1 7 z (.st T.t27 hS.p4 z z z ?_))⟩
   intro W hS
   refine ⟨fun h=>absurd z h,?_⟩
   refine .done (.region (.q z (.q z (.nil ?_))))
   cases h
   exact ⟨z,v21,sb z,hS.to [3,3,0,2,2,0]⟩
  refine .exit ?_
  cases h
  exact ⟨by simp,z,v13,sb z,hS.to [0,0,0,0,0,0]⟩
 intro x E W hJ
 obtain ⟨rfl,v22,hE,hS⟩:=hJ
 refine ⟨_,hE.sub,?_⟩
 refine .g (.q z (.s (fa T.f30_0 z z z) z (.s (ld T.t27 hS.p2 z z z z z) z (.s (bw hS.p5.lv T.u27 z z) z (.s (fa T.f30_2 z z z) z (.s (ld T.t3 hS.p1 z z z z z) z (.s (fa T.f30_3 z z z) z (.s (ld T.t3 hS.p1 z z z z z) z (.s (mf z z) z ?_)))))))))
 have ⟨y8,hy8,h⟩:=bnd h
 have hS:=hS.p2
 have hS:=hS.p4
 have hS:=hS.p4
 have hS:=hS.p5
 refine .c (.cS (L0:=[ae (sv v22) 38 3 ao y4,ae (sv v10) 44 2 bi y2,ae (sv v11) 3 1 (D.int .i64) y3,.box g7 30 [(sv v22),(sv v10),vi 0,vi 0,(sv v11)]]) hS Tryz.func33 (fun S h1 h2 h3=>(n8 hy8 h2 (zz h1) (hG.at hS (fun _ _ h=>h)) (hG.noS (fun _ _ h=>h) h1))) z z ?_)
 rintro ⟨v23,v24,v25⟩ W hS
 refine .q z (.q z (.q z (.q z (.q z (.q z (.qn z (.seq (.g (.q z (.q z (.nil ?_)))))))))))
 refine .cs z h ?_ ?_ <;> intro h
 ·refine .g (.s (bs T.s30 z z) z (.c (.st T.t30 hS.p4 z z z ?_)))
  intro W hS
  refine .qn z (.ret ?_)
  have hS:=hS.nilv 38 3 ao
  have hS:=hS.nilv 44 2 bi
  have hS:=hS.nilv 3 1 (D.int .i64)
  cases h
  exact ac (vs:=[_,_]) (aN,aN,aN) (rc hS.p3 T.t30 z (rt z rn) z z) z (hS.to [2,1,0])
 refine .skip (.g (.q z (.q z (.s (fa T.f30_2 z z z) z (.c (.st T.t3 hS z z z ?_))))))
 intro W hS
 refine .s (fa T.f30_3 z z z) z (.c (.st T.t3 hS z z z ?_))
 intro W hS
 refine .nil (.g (.s (ld T.t30 hS z z z z z) z (.c (.st T.t30 hS.p4 z z z ?_))))
 intro W hS
 cases h
 exact .qn z (.ret (ac (vs:=[_,_]) (v23,v24,v25) (rc hS T.t30 z (rt z rn) z z) z (hS.to [2,2,2])))
theorem sj {a0 : List Int} {a1 : List (List Instr)} {a2 : Int} {v_0 : Hd} {v_1 : Hd} {w : World} {r : aE} (h : j0 a0 a1 a2 = some r) (q_0 : RO w v_0 3 1 (D.int .i64) a0) (q_1 : RO w v_1 35 1 (fun (l : List Instr)=>D.row 51 5 (l.map aG)) a1) (hG : Gl w) : Cl 10 #[(sv v_0),(sv v_1),vi a2] w (Ret No w (fun s : Hd × Hd × Hd=>.agg #[(sv s.1),(sv s.2.1),vi r.Turn,vi r.Idle,(sv s.2.2)]) (fun s=>[ae (sv s.1) 38 3 ao r.Harts,ae (sv s.2.1) 44 2 bi r.Boxes,ae (sv s.2.2) 3 1 (D.int .i64) r.Out])):=by
 unfold j0 at h
 refine au Tryz.func10 z z ?_
 have hS:=Sep.start w
 refine .g (.c (.alloc T.t30 hS ?_))
 intro g1 W hS
 refine .nil (.g (.q z (.q z ?_)))
 have ⟨y1,hy1,h⟩:=bnd h
 refine .c (.call hS Tryz.func7 (mY hy1 (hS.keep q_0) (hS.keep q_1) (hG.at hS (fun _ _ h=>h))) z z ?_)
 rintro ⟨v1,v2,v3⟩ W hS
 refine .q z (.q z (.q z (.c (.alloc T.t30 hS ?_))))
 intro g2 W hS
 refine .c (.st T.t30 hS z z z ?_)
 intro W hS
 refine .qn z (.g (.s (ld T.t30 hS z z z z z) z (.q z ?_)))
 have ⟨y2,hy2,h⟩:=bnd h
 refine .c (.call hS Tryz.func13 (rj hy2 hS.p1.lv hS.p2.lv hS.p3.lv (hG.at hS (fun _ _ h=>h))) z z ?_)
 rintro ⟨v4,v5,v6⟩ W hS
 refine .q z (.q z (.q z (.c (.alloc T.t30 hS ?_))))
 intro g3 W hS
 refine .c (.st T.t30 hS z z z ?_)
 intro W hS
 refine .qn z (.seq (.g (.q z (.q z (.q z (.cu 3 28 ((!y1.2) || (!y2.2)) hS ?_ ?_))))))
 ·refine .both (!y1.2) (fun hb=>?_) (fun hb=>?_)
  ·exact .xx hb z (.xx hb z (.s (pkt hb z z z) z (.nil (ck 3 hS z (gn hb)))))
  have hg1:=hb
  exact .g hg1 (.q z (.g hg1 (.q z (.s (pkf hg1 z z z) z (.nil (ck 3 hS z (go hg1)))))))
 intro W hS
 refine .nil ?_
 refine .cs z h ?_ ?_ <;> intro h
 ·refine .g (.s (bs T.s30 z z) z (.c (.st T.t30 hS.p8 z z z ?_)))
  intro W hS
  refine .nil (.ret ?_)
  have hS:=hS.nilv 38 3 ao
  have hS:=hS.nilv 44 2 bi
  have hS:=hS.nilv 3 1 (D.int .i64)
  cases h
  exact ac (vs:=[_]) (aN,aN,aN) (rc hS.p3 T.t30 z rn z z) z (hS.to [2,1,0])
 refine .skip (.g (.s (ld T.t30 hS z z z z z) z (.c (.st T.t30 hS.p8 z z z ?_))))
 intro W hS
 cases h
 exact .nil (.ret (ac (vs:=[_]) (v4,v5,v6) (rc hS T.t30 z rn z z) z (hS.to [2,2,2])))
def pu (w : World) (r : Bool) : Env → World → Prop:=Fin Tryz.prog Tryz.f3 No w (fun s : Unit=>.bool r) (fun s=>[]) .ret
end
noncomputable section
theorem oL {k : Nat} {a0 : List Int} {a1 : List Int} {v_0 : Hd} {v_1 : Hd} {w : World} {r : Bool} (h : ic k a0 a1 = some r) (q_0 : RO w v_0 5 1 (D.int .u8) a0) (q_1 : RO w v_1 5 1 (D.int .u8) a1) (hG : Gl w) : Cl 3 #[(sv v_0),(sv v_1)] w (RU w (.bool r)):=by
 unfold ic at h
 refine au Tryz.func3 z z ?_
 have hS:=Sep.start w
 refine .g (.qn z (.seq (.g (.q z (.s (bw (hS.keep q_0) T.u22 z z) z (.q z (.q z (.cu 4 21 ((decide ((a0.length : Int) > 1048576)) || (decide ((a1.length : Int) > 1048576))) hS ?_ ?_))))))))
 ·refine .both (decide ((a0.length : Int) > 1048576)) (fun hb=>?_) (fun hb=>?_)
  ·exact .xx hb z (.xx hb z (.xx hb z (.s (pkt hb z z z) z (.nil (ck 4 hS z (gn hb))))))
  have hg1:=hb
  exact .g hg1 (.q z (.g hg1 (.s (bw (hS.keep q_1) T.u22 z z) z (.g hg1 (.q z (.s (pkf hg1 z z z) z (.nil (ck 4 hS z (go hg1)))))))))
 intro W hS
 refine .nil ?_
 refine .cs z h ?_ ?_ <;> intro h
 ·obtain rfl:=o9 h
  exact .g (.qn z (.ret (ac (vs:=[_]) () (rt z rn) z (hS.to []))))
 refine .skip (.g (.q z ?_))
 have ⟨y1,hy1,h⟩:=bnd h
 refine .c (.call hS Tryz.func6 (nY hy1 (hS.keep q_0)) z z ?_)
 rintro ⟨v1,v2⟩ W hS
 refine .q z (.q z (.q z (.q z (.qn z (.g (.q z (.q z ?_)))))))
 have ⟨y2,hy2,h⟩:=bnd h
 refine .c (.call hS Tryz.func7 (mY hy2 hS.lv (hS.p1.lendz 0 z) (hG.at hS (fun _ _ h=>h))) z z ?_)
 rintro ⟨v3,v4,v5⟩ W hS
 refine .q z (.q z (.q z (.c (.alloc T.t30 hS ?_))))
 intro g1 W hS
 refine .c (.st T.t30 hS z z z ?_)
 intro W hS
 refine .qn z (.g (.q z (.q z ?_)))
 have ⟨y3,hy3,h⟩:=bnd h
 refine .c (.call hS Tryz.func8 (ra hy3 hS.p4.lv (hS.p5.lendz 0 z)) z z ?_)
 rintro ⟨v6,v7,v8⟩ W hS
 refine .q z (.q z (.q z (.c (.alloc T.t30 hS ?_))))
 intro g2 W hS
 refine .c (.st T.t30 hS z z z ?_)
 intro W hS
 refine .qn z (.seq (.g (.q z (.q z (.s (neb T.u4 z z z) z (.q z ?_))))))
 have ⟨b1,hb1,h⟩:=bnd h
 refine .cu 5 47 (b1) hS ?_ ?_
 ·refine .both (y2.2 != y3.2) (fun hb=>?_) (fun hb=>?_)
  ·refine .xx hb z (.xx hb z (.xx hb z (.xx hb z ?_)))
   cases aI hb hb1
   exact .s (pkt hb z z z) z (.nil (ck 5 hS))
  have hg2:=hb
  have h:=aJ hb hb1
  refine .g hg2 (.s (ld T.t30 hS.p4 z z z z z) z (.g hg2 (.s (ld T.t30 hS z z z z z) z ?_)))
  have ⟨y4,hy4,h⟩:=bnd h
  refine .g hg2 (.c (.cO hS Tryz.func9 (mx hy4 hS.p5.lv hS.p6.lv hS.p7.lv hS.p1.lv hS.p2.lv hS.p3.lv) z z ?_))
  intro W hS
  refine .g hg2 (.q z (.s (pkf hg2 z z z) z ?_))
  cases h
  exact .nil (ck 5 hS)
 intro W hS
 refine .q z (.cu 3 51 (b1 || (!y2.2)) hS ?_ ?_)
 ·refine .both (b1) (fun hb=>?_) (fun hb=>?_)
  ·exact .xx hb z (.xx hb z (.s (pkt hb z z z) z (.nil (ck 3 hS z (gn hb)))))
  have hg3:=hb
  exact .g hg3 (.q z (.g hg3 (.q z (.s (pkf hg3 z z z) z (.nil (ck 3 hS z (go hg3)))))))
 intro W hS
 refine .nil ?_
 refine .cs z h ?_ ?_ <;> intro h
 ·refine .g (.q z (.q z (.s (eqb T.u4 z z z) z (.q z ?_))))
  have ⟨b2,hb2,h⟩:=bnd h
  refine .cu 4 59 (b2) hS ?_ ?_
  ·refine .both (y2.2 == y3.2) (fun hb=>?_) (fun hb=>?_)
   ·have hg4:=hb
    have h:=aI hb hb2
    refine .g hg4 (.s (ld T.t30 hS.p4 z z z z z) z (.g hg4 (.s (ld T.t30 hS z z z z z) z ?_)))
    have ⟨y5,hy5,h⟩:=bnd h
    refine .g hg4 (.c (.cO hS Tryz.func9 (mx hy5 hS.p5.lv hS.p6.lv hS.p7.lv hS.p1.lv hS.p2.lv hS.p3.lv) z z ?_))
    intro W hS
    refine .s (pkt hg4 z z z) z ?_
    cases h
    exact .nil (ck 4 hS)
   refine .xx hb z (.xx hb z (.xx hb z ?_))
   cases aJ hb hb2
   exact .s (pkf hb z z z) z (.nil (ck 4 hS))
  intro W hS
  obtain rfl:=o9 h
  exact .qn z (.ret (ac (vs:=[_]) () (rt z rn) z (hS.to [])))
 refine .skip (.g (.q z (.q z (.q z (.s (bw (hS.keep q_1) T.u22 z z) z (.q z ?_))))))
 have ⟨y6,hy6,h⟩:=bnd h
 refine .c (.call hS Tryz.func10 (sj hy6 hS.p8.lv (hS.p9.lendz 0 z) (hG.at hS (fun _ _ h=>h))) z z ?_)
 rintro ⟨v9,v10,v11⟩ W hS
 refine .c (.alloc T.t30 hS ?_)
 intro g3 W hS
 refine .c (.st T.t30 hS z z z ?_)
 intro W hS
 refine .nil (.seq (.g (.qn z (.block ?_))))
 have ⟨y7,hy7,h⟩:=bnd h
 refine .via (.iter (fun s1 E' W'=>aD E' [(6,(sv v2)),(7,pt g1),(11,pt g3),(12,vi s1)] ∧ Sep No w W' [.box g3 30 [(sv v9),(sv v10),vi y6.Turn,vi y6.Idle,(sv v11)],ae (sv v9) 38 3 ao y6.Harts,ae (sv v10) 44 2 bi y6.Boxes,ae (sv v11) 3 1 (D.int .i64) y6.Out,.box g2 30 [(sv v6),(sv v7),vi y3.1.Turn,vi y3.1.Idle,(sv v8)],ae (sv v6) 38 3 ao y3.1.Harts,ae (sv v7) 44 2 bi y3.1.Boxes,ae (sv v8) 3 1 (D.int .i64) y3.1.Out,.box g1 30 [(sv v3),(sv v4),vi y2.1.Turn,vi y2.1.Idle,(sv v5)],ae (sv v3) 38 3 ao y2.1.Harts,ae (sv v4) 44 2 bi y2.1.Boxes,ae (sv v5) 3 1 (D.int .i64) y2.1.Out,ae (sv v1) 3 1 (D.int .i64) y1.1,iy [((sv v2),35,1,List.map (fun (l : List Instr)=>D.row 51 5 (l.map aG)) y1.2)] []]) (fun y8 x E' W'=>(match y8 with | .inl o1=>x = .ret ∧ pu w o1 E' W' | .inr o2=>x = .exit 0 ∧ aD E' [] ∧ Sep No w W' [.box g3 30 [(sv v9),(sv v10),vi y6.Turn,vi y6.Idle,(sv v11)],ae (sv v9) 38 3 ao y6.Harts,ae (sv v10) 44 2 bi y6.Boxes,ae (sv v11) 3 1 (D.int .i64) y6.Out,.box g2 30 [(sv v6),(sv v7),vi y3.1.Turn,vi y3.1.Idle,(sv v8)],ae (sv v6) 38 3 ao y3.1.Harts,ae (sv v7) 44 2 bi y3.1.Boxes,ae (sv v8) 3 1 (D.int .i64) y3.1.Out,.box g1 30 [(sv v3),(sv v4),vi y2.1.Turn,vi y2.1.Idle,(sv v5)],ae (sv v3) 38 3 ao y2.1.Harts,ae (sv v4) 44 2 bi y2.1.Boxes,ae (sv v5) 3 1 (D.int .i64) y2.1.Out,ae (sv v1) 3 1 (D.int .i64) y1.1,iy [((sv v2),35,1,List.map (fun (l : List Instr)=>D.row 51 5 (l.map aG)) y1.2)] []])) hy7 ⟨sb rfl,hS.to [0,0,0,0,0,0,0,0,0,0,0,0,0,0] rfl⟩ ?_) ?_
 ·intro s1 y9 E W h hI
  obtain ⟨hE,hS⟩:=hI
  refine CW.sub hE ?_
  unfold dR at h
  refine .seq (.g (.q z (.q z (.s (bw ((hS.pull (i:=13) z).lendz 0 z) T.u24 z z) z (.q z (.nil ?_))))))
  refine .cs z h ?_ ?_ <;> intro h
  ·refine .skip (.seq (.block (.g (.q z (.q z ?_)))))
   have ⟨x1,hx1,h⟩:=bnd h
   refine .s (ixv ((hS.pull (i:=13) z).lendz 0 z) hx1 T.u24 T.t35 z z z) z ?_
   obtain ⟨v12,hS⟩:=Sep.opz (hS.pull (i:=13) z) hx1 z
   refine .s (lde (hS.cellz 0 z) T.t35 z z z z z) z (.s (bw (hS.lendz 1 z) T.u35 z z) z (.q z (.qn z (.seq ?_))))
   have ⟨x2,hx2,h⟩:=bnd h
   obtain ⟨k1,hS⟩:=Sep.ov hS.p2 hx2
   have hS:=hS.oa
   obtain ⟨v13,k1,rfl,hS⟩:=hS.ow
   obtain ⟨k1,rfl,hS⟩:=Sep.oF z hS
   obtain ⟨v14,k1,rfl,hS⟩:=hS.ow
   obtain ⟨rfl,hS⟩:=hS.oN
   have ⟨x3,hx3,h⟩:=bnd h
   obtain ⟨k2,hS⟩:=Sep.ov (hS.pull (i:=12) z) hx3
   have hS:=hS.oa
   obtain ⟨v15,k2,rfl,hS⟩:=hS.ow
   obtain ⟨k2,rfl,hS⟩:=Sep.oF z hS
   obtain ⟨v16,k2,rfl,hS⟩:=hS.ow
   obtain ⟨rfl,hS⟩:=hS.oN
   have ⟨b5,hb5,h⟩:=bnd h
   have ⟨b6,hb6,h⟩:=bnd h
   refine .via (R':=fun x E' W'=>x = .normal ∧ aD E' [(6,(sv v2)),(7,pt g1),(11,pt g3),(12,vi s1),(116,.bool b6)] ∧ Sep No w W' [iy [((sv v2),35,1,List.map (fun (l : List Instr)=>D.row 51 5 (l.map aG)) y1.2)] [],.box g3 30 [(sv v9),(sv v10),vi y6.Turn,vi y6.Idle,(sv v11)],ae (sv v9) 38 3 ao y6.Harts,ae (sv v10) 44 2 bi y6.Boxes,ae (sv v11) 3 1 (D.int .i64) y6.Out,.box g2 30 [(sv v6),(sv v7),vi y3.1.Turn,vi y3.1.Idle,(sv v8)],ae (sv v6) 38 3 ao y3.1.Harts,ae (sv v7) 44 2 bi y3.1.Boxes,ae (sv v8) 3 1 (D.int .i64) y3.1.Out,.box g1 30 [(sv v3),(sv v4),vi y2.1.Turn,vi y2.1.Idle,(sv v5)],ae (sv v3) 38 3 ao y2.1.Harts,ae (sv v4) 44 2 bi y2.1.Boxes,ae (sv v5) 3 1 (D.int .i64) y2.1.Out,ae (sv v1) 3 1 (D.int .i64) y1.1]) ?_ ?_
   ·refine .rk 39 hS [0,0,0,0,0,0,0,0,0,0,0,0,0,0,0,0,0,0] T.mix ?_
    intro W hS
    have hT:=hS.to [0,0,0,0,0,0,0,0,0,0,0,0,0,0,0,0,0,0]
    refine .ts' 0 z (fun W hT=>fa T.f30_0 z z z) hT z (.ts' 1 z (fun W hT=>ld T.t27 hT.p7 z z z z z) hT z (.ts' 2 z (fun W hT=>Cc hT.p5 T.u27 z z) hT z (.tp' 3 z z hT (.ts' 4 z (fun W hT=>bw (hS.p6.lendz 0 z) T.u24 z z) hT z (.tp' 5 z z hT (.tp' 6 z z hT (.both ((y6.Harts.length : Int) != (y1.2.length : Int)) (fun hb=>?_) (fun hb=>?_))))))))
    ·refine .off 7 z hb hT (.off 8 z hb hT (.off 9 z hb hT (.off 10 z hb hT (.off 11 z hb hT (.off 12 z hb hT (.off 13 z hb hT (.off 14 z hb hT (.off 15 z hb hT (.off 16 z hb hT (.off 17 z hb hT (.off 18 z hb hT (.off 19 z hb hT (.off 20 z hb hT (.off 21 z hb hT (.off 22 z hb hT (.off 23 z hb hT (.off 24 z hb hT (.ts' 25 z (fun W hT=>pkt hb z z z) hT z (.eqv 103 z (kQ (aI hb hb5)) (.tp' 26 z z hT (.both (b5) (fun hb=>?_) (fun hb=>?_))))) (by kernel_rfl) z z) (by kernel_rfl) z z) (by kernel_rfl) z z) (by kernel_rfl) z z) (by kernel_rfl) z z) (by kernel_rfl) z z) (by kernel_rfl) z z) (by kernel_rfl) z z) (by kernel_rfl) z z) (by kernel_rfl) z z) (by kernel_rfl) z z) (by kernel_rfl) z z) (by kernel_rfl) z z) (by kernel_rfl) z z) (by kernel_rfl) z z) (by kernel_rfl) z z) (by kernel_rfl) z z) (by kernel_rfl) z z
     ·refine .off 27 z hb hT (.off 28 z hb hT (.off 29 z hb hT (.off 30 z hb hT (.off 31 z hb hT (.off 32 z hb hT (.off 33 z hb hT (.off 34 z hb hT (.off 35 z hb hT (.off 36 z hb hT (.off 37 z hb hT (.ts' 38 z (fun W hT=>pkt hb z z z) hT z (.eqv 116 z (kQ (aI hb hb6)) (.done ?_))) (by kernel_rfl) z z) (by kernel_rfl) z z) (by kernel_rfl) z z) (by kernel_rfl) z z) (by kernel_rfl) z z) (by kernel_rfl) z z) (by kernel_rfl) z z) (by kernel_rfl) z z) (by kernel_rfl) z z) (by kernel_rfl) z z) (by kernel_rfl) z z
      have hS : Sep _ _ _ [iy [((sv v2),35,1,List.map (fun (l : List Instr)=>D.row 51 5 (l.map aG)) y1.2)] [],ae (sv v16) 3 1 (D.int .i64) x3.Mem,ae (sv v15) 3 1 (D.int .i64) x3.Regs,bZ (sv v3) 38 3 ao y2.1.Harts (Int.toNat s1) [(sv v15),vi x3.Pc,(sv v16)],ae (sv v14) 3 1 (D.int .i64) x2.Mem,ae (sv v13) 3 1 (D.int .i64) x2.Regs,bZ (sv v9) 38 3 ao y6.Harts (Int.toNat s1) [(sv v13),vi x2.Pc,(sv v14)],.box g3 30 [(sv v9),(sv v10),vi y6.Turn,vi y6.Idle,(sv v11)],ae (sv v10) 44 2 bi y6.Boxes,ae (sv v11) 3 1 (D.int .i64) y6.Out,.box g2 30 [(sv v6),(sv v7),vi y3.1.Turn,vi y3.1.Idle,(sv v8)],ae (sv v6) 38 3 ao y3.1.Harts,ae (sv v7) 44 2 bi y3.1.Boxes,ae (sv v8) 3 1 (D.int .i64) y3.1.Out,.box g1 30 [(sv v3),(sv v4),vi y2.1.Turn,vi y2.1.Idle,(sv v5)],ae (sv v4) 44 2 bi y2.1.Boxes,ae (sv v5) 3 1 (D.int .i64) y2.1.Out,ae (sv v1) 3 1 (D.int .i64) y1.1]:=Sep.wkz hS.p6
      have hS:=Sep.gat (ds:=[ao x3]) (cs:=[(sv v15),vi x3.Pc,(sv v16)]) (L1:=[ae (sv v15) 3 1 (D.int .i64) x3.Regs,ae (sv v16) 3 1 (D.int .i64) x3.Mem]) (.agg (.row (.flat (c1:=[vi x3.Pc]) z (.row .nil)))) (hS.to [2,1,1,0,0,0,0,0,0,0,0,0,0,0,0,0,0,0])
      have hS : Sep _ _ _ [ae (sv v3) 38 3 ao y2.1.Harts,iy [((sv v2),35,1,List.map (fun (l : List Instr)=>D.row 51 5 (l.map aG)) y1.2)] [],ae (sv v14) 3 1 (D.int .i64) x2.Mem,ae (sv v13) 3 1 (D.int .i64) x2.Regs,bZ (sv v9) 38 3 ao y6.Harts (Int.toNat s1) [(sv v13),vi x2.Pc,(sv v14)],.box g3 30 [(sv v9),(sv v10),vi y6.Turn,vi y6.Idle,(sv v11)],ae (sv v10) 44 2 bi y6.Boxes,ae (sv v11) 3 1 (D.int .i64) y6.Out,.box g2 30 [(sv v6),(sv v7),vi y3.1.Turn,vi y3.1.Idle,(sv v8)],ae (sv v6) 38 3 ao y3.1.Harts,ae (sv v7) 44 2 bi y3.1.Boxes,ae (sv v8) 3 1 (D.int .i64) y3.1.Out,.box g1 30 [(sv v3),(sv v4),vi y2.1.Turn,vi y2.1.Idle,(sv v5)],ae (sv v4) 44 2 bi y2.1.Boxes,ae (sv v5) 3 1 (D.int .i64) y2.1.Out,ae (sv v1) 3 1 (D.int .i64) y1.1]:=Sep.back0v hx3 hS
      have hS:=Sep.gat (ds:=[ao x2]) (cs:=[(sv v13),vi x2.Pc,(sv v14)]) (L1:=[ae (sv v13) 3 1 (D.int .i64) x2.Regs,ae (sv v14) 3 1 (D.int .i64) x2.Mem]) (.agg (.row (.flat (c1:=[vi x2.Pc]) z (.row .nil)))) (hS.to [3,2,2,0,0,0,0,0,0,0,0,0,0,0,0,0])
      have hS : Sep _ _ _ [ae (sv v9) 38 3 ao y6.Harts,ae (sv v3) 38 3 ao y2.1.Harts,iy [((sv v2),35,1,List.map (fun (l : List Instr)=>D.row 51 5 (l.map aG)) y1.2)] [],.box g3 30 [(sv v9),(sv v10),vi y6.Turn,vi y6.Idle,(sv v11)],ae (sv v10) 44 2 bi y6.Boxes,ae (sv v11) 3 1 (D.int .i64) y6.Out,.box g2 30 [(sv v6),(sv v7),vi y3.1.Turn,vi y3.1.Idle,(sv v8)],ae (sv v6) 38 3 ao y3.1.Harts,ae (sv v7) 44 2 bi y3.1.Boxes,ae (sv v8) 3 1 (D.int .i64) y3.1.Out,.box g1 30 [(sv v3),(sv v4),vi y2.1.Turn,vi y2.1.Idle,(sv v5)],ae (sv v4) 44 2 bi y2.1.Boxes,ae (sv v5) 3 1 (D.int .i64) y2.1.Out,ae (sv v1) 3 1 (D.int .i64) y1.1]:=Sep.back0v hx2 hS
      exact ⟨z,sb z,hS.to [2,2,0,1,1,1,1,1,1,1,0,0,0,0]⟩
     have hg8:=hb
     have h_b6:=aJ hb hb6
     refine .t1g 27 z hg8 (fun W hT=>fa T.f30_0 z z z) hT (.t1g 28 z hg8 (fun W hT=>ld T.t27 hT.p7 z z z z z) hT (.t1g 29 z hg8 (fun W hT=>pr z) hT (.t1g 30 z hg8 (fun W hT=>ixh hT.p5 hx2 T.u27 T.t38 z z z) hT (.t1g 31 z hg8 (fun W hT=>fe T.f38_0 z z z) hT (.t1g 32 z hg8 (fun W hT=>lde (hT.p5.hcellsv) T.t23 z z z z z) hT ?_ (by kernel_rfl) z z) (by kernel_rfl) z z) (by kernel_rfl) z z) (by kernel_rfl) z z) (by kernel_rfl) z z) (by kernel_rfl) z z
     have ⟨x5,hx5,h_b6⟩:=bnd h_b6
     refine .t1g 33 z hg8 (fun W hT=>ixv hS.p4.lv hx5 T.u23 T.t3 z z z) hT (.t1g 34 z hg8 (fun W hT=>lde (RV.flat hT.p4.lv hx5 z) T.t3 z z z z z) hT (.t1g 35 z hg8 (fun W hT=>pr z) hT (.t1g 36 z hg8 (fun W hT=>pr z) hT (.t1g 37 z hg8 (fun W hT=>pr z) hT (.ts' 38 z (fun W hT=>pkf hg8 z z z) hT z (.eqv 116 z (kQ h_b6) (.done ?_))) (by kernel_rfl) z z) (by kernel_rfl) z z) (by kernel_rfl) z z) (by kernel_rfl) z z) (by kernel_rfl) z z
     have hS : Sep _ _ _ [iy [((sv v2),35,1,List.map (fun (l : List Instr)=>D.row 51 5 (l.map aG)) y1.2)] [],ae (sv v16) 3 1 (D.int .i64) x3.Mem,ae (sv v15) 3 1 (D.int .i64) x3.Regs,bZ (sv v3) 38 3 ao y2.1.Harts (Int.toNat s1) [(sv v15),vi x3.Pc,(sv v16)],ae (sv v14) 3 1 (D.int .i64) x2.Mem,ae (sv v13) 3 1 (D.int .i64) x2.Regs,bZ (sv v9) 38 3 ao y6.Harts (Int.toNat s1) [(sv v13),vi x2.Pc,(sv v14)],.box g3 30 [(sv v9),(sv v10),vi y6.Turn,vi y6.Idle,(sv v11)],ae (sv v10) 44 2 bi y6.Boxes,ae (sv v11) 3 1 (D.int .i64) y6.Out,.box g2 30 [(sv v6),(sv v7),vi y3.1.Turn,vi y3.1.Idle,(sv v8)],ae (sv v6) 38 3 ao y3.1.Harts,ae (sv v7) 44 2 bi y3.1.Boxes,ae (sv v8) 3 1 (D.int .i64) y3.1.Out,.box g1 30 [(sv v3),(sv v4),vi y2.1.Turn,vi y2.1.Idle,(sv v5)],ae (sv v4) 44 2 bi y2.1.Boxes,ae (sv v5) 3 1 (D.int .i64) y2.1.Out,ae (sv v1) 3 1 (D.int .i64) y1.1]:=Sep.wkz hS.p6
     have hS:=Sep.gat (ds:=[ao x3]) (cs:=[(sv v15),vi x3.Pc,(sv v16)]) (L1:=[ae (sv v15) 3 1 (D.int .i64) x3.Regs,ae (sv v16) 3 1 (D.int .i64) x3.Mem]) (.agg (.row (.flat (c1:=[vi x3.Pc]) z (.row .nil)))) (hS.to [2,1,1,0,0,0,0,0,0,0,0,0,0,0,0,0,0,0])
     have hS : Sep _ _ _ [ae (sv v3) 38 3 ao y2.1.Harts,iy [((sv v2),35,1,List.map (fun (l : List Instr)=>D.row 51 5 (l.map aG)) y1.2)] [],ae (sv v14) 3 1 (D.int .i64) x2.Mem,ae (sv v13) 3 1 (D.int .i64) x2.Regs,bZ (sv v9) 38 3 ao y6.Harts (Int.toNat s1) [(sv v13),vi x2.Pc,(sv v14)],.box g3 30 [(sv v9),(sv v10),vi y6.Turn,vi y6.Idle,(sv v11)],ae (sv v10) 44 2 bi y6.Boxes,ae (sv v11) 3 1 (D.int .i64) y6.Out,.box g2 30 [(sv v6),(sv v7),vi y3.1.Turn,vi y3.1.Idle,(sv v8)],ae (sv v6) 38 3 ao y3.1.Harts,ae (sv v7) 44 2 bi y3.1.Boxes,ae (sv v8) 3 1 (D.int .i64) y3.1.Out,.box g1 30 [(sv v3),(sv v4),vi y2.1.Turn,vi y2.1.Idle,(sv v5)],ae (sv v4) 44 2 bi y2.1.Boxes,ae (sv v5) 3 1 (D.int .i64) y2.1.Out,ae (sv v1) 3 1 (D.int .i64) y1.1]:=Sep.back0v hx3 hS
     have hS:=Sep.gat (ds:=[ao x2]) (cs:=[(sv v13),vi x2.Pc,(sv v14)]) (L1:=[ae (sv v13) 3 1 (D.int .i64) x2.Regs,ae (sv v14) 3 1 (D.int .i64) x2.Mem]) (.agg (.row (.flat (c1:=[vi x2.Pc]) z (.row .nil)))) (hS.to [3,2,2,0,0,0,0,0,0,0,0,0,0,0,0,0])
     have hS : Sep _ _ _ [ae (sv v9) 38 3 ao y6.Harts,ae (sv v3) 38 3 ao y2.1.Harts,iy [((sv v2),35,1,List.map (fun (l : List Instr)=>D.row 51 5 (l.map aG)) y1.2)] [],.box g3 30 [(sv v9),(sv v10),vi y6.Turn,vi y6.Idle,(sv v11)],ae (sv v10) 44 2 bi y6.Boxes,ae (sv v11) 3 1 (D.int .i64) y6.Out,.box g2 30 [(sv v6),(sv v7),vi y3.1.Turn,vi y3.1.Idle,(sv v8)],ae (sv v6) 38 3 ao y3.1.Harts,ae (sv v7) 44 2 bi y3.1.Boxes,ae (sv v8) 3 1 (D.int .i64) y3.1.Out,.box g1 30 [(sv v3),(sv v4),vi y2.1.Turn,vi y2.1.Idle,(sv v5)],ae (sv v4) 44 2 bi y2.1.Boxes,ae (sv v5) 3 1 (D.int .i64) y2.1.Out,ae (sv v1) 3 1 (D.int .i64) y1.1]:=Sep.back0v hx2 hS
     exact ⟨z,sb z,hS.to [2,2,0,1,1,1,1,1,1,1,0,0,0,0]⟩
    have hg7:=hb
    have h_b5:=aJ hb hb5
    refine .t1g 7 z hg7 (fun W hT=>fa T.f30_0 z z z) hT (.t1g 8 z hg7 (fun W hT=>ld T.t27 hT.p7 z z z z z) hT (.t1g 9 z hg7 (fun W hT=>pr z) hT (.t1g 10 z hg7 (fun W hT=>ixh hT.p5 hx2 T.u27 T.t38 z z z) hT (.t1g 11 z hg7 (fun W hT=>fe T.f38_2 z z z) hT (.t1g 12 z hg7 (fun W hT=>lde (hT.p5.hcellsv) T.t23 z z z z z) hT (.t1g 13 z hg7 (fun W hT=>pr z) hT ?_ (by kernel_rfl) z z) (by kernel_rfl) z z) (by kernel_rfl) z z) (by kernel_rfl) z z) (by kernel_rfl) z z) (by kernel_rfl) z z) (by kernel_rfl) z z
    have ⟨r3,hr3,h_b5⟩:=bnd h_b5
    refine .t1g 14 z hg7 (fun W hT=>slv hr3 hT.p3.lv T.u23 T.t3 z z z z) hT (.t1g 15 z hg7 (fun W hT=>fa T.f30_0 z z z) hT (.t1g 16 z hg7 (fun W hT=>ld T.t27 (hT.pull (i:=14) z) z z z z z) hT (.t1g 17 z hg7 (fun W hT=>pr z) hT (.t1g 18 z hg7 (fun W hT=>ixh hT.p2 hx3 T.u27 T.t38 z z z) hT (.t1g 19 z hg7 (fun W hT=>fe T.f38_2 z z z) hT (.t1g 20 z hg7 (fun W hT=>lde (hT.p2.hcellsv) T.t23 z z z z z) hT (.t1g 21 z hg7 (fun W hT=>pr z) hT ?_ (by kernel_rfl) z z) (by kernel_rfl) z z) (by kernel_rfl) z z) (by kernel_rfl) z z) (by kernel_rfl) z z) (by kernel_rfl) z z) (by kernel_rfl) z z) (by kernel_rfl) z z
    have ⟨r4,hr4,h_b5⟩:=bnd h_b5
    refine .t1g 22 z hg7 (fun W hT=>slv hr4 hT.lv T.u23 T.t3 z z z z) hT ?_ (by kernel_rfl) z z
    have ⟨y11,hy11,h_b5⟩:=bnd h_b5
    refine .by1 23 z (.gd hg7 (.cO hS Tryz.func11 (fC hy11 (us hr3 hS.p3.lv) (us hr4 hS.lv)) z z ?_))
    intro W hS
    have hT:=hS.to [0,0,0,0,0,0,0,0,0,0,0,0,0,0,0,0,0,0]
    refine ⟨fun _=>hT,.t1g 24 z hg7 (fun W hT=>pr z) hT (.ts' 25 z (fun W hT=>pkf hg7 z z z) hT z (.eqv 103 z (kQ h_b5) (.tp' 26 z z hT (.both (b5) (fun hb=>?_) (fun hb=>?_))))) (by kernel_rfl) z z⟩
    ·refine .off 27 z hb hT (.off 28 z hb hT (.off 29 z hb hT (.off 30 z hb hT (.off 31 z hb hT (.off 32 z hb hT (.off 33 z hb hT (.off 34 z hb hT (.off 35 z hb hT (.off 36 z hb hT (.off 37 z hb hT (.ts' 38 z (fun W hT=>pkt hb z z z) hT z (.eqv 116 z (kQ (aI hb hb6)) (.done ?_))) (by kernel_rfl) z z) (by kernel_rfl) z z) (by kernel_rfl) z z) (by kernel_rfl) z z) (by kernel_rfl) z z) (by kernel_rfl) z z) (by kernel_rfl) z z) (by kernel_rfl) z z) (by kernel_rfl) z z) (by kernel_rfl) z z) (by kernel_rfl) z z
     have hS : Sep _ _ _ [iy [((sv v2),35,1,List.map (fun (l : List Instr)=>D.row 51 5 (l.map aG)) y1.2)] [],ae (sv v16) 3 1 (D.int .i64) x3.Mem,ae (sv v15) 3 1 (D.int .i64) x3.Regs,bZ (sv v3) 38 3 ao y2.1.Harts (Int.toNat s1) [(sv v15),vi x3.Pc,(sv v16)],ae (sv v14) 3 1 (D.int .i64) x2.Mem,ae (sv v13) 3 1 (D.int .i64) x2.Regs,bZ (sv v9) 38 3 ao y6.Harts (Int.toNat s1) [(sv v13),vi x2.Pc,(sv v14)],.box g3 30 [(sv v9),(sv v10),vi y6.Turn,vi y6.Idle,(sv v11)],ae (sv v10) 44 2 bi y6.Boxes,ae (sv v11) 3 1 (D.int .i64) y6.Out,.box g2 30 [(sv v6),(sv v7),vi y3.1.Turn,vi y3.1.Idle,(sv v8)],ae (sv v6) 38 3 ao y3.1.Harts,ae (sv v7) 44 2 bi y3.1.Boxes,ae (sv v8) 3 1 (D.int .i64) y3.1.Out,.box g1 30 [(sv v3),(sv v4),vi y2.1.Turn,vi y2.1.Idle,(sv v5)],ae (sv v4) 44 2 bi y2.1.Boxes,ae (sv v5) 3 1 (D.int .i64) y2.1.Out,ae (sv v1) 3 1 (D.int .i64) y1.1]:=Sep.wkz hS.p6
     have hS:=Sep.gat (ds:=[ao x3]) (cs:=[(sv v15),vi x3.Pc,(sv v16)]) (L1:=[ae (sv v15) 3 1 (D.int .i64) x3.Regs,ae (sv v16) 3 1 (D.int .i64) x3.Mem]) (.agg (.row (.flat (c1:=[vi x3.Pc]) z (.row .nil)))) (hS.to [2,1,1,0,0,0,0,0,0,0,0,0,0,0,0,0,0,0])
     have hS : Sep _ _ _ [ae (sv v3) 38 3 ao y2.1.Harts,iy [((sv v2),35,1,List.map (fun (l : List Instr)=>D.row 51 5 (l.map aG)) y1.2)] [],ae (sv v14) 3 1 (D.int .i64) x2.Mem,ae (sv v13) 3 1 (D.int .i64) x2.Regs,bZ (sv v9) 38 3 ao y6.Harts (Int.toNat s1) [(sv v13),vi x2.Pc,(sv v14)],.box g3 30 [(sv v9),(sv v10),vi y6.Turn,vi y6.Idle,(sv v11)],ae (sv v10) 44 2 bi y6.Boxes,ae (sv v11) 3 1 (D.int .i64) y6.Out,.box g2 30 [(sv v6),(sv v7),vi y3.1.Turn,vi y3.1.Idle,(sv v8)],ae (sv v6) 38 3 ao y3.1.Harts,ae (sv v7) 44 2 bi y3.1.Boxes,ae (sv v8) 3 1 (D.int .i64) y3.1.Out,.box g1 30 [(sv v3),(sv v4),vi y2.1.Turn,vi y2.1.Idle,(sv v5)],ae (sv v4) 44 2 bi y2.1.Boxes,ae (sv v5) 3 1 (D.int .i64) y2.1.Out,ae (sv v1) 3 1 (D.int .i64) y1.1]:=Sep.back0v hx3 hS
     have hS:=Sep.gat (ds:=[ao x2]) (cs:=[(sv v13),vi x2.Pc,(sv v14)]) (L1:=[ae (sv v13) 3 1 (D.int .i64) x2.Regs,ae (sv v14) 3 1 (D.int .i64) x2.Mem]) (.agg (.row (.flat (c1:=[vi x2.Pc]) z (.row .nil)))) (hS.to [3,2,2,0,0,0,0,0,0,0,0,0,0,0,0,0])
     have hS : Sep _ _ _ [ae (sv v9) 38 3 ao y6.Harts,ae (sv v3) 38 3 ao y2.1.Harts,iy [((sv v2),35,1,List.map (fun (l : List Instr)=>D.row 51 5 (l.map aG)) y1.2)] [],.box g3 30 [(sv v9),(sv v10),vi y6.Turn,vi y6.Idle,(sv v11)],ae (sv v10) 44 2 bi y6.Boxes,ae (sv v11) 3 1 (D.int .i64) y6.Out,.box g2 30 [(sv v6),(sv v7),vi y3.1.Turn,vi y3.1.Idle,(sv v8)],ae (sv v6) 38 3 ao y3.1.Harts,ae (sv v7) 44 2 bi y3.1.Boxes,ae (sv v8) 3 1 (D.int .i64) y3.1.Out,.box g1 30 [(sv v3),(sv v4),vi y2.1.Turn,vi y2.1.Idle,(sv v5)],ae (sv v4) 44 2 bi y2.1.Boxes,ae (sv v5) 3 1 (D.int .i64) y2.1.Out,ae (sv v1) 3 1 (D.int .i64) y1.1]:=Sep.back0v hx2 hS
     exact ⟨z,sb z,hS.to [2,2,0,1,1,1,1,1,1,1,0,0,0,0]⟩
    have hg9:=hb
    have h_b6:=aJ hb hb6
    refine .t1g 27 z hg9 (fun W hT=>fa T.f30_0 z z z) hT (.t1g 28 z hg9 (fun W hT=>ld T.t27 hT.p7 z z z z z) hT (.t1g 29 z hg9 (fun W hT=>pr z) hT (.t1g 30 z hg9 (fun W hT=>ixh hT.p5 hx2 T.u27 T.t38 z z z) hT (.t1g 31 z hg9 (fun W hT=>fe T.f38_0 z z z) hT (.t1g 32 z hg9 (fun W hT=>lde (hT.p5.hcellsv) T.t23 z z z z z) hT ?_ (by kernel_rfl) z z) (by kernel_rfl) z z) (by kernel_rfl) z z) (by kernel_rfl) z z) (by kernel_rfl) z z) (by kernel_rfl) z z
    have ⟨x6,hx6,h_b6⟩:=bnd h_b6
    refine .t1g 33 z hg9 (fun W hT=>ixv hS.p4.lv hx6 T.u23 T.t3 z z z) hT (.t1g 34 z hg9 (fun W hT=>lde (RV.flat hT.p4.lv hx6 z) T.t3 z z z z z) hT (.t1g 35 z hg9 (fun W hT=>pr z) hT (.t1g 36 z hg9 (fun W hT=>pr z) hT (.t1g 37 z hg9 (fun W hT=>pr z) hT (.ts' 38 z (fun W hT=>pkf hg9 z z z) hT z (.eqv 116 z (kQ h_b6) (.done ?_))) (by kernel_rfl) z z) (by kernel_rfl) z z) (by kernel_rfl) z z) (by kernel_rfl) z z) (by kernel_rfl) z z
    have hS : Sep _ _ _ [iy [((sv v2),35,1,List.map (fun (l : List Instr)=>D.row 51 5 (l.map aG)) y1.2)] [],ae (sv v16) 3 1 (D.int .i64) x3.Mem,ae (sv v15) 3 1 (D.int .i64) x3.Regs,bZ (sv v3) 38 3 ao y2.1.Harts (Int.toNat s1) [(sv v15),vi x3.Pc,(sv v16)],ae (sv v14) 3 1 (D.int .i64) x2.Mem,ae (sv v13) 3 1 (D.int .i64) x2.Regs,bZ (sv v9) 38 3 ao y6.Harts (Int.toNat s1) [(sv v13),vi x2.Pc,(sv v14)],.box g3 30 [(sv v9),(sv v10),vi y6.Turn,vi y6.Idle,(sv v11)],ae (sv v10) 44 2 bi y6.Boxes,ae (sv v11) 3 1 (D.int .i64) y6.Out,.box g2 30 [(sv v6),(sv v7),vi y3.1.Turn,vi y3.1.Idle,(sv v8)],ae (sv v6) 38 3 ao y3.1.Harts,ae (sv v7) 44 2 bi y3.1.Boxes,ae (sv v8) 3 1 (D.int .i64) y3.1.Out,.box g1 30 [(sv v3),(sv v4),vi y2.1.Turn,vi y2.1.Idle,(sv v5)],ae (sv v4) 44 2 bi y2.1.Boxes,ae (sv v5) 3 1 (D.int .i64) y2.1.Out,ae (sv v1) 3 1 (D.int .i64) y1.1]:=Sep.wkz hS.p6
    have hS:=Sep.gat (ds:=[ao x3]) (cs:=[(sv v15),vi x3.Pc,(sv v16)]) (L1:=[ae (sv v15) 3 1 (D.int .i64) x3.Regs,ae (sv v16) 3 1 (D.int .i64) x3.Mem]) (.agg (.row (.flat (c1:=[vi x3.Pc]) z (.row .nil)))) (hS.to [2,1,1,0,0,0,0,0,0,0,0,0,0,0,0,0,0,0])
    have hS : Sep _ _ _ [ae (sv v3) 38 3 ao y2.1.Harts,iy [((sv v2),35,1,List.map (fun (l : List Instr)=>D.row 51 5 (l.map aG)) y1.2)] [],ae (sv v14) 3 1 (D.int .i64) x2.Mem,ae (sv v13) 3 1 (D.int .i64) x2.Regs,bZ (sv v9) 38 3 ao y6.Harts (Int.toNat s1) [(sv v13),vi x2.Pc,(sv v14)],.box g3 30 [(sv v9),(sv v10),vi y6.Turn,vi y6.Idle,(sv v11)],ae (sv v10) 44 2 bi y6.Boxes,ae (sv v11) 3 1 (D.int .i64) y6.Out,.box g2 30 [(sv v6),(sv v7),vi y3.1.Turn,vi y3.1.Idle,(sv v8)],ae (sv v6) 38 3 ao y3.1.Harts,ae (sv v7) 44 2 bi y3.1.Boxes,ae (sv v8) 3 1 (D.int .i64) y3.1.Out,.box g1 30 [(sv v3),(sv v4),vi y2.1.Turn,vi y2.1.Idle,(sv v5)],ae (sv v4) 44 2 bi y2.1.Boxes,ae (sv v5) 3 1 (D.int .i64) y2.1.Out,ae (sv v1) 3 1 (D.int .i64) y1.1]:=Sep.back0v hx3 hS
    have hS:=Sep.gat (ds:=[ao x2]) (cs:=[(sv v13),vi x2.Pc,(sv v14)]) (L1:=[ae (sv v13) 3 1 (D.int .i64) x2.Regs,ae (sv v14) 3 1 (D.int .i64) x2.Mem]) (.agg (.row (.flat (c1:=[vi x2.Pc]) z (.row .nil)))) (hS.to [3,2,2,0,0,0,0,0,0,0,0,0,0,0,0,0])
    have hS : Sep _ _ _ [ae (sv v9) 38 3 ao y6.Harts,ae (sv v3) 38 3 ao y2.1.Harts,iy [((sv v2),35,1,List.map (fun (l : List Instr)=>D.row 51 5 (l.map aG)) y1.2)] [],.box g3 30 [(sv v9),(sv v10),vi y6.Turn,vi y6.Idle,(sv v11)],ae (sv v10) 44 2 bi y6.Boxes,ae (sv v11) 3 1 (D.int .i64) y6.Out,.box g2 30 [(sv v6),(sv v7),vi y3.1.Turn,vi y3.1.Idle,(sv v8)],ae (sv v6) 38 3 ao y3.1.Harts,ae (sv v7) 44 2 bi y3.1.Boxes,ae (sv v8) 3 1 (D.int .i64) y3.1.Out,.box g1 30 [(sv v3),(sv v4),vi y2.1.Turn,vi y2.1.Idle,(sv v5)],ae (sv v4) 44 2 bi y2.1.Boxes,ae (sv v5) 3 1 (D.int .i64) y2.1.Out,ae (sv v1) 3 1 (D.int .i64) y1.1]:=Sep.back0v hx2 hS
    exact ⟨z,sb z,hS.to [2,2,0,1,1,1,1,1,1,1,0,0,0,0]⟩
   intro x E W hJ
   obtain ⟨rfl,hE,hS⟩:=hJ
   refine ⟨_,hE.sub,?_⟩
   refine .cs z h ?_ ?_ <;> intro h
   ·refine .g (.qn z (.ret ?_))
    cases h
    exact ⟨by simp,z,ac (vs:=[_]) () (rt z rn) z (hS.to [])⟩
   refine .skip (.region (.q z (.q z (.q z (.nil ?_)))))
   cases h
   exact ⟨z,sb z,hS.to [1,1,1,1,1,1,1,1,1,1,1,1,1,0]⟩
  refine .exit ?_
  cases h
  exact ⟨by simp,z,sb z,hS.to [0,0,0,0,0,0,0,0,0,0,0,0,0,0]⟩
 intro x E W hJ
 rcases y7 with o3 | o4
 ·obtain ⟨rfl,hF⟩:=hJ
  refine ⟨_,fun _ _ h=>h,?_⟩
  cases h
  exact hF
 obtain ⟨rfl,hE,hS⟩:=hJ
 refine ⟨_,hE.sub,?_⟩
 obtain rfl:=o9 h
 exact .g (.qn z (.ret (ac (vs:=[_]) () (rt z rn) z (hS.to []))))
end
end Go.Proofs.YtcljimkjmklkmaaGreatDoor.N
namespace Go.Proofs.YtcljimkjmklkmaaGreatDoor.X
noncomputable section
variable {P : Program} {w : World} {T : Nat → Prop} {t e : TypeId} {size : Nat} {k : IntKind} {α : Type} {enc : α → D} {H : Type} {en : TypeId × Value → H} {base : Nat} {spare : Nat → Bool} {held : Bool}
def yg (P : Program) (t : TypeId) : Option (List TypeId):=match P.underlying t with
 | some (.struct fs)=>some (fs.toList.map (·.type))
 | _=>none
mutual
def Typ (P : Program) : D → TypeId → Prop
 | .int k n,t=>P.underlying t = some (.int k) ∧ (Lit.int k n).wf = true
 | .bool _,t=>P.underlying t = some .bool
 | .str s,t=>P.underlying t = some .string ∧ s.size ≤ maxLen
 | .row e size xs,t=>P.underlying t = some (.slice e) ∧ size = P.cellsOf e ∧ uW P xs e
 | .agg xs,t=>∃ ts,yg P t = some ts ∧ BG P xs ts
def uW (P : Program) : List D → TypeId → Prop
 | [],_=>True
 | x :: xs,e=>Typ P x e ∧ uW P xs e
def BG (P : Program) : List D → List TypeId → Prop
 | [],[]=>True
 | x :: xs,t :: ts=>Typ P x t ∧ BG P xs ts
 | _,_=>False
end
def ns (P : Program) : List Field → Nat → Option Nat
 | [],k=>some k
 | f :: r,k=>match Nat.beq f.offset k with
  | true=>ns P r (k + P.cellsOf f.type)
  | false=>none
def okT (P : Program) (ts : List TypeId) (t : TypeId) : Bool:=match P.underlying t with
 | some (.int _) | some .bool | some .string=>Nat.beq (P.cellsOf t) 1
 | some (.slice e)=>Nat.beq (P.cellsOf t) 1 && ts.contains e && !(Nat.beq (P.cellsOf e) 0)
 | some (.struct fs)=>(match ns P fs.toList 0 with
  | some n=>Nat.beq n (P.cellsOf t)
  | none=>false) && fs.toList.all (fun f=>ts.contains f.type)
 | _=>false
theorem D.rd_length : ∀ {d : D} {cs : List Value},D.rd w d T cs → cs.length = d.sz
 | .int _ _,_,h=>by simp only [D.rd] at h; subst h; rfl
 | .bool _,_,h=>by simp only [D.rd] at h; subst h; rfl
 | .str _,_,h=>by simp only [D.rd] at h; subst h; rfl
 | .row _ _ _,_,⟨A,cap,c,h1,_⟩=>by subst h1; rfl
 | .agg xs,_,h=>by simp only [D.sz]; exact m9 (xs:=xs) h
theorem uW.append : ∀ {xs ys : List D},uW P xs e → uW P ys e → uW P (xs ++ ys) e
 | [],_,_,h=>h
 | x :: xs,_,⟨h1,h2⟩,h=>⟨h1,uW.append h2 h⟩
theorem vP {a : Addr} {v : Value} (h : w.cell? a = some v) : Old No w a.block:=⟨World.block_lt_of_cell? w a h,id⟩
theorem vQ {ts : List TypeId} (hts : ts.all (okT P ts) = true) : ∀ {fuel : Nat} {t : TypeId} {cs : List Value} {x : DataW H × List MemPlace},t ∈ ts → DataW.trod en P w base spare held fuel t cs = some x → ∃ d,Typ P d t ∧ D.rd w d (Old No w) cs ∧ d.sz = P.cellsOf t:=by
 intro fuel
 induction fuel with
 | zero=>intro t cs x _ h; simp [DataW.trod] at h
 | succ fuel ih =>
  intro t cs x ht h
  have hok:=List.all_eq_true.1 hts t ht
  unfold okT at hok
  split at hok
  ·rename_i k hu
   obtain ⟨n,rfl,_,hw⟩:=DataW.trod_int hu h
   exact ⟨.int k n,⟨hu,hw⟩,rfl,(Nat.eq_of_beq_eq_true hok).symm⟩
  ·rename_i hu
   obtain ⟨b,rfl,_⟩:=DataW.trod_bool hu h
   exact ⟨.bool b,hu,rfl,(Nat.eq_of_beq_eq_true hok).symm⟩
  ·rename_i hu
   obtain ⟨s,rfl,_,hs⟩:=DataW.trod_string hu h
   exact ⟨.str s,⟨hu,hs⟩,rfl,(Nat.eq_of_beq_eq_true hok).symm⟩
  ·rename_i e hu
   simp only [Bool.and_eq_true,Bool.not_eq_true'] at hok
   obtain ⟨⟨h1,h2⟩,h3⟩:=hok
   have he : e ∈ ts:=by simpa using h2
   have h0 : P.cellsOf e ≠ 0:=by intro h0; rw [h0] at h3; cases h3
   have hc1:=(Nat.eq_of_beq_eq_true h1).symm
   rcases DataW.trod_slice hu h with ⟨rfl,_⟩ | ⟨a,len,cap,elems,rest,n,hn,rfl,_,hb,hl,hm,hlen,hel,_,_⟩
   ·exact ⟨.row e (P.cellsOf e) [],⟨hu,rfl,trivial⟩,⟨none,0,[],rfl,Nat.le_refl _,Nat.zero_le _,by simp,fun h=>absurd rfl h,rfl⟩,hc1⟩
   ·obtain rfl : fuel = n:=by omega
    have key : ∀ m,m ≤ len → ∃ ds c,ds.length = m ∧ uW P ds e ∧ (∀ x ∈ ds,x.sz = P.cellsOf e) ∧ D.rds w ds (Old No w) c ∧ c.length = m * P.cellsOf e ∧ ∀ j u,c[j]? = some u → w.cell? (a.add j) = some u:=by
     intro m
     induction m with
     | zero=>intro _; exact ⟨[],[],rfl,trivial,by simp,rfl,by simp,by simp⟩
     | succ m ihm =>
      intro hle
      obtain ⟨ds,c,k1,k2,k3,k4,k5,k6⟩:=ihm (by omega)
      have hi:=hel m (by omega)
      have hs : ∃ y,elems[m]? = some y:=⟨_,List.getElem?_eq_getElem (by omega)⟩
      obtain ⟨y,hy⟩:=hs
      rw [hy,Option.bind_eq_some_iff] at hi
      obtain ⟨ci,hci,hyi⟩:=hi
      obtain ⟨d,g1,g2,g3⟩:=ih he hyi
      obtain ⟨_,q2,q3⟩:=World.cells?_some hci
      refine ⟨ds ++ [d],c ++ ci,by simp [k1],k2.append ⟨g1,trivial⟩,fun x hx=>?_,sn k4 ⟨ci,[],by simp,D.rd_length g2,g2,rfl⟩,by rw [List.length_append,k5,q2,Nat.add_mul]; omega,fun j u hj=>?_⟩
      ·rcases List.mem_append.1 hx with hx | hx
       ·exact k3 x hx
       ·rw [List.mem_singleton.1 hx]; exact g3
      ·rcases Nat.lt_or_ge j c.length with hj' | hj'
       ·rw [List.getElem?_append_left hj'] at hj; exact k6 j u hj
       ·rw [List.getElem?_append_right hj'] at hj
        have hlt : j - c.length < P.cellsOf e:=by
         rcases Nat.lt_or_ge (j - c.length) ci.length with h | h
         ·omega
         ·rw [List.getElem?_eq_none h] at hj; cases hj
        have:=q3 _ hlt
        rw [hj,Addr.add_add,← k5] at this
        rw [show c.length + (j - c.length) = j by omega] at this
        exact this
    obtain ⟨ds,c,k1,k2,k3,k4,k5,k6⟩:=key len (Nat.le_refl _)
    refine ⟨.row e (P.cellsOf e) ds,⟨hu,rfl,k2⟩,⟨some a,cap,c,by rw [k1],by omega,by omega,k3,fun hne=>⟨a,rfl,?_,k6⟩,k4⟩,hc1⟩
    have hpos : 0 < c.length:=by
     rw [k5,← k1]
     exact Nat.mul_pos (List.length_pos_iff.2 hne) (by omega)
    have h6:=k6 0 _ (List.getElem?_eq_getElem hpos)
    simp only [Addr.add,if_true] at h6
    exact vP h6
  ·rename_i fs hu
   simp only [Bool.and_eq_true] at hok
   obtain ⟨h1,h2⟩:=hok
   split at h1
   ·rename_i tot hcg
    obtain rfl:=Nat.eq_of_beq_eq_true h1
    obtain ⟨xs,n,hn,_,hlen,hxl,hf⟩:=DataW.trod_struct hu h
    obtain rfl : fuel = n:=by omega
    have key : ∀ (gs : List Field) (o : Nat),(∀ f ∈ gs,f.type ∈ ts ∧ ∃ y,DataW.trod en P w base spare held fuel f.type ((cs.drop f.offset).take (P.cellsOf f.type)) = some y) → ns P gs o = some (P.cellsOf t) →
      ∃ ds,BG P ds (gs.map (·.type)) ∧ D.rds w ds (Old No w) (cs.drop o) ∧ o + D.szs ds = P.cellsOf t:=by
     intro gs
     induction gs with
     | nil =>
      intro o _ hc
      simp only [ns,Option.some.injEq] at hc
      subst hc
      exact ⟨[],trivial,by rw [← hlen,List.drop_length]; rfl,rfl⟩
     | cons f gs ihg =>
      intro o hall hc
      simp only [ns] at hc
      split at hc
      ·rename_i ho
       have ho':=Nat.eq_of_beq_eq_true ho
       obtain ⟨hft,y,hy⟩:=hall f (by simp)
       obtain ⟨d,g1,g2,g3⟩:=ih hft hy
       obtain ⟨ds,q1,q2,q3⟩:=ihg _ (fun g hg=>hall g (by simp [hg])) hc
       rw [ho'] at g2
       refine ⟨d :: ds,⟨g1,q1⟩,⟨_,_,?_,D.rd_length g2,g2,q2⟩,?_⟩
       ·rw [← List.drop_drop,List.take_append_drop]
       ·simp only [D.szs,g3]; omega
      ·cases hc
    obtain ⟨ds,q1,q2,q3⟩:=key fs.toList 0 (fun f hf'=>⟨by have:=List.all_eq_true.1 h2 f hf'; simpa using this,by
      obtain ⟨i,hi⟩:=List.getElem?_of_mem hf'
      have hi' : fs[i]? = some f:=by simpa using hi
      have hlt : i < xs.length:=by
       have:=(List.getElem?_eq_some_iff.1 hi).1
       rw [hxl]
       simpa using this
      exact ⟨_,(hf i f hi').trans (List.getElem?_eq_getElem hlt)⟩⟩) hcg
    exact ⟨.agg ds,⟨_,by simp only [yg,hu],q1⟩,q2,by simp only [D.sz]; omega⟩
   ·cases h1
  ·cases hok
def Dec (P : Program) (t : TypeId) (enc : α → D) (Wf : α → Prop) : Prop:=∀ d,Typ P d t → ∃ x,d = enc x ∧ Wf x
theorem Dec.int (hu : P.underlying t = some (.int k)) : Dec P t (D.int k) (fun n=>(Lit.int k n).wf = true):=by
 intro d h
 cases d with
 | int k' n =>
  obtain ⟨h1,h2⟩:=h
  rw [hu] at h1
  injection h1 with h1
  injection h1 with h1
  subst h1
  exact ⟨n,rfl,h2⟩
 | bool b=>rw [show P.underlying t = some .bool from h] at hu; cases hu
 | str s=>rw [show P.underlying t = some .string from h.1] at hu; cases hu
 | row e s xs=>rw [h.1] at hu; cases hu
 | agg xs=>obtain ⟨ts,h1,_⟩:=h; simp [yg,hu] at h1
theorem Dec.bool (hu : P.underlying t = some .bool) : Dec P t D.bool (fun _=>True):=by
 intro d h
 cases d with
 | bool b=>exact ⟨b,rfl,trivial⟩
 | int k' n=>rw [h.1] at hu; cases hu
 | str s=>rw [show P.underlying t = some .string from h.1] at hu; cases hu
 | row e s xs=>rw [h.1] at hu; cases hu
 | agg xs=>obtain ⟨ts,h1,_⟩:=h; simp [yg,hu] at h1
theorem Dec.str (hu : P.underlying t = some .string) : Dec P t D.str (fun s=>s.size ≤ maxLen):=by
 intro d h
 cases d with
 | str s=>exact ⟨s,rfl,h.2⟩
 | bool b=>rw [show P.underlying t = some .bool from h] at hu; cases hu
 | int k' n=>rw [h.1] at hu; cases hu
 | row e s xs=>rw [h.1] at hu; cases hu
 | agg xs=>obtain ⟨ts,h1,_⟩:=h; simp [yg,hu] at h1
theorem Dec.list {Wf : α → Prop} (h : Dec P e enc Wf) : ∀ {xs : List D},uW P xs e → ∃ l : List α,xs = l.map enc ∧ ∀ x ∈ l,Wf x
 | [],_=>⟨[],rfl,by simp⟩
 | d :: xs,⟨h1,h2⟩=>by
  obtain ⟨x,rfl,hx⟩:=h d h1
  obtain ⟨l,rfl,hl⟩:=Dec.list h h2
  exact ⟨x :: l,rfl,fun y hy=>(List.mem_cons.1 hy).elim (fun e=>e ▸ hx) (hl y)⟩
theorem Dec.slice {Wf : α → Prop} (hu : P.underlying t = some (.slice e)) (hc : P.cellsOf e = size) (h : Dec P e enc Wf) : Dec P t (fun (l : List α)=>D.row e size (l.map enc)) (fun l=>∀ x ∈ l,Wf x):=by
 intro d hd
 cases d with
 | row e' s xs =>
  obtain ⟨h1,h2,h3⟩:=hd
  rw [hu] at h1
  injection h1 with h1
  injection h1 with h1
  subst h1
  obtain ⟨l,rfl,hl⟩:=h.list h3
  exact ⟨l,by rw [h2,hc],hl⟩
 | bool b=>rw [show P.underlying t = some .bool from hd] at hu; cases hu
 | int k' n=>rw [hd.1] at hu; cases hu
 | str s=>rw [show P.underlying t = some .string from hd.1] at hu; cases hu
 | agg xs=>obtain ⟨ts,h1,_⟩:=hd; simp [yg,hu] at h1
end
noncomputable section
variable {P : Program} {w : World} {T : Nat → Prop} {t e : TypeId} {size : Nat} {k : IntKind} {α : Type} {H : Type} {en : TypeId × Value → H} {base : Nat} {spare : Nat → Bool} {held : Bool}
def mg : DataW H → List Value
 | .lit (.int k n)=>[.int k n]
 | .lit (.bool b)=>[.bool b]
 | .lit (.string s)=>[.string ⟨s.toArray⟩]
 | .agg ds=>dcellsL ds
 | _=>[]
where dcellsL : List (DataW H) → List Value
 | []=>[]
 | d :: r=>mg d ++ dcellsL r
theorem n9 {γ : Type} (f : γ → DataW H) : ∀ {xs : List γ},mg.dcellsL (xs.map f) = (xs.map fun x=>mg (f x)).flatten
 | []=>rfl
 | x :: xs=>by simp only [List.map_cons,mg.dcellsL,List.flatten_cons,n9 f]
def okF (P : Program) (ts : List TypeId) (t : TypeId) : Bool:=match P.underlying t with
 | some (.int _) | some .bool | some .string=>Nat.beq (P.cellsOf t) 1
 | some (.array n e)=>Nat.beq (P.cellsOf t) (n * P.cellsOf e) && ts.contains e
 | some (.struct fs)=>(match ns P fs.toList 0 with
  | some n=>Nat.beq n (P.cellsOf t)
  | none=>false) && fs.toList.all (fun f=>ts.contains f.type)
 | _=>false
theorem wS {ts : List TypeId} (hts : ts.all (okF P ts) = true) : ∀ {fuel : Nat} {t : TypeId} {cs : List Value} {x : DataW H × List MemPlace},t ∈ ts → DataW.trod en P w base spare held fuel t cs = some x → cs = mg x.1 ∧ cs.length = P.cellsOf t:=by
 intro fuel
 induction fuel with
 | zero=>intro t cs x _ h; simp [DataW.trod] at h
 | succ fuel ih =>
  intro t cs x ht h
  have hok:=List.all_eq_true.1 hts t ht
  unfold okF at hok
  split at hok
  ·rename_i k hu
   obtain ⟨n,rfl,rfl,hw⟩:=DataW.trod_int hu h
   exact ⟨rfl,(Nat.eq_of_beq_eq_true hok).symm⟩
  ·rename_i hu
   obtain ⟨b,rfl,rfl⟩:=DataW.trod_bool hu h
   exact ⟨rfl,(Nat.eq_of_beq_eq_true hok).symm⟩
  ·rename_i hu
   obtain ⟨s,rfl,rfl,hs⟩:=DataW.trod_string hu h
   exact ⟨by simp [mg],(Nat.eq_of_beq_eq_true hok).symm⟩
  ·rename_i n e hu
   simp only [Bool.and_eq_true] at hok
   obtain ⟨h1,h2⟩:=hok
   have he : e ∈ ts:=by simpa using h2
   have h1':=Nat.eq_of_beq_eq_true h1
   obtain ⟨xs,m,hn,rfl,hlen,hxl,hel⟩:=DataW.trod_array hu h
   obtain rfl : fuel = m:=by omega
   refine ⟨?_,hlen⟩
   have key : ∀ j,j ≤ n → cs.take (j * P.cellsOf e) = ((xs.take j).map fun y=>mg y.1).flatten:=by
    intro j
    induction j with
    | zero=>intro _; simp
    | succ j ihj =>
     intro hj
     have hi:=hel j (by omega)
     have hlt : j < xs.length:=by omega
     rw [List.getElem?_eq_getElem hlt] at hi
     obtain ⟨g1,g2⟩:=ih he hi
     rw [← List.take_append_getElem hlt,List.map_append,List.flatten_append,← ihj (by omega)]
     simp only [List.map_cons,List.map_nil,List.flatten_cons,List.flatten_nil,List.append_nil]
     rw [← g1,Nat.add_mul,Nat.one_mul,List.take_add]
   have:=key n (Nat.le_refl _)
   rw [List.take_of_length_le (by omega),List.take_of_length_le (by omega)] at this
   rw [this]
   show _ = mg.dcellsL (xs.map (·.1))
   rw [n9]
  ·rename_i fs hu
   simp only [Bool.and_eq_true] at hok
   obtain ⟨h1,h2⟩:=hok
   split at h1
   ·rename_i tot hcg
    obtain rfl:=Nat.eq_of_beq_eq_true h1
    obtain ⟨xs,n,hn,rfl,hlen,hxl,hf⟩:=DataW.trod_struct hu h
    obtain rfl : fuel = n:=by omega
    refine ⟨?_,hlen⟩
    have key : ∀ (gs : List Field) (o i : Nat),(∀ j f,gs[j]? = some f → fs[i + j]? = some f ∧ f.type ∈ ts) → i + gs.length = xs.length → ns P gs o = some (P.cellsOf t) → cs.drop o = ((xs.drop i).map fun y=>mg y.1).flatten:=by
     intro gs
     induction gs with
     | nil =>
      intro o i _ hlen2 hc
      simp only [ns,Option.some.injEq] at hc
      simp only [List.length_nil,Nat.add_zero] at hlen2
      rw [hc,← hlen,List.drop_length,hlen2,List.drop_length]
      rfl
     | cons f gs ihg =>
      intro o i hall hlen2 hc
      simp only [ns] at hc
      split at hc
      ·rename_i ho
       have ho':=Nat.eq_of_beq_eq_true ho
       obtain ⟨hf0,hft⟩:=hall 0 f rfl
       have hi:=hf i f (by simpa using hf0)
       have hlt : i < xs.length:=by simp only [List.length_cons] at hlen2; omega
       rw [List.getElem?_eq_getElem hlt,ho'] at hi
       obtain ⟨g1,g2⟩:=ih hft hi
       have hr:=ihg (o + P.cellsOf f.type) (i + 1) (fun j f' hj=>by
        have:=hall (j + 1) f' (by simpa using hj)
        rwa [show i + (j + 1) = i + 1 + j by omega] at this) (by simp only [List.length_cons] at hlen2; omega) hc
       rw [List.drop_eq_getElem_cons hlt,List.map_cons,List.flatten_cons,← g1,← hr,← List.drop_drop,List.take_append_drop]
      ·cases hc
    have:=key fs.toList 0 0 (fun j f hj=>⟨by simpa using hj,by
     have:=List.all_eq_true.1 h2 f (List.mem_of_getElem? hj)
     simpa using this⟩) (by simp [hxl]) hcg
    simp only [List.drop_zero] at this
    rw [this]
    show _ = mg.dcellsL (xs.map (·.1))
    rw [n9]
   ·cases h1
  ·cases hok
theorem vR {f : α → List Value} (hs : ∀ x,(f x).length = size) : ∀ {l : List α} {i j : Nat} {x : α} {u : Value},l[i]? = some x → (f x)[j]? = some u → ((l.map f).flatten)[i * size + j]? = some u
 | [],i,j,x,u,h,_=>by simp at h
 | y :: ys,0,j,x,u,h,hu=>by
  have : y = x:=by simpa using h
  subst this
  have hlt : j < (f y).length:=by
   rcases Nat.lt_or_ge j (f y).length with h | h
   ·exact h
   ·rw [List.getElem?_eq_none h] at hu; cases hu
  simp only [List.map_cons,List.flatten_cons,Nat.zero_mul,Nat.zero_add]
  rw [List.getElem?_append_left hlt]
  exact hu
 | y :: ys,i + 1,j,x,u,h,hu=>by
  have ih:=vR hs (l:=ys) (i:=i) (j:=j) (by simpa using h) hu
  simp only [List.map_cons,List.flatten_cons]
  rw [List.getElem?_append_right (by rw [hs,Nat.add_mul]; omega),hs]
  rw [show (i + 1) * size + j - size = i * size + j by rw [Nat.add_mul]; omega]
  exact ih
theorem zG {g : Nat} {f : α → List Value} {l : List α} {cs : Array Value} (hs : ∀ x,(f x).length = size) (hc : cs.toList = (l.map f).flatten) (hv : ∀ j,w.cell? ⟨g,j,none⟩ = cs[j]?) (h0 : Nat.ble 1 ((l.map f).flatten).length = true) : Tab g size f l w:=
 have h1 : 0 < cs.size:=by
  have h1:=Nat.le_of_ble_eq_true h0
  rw [← hc,Array.length_toList] at h1
  omega
 ⟨World.block_lt_of_cell? w ⟨g,0,none⟩ ((hv 0).trans (Array.getElem?_eq_getElem h1)),fun i x hx j v hj=>by
  rw [hv]
  have:=vR hs hx hj
  rw [← hc] at this
  simpa using this⟩
theorem zH {sp : Nat → Bool} {n1 n2 : String} {gs : List (DataW H)} {ps : List MemPlace} (h : DataW.TrodVars en P w sp [n1,n2] gs ps) : ∃ g1 g2,gs = [g1,g2]:=by
 match gs,h with
 | [],h=>exact h.elim
 | [g1],h=>obtain ⟨_,_,_,_,_,_,_,_,_,_,h,_⟩:=h; exact h.elim
 | [g1,g2],_=>exact ⟨g1,g2,rfl⟩
 | g1 :: g2 :: g3 :: r,h=>obtain ⟨_,_,_,_,_,_,_,_,_,_,⟨_,_,_,_,_,_,_,_,_,_,h,_⟩,_⟩:=h; exact h.elim
theorem tJ {ts : List TypeId} (hts : ts.all (okF P ts) = true) {n : String} {d : DataW Unit} {r : List (String × DataW Unit)} {ps : List MemPlace} {g t : Nat} (hg : P.globalNamed n = some g) (ht : (P.globals[g]?).map (·.type) = some t) (hm : t ∈ ts)
  (h : DataW.LaidVars P w ((n,d) :: r) ps) : ∃ cs : Array Value,cs.toList = mg d ∧ (∀ j,w.cell? ⟨g,j,none⟩ = cs[j]?) ∧ ∃ qs,DataW.LaidVars P w r qs:=by
 obtain ⟨g',t',cs,fuel,p,q,h1,h2,h3,h4,h5,_⟩:=h
 obtain rfl:=o9 (hg.symm.trans h1)
 obtain rfl:=o9 (ht.symm.trans h2)
 exact ⟨cs,(wS hts hm h4).1,fun j=>World.var?_cell hg h3 j,q,h5⟩
end

end Go.Proofs.YtcljimkjmklkmaaGreatDoor.X
