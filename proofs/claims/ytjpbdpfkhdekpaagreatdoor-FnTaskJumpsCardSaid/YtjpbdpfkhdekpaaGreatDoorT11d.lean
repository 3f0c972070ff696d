/- Printed by a program of mine: that the program's functions compute it. -/
import Derived.Test.YtjpbdpfkhdekpaaGreatDoorT11
import Derived.Test.YtjpbdpfkhdekpaaGreatDoorT11a
import Derived.Test.YtjpbdpfkhdekpaaGreatDoorT11c
set_option linter.unusedVariables false
set_option maxRecDepth 100000
set_option maxHeartbeats 4000000
namespace Go.Proofs.YtjpbdpfkhdekpaaGreatDoor.N
open Go.Proofs.YtjpbdpfkhdekpaaGreatDoor.X
theorem spec_l33Edges_ok {a0 : List Quad} {a1 : List Fact} {a2 : Int} {v_0 : Hd} {v_1 : Hd} {w : World} {r : (List Int)} (h : spec_l33Edges a0 a1 a2 = some r) (q_0 : RV w (Old No w) (sv v_0) 34 5 dQuad a0) (q_1 : RV w (Old No w) (sv v_1) 124 2 dFact a1) : Calls Tryz.prog 124 #[(sv v_0), (sv v_1), .int .i64 a2] w (Ret No w (fun s : Hd => (sv s)) (fun s => [rowV (sv s) 3 1 (D.int .i64) r])) := by
 unfold spec_l33Edges at h
 refine enter Tryz.func124 rfl rfl ?_
 have hS := Sep.start w
 refine .seq (.region (.q rfl (.nil (.seq (.region (.q rfl (.q rfl ?_)))))))
 have ⟨x1, hx1, h⟩ := bnd h
 refine .s (ixv (hS.keep q_0) hx1 T.u23 T.t34 rfl rfl rfl) rfl (.s (lde (RV.flat (hS.keep q_0) hx1 rfl) T.t34 rfl rfl rfl rfl rfl) rfl (.c (.alloc T.t34 hS ?_ rfl rfl rfl)))
 intro g1 W hS
 refine .c (.st T.t34 hS rfl rfl rfl ?_ rfl rfl rfl rfl rfl)
 intro W hS
 refine .nil (.seq (.seq (.region (.s (fa T.f34_0 rfl rfl rfl) rfl (.s (ld T.t3 hS rfl rfl rfl rfl rfl) rfl (.q rfl (.q rfl ?_)))))))
 have ⟨b1, hb1, h⟩ := bnd h
 refine .chunk 8 23 (b1) hS ?_ ?_
 ·refine .both (x1.Op != 5) (fun hb => ?_) (fun hb => ?_)
  ·refine .xx hb rfl (.xx hb rfl (.xx hb rfl (.xx hb rfl (.xx hb rfl (.xx hb rfl (.xx hb rfl ?_))))))
   cases sel_t hb hb1
   exact .s (pkt hb rfl rfl rfl) rfl (.nil (ck 8 hS rfl rfl rfl rfl))
  have hg1 := hb
  have h := sel_f hb hb1
  refine .g hg1 (.q rfl (.g hg1 (.s (fa T.f34_2 rfl rfl rfl) rfl (.g hg1 (.s (ld T.t3 hS rfl rfl rfl rfl rfl) rfl ?_) rfl)) rfl)) rfl
  have ⟨x2, hx2, h⟩ := bnd h
  refine .g hg1 (.s (ixv (hS.keep q_1) hx2 T.u105 T.t124 rfl rfl rfl) rfl (.g hg1 (.s (fe T.f124_0 rfl rfl rfl) rfl (.g hg1 (.s (lde (RV.flat (hS.keep q_1) hx2 rfl) T.t3 rfl rfl rfl rfl rfl) rfl (.g hg1 (.q rfl (.s (pkf hg1 rfl rfl rfl) rfl ?_)) rfl)) rfl)) rfl)) rfl
  cases h
  exact .nil (ck 8 hS rfl rfl rfl rfl)
 intro W hS
 refine .nil ?_
 refine .cs rfl h ?_ ?_ <;> intro h
 ·refine .seq (.region (.q rfl (.q rfl ?_)))
  have ⟨y1, hy1, h⟩ := bnd h
  refine .c (.call1v hS Tryz.func120 (spec_l31Next_ok hy1 (hS.keep q_0)) rfl rfl ?_ rfl (by kernel_rfl) rfl rfl)
  intro v1 W hS
  obtain rfl := Option.some.inj h
  exact .q rfl (.nil (.ret (fin_ret (vs := [_]) v1 (rt rfl rn) rfl (hS.to [0] rfl))))
 refine .skip (.seq (.seq (.region (.q rfl (.s (fa T.f34_2 rfl rfl rfl) rfl (.s (ld T.t3 hS rfl rfl rfl rfl rfl) rfl ?_))))))
 have ⟨x3, hx3, h⟩ := bnd h
 refine .s (ixv (hS.keep q_1) hx3 T.u105 T.t124 rfl rfl rfl) rfl (.s (fe T.f124_1 rfl rfl rfl) rfl (.s (lde (RV.flat (hS.keep q_1) hx3 rfl) T.t3 rfl rfl rfl rfl rfl) rfl (.q rfl (.nil ?_))))
 refine .cs rfl h ?_ ?_ <;> intro h
 ·refine .seq (.region (.s (fa T.f34_4 rfl rfl rfl) rfl (.s (ld T.t3 hS rfl rfl rfl rfl rfl) rfl (.c (.liv [x1.N] (D.int .i64) T.u31 T.t3 hS rfl rfl rfl rfl ?_ rfl (fun _ => rfl) rfl rfl rfl rfl)))))
  intro v2 W hS
  cases h
  exact .q rfl (.nil (.ret (fin_ret (vs := [_]) v2 (rt rfl rn) rfl (hS.to [0] rfl))))
 refine .skip (.seq (.region (.q rfl (.q rfl (.c (.liv [w64 (a2 + 1)] (D.int .i64) T.u31 T.t3 hS rfl rfl rfl rfl ?_ rfl (fun _ => rfl) rfl rfl rfl rfl))))))
 intro v3 W hS
 cases h
 exact .q rfl (.nil (.ret (fin_ret (vs := [_]) v3 (rt rfl rn) rfl (hS.to [0] rfl))))
theorem spec_l2Flag_ok {a0 : Bool} {w : World} {r : Int} (h : spec_l2Flag a0 = some r) : Calls Tryz.prog 138 #[.bool a0] w (Ret No w (fun s : Unit => .int .i64 r) (fun s => [])) := by
 unfold spec_l2Flag at h
 refine enter Tryz.func138 rfl rfl ?_
 have hS := Sep.start w
 refine .seq (.region (.q rfl (.nil (.seq (.seq (.region (.q rfl (.nil ?_))))))))
 refine .cs rfl h ?_ ?_ <;> intro h
 ·cases h
  exact .seq (.region (.q rfl (.nil (.ret (fin_ret (vs := [_]) () (rt rfl rn) rfl (hS.to [] rfl))))))
 cases h
 exact .skip (.seq (.region (.q rfl (.nil (.ret (fin_ret (vs := [_]) () (rt rfl rn) rfl (hS.to [] rfl)))))))
theorem spec_l2Shift_ok {a0 : Int} {a1 : Int} {a2 : Bool} {w : World} {r : Int} (h : spec_l2Shift a0 a1 a2 = some r) : Calls Tryz.prog 139 #[.int .i64 a0, .int .i64 a1, .bool a2] w (Ret No w (fun s : Unit => .int .i64 r) (fun s => [])) := by
 unfold spec_l2Shift at h
 refine enter Tryz.func139 rfl rfl ?_
 have hS := Sep.start w
 refine .seq (.region (.q rfl (.nil (.seq (.seq (.region (.q rfl (.nil ?_))))))))
 refine .cs rfl h ?_ ?_ <;> intro h
 ·refine .seq (.region (.q rfl (.q rfl (.q rfl ?_))))
  have ⟨d1, hd1, h⟩ := bnd h
  obtain rfl := Option.some.inj h
  exact .s (shr_run hd1 rfl rfl rfl) rfl (.q rfl (.nil (.ret (fin_ret (vs := [_]) () (rt rfl rn) rfl (hS.to [] rfl)))))
 refine .skip (.seq (.region (.q rfl (.q rfl (.q rfl ?_)))))
 have ⟨d2, hd2, h⟩ := bnd h
 refine .s (shr_run hd2 rfl rfl rfl) rfl ?_
 have ⟨y1, hy1, h⟩ := bnd h
 refine .c (.call0 hS Tryz.func73 (spec_Wrap_ok hy1) rfl rfl ?_ rfl (by kernel_rfl) rfl rfl)
 intro W hS
 obtain rfl := Option.some.inj h
 exact .q rfl (.nil (.ret (fin_ret (vs := [_]) () (rt rfl rn) rfl (hS.to [] rfl))))
theorem spec_l2Divide_ok {a0 : Int} {a1 : Int} {w : World} {r : Int} (h : spec_l2Divide a0 a1 = some r) : Calls Tryz.prog 140 #[.int .i64 a0, .int .i64 a1] w (Ret No w (fun s : Unit => .int .i64 r) (fun s => [])) := by
 unfold spec_l2Divide at h
 refine enter Tryz.func140 rfl rfl ?_
 have hS := Sep.start w
 refine .seq (.region (.q rfl (.nil (.seq (.seq (.region (.q rfl (.q rfl (.nil ?_)))))))))
 refine .cs rfl h ?_ ?_ <;> intro h
 ·cases h
  exact .seq (.region (.q rfl (.nil (.ret (fin_ret (vs := [_]) () (rt rfl rn) rfl (hS.to [] rfl))))))
 refine .skip (.seq (.region (.q rfl (.q rfl ?_))))
 have ⟨d1, hd1, h⟩ := bnd h
 refine .s (dq hd1 rfl rfl rfl) rfl ?_
 have ⟨y1, hy1, h⟩ := bnd h
 refine .c (.call0 hS Tryz.func73 (spec_Wrap_ok hy1) rfl rfl ?_ rfl (by kernel_rfl) rfl rfl)
 intro W hS
 obtain rfl := Option.some.inj h
 exact .q rfl (.nil (.ret (fin_ret (vs := [_]) () (rt rfl rn) rfl (hS.to [] rfl))))
theorem spec_l2Remain_ok {a0 : Int} {a1 : Int} {w : World} {r : Int} (h : spec_l2Remain a0 a1 = some r) : Calls Tryz.prog 141 #[.int .i64 a0, .int .i64 a1] w (Ret No w (fun s : Unit => .int .i64 r) (fun s => [])) := by
 unfold spec_l2Remain at h
 refine enter Tryz.func141 rfl rfl ?_
 have hS := Sep.start w
 refine .seq (.region (.q rfl (.nil (.seq (.seq (.region (.q rfl (.q rfl (.nil ?_)))))))))
 refine .cs rfl h ?_ ?_ <;> intro h
 ·obtain rfl := Option.some.inj h
  exact .seq (.region (.q rfl (.q rfl (.nil (.ret (fin_ret (vs := [_]) () (rt rfl rn) rfl (hS.to [] rfl)))))))
 refine .skip (.seq (.region (.q rfl (.q rfl ?_))))
 have ⟨d1, hd1, h⟩ := bnd h
 obtain rfl := Option.some.inj h
 exact .s (dr hd1 rfl rfl rfl) rfl (.q rfl (.nil (.ret (fin_ret (vs := [_]) () (rt rfl rn) rfl (hS.to [] rfl)))))
theorem spec_Apply_ok {a0 : Int} {a1 : Int} {a2 : Int} {w : World} {r : Int × Bool} (h : spec_Apply a0 a1 a2 = some r) : Calls Tryz.prog 134 #[.int .i64 a0, .int .i64 a1, .int .i64 a2] w (Ret No w (fun s : Unit => .tuple #[.int .i64 r.1, .bool r.2]) (fun s => [])) := by
 unfold spec_Apply at h
 refine enter Tryz.func134 rfl rfl ?_
 have hS := Sep.start w
 refine .seq (.region (.q rfl (.q rfl (.nil (.seq (.seq (.region (.q rfl ?_))))))))
 have ⟨y1, hy1, h⟩ := bnd h
 refine .c (.call0 hS Tryz.func51 (spec_OpValid_ok hy1) rfl rfl ?_ rfl (by kernel_rfl) rfl rfl)
 intro W hS
 refine .q rfl (.q rfl ?_)
 have ⟨b1, hb1, h⟩ := bnd h
 refine .chunk 4 15 (b1) hS ?_ ?_
 ·refine .both (!y1) (fun hb => ?_) (fun hb => ?_)
  ·refine .xx hb rfl (.xx hb rfl (.xx hb rfl ?_))
   cases sel_t hb hb1
   exact .s (pkt hb rfl rfl rfl) rfl (.nil (ck 4 hS rfl rfl rfl rfl))
  have hg1 := hb
  have h := sel_f hb hb1
  refine .g hg1 (.q rfl ?_) rfl
  have ⟨y2, hy2, h⟩ := bnd h
  refine .g hg1 (.c (.call0 hS Tryz.func50 (spec_WordValid_ok hy2) rfl rfl ?_ rfl (by kernel_rfl) rfl rfl)) rfl
  intro W hS
  refine .g hg1 (.q rfl (.s (pkf hg1 rfl rfl rfl) rfl ?_)) rfl
  cases h
  exact .nil (ck 4 hS rfl rfl rfl rfl)
 intro W hS
 refine .q rfl ?_
 have ⟨b2, hb2, h⟩ := bnd h
 refine .chunk 4 20 (b2) hS ?_ ?_
 ·refine .both (b1) (fun hb => ?_) (fun hb => ?_)
  ·refine .xx hb rfl (.xx hb rfl (.xx hb rfl ?_))
   cases sel_t hb hb2
   exact .s (pkt hb rfl rfl rfl) rfl (.nil (ck 4 hS rfl rfl rfl rfl))
  have hg2 := hb
  have h := sel_f hb hb2
  refine .g hg2 (.q rfl ?_) rfl
  have ⟨y3, hy3, h⟩ := bnd h
  refine .g hg2 (.c (.call0 hS Tryz.func50 (spec_WordValid_ok hy3) rfl rfl ?_ rfl (by kernel_rfl) rfl rfl)) rfl
  intro W hS
  refine .g hg2 (.q rfl (.s (pkf hg2 rfl rfl rfl) rfl ?_)) rfl
  cases h
  exact .nil (ck 4 hS rfl rfl rfl rfl)
 intro W hS
 refine .nil ?_
 refine .cs rfl h ?_ ?_ <;> intro h
 ·cases h
  exact .seq (.region (.q rfl (.q rfl (.nil (.ret (fin_ret (vs := [_, _]) () (rt rfl (rt rfl rn)) rfl (hS.to [] rfl)))))))
 refine .skip (.seq (.seq (.region (.q rfl (.nil (.block (.seq (.region (.q rfl (.q rfl (.nil ?_)))))))))))
 refine .cs rfl h ?_ ?_ <;> intro h
 ·cases h
  exact .seq (.region (.q rfl (.q rfl (.q rfl (.q rfl (.q rfl (.nil (.ret (fin_ret (vs := [_, _]) () (rt rfl (rt rfl rn)) rfl (hS.to [] rfl))))))))))
 refine .seq (.region (.q rfl (.q rfl (.nil ?_))))
 refine .cs rfl h ?_ ?_ <;> intro h
 ·cases h
  exact .seq (.region (.q rfl (.q rfl (.q rfl (.q rfl (.q rfl (.nil (.ret (fin_ret (vs := [_, _]) () (rt rfl (rt rfl rn)) rfl (hS.to [] rfl))))))))))
 refine .seq (.region (.q rfl (.q rfl (.nil ?_))))
 refine .cs rfl h ?_ ?_ <;> intro h
 ·cases h
  exact .seq (.region (.q rfl (.q rfl (.q rfl (.q rfl (.q rfl (.nil (.ret (fin_ret (vs := [_, _]) () (rt rfl (rt rfl rn)) rfl (hS.to [] rfl))))))))))
 refine .seq (.region (.q rfl (.q rfl (.nil ?_))))
 refine .cs rfl h ?_ ?_ <;> intro h
 ·refine .seq (.region (.q rfl (.q rfl (.q rfl ?_))))
  have ⟨y4, hy4, h⟩ := bnd h
  refine .c (.call0 hS Tryz.func138 (spec_l2Flag_ok hy4) rfl rfl ?_ rfl (by kernel_rfl) rfl rfl)
  intro W hS
  cases h
  exact .q rfl (.q rfl (.nil (.ret (fin_ret (vs := [_, _]) () (rt rfl (rt rfl rn)) rfl (hS.to [] rfl)))))
 refine .seq (.region (.q rfl (.q rfl (.nil ?_))))
 refine .cs rfl h ?_ ?_ <;> intro h
 ·refine .seq (.region (.q rfl (.q rfl (.q rfl ?_))))
  have ⟨y5, hy5, h⟩ := bnd h
  refine .c (.call0 hS Tryz.func138 (spec_l2Flag_ok hy5) rfl rfl ?_ rfl (by kernel_rfl) rfl rfl)
  intro W hS
  cases h
  exact .q rfl (.q rfl (.nil (.ret (fin_ret (vs := [_, _]) () (rt rfl (rt rfl rn)) rfl (hS.to [] rfl)))))
 refine .seq (.region (.q rfl (.q rfl (.nil ?_))))
 refine .cs rfl h ?_ ?_ <;> intro h
 ·refine .seq (.region (.q rfl (.q rfl ?_)))
  have ⟨y6, hy6, h⟩ := bnd h
  refine .c (.call0 hS Tryz.func139 (spec_l2Shift_ok hy6) rfl rfl ?_ rfl (by kernel_rfl) rfl rfl)
  intro W hS
  cases h
  exact .q rfl (.q rfl (.nil (.ret (fin_ret (vs := [_, _]) () (rt rfl (rt rfl rn)) rfl (hS.to [] rfl)))))
 refine .seq (.region (.q rfl (.q rfl (.nil ?_))))
 refine .cs rfl h ?_ ?_ <;> intro h
 ·refine .seq (.region (.q rfl (.q rfl ?_)))
  have ⟨y7, hy7, h⟩ := bnd h
  refine .c (.call0 hS Tryz.func139 (spec_l2Shift_ok hy7) rfl rfl ?_ rfl (by kernel_rfl) rfl rfl)
  intro W hS
  cases h
  exact .q rfl (.q rfl (.nil (.ret (fin_ret (vs := [_, _]) () (rt rfl (rt rfl rn)) rfl (hS.to [] rfl)))))
 refine .seq (.region (.q rfl (.q rfl (.nil ?_))))
 refine .cs rfl h ?_ ?_ <;> intro h
 ·refine .seq (.region (.q rfl (.q rfl (.q rfl ?_))))
  have ⟨y8, hy8, h⟩ := bnd h
  refine .c (.call0 hS Tryz.func73 (spec_Wrap_ok hy8) rfl rfl ?_ rfl (by kernel_rfl) rfl rfl)
  intro W hS
  cases h
  exact .q rfl (.q rfl (.nil (.ret (fin_ret (vs := [_, _]) () (rt rfl (rt rfl rn)) rfl (hS.to [] rfl)))))
 refine .seq (.region (.q rfl (.q rfl (.nil ?_))))
 refine .cs rfl h ?_ ?_ <;> intro h
 ·refine .seq (.region (.q rfl (.q rfl (.q rfl ?_))))
  have ⟨y9, hy9, h⟩ := bnd h
  refine .c (.call0 hS Tryz.func73 (spec_Wrap_ok hy9) rfl rfl ?_ rfl (by kernel_rfl) rfl rfl)
  intro W hS
  cases h
  exact .q rfl (.q rfl (.nil (.ret (fin_ret (vs := [_, _]) () (rt rfl (rt rfl rn)) rfl (hS.to [] rfl)))))
 refine .seq (.region (.q rfl (.q rfl (.nil ?_))))
 refine .cs rfl h ?_ ?_ <;> intro h
 ·refine .seq (.region (.q rfl (.q rfl (.q rfl ?_))))
  have ⟨y10, hy10, h⟩ := bnd h
  refine .c (.call0 hS Tryz.func73 (spec_Wrap_ok hy10) rfl rfl ?_ rfl (by kernel_rfl) rfl rfl)
  intro W hS
  cases h
  exact .q rfl (.q rfl (.nil (.ret (fin_ret (vs := [_, _]) () (rt rfl (rt rfl rn)) rfl (hS.to [] rfl)))))
 refine .seq (.region (.q rfl (.q rfl (.nil ?_))))
 refine .cs rfl h ?_ ?_ <;> intro h
 ·refine .seq (.region (.q rfl (.q rfl ?_)))
  have ⟨y11, hy11, h⟩ := bnd h
  refine .c (.call0 hS Tryz.func140 (spec_l2Divide_ok hy11) rfl rfl ?_ rfl (by kernel_rfl) rfl rfl)
  intro W hS
  cases h
  exact .q rfl (.q rfl (.nil (.ret (fin_ret (vs := [_, _]) () (rt rfl (rt rfl rn)) rfl (hS.to [] rfl)))))
 refine .skip (.seq (.region (.q rfl (.q rfl ?_))))
 have ⟨y12, hy12, h⟩ := bnd h
 refine .c (.call0 hS Tryz.func141 (spec_l2Remain_ok hy12) rfl rfl ?_ rfl (by kernel_rfl) rfl rfl)
 intro W hS
 cases h
 exact .q rfl (.q rfl (.nil (.ret (fin_ret (vs := [_, _]) () (rt rfl (rt rfl rn)) rfl (hS.to [] rfl)))))
theorem spec_l33Result_ok {a0 : Quad} {a1 : Fact} {a2 : Fact} {w : World} {r : Fact} (h : spec_l33Result a0 a1 a2 = some r) : Calls Tryz.prog 127 #[.agg #[.int .i64 a0.Op, .int .i64 a0.Dst, .int .i64 a0.A, .int .i64 a0.B, .int .i64 a0.N], .agg #[.int .i64 a1.Kind, .int .i64 a1.N], .agg #[.int .i64 a2.Kind, .int .i64 a2.N]] w (Ret No w (fun s : Unit => .agg #[.int .i64 r.Kind, .int .i64 r.N]) (fun s => [])) := by
 unfold spec_l33Result at h
 refine enter Tryz.func127 rfl rfl ?_
 have hS := Sep.start w
 refine .seq (.region (.c (.box hS rfl rfl ?_ rfl rfl)))
 intro g1 W hS
 refine .c (.box hS rfl rfl ?_ rfl rfl)
 intro g2 W hS
 refine .c (.box hS rfl rfl ?_ rfl rfl)
 intro g3 W hS
 refine .c (.alloc T.t124 hS ?_ rfl rfl rfl)
 intro g4 W hS
 refine .nil (.seq (.seq (.region (.s (fa T.f124_0 rfl rfl rfl) rfl (.s (ld T.t3 hS.p2 rfl rfl rfl rfl rfl) rfl (.q rfl (.q rfl (.chunk 4 16 ((a1.Kind != 1) || (a2.Kind != 1)) hS ?_ ?_))))))))
 ·refine .both (a1.Kind != 1) (fun hb => ?_) (fun hb => ?_)
  ·exact .xx hb rfl (.xx hb rfl (.xx hb rfl (.s (pkt hb rfl rfl rfl) rfl (.nil (ck 4 hS rfl (or_t hb) rfl rfl)))))
  have hg1 := hb
  exact .g hg1 (.s (fa T.f124_0 rfl rfl rfl) rfl (.g hg1 (.s (ld T.t3 hS.p1 rfl rfl rfl rfl rfl) rfl (.g hg1 (.q rfl (.s (pkf hg1 rfl rfl rfl) rfl (.nil (ck 4 hS rfl (or_f hg1) rfl rfl)))) rfl)) rfl)) rfl
 intro W hS
 refine .nil ?_
 refine .cs rfl h ?_ ?_ <;> intro h
 ·refine .seq (.region (.s (bs T.s124 rfl rfl) rfl (.c (.st T.t124 hS rfl rfl rfl ?_ rfl rfl rfl rfl rfl))))
  intro W hS
  cases h
  exact .nil (.ret (fin_ret (vs := [_]) () (rc hS T.t124 rfl rn rfl rfl) rfl (hS.to [] rfl)))
 refine .skip (.seq (.region (.s (fa T.f34_4 rfl rfl rfl) rfl (.s (ld T.t3 hS.p3 rfl rfl rfl rfl rfl) rfl (.s (fa T.f124_1 rfl rfl rfl) rfl (.s (ld T.t3 hS.p2 rfl rfl rfl rfl rfl) rfl (.s (fa T.f124_1 rfl rfl rfl) rfl (.s (ld T.t3 hS.p1 rfl rfl rfl rfl rfl) rfl ?_))))))))
 have ⟨y1, hy1, h⟩ := bnd h
 refine .c (.call0 hS Tryz.func134 (spec_Apply_ok hy1) rfl rfl ?_ rfl (by kernel_rfl) rfl rfl)
 intro W hS
 refine .q rfl (.q rfl (.q rfl (.q rfl (.q rfl (.nil (.seq (.region (.q rfl (.s (bs T.s124 rfl rfl) rfl (.c (.st T.t124 hS rfl rfl rfl ?_ rfl rfl rfl rfl rfl)))))))))))
 intro W hS
 cases h
 exact .nil (.ret (fin_ret (vs := [_]) () (rc hS T.t124 rfl rn rfl rfl) rfl (hS.to [] rfl)))
theorem spec_l33After_ok {a0 : Quad} {a1 : List Fact} {v_1 : Hd} {w : World} {r : (List Fact)} (h : spec_l33After a0 a1 = some r) (q_1 : RV w (Old No w) (sv v_1) 124 2 dFact a1) : Calls Tryz.prog 125 #[.agg #[.int .i64 a0.Op, .int .i64 a0.Dst, .int .i64 a0.A, .int .i64 a0.B, .int .i64 a0.N], (sv v_1)] w (Ret No w (fun s : Hd => (sv s)) (fun s => [rowV (sv s) 124 2 dFact r])) := by
 unfold spec_l33After at h
 refine enter Tryz.func125 rfl rfl ?_
 have hS := Sep.start w
 refine .seq (.region (.c (.box hS rfl rfl ?_ rfl rfl)))
 intro g1 W hS
 refine .q rfl (.nil (.seq (.region (.c (.liv [] dFact T.u105 T.t124 hS rfl rfl rfl rfl ?_ rfl (fun _ => rfl) rfl rfl rfl rfl)))))
 intro v1 W hS
 refine .q rfl ?_
 have ⟨r1, hr1, h⟩ := bnd h
 refine .c (.apprv hr1 hS (hS.keep q_1) (fun _ => rfl) T.u105 T.t124 rfl rfl rfl ?_ rfl rfl rfl rfl rfl)
 intro v2 W hS
 refine .q rfl (.nil (.seq (.seq (.region (.s (fa T.f34_0 rfl rfl rfl) rfl (.s (ld T.t3 hS.p1 rfl rfl rfl rfl rfl) rfl (.nil (.block (.seq (.region (.q rfl (.q rfl (.nil ?_)))))))))))))
 refine .cs rfl h ?_ ?_ <;> intro h
 ·refine .region (.q rfl (.s (fa T.f34_1 rfl rfl rfl) rfl (.s (ld T.t3 hS.p1 rfl rfl rfl rfl rfl) rfl (.s (fa T.f34_4 rfl rfl rfl) rfl (.s (ld T.t3 hS.p1 rfl rfl rfl rfl rfl) rfl (.s (bs T.s124 rfl rfl) rfl ?_))))))
  have ⟨x1, hx1, h⟩ := bnd h
  refine .s (ixv hS.lendv hx1 T.u105 T.t124 rfl rfl rfl) rfl ?_
  have ⟨r2, hr2, h⟩ := bnd h
  refine .c (.sev hr2 hx1 hS T.t124 rfl rfl rfl rfl rfl rfl ?_ rfl rfl rfl rfl rfl rfl)
  intro W hS
  obtain rfl := Option.some.inj h
  exact .nil (.seq (.region (.q rfl (.q rfl (.nil (.ret (fin_ret (vs := [_]) v2 (rt rfl rn) rfl (hS.to [0] rfl))))))))
 refine .seq (.region (.q rfl (.q rfl (.nil ?_))))
 refine .cs rfl h ?_ ?_ <;> intro h
 ·refine .rk 9 hS [0, 0] T.mix ?_
  intro W hS
  have hT := hS.to [0, 0] rfl
  refine .tp 0 rfl rfl hT (by kernel_rfl) (.ts 1 rfl (fun W hT => fa T.f34_1 rfl rfl rfl) hT rfl (by kernel_rfl) (.ts 2 rfl (fun W hT => ld T.t3 hT.p1 rfl rfl rfl rfl rfl) hT rfl (by kernel_rfl) (.tp 3 rfl rfl hT (by kernel_rfl) (.ts 4 rfl (fun W hT => fa T.f34_2 rfl rfl rfl) hT rfl (by kernel_rfl) (.ts 5 rfl (fun W hT => ld T.t3 hT.p1 rfl rfl rfl rfl rfl) hT rfl (by kernel_rfl) ?_)))))
  have ⟨x2, hx2, h⟩ := bnd h
  refine .ts 6 rfl (fun W hT => ixv (hS.keep q_1) hx2 T.u105 T.t124 rfl rfl rfl) hT rfl (by kernel_rfl) (.ts 7 rfl (fun W hT => lde (RV.flat (hT.keep q_1) hx2 rfl) T.t124 rfl rfl rfl rfl rfl) hT rfl (by kernel_rfl) ?_)
  have ⟨x3, hx3, h⟩ := bnd h
  refine .ts 8 rfl (fun W hT => ixv hS.lendv hx3 T.u105 T.t124 rfl rfl rfl) hT rfl (by kernel_rfl) ?_
  have ⟨r3, hr3, h⟩ := bnd h
  refine .by1 9 rfl (.sev hr3 hx3 hS T.t124 rfl rfl rfl rfl rfl rfl ?_ rfl rfl rfl rfl rfl rfl) (by kernel_rfl)
  intro W hS
  refine ⟨fun h => absurd rfl h, ?_⟩
  obtain rfl := Option.some.inj h
  exact .done (.seq (.region (.q rfl (.q rfl (.nil (.ret (fin_ret (vs := [_]) v2 (rt rfl rn) rfl (hS.to [0] rfl)))))))) (by kernel_rfl)
 refine .seq (.region (.q rfl (.q rfl (.nil ?_))))
 refine .cs rfl h ?_ ?_ <;> intro h
 ·refine .region (.q rfl (.s (fa T.f34_1 rfl rfl rfl) rfl (.s (ld T.t3 hS.p1 rfl rfl rfl rfl rfl) rfl (.s (bs T.s124 rfl rfl) rfl ?_))))
  have ⟨x4, hx4, h⟩ := bnd h
  refine .s (ixv hS.lendv hx4 T.u105 T.t124 rfl rfl rfl) rfl ?_
  have ⟨r4, hr4, h⟩ := bnd h
  refine .c (.sev hr4 hx4 hS T.t124 rfl rfl rfl rfl rfl rfl ?_ rfl rfl rfl rfl rfl rfl)
  intro W hS
  obtain rfl := Option.some.inj h
  exact .nil (.seq (.region (.q rfl (.q rfl (.nil (.ret (fin_ret (vs := [_]) v2 (rt rfl rn) rfl (hS.to [0] rfl))))))))
 refine .seq (.region (.q rfl (.q rfl (.nil ?_))))
 refine .cs rfl h ?_ ?_ <;> intro h
 ·refine .rk 16 hS [0, 0] T.mix ?_
  intro W hS
  have hT := hS.to [0, 0] rfl
  refine .tp 0 rfl rfl hT (by kernel_rfl) (.ts 1 rfl (fun W hT => fa T.f34_1 rfl rfl rfl) hT rfl (by kernel_rfl) (.ts 2 rfl (fun W hT => ld T.t3 hT.p1 rfl rfl rfl rfl rfl) hT rfl (by kernel_rfl) (.ts 3 rfl (fun W hT => ld T.t34 hT.p1 rfl rfl rfl rfl rfl) hT rfl (by kernel_rfl) (.tp 4 rfl rfl hT (by kernel_rfl) (.ts 5 rfl (fun W hT => fa T.f34_2 rfl rfl rfl) hT rfl (by kernel_rfl) (.ts 6 rfl (fun W hT => ld T.t3 hT.p1 rfl rfl rfl rfl rfl) hT rfl (by kernel_rfl) ?_))))))
  have ⟨x5, hx5, h⟩ := bnd h
  refine .ts 7 rfl (fun W hT => ixv (hS.keep q_1) hx5 T.u105 T.t124 rfl rfl rfl) hT rfl (by kernel_rfl) (.ts 8 rfl (fun W hT => lde (RV.flat (hT.keep q_1) hx5 rfl) T.t124 rfl rfl rfl rfl rfl) hT rfl (by kernel_rfl) (.tp 9 rfl rfl hT (by kernel_rfl) (.ts 10 rfl (fun W hT => fa T.f34_3 rfl rfl rfl) hT rfl (by kernel_rfl) (.ts 11 rfl (fun W hT => ld T.t3 hT.p1 rfl rfl rfl rfl rfl) hT rfl (by kernel_rfl) ?_))))
  have ⟨x6, hx6, h⟩ := bnd h
  refine .ts 12 rfl (fun W hT => ixv (hS.keep q_1) hx6 T.u105 T.t124 rfl rfl rfl) hT rfl (by kernel_rfl) (.ts 13 rfl (fun W hT => lde (RV.flat (hT.keep q_1) hx6 rfl) T.t124 rfl rfl rfl rfl rfl) hT rfl (by kernel_rfl) ?_)
  have ⟨y1, hy1, h⟩ := bnd h
  refine .by1 14 rfl (.call0 hS Tryz.func127 (spec_l33Result_ok hy1) rfl rfl ?_ rfl (by kernel_rfl) rfl rfl) (by kernel_rfl)
  intro W hS
  have hT := hS.to [0, 0] rfl
  refine ⟨fun _ => hT, ?_⟩
  have ⟨x7, hx7, h⟩ := bnd h
  refine .ts 15 rfl (fun W hT => ixv hS.lendv hx7 T.u105 T.t124 rfl rfl rfl) hT rfl (by kernel_rfl) ?_
  have ⟨r5, hr5, h⟩ := bnd h
  refine .by1 16 rfl (.sev hr5 hx7 hS T.t124 rfl rfl rfl rfl rfl rfl ?_ rfl rfl rfl rfl rfl rfl) (by kernel_rfl)
  intro W hS
  refine ⟨fun h => absurd rfl h, ?_⟩
  obtain rfl := Option.some.inj h
  exact .done (.seq (.region (.q rfl (.q rfl (.nil (.ret (fin_ret (vs := [_]) v2 (rt rfl rn) rfl (hS.to [0] rfl)))))))) (by kernel_rfl)
 obtain rfl := Option.some.inj h
 exact .skip (.seq (.region (.q rfl (.q rfl (.nil (.ret (fin_ret (vs := [_]) v2 (rt rfl rn) rfl (hS.to [0] rfl))))))))
theorem spec_l33Join_ok {a0 : Fact} {a1 : Fact} {w : World} {r : Fact} (h : spec_l33Join a0 a1 = some r) : Calls Tryz.prog 133 #[.agg #[.int .i64 a0.Kind, .int .i64 a0.N], .agg #[.int .i64 a1.Kind, .int .i64 a1.N]] w (Ret No w (fun s : Unit => .agg #[.int .i64 r.Kind, .int .i64 r.N]) (fun s => [])) := by
 unfold spec_l33Join at h
 refine enter Tryz.func133 rfl rfl ?_
 have hS := Sep.start w
 refine .seq (.region (.c (.box hS rfl rfl ?_ rfl rfl)))
 intro g1 W hS
 refine .c (.box hS rfl rfl ?_ rfl rfl)
 intro g2 W hS
 refine .c (.alloc T.t124 hS ?_ rfl rfl rfl)
 intro g3 W hS
 refine .nil (.seq (.seq (.region (.s (fa T.f124_0 rfl rfl rfl) rfl (.s (ld T.t3 hS.p2 rfl rfl rfl rfl rfl) rfl (.q rfl (.nil ?_)))))))
 refine .cs rfl h ?_ ?_ <;> intro h
 ·refine .seq (.region (.s (ld T.t124 hS.p1 rfl rfl rfl rfl rfl) rfl (.c (.st T.t124 hS rfl rfl rfl ?_ rfl rfl rfl rfl rfl))))
  intro W hS
  obtain rfl := Option.some.inj h
  exact .nil (.ret (fin_ret (vs := [_]) () (rc hS T.t124 rfl rn rfl rfl) rfl (hS.to [] rfl)))
 refine .skip (.seq (.seq (.region (.s (fa T.f124_0 rfl rfl rfl) rfl (.s (ld T.t3 hS.p1 rfl rfl rfl rfl rfl) rfl (.q rfl (.q rfl (.chunk 4 16 ((a1.Kind == 0) || ((a0.Kind == a1.Kind) && ((a0.N == a1.N) && true))) hS ?_ ?_))))))))
 ·refine .both (a1.Kind == 0) (fun hb => ?_) (fun hb => ?_)
  ·exact .xx hb rfl (.xx hb rfl (.xx hb rfl (.s (pkt hb rfl rfl rfl) rfl (.nil (ck 4 hS rfl (or_t hb) rfl rfl)))))
  have hg1 := hb
  exact .g hg1 (.s (ld T.t124 hS.p2 rfl rfl rfl rfl rfl) rfl (.g hg1 (.s (ld T.t124 hS.p1 rfl rfl rfl rfl rfl) rfl (.g hg1 (.s (eqs T.e124 rfl rfl rfl rfl) rfl (.s (pkf hg1 rfl rfl rfl) rfl (.nil (ck 4 hS rfl (or_f hg1) rfl rfl)))) rfl)) rfl)) rfl
 intro W hS
 refine .nil ?_
 refine .cs rfl h ?_ ?_ <;> intro h
 ·refine .seq (.region (.s (ld T.t124 hS.p2 rfl rfl rfl rfl rfl) rfl (.c (.st T.t124 hS rfl rfl rfl ?_ rfl rfl rfl rfl rfl))))
  intro W hS
  obtain rfl := Option.some.inj h
  exact .nil (.ret (fin_ret (vs := [_]) () (rc hS T.t124 rfl rn rfl rfl) rfl (hS.to [] rfl)))
 refine .skip (.seq (.region (.s (bs T.s124 rfl rfl) rfl (.c (.st T.t124 hS rfl rfl rfl ?_ rfl rfl rfl rfl rfl)))))
 intro W hS
 cases h
 exact .nil (.ret (fin_ret (vs := [_]) () (rc hS T.t124 rfl rn rfl rfl) rfl (hS.to [] rfl)))
theorem spec_l33Carry_ok {a0 : List (List Fact)} {a1 : Int} {a2 : List Fact} {v_0 : Hd} {v_2 : Hd} {S : Nat → Prop} {w : World} {r : Bool × (List (List Fact))} (h : spec_l33Carry a0 a1 a2 = some r) (q_2 : RV w (Old S w) (sv v_2) 124 2 dFact a2) (hO : Owns w [rowV (sv v_0) 105 1 (fun (l : List Fact) => D.row 124 2 (l.map dFact)) a0] S) (hlt : ∀ b, S b → b < w.heap.size) : Calls Tryz.prog 126 #[(sv v_0), .int .i64 a1, (sv v_2)] w (Ret S w (fun s : Unit => .bool r.1) (fun s => [rowV (sv v_0) 105 1 (fun (l : List Fact) => D.row 124 2 (l.map dFact)) r.2])) := by
 unfold spec_l33Carry at h
 refine enter Tryz.func126 rfl rfl ?_
 have hS := Sep.startM hO hlt
 refine .seq (.region (.q rfl (.nil (.seq (.region (.q rfl (.nil (.seq (.seq (.region (.q rfl (.nil (.block ?_)))))))))))))
 have ⟨y1, hy1, h⟩ := bnd h
 refine .via (.iter (fun s1 E' W' => SubL E' [(0, (sv v_0)), (1, .int .i64 a1), (2, (sv v_2)), (7, .bool s1.1), (8, .int .i64 s1.2.1)] ∧ Sep S w W' [rowV (sv v_0) 105 1 (fun (l : List Fact) => D.row 124 2 (l.map dFact)) s1.2.2]) (fun y2 x E' W' => x = .exit 0 ∧ SubL E' [(7, .bool y2.1)] ∧ Sep S w W' [rowV (sv v_0) 105 1 (fun (l : List Fact) => D.row 124 2 (l.map dFact)) y2.2]) hy1 ⟨sb rfl, hS.to [0] rfl⟩ ?_) ?_
 ·intro s1 y3 E W h hI
  obtain ⟨hE, hS⟩ := hI
  refine CW.sub hE ?_
  unfold spec_l33Carry_b1 at h
  refine .seq (.seq (.region (.q rfl (.q rfl (.nil ?_)))))
  refine .cs rfl h ?_ ?_ <;> intro h
  ·refine .skip ?_
   have ⟨y4, hy4, h⟩ := bnd h
   refine .seq (CW.via (R' := fun x E' W' => x = .normal ∧ SubL E' [(0, (sv v_0)), (1, .int .i64 a1), (2, (sv v_2)), (7, .bool y4.1), (8, .int .i64 s1.2.1)] ∧ Sep S w W' [rowV (sv v_0) 105 1 (fun (l : List Fact) => D.row 124 2 (l.map dFact)) y4.2]) ?_ ?_)
   ·have h := hy4
    refine .block (.seq ?_)
    have ⟨x1, hx1, h⟩ := bnd h
    obtain ⟨k1, hS⟩ := Sep.outv hS hx1
    obtain ⟨v1, k1, rfl, hS⟩ := hS.orowv
    obtain ⟨rfl, hS⟩ := hS.onil
    have ⟨x4, hx4, h⟩ := bnd h
    have ⟨x5, hx5, h⟩ := bnd h
    have ⟨y6, hy6, h⟩ := bnd h
    refine .via (R' := fun x E' W' => x = .normal ∧ ∃ (g2 : Nat), SubL E' [(0, (sv v_0)), (1, .int .i64 a1), (2, (sv v_2)), (7, .bool s1.1), (8, .int .i64 s1.2.1), (9, .pointer (some ⟨g2, 0, none⟩))] ∧ Sep S w W' [rowV (sv v_0) 105 1 (fun (l : List Fact) => D.row 124 2 (l.map dFact)) s1.2.2, .box g2 124 [.int .i64 y6.Kind, .int .i64 y6.N]]) ?_ ?_
    ·refine .rk 13 hS [0, 0] T.mix ?_
     intro W hS
     have hT := hS.to [0, 0] rfl
     refine .tp 0 rfl rfl hT (by kernel_rfl) (.tp 1 rfl rfl hT (by kernel_rfl) (.ts 2 rfl (fun W hT => ixh hT.p1 hx1 T.u102 T.t105 rfl rfl rfl) hT rfl (by kernel_rfl) (.ts 3 rfl (fun W hT => lde (hT.p1.hcellsv) T.t105 rfl rfl rfl rfl rfl) hT rfl (by kernel_rfl) (.tp 4 rfl rfl hT (by kernel_rfl) (.ts 5 rfl (fun W hT => ixv hS.lendv hx4 T.u105 T.t124 rfl rfl rfl) hT rfl (by kernel_rfl) (.ts 6 rfl (fun W hT => lde (RV.flat hT.lendv hx4 rfl) T.t124 rfl rfl rfl rfl rfl) hT rfl (by kernel_rfl) (.tp 7 rfl rfl hT (by kernel_rfl) (.tp 8 rfl rfl hT (by kernel_rfl) (.ts 9 rfl (fun W hT => ixv (hS.keep q_2) hx5 T.u105 T.t124 rfl rfl rfl) hT rfl (by kernel_rfl) (.ts 10 rfl (fun W hT => lde (RV.flat (hT.keep q_2) hx5 rfl) T.t124 rfl rfl rfl rfl rfl) hT rfl (by kernel_rfl) (.by [11, 12] ⟨⟨_, rfl, ?_⟩, ⟨_, rfl, ?_⟩, trivial⟩ (by kernel_rfl) rfl)))))))))))
     ·refine (.call0 hS Tryz.func133 (spec_l33Join_ok hy6) rfl rfl ?_ rfl (by kernel_rfl) rfl rfl)
      intro W hS
      have hT := hS.to [0, 0] rfl
      refine ⟨fun _ => hT, ?_⟩
      refine .by1 12 rfl (.alloc T.t124 hS ?_ rfl rfl rfl) (by kernel_rfl)
      intro g3 W hS
      have hT := hS.to [1, 1] rfl
      refine ⟨fun _ => hT, ?_⟩
      refine .by1 13 rfl (.st T.t124 hS rfl rfl rfl ?_ rfl rfl rfl rfl rfl) (by kernel_rfl)
      intro W hS
      refine ⟨fun h => absurd rfl h, ?_⟩
      refine .done ?_ (by kernel_rfl)
      have hS := Sep.gat (ds := [.row 124 2 (x1.map dFact)]) (cs := [(sv v1)]) (L1 := [rowV (sv v1) 124 2 dFact x1]) (.row (.nil)) (hS.to [1, 1, 0] rfl)
      have hS : Sep _ _ _ [rowV (sv v_0) 105 1 (fun (l : List Fact) => D.row 124 2 (l.map dFact)) s1.2.2, .box g3 124 [.int .i64 y6.Kind, .int .i64 y6.N]] := Sep.back0v hx1 hS
      exact ⟨rfl, g3, sb rfl, hS.to [0, 0] rfl⟩
     refine (.alloc T.t124 hS ?_ rfl rfl rfl)
     intro g4 W hS
     have hT := hS.to [1, 1] rfl
     refine ⟨fun _ => hT, ?_⟩
     refine .by1 11 rfl (.call0 hS Tryz.func133 (spec_l33Join_ok hy6) rfl rfl ?_ rfl (by kernel_rfl) rfl rfl) (by kernel_rfl)
     intro W hS
     have hT := hS.to [1, 1] rfl
     refine ⟨fun _ => hT, ?_⟩
     refine .by1 13 rfl (.st T.t124 hS rfl rfl rfl ?_ rfl rfl rfl rfl rfl) (by kernel_rfl)
     intro W hS
     refine ⟨fun h => absurd rfl h, ?_⟩
     refine .done ?_ (by kernel_rfl)
     have hS := Sep.gat (ds := [.row 124 2 (x1.map dFact)]) (cs := [(sv v1)]) (L1 := [rowV (sv v1) 124 2 dFact x1]) (.row (.nil)) (hS.to [1, 1, 0] rfl)
     have hS : Sep _ _ _ [rowV (sv v_0) 105 1 (fun (l : List Fact) => D.row 124 2 (l.map dFact)) s1.2.2, .box g4 124 [.int .i64 y6.Kind, .int .i64 y6.N]] := Sep.back0v hx1 hS
     exact ⟨rfl, g4, sb rfl, hS.to [0, 0] rfl⟩
    intro x E W hJ
    obtain ⟨rfl, g5, hE, hS⟩ := hJ
    refine ⟨_, hE.sub, ?_⟩
    refine .seq ?_
    have ⟨x6, hx6, h⟩ := bnd h
    obtain ⟨k2, hS⟩ := Sep.outv hS hx6
    obtain ⟨v2, k2, rfl, hS⟩ := hS.orowv
    obtain ⟨rfl, hS⟩ := hS.onil
    refine .rk 9 hS [0, 0, 0] T.mix ?_
    intro W hS
    have hT := hS.to [0, 0, 0] rfl
    refine .ts 0 rfl (fun W hT => ld T.t124 hT.p2 rfl rfl rfl rfl rfl) hT rfl (by kernel_rfl) (.tp 1 rfl rfl hT (by kernel_rfl) (.tp 2 rfl rfl hT (by kernel_rfl) (.ts 3 rfl (fun W hT => ixh hT.p1 hx6 T.u102 T.t105 rfl rfl rfl) hT rfl (by kernel_rfl) (.ts 4 rfl (fun W hT => lde (hT.p1.hcellsv) T.t105 rfl rfl rfl rfl rfl) hT rfl (by kernel_rfl) (.tp 5 rfl rfl hT (by kernel_rfl) ?_)))))
    have ⟨x8, hx8, h⟩ := bnd h
    refine .ts 6 rfl (fun W hT => ixv hS.lendv hx8 T.u105 T.t124 rfl rfl rfl) hT rfl (by kernel_rfl) (.ts 7 rfl (fun W hT => lde (RV.flat hT.lendv hx8 rfl) T.t124 rfl rfl rfl rfl rfl) hT rfl (by kernel_rfl) (.ts 8 rfl (fun W hT => nes T.e124 rfl rfl rfl rfl) hT rfl (by kernel_rfl) (.done ?_ (by kernel_rfl))))
    refine .cs rfl h ?_ ?_ <;> intro h
    ·refine .seq (.rk 7 hS [0, 0, 0] T.mix ?_)
     intro W hS
     have hT := hS.to [0, 0, 0] rfl
     refine .tp 0 rfl rfl hT (by kernel_rfl) (.tp 1 rfl rfl hT (by kernel_rfl) (.ts 2 rfl (fun W hT => ixh hT.p1 hx6 T.u102 T.t105 rfl rfl rfl) hT rfl (by kernel_rfl) (.ts 3 rfl (fun W hT => lde (hT.p1.hcellsv) T.t105 rfl rfl rfl rfl rfl) hT rfl (by kernel_rfl) (.tp 4 rfl rfl hT (by kernel_rfl) (.ts 5 rfl (fun W hT => ld T.t124 hT.p2 rfl rfl rfl rfl rfl) hT rfl (by kernel_rfl) ?_)))))
     have ⟨x9, hx9, h⟩ := bnd h
     refine .ts 6 rfl (fun W hT => ixv hS.lendv hx9 T.u105 T.t124 rfl rfl rfl) hT rfl (by kernel_rfl) ?_
     have ⟨r1, hr1, h⟩ := bnd h
     refine .by1 7 rfl (.sev hr1 hx9 hS T.t124 rfl rfl rfl rfl rfl rfl ?_ rfl rfl rfl rfl rfl rfl) (by kernel_rfl)
     intro W hS
     refine ⟨fun h => absurd rfl h, ?_⟩
     refine .done (.region (.q rfl (.nil ?_))) (by kernel_rfl)
     have hS := Sep.gat (ds := [.row 124 2 (r1.map dFact)]) (cs := [(sv v2)]) (L1 := [rowV (sv v2) 124 2 dFact r1]) (.row (.nil)) (hS.to [0, 0, 0] rfl)
     have hS : Sep _ _ _ [rowV (sv v_0) 105 1 (fun (l : List Fact) => D.row 124 2 (l.map dFact)) (s1.2.2.set (Int.toNat a1) r1), .box g5 124 [.int .i64 y6.Kind, .int .i64 y6.N]] := hS.backv
     cases h
     exact ⟨rfl, sb rfl, hS.to [0] rfl⟩
    refine .skip ?_
    have hS := Sep.gat (ds := [.row 124 2 (x6.map dFact)]) (cs := [(sv v2)]) (L1 := [rowV (sv v2) 124 2 dFact x6]) (.row (.nil)) (hS.to [0, 0, 0] rfl)
    have hS : Sep _ _ _ [rowV (sv v_0) 105 1 (fun (l : List Fact) => D.row 124 2 (l.map dFact)) s1.2.2, .box g5 124 [.int .i64 y6.Kind, .int .i64 y6.N]] := Sep.back0v hx6 hS
    cases h
    exact ⟨rfl, sb rfl, hS.to [0] rfl⟩
   intro x E W hJ
   obtain ⟨rfl, hE, hS⟩ := hJ
   refine ⟨_, hE.sub, ?_⟩
   refine .region (.q rfl (.q rfl (.q rfl (.nil ?_))))
   cases h
   exact ⟨rfl, sb rfl, hS.to [0] rfl⟩
  refine .exit ?_
  cases h
  exact ⟨by simp, rfl, sb rfl, hS.to [0] rfl⟩
 intro x E W hJ
 obtain ⟨rfl, hE, hS⟩ := hJ
 refine ⟨_, hE.sub, ?_⟩
 cases h
 exact .seq (.region (.q rfl (.q rfl (.nil (.ret (fin_ret (vs := [_]) () (rt rfl rn) rfl (hS.to [0] rfl)))))))
theorem spec_l33Round_ok {a0 : List Quad} {a1 : List (List Fact)} {v_0 : Hd} {v_1 : Hd} {S : Nat → Prop} {w : World} {r : Bool × (List (List Fact))} (h : spec_l33Round a0 a1 = some r) (q_0 : RV w (Old S w) (sv v_0) 34 5 dQuad a0) (hO : Owns w [rowV (sv v_1) 105 1 (fun (l : List Fact) => D.row 124 2 (l.map dFact)) a1] S) (hlt : ∀ b, S b → b < w.heap.size) : Calls Tryz.prog 114 #[(sv v_0), (sv v_1)] w (Ret S w (fun s : Unit => .bool r.1) (fun s => [rowV (sv v_1) 105 1 (fun (l : List Fact) => D.row 124 2 (l.map dFact)) r.2])) := by
 unfold spec_l33Round at h
 refine enter Tryz.func114 rfl rfl ?_
 have hS := Sep.startM hO hlt
 refine .seq (.region (.q rfl (.nil (.seq (.region (.q rfl (.nil (.seq (.seq (.region (.q rfl (.nil (.block ?_)))))))))))))
 have ⟨y1, hy1, h⟩ := bnd h
 refine .via (.iter (fun s1 E' W' => SubL E' [(0, (sv v_0)), (1, (sv v_1)), (5, .bool s1.1), (6, .int .i64 s1.2.1)] ∧ Sep S w W' [rowV (sv v_1) 105 1 (fun (l : List Fact) => D.row 124 2 (l.map dFact)) s1.2.2]) (fun y2 x E' W' => x = .exit 0 ∧ SubL E' [(5, .bool y2.1)] ∧ Sep S w W' [rowV (sv v_1) 105 1 (fun (l : List Fact) => D.row 124 2 (l.map dFact)) y2.2]) hy1 ⟨sb rfl, hS.to [0] rfl⟩ ?_) ?_
 ·intro s1 y3 E W h hI
  obtain ⟨hE, hS⟩ := hI
  refine CW.sub hE ?_
  unfold spec_l33Round_b5 at h
  refine .seq (.seq (.region (.q rfl (.q rfl (.s (lenv (hS.keep q_0) T.u23 rfl rfl) rfl (.q rfl (.nil ?_)))))))
  refine .cs rfl h ?_ ?_ <;> intro h
  ·refine .skip ?_
   have ⟨y4, hy4, h⟩ := bnd h
   refine .seq (CW.via (R' := fun x E' W' => x = .normal ∧ SubL E' [(0, (sv v_0)), (1, (sv v_1)), (5, .bool y4.1), (6, .int .i64 s1.2.1)] ∧ Sep S w W' [rowV (sv v_1) 105 1 (fun (l : List Fact) => D.row 124 2 (l.map dFact)) y4.2]) ?_ ?_)
   ·have h := hy4
    refine .block (.seq (.seq (.region (.q rfl (.q rfl ?_)))))
    have ⟨x1, hx1, h⟩ := bnd h
    refine .s (ixv hS.lendv hx1 T.u102 T.t105 rfl rfl rfl) rfl ?_
    obtain ⟨k1, hS⟩ := Sep.outv hS hx1
    obtain ⟨v1, k1, rfl, hS⟩ := hS.orowv
    obtain ⟨rfl, hS⟩ := hS.onil
    refine .s (lde (hS.p1.hcellsv) T.t105 rfl rfl rfl rfl rfl) rfl ?_
    have ⟨x2, hx2, h⟩ := bnd h
    refine .s (ixv hS.lendv hx2 T.u105 T.t124 rfl rfl rfl) rfl (.s (fe T.f124_0 rfl rfl rfl) rfl (.s (lde (RV.flat hS.lendv hx2 rfl) T.t3 rfl rfl rfl rfl rfl) rfl (.q rfl (.nil ?_))))
    refine .cs rfl h ?_ ?_ <;> intro h
    ·refine .exit ?_
     have hS := Sep.gat (ds := [.row 124 2 (x1.map dFact)]) (cs := [(sv v1)]) (L1 := [rowV (sv v1) 124 2 dFact x1]) (.row (.nil)) (hS.to [0, 0] rfl)
     have hS : Sep _ _ _ [rowV (sv v_1) 105 1 (fun (l : List Fact) => D.row 124 2 (l.map dFact)) s1.2.2] := Sep.back0v hx1 hS
     cases h
     exact ⟨rfl, sb rfl, hS.to [0] rfl⟩
    refine .skip (.seq (.region (.q rfl (.q rfl (.q rfl (.s (ixh hS.p1 hx1 T.u102 T.t105 rfl rfl rfl) rfl (.s (lde (hS.p1.hcellsv) T.t105 rfl rfl rfl rfl rfl) rfl (.q rfl ?_))))))))
    have ⟨y5, hy5, h⟩ := bnd h
    refine .c (.call1v hS Tryz.func124 (spec_l33Edges_ok hy5 (hS.keep q_0) hS.lendv) rfl rfl ?_ rfl (by kernel_rfl) rfl rfl)
    intro v2 W hS
    refine .q rfl (.nil (.seq (.rk 10 hS [0, 0, 0] T.mix ?_)))
    intro W hS
    have hT := hS.to [0, 0, 0] rfl
    refine .tp 0 rfl rfl hT (by kernel_rfl) (.tp 1 rfl rfl hT (by kernel_rfl) ?_)
    have ⟨x3, hx3, h⟩ := bnd h
    refine .ts 2 rfl (fun W hT => ixv (hS.keep q_0) hx3 T.u23 T.t34 rfl rfl rfl) hT rfl (by kernel_rfl) (.ts 3 rfl (fun W hT => lde (RV.flat (hT.keep q_0) hx3 rfl) T.t34 rfl rfl rfl rfl rfl) hT rfl (by kernel_rfl) (.tp 4 rfl rfl hT (by kernel_rfl) (.tp 5 rfl rfl hT (by kernel_rfl) (.ts 6 rfl (fun W hT => ixh hT.p2 hx1 T.u102 T.t105 rfl rfl rfl) hT rfl (by kernel_rfl) (.ts 7 rfl (fun W hT => lde (hT.p2.hcellsv) T.t105 rfl rfl rfl rfl rfl) hT rfl (by kernel_rfl) ?_)))))
    have ⟨y6, hy6, h⟩ := bnd h
    refine .by1 8 rfl (.call1v hS Tryz.func125 (spec_l33After_ok hy6 hS.p1.lendv) rfl rfl ?_ rfl (by kernel_rfl) rfl rfl) (by kernel_rfl)
    intro v3 W hS
    have hT := hS.to [1, 1, 1] rfl
    refine ⟨fun _ => hT, ?_⟩
    refine .tp 9 rfl rfl hT (by kernel_rfl) (.done (.seq (.region (.q rfl (.nil (.block ?_))))) (by kernel_rfl))
    have hS := Sep.gat (ds := [.row 124 2 (x1.map dFact)]) (cs := [(sv v1)]) (L1 := [rowV (sv v1) 124 2 dFact x1]) (.row (.nil)) (hS.to [2, 2, 0, 0] rfl)
    have hS : Sep _ _ _ [rowV (sv v_1) 105 1 (fun (l : List Fact) => D.row 124 2 (l.map dFact)) s1.2.2, rowV (sv v3) 124 2 dFact y6, rowV (sv v2) 3 1 (D.int .i64) y5] := Sep.back0v hx1 hS
    have ⟨y7, hy7, h⟩ := bnd h
    refine .via (.iter (fun s2 E' W' => SubL E' [(0, (sv v_0)), (1, (sv v_1)), (5, .bool s2.1), (6, .int .i64 s1.2.1), (7, (sv v2)), (8, (sv v3)), (9, .int .i64 s2.2.1)] ∧ Sep S w W' [rowV (sv v_1) 105 1 (fun (l : List Fact) => D.row 124 2 (l.map dFact)) s2.2.2, rowV (sv v3) 124 2 dFact y6, rowV (sv v2) 3 1 (D.int .i64) y5]) (fun y8 x E' W' => x = .exit 2 ∧ SubL E' [(0, (sv v_0)), (1, (sv v_1)), (5, .bool y8.1), (6, .int .i64 s1.2.1)] ∧ Sep S w W' [rowV (sv v_1) 105 1 (fun (l : List Fact) => D.row 124 2 (l.map dFact)) y8.2, rowV (sv v3) 124 2 dFact y6, rowV (sv v2) 3 1 (D.int .i64) y5]) hy7 ⟨sb rfl, hS.to [0, 0, 0] rfl⟩ ?_) ?_
    ·intro s2 y9 E W h hI
     obtain ⟨hE, hS⟩ := hI
     refine CW.sub hE ?_
     unfold spec_l33Round_b7 at h
     refine .seq (.seq (.region (.q rfl (.q rfl (.s (lenv hS.p2.lendv T.u31 rfl rfl) rfl (.q rfl (.nil (.cond rfl (fun hb => ?_) (fun hb => ?_)))))))))
     ·have h := sel_t hb h
      refine .skip ?_
      have ⟨y10, hy10, h⟩ := bnd h
      refine .seq (CW.via (R' := fun x E' W' => x = .normal ∧ SubL E' [(0, (sv v_0)), (1, (sv v_1)), (5, .bool y10.1), (6, .int .i64 s1.2.1), (7, (sv v2)), (8, (sv v3)), (9, .int .i64 s2.2.1)] ∧ Sep S w W' [rowV (sv v_1) 105 1 (fun (l : List Fact) => D.row 124 2 (l.map dFact)) y10.2, rowV (sv v3) 124 2 dFact y6, rowV (sv v2) 3 1 (D.int .i64) y5]) ?_ ?_)
      ·have h := hy10
       refine .block (.seq (.region (.q rfl (.q rfl (.q rfl ?_)))))
       have ⟨x4, hx4, h⟩ := bnd h
       refine .s (ixv hS.p2.lendv hx4 T.u31 T.t3 rfl rfl rfl) rfl (.s (lde (RV.flat hS.p2.lendv hx4 rfl) T.t3 rfl rfl rfl rfl rfl) rfl (.q rfl ?_))
       have ⟨y11, hy11, h⟩ := bnd h
       refine .c (.callS2 (L0 := [rowV (sv v_1) 105 1 (fun (l : List Fact) => D.row 124 2 (l.map dFact)) s2.2.2]) hS Tryz.func126 (fun S h1 h2 h3 => (spec_l33Carry_ok hy11 (h3.rdv (k := 0) rfl) h2 (fun b hb => (h1 b hb).2))) rfl rfl ?_ rfl (by kernel_rfl) rfl rfl)
       rintro ⟨⟩ W hS
       refine .nil ?_
       refine .cs rfl h ?_ ?_ <;> intro h
       ·refine .region (.q rfl (.nil ?_))
        cases h
        exact ⟨rfl, sb rfl, hS.to [0, 0, 0] rfl⟩
       refine .skip ?_
       cases h
       exact ⟨rfl, sb rfl, hS.to [0, 0, 0] rfl⟩
      intro x E W hJ
      obtain ⟨rfl, hE, hS⟩ := hJ
      refine ⟨_, hE.sub, ?_⟩
      refine .region (.q rfl (.q rfl (.q rfl (.nil ?_))))
      cases h
      exact ⟨rfl, sb rfl, hS.to [0, 0, 0] rfl⟩
     have h := sel_f hb h
     refine .exit ?_
     cases h
     exact ⟨by simp, rfl, sb rfl, hS.to [0, 0, 0] rfl⟩
    intro x E W hJ
    obtain ⟨rfl, hE, hS⟩ := hJ
    refine ⟨_, hE.sub, ?_⟩
    cases h
    exact ⟨rfl, sb rfl, hS.to [0] rfl⟩
   intro x E W hJ
   obtain ⟨rfl, hE, hS⟩ := hJ
   refine ⟨_, hE.sub, ?_⟩
   refine .region (.q rfl (.q rfl (.q rfl (.nil ?_))))
   cases h
   exact ⟨rfl, sb rfl, hS.to [0] rfl⟩
  refine .exit ?_
  cases h
  exact ⟨by simp, rfl, sb rfl, hS.to [0] rfl⟩
 intro x E W hJ
 obtain ⟨rfl, hE, hS⟩ := hJ
 refine ⟨_, hE.sub, ?_⟩
 cases h
 exact .seq (.region (.q rfl (.q rfl (.nil (.ret (fin_ret (vs := [_]) () (rt rfl rn) rfl (hS.to [0] rfl)))))))
theorem spec_FactsOf_ok {a0 : List Quad} {v_0 : Hd} {w : World} {r : (List (List Fact))} (h : spec_FactsOf a0 = some r) (q_0 : RV w (Old No w) (sv v_0) 34 5 dQuad a0) : Calls Tryz.prog 96 #[(sv v_0)] w (Ret No w (fun s : Hd => (sv s)) (fun s => [rowV (sv s) 105 1 (fun (l : List Fact) => D.row 124 2 (l.map dFact)) r])) := by
 unfold spec_FactsOf at h
 refine enter Tryz.func96 rfl rfl ?_
 have hS := Sep.start w
 refine .seq (.region (.q rfl (.nil (.seq (.region (.c (.ligv (L1 := []) [] (fun (l : List Fact) => D.row 124 2 (l.map dFact)) T.u102 T.t105 (hS.to [] rfl) rfl rfl rfl (.nil) ?_ rfl (fun _ => rfl) rfl rfl rfl rfl rfl)))))))
 intro v1 W hS
 refine .q rfl (.nil (.seq (.seq (.region (.q rfl ?_)))))
 have ⟨y1, hy1, h⟩ := bnd h
 refine .c (.call0 hS Tryz.func18 (spec_CodeValid_ok hy1 (hS.keep q_0)) rfl rfl ?_ rfl (by kernel_rfl) rfl rfl)
 intro W hS
 refine .q rfl (.nil (.cond rfl (fun hb => ?_) (fun hb => ?_)))
 ·have h := sel_t hb h
  cases h
  exact .seq (.region (.q rfl (.q rfl (.nil (.ret (fin_ret (vs := [_]) v1 (rt rfl rn) rfl (hS.to [0] rfl)))))))
 have h := sel_f hb h
 refine .skip (.seq (.seq (.region (.q rfl (.nil (.block ?_))))))
 have ⟨y2, hy2, h⟩ := bnd h
 refine .via (.iter (fun s1 E' W' => ∃ (v4 : Hd), SubL E' [(0, (sv v_0)), (3, (sv v4)), (4, .int .i64 s1.2)] ∧ Sep No w W' [rowV (sv v4) 105 1 (fun (l : List Fact) => D.row 124 2 (l.map dFact)) s1.1]) (fun y3 x E' W' => x = .exit 0 ∧ ∃ (v5 : Hd), SubL E' [(0, (sv v_0)), (3, (sv v5))] ∧ Sep No w W' [rowV (sv v5) 105 1 (fun (l : List Fact) => D.row 124 2 (l.map dFact)) y3]) hy2 ⟨v1, sb rfl, hS.to [0] rfl⟩ ?_) ?_
 ·intro s1 y4 E W h hI
  obtain ⟨v3, hE, hS⟩ := hI
  refine CW.sub hE ?_
  unfold spec_FactsOf_b1 at h
  refine .seq (.seq (.region (.q rfl (.q rfl (.s (lenv (hS.keep q_0) T.u23 rfl rfl) rfl (.q rfl (.nil ?_)))))))
  refine .cs rfl h ?_ ?_ <;> intro h
  ·refine .skip (.seq (.block (.region (.q rfl ?_))))
   have ⟨r1, hr1, h⟩ := bnd h
   refine .c (.mkv (Fact.mk 0 0) dFact hr1 T.u105 T.t124 hS rfl rfl rfl rfl rfl (fun _ => rfl) ?_ rfl rfl rfl)
   intro v6 W hS
   refine .c (.ligv (L1 := [rowV (sv v6) 124 2 dFact r1]) [r1] (fun (l : List Fact) => D.row 124 2 (l.map dFact)) T.u102 T.t105 (hS.to [0, 0] rfl) rfl rfl rfl (.row (.nil)) ?_ rfl (fun _ => rfl) rfl rfl rfl rfl rfl)
   intro v7 W hS
   have ⟨r2, hr2, h⟩ := bnd h
   refine .c (.appv hr2 (hS.to [1, 0] rfl) T.u102 T.t105 rfl rfl rfl ?_ rfl rfl rfl rfl rfl)
   intro v8 W hS
   refine .q rfl (.nil (.region (.q rfl (.q rfl (.q rfl (.nil ?_))))))
   cases h
   exact ⟨rfl, v8, sb rfl, hS.to [0] rfl⟩
  refine .exit ?_
  cases h
  exact ⟨by simp, rfl, v3, sb rfl, hS.to [0] rfl⟩
 intro x E W hJ
 obtain ⟨rfl, v9, hE, hS⟩ := hJ
 refine ⟨_, hE.sub, ?_⟩
 refine .seq (.seq (.region (.q rfl (.nil (.block ?_)))))
 have ⟨y5, hy5, h⟩ := bnd h
 refine .via (.iter (fun s2 E' W' => SubL E' [(0, (sv v_0)), (3, (sv v9)), (5, .int .i64 s2.1)] ∧ Sep No w W' [rowV (sv v9) 105 1 (fun (l : List Fact) => D.row 124 2 (l.map dFact)) s2.2]) (fun y6 x E' W' => x = .exit 2 ∧ SubL E' [(0, (sv v_0)), (3, (sv v9))] ∧ Sep No w W' [rowV (sv v9) 105 1 (fun (l : List Fact) => D.row 124 2 (l.map dFact)) y6]) hy5 ⟨sb rfl, hS.to [0] rfl⟩ ?_) ?_
 ·intro s2 y7 E W h hI
  obtain ⟨hE, hS⟩ := hI
  refine CW.sub hE ?_
  unfold spec_FactsOf_b2 at h
  refine .seq (.seq (.region (.q rfl (.q rfl (.nil ?_)))))
  refine .cs rfl h ?_ ?_ <;> intro h
  ·refine .skip (.seq (.block (.region (.q rfl ?_))))
   have ⟨x1, hx1, h⟩ := bnd h
   refine .s (ixv hS.lendv hx1 T.u102 T.t105 rfl rfl rfl) rfl ?_
   obtain ⟨k1, hS⟩ := Sep.outv hS hx1
   obtain ⟨v10, k1, rfl, hS⟩ := hS.orowv
   obtain ⟨rfl, hS⟩ := hS.onil
   refine .s (lde (hS.p1.hcellsv) T.t105 rfl rfl rfl rfl rfl) rfl (.q rfl (.s (bs T.s124 rfl rfl) rfl ?_))
   have ⟨x2, hx2, h⟩ := bnd h
   refine .s (ixv hS.lendv hx2 T.u105 T.t124 rfl rfl rfl) rfl ?_
   have ⟨r3, hr3, h⟩ := bnd h
   refine .c (.sev hr3 hx2 hS T.t124 rfl rfl rfl rfl rfl rfl ?_ rfl rfl rfl rfl rfl rfl)
   intro W hS
   refine .nil (.region (.q rfl (.q rfl (.q rfl (.nil ?_)))))
   have hS := Sep.gat (ds := [.row 124 2 (r3.map dFact)]) (cs := [(sv v10)]) (L1 := [rowV (sv v10) 124 2 dFact r3]) (.row (.nil)) (hS.to [0, 0] rfl)
   have hS : Sep _ _ _ [rowV (sv v9) 105 1 (fun (l : List Fact) => D.row 124 2 (l.map dFact)) (s2.2.set (Int.toNat 0) r3)] := hS.backv
   cases h
   exact ⟨rfl, sb rfl, hS.to [0] rfl⟩
  refine .exit ?_
  cases h
  exact ⟨by simp, rfl, sb rfl, hS.to [0] rfl⟩
 intro x E W hJ
 obtain ⟨rfl, hE, hS⟩ := hJ
 refine ⟨_, hE.sub, ?_⟩
 refine .seq (.block ?_)
 have ⟨y8, hy8, h⟩ := bnd h
 refine .via (.iter (fun s3 E' W' => SubL E' [(0, (sv v_0)), (3, (sv v9))] ∧ Sep No w W' [rowV (sv v9) 105 1 (fun (l : List Fact) => D.row 124 2 (l.map dFact)) s3]) (fun y9 x E' W' => x = .exit 4 ∧ SubL E' [(3, (sv v9))] ∧ Sep No w W' [rowV (sv v9) 105 1 (fun (l : List Fact) => D.row 124 2 (l.map dFact)) y9]) hy8 ⟨sb rfl, hS.to [0] rfl⟩ ?_) ?_
 ·intro s3 y10 E W h hI
  obtain ⟨hE, hS⟩ := hI
  refine CW.sub hE ?_
  unfold spec_FactsOf_b3 at h
  refine .seq (.seq (.region (.q rfl (.q rfl ?_))))
  have ⟨y11, hy11, h⟩ := bnd h
  refine .c (.callS2 (L0 := [rowV (sv v9) 105 1 (fun (l : List Fact) => D.row 124 2 (l.map dFact)) s3]) hS Tryz.func114 (fun S h1 h2 h3 => (spec_l33Round_ok hy11 (hS.keepS q_0 h1) h2 (fun b hb => (h1 b hb).2))) rfl rfl ?_ rfl (by kernel_rfl) rfl rfl)
  rintro ⟨⟩ W hS
  refine .nil ?_
  refine .cs rfl h ?_ ?_ <;> intro h
  ·refine .skip (.block (.skip ?_))
   cases h
   exact ⟨rfl, sb rfl, hS.to [0] rfl⟩
  refine .exit ?_
  cases h
  exact ⟨by simp, rfl, sb rfl, hS.to [0] rfl⟩
 intro x E W hJ
 obtain ⟨rfl, hE, hS⟩ := hJ
 refine ⟨_, hE.sub, ?_⟩
 obtain rfl := Option.some.inj h
 exact .seq (.region (.q rfl (.q rfl (.nil (.ret (fin_ret (vs := [_]) v9 (rt rfl rn) rfl (hS.to [0] rfl)))))))
theorem spec_l33Is_ok {a0 : Fact} {a1 : Int} {w : World} {r : Bool} (h : spec_l33Is a0 a1 = some r) : Calls Tryz.prog 116 #[.agg #[.int .i64 a0.Kind, .int .i64 a0.N], .int .i64 a1] w (Ret No w (fun s : Unit => .bool r) (fun s => [])) := by
 unfold spec_l33Is at h
 refine enter Tryz.func116 rfl rfl ?_
 have hS := Sep.start w
 refine .seq (.region (.c (.box hS rfl rfl ?_ rfl rfl)))
 intro g1 W hS
 refine .q rfl (.nil (.seq (.region (.s (fa T.f124_0 rfl rfl rfl) rfl (.s (ld T.t3 hS rfl rfl rfl rfl rfl) rfl (.q rfl (.q rfl (.chunk 5 13 ((a0.Kind == 1) && (a0.N == a1)) hS ?_ ?_))))))))
 ·refine .both (a0.Kind == 1) (fun hb => ?_) (fun hb => ?_)
  ·have hg1 := hb
   exact .g hg1 (.s (fa T.f124_1 rfl rfl rfl) rfl (.g hg1 (.s (ld T.t3 hS rfl rfl rfl rfl rfl) rfl (.g hg1 (.q rfl (.g hg1 (.q rfl (.s (pkt hg1 rfl rfl rfl) rfl (.nil (ck 5 hS rfl (and_t hg1) rfl rfl)))) rfl)) rfl)) rfl)) rfl
  exact .xx hb rfl (.xx hb rfl (.xx hb rfl (.xx hb rfl (.s (pkf hb rfl rfl rfl) rfl (.nil (ck 5 hS rfl (and_f hb) rfl rfl))))))
 intro W hS
 cases h
 exact .q rfl (.nil (.ret (fin_ret (vs := [_]) () (rt rfl rn) rfl (hS.to [] rfl))))
def spec_l31Has_F (w : World) (r : Bool) : Env → World → Prop := Fin Tryz.prog Tryz.f135 No w (fun s : Unit => .bool r) (fun s => []) .ret
theorem spec_l31Has_ok {a0 : List Int} {a1 : Int} {v_0 : Hd} {w : World} {r : Bool} (h : spec_l31Has a0 a1 = some r) (q_0 : RV w (Old No w) (sv v_0) 3 1 (D.int .i64) a0) : Calls Tryz.prog 135 #[(sv v_0), .int .i64 a1] w (Ret No w (fun s : Unit => .bool r) (fun s => [])) := by
 unfold spec_l31Has at h
 refine enter Tryz.func135 rfl rfl ?_
 have hS := Sep.start w
 refine .seq (.region (.q rfl (.nil (.seq (.seq (.region (.q rfl (.nil (.block ?_)))))))))
 have ⟨y1, hy1, h⟩ := bnd h
 refine .via (.iter (fun s1 E' W' => SubL E' [(0, (sv v_0)), (1, .int .i64 a1), (5, .int .i64 s1)] ∧ Sep No w W' []) (fun y2 x E' W' => (match y2 with | .inl o1 => x = .ret ∧ spec_l31Has_F w o1 E' W' | .inr o2 => x = .exit 0 ∧ SubL E' [] ∧ Sep No w W' [])) hy1 ⟨sb rfl, hS.to [] rfl⟩ ?_) ?_
 ·intro s1 y3 E W h hI
  obtain ⟨hE, hS⟩ := hI
  refine CW.sub hE ?_
  unfold spec_l31Has_b1 at h
  refine .seq (.seq (.region (.q rfl (.q rfl (.s (lenv (hS.keep q_0) T.u31 rfl rfl) rfl (.q rfl (.nil ?_)))))))
  refine .cs rfl h ?_ ?_ <;> intro h
  ·refine .skip (.seq (.block (.seq (.region (.q rfl (.q rfl ?_))))))
   have ⟨x1, hx1, h⟩ := bnd h
   refine .s (ixv (hS.keep q_0) hx1 T.u31 T.t3 rfl rfl rfl) rfl (.s (lde (RV.flat (hS.keep q_0) hx1 rfl) T.t3 rfl rfl rfl rfl rfl) rfl (.q rfl (.q rfl (.nil ?_))))
   refine .cs rfl h ?_ ?_ <;> intro h
   ·refine .seq (.region (.q rfl (.nil (.ret ?_))))
    cases h
    exact ⟨by simp, rfl, fin_ret (vs := [_]) () (rt rfl rn) rfl (hS.to [] rfl)⟩
   refine .skip (.region (.q rfl (.q rfl (.q rfl (.nil ?_)))))
   cases h
   exact ⟨rfl, sb rfl, hS.to [] rfl⟩
  refine .exit ?_
  cases h
  exact ⟨by simp, rfl, sb rfl, hS.to [] rfl⟩
 intro x E W hJ
 rcases y1 with o3 | o4
 ·obtain ⟨rfl, hF⟩ := hJ
  refine ⟨_, fun _ _ h => h, ?_⟩
  cases h
  exact hF
 obtain ⟨rfl, hE, hS⟩ := hJ
 refine ⟨_, hE.sub, ?_⟩
 obtain rfl := Option.some.inj h
 exact .seq (.region (.q rfl (.nil (.ret (fin_ret (vs := [_]) () (rt rfl rn) rfl (hS.to [] rfl))))))
theorem spec_l33Any_ok {a0 : Int} {a1 : List Int} {v_1 : Hd} {w : World} {r : Bool} (h : spec_l33Any a0 a1 = some r) (q_1 : RV w (Old No w) (sv v_1) 3 1 (D.int .i64) a1) : Calls Tryz.prog 128 #[.int .i64 a0, (sv v_1)] w (Ret No w (fun s : Unit => .bool r) (fun s => [])) := by
 unfold spec_l33Any at h
 refine enter Tryz.func128 rfl rfl ?_
 have hS := Sep.start w
 refine .seq (.region (.q rfl (.nil (.seq (.region (.q rfl (.q rfl ?_)))))))
 have ⟨y1, hy1, h⟩ := bnd h
 refine .c (.call0 hS Tryz.func135 (spec_l31Has_ok hy1 (hS.keep q_1)) rfl rfl ?_ rfl (by kernel_rfl) rfl rfl)
 intro W hS
 obtain rfl := Option.some.inj h
 exact .q rfl (.nil (.ret (fin_ret (vs := [_]) () (rt rfl rn) rfl (hS.to [] rfl))))
theorem spec_l33Bin_ok {a0 : Quad} {a1 : Fact} {a2 : Fact} {w : World} {r : Quad} (h : spec_l33Bin a0 a1 a2 = some r) : Calls Tryz.prog 115 #[.agg #[.int .i64 a0.Op, .int .i64 a0.Dst, .int .i64 a0.A, .int .i64 a0.B, .int .i64 a0.N], .agg #[.int .i64 a1.Kind, .int .i64 a1.N], .agg #[.int .i64 a2.Kind, .int .i64 a2.N]] w (Ret No w (fun s : Unit => .agg #[.int .i64 r.Op, .int .i64 r.Dst, .int .i64 r.A, .int .i64 r.B, .int .i64 r.N]) (fun s => [])) := by
 unfold spec_l33Bin at h
 refine enter Tryz.func115 rfl rfl ?_
 have hS := Sep.start w
 refine .seq (.region (.c (.box hS rfl rfl ?_ rfl rfl)))
 intro g1 W hS
 refine .c (.box hS rfl rfl ?_ rfl rfl)
 intro g2 W hS
 refine .c (.box hS rfl rfl ?_ rfl rfl)
 intro g3 W hS
 refine .c (.alloc T.t34 hS ?_ rfl rfl rfl)
 intro g4 W hS
 refine .nil (.seq (.region (.s (ld T.t34 hS.p3 rfl rfl rfl rfl rfl) rfl (.s (ld T.t124 hS.p2 rfl rfl rfl rfl rfl) rfl (.s (ld T.t124 hS.p1 rfl rfl rfl rfl rfl) rfl ?_)))))
 have ⟨y1, hy1, h⟩ := bnd h
 refine .c (.call0 hS Tryz.func127 (spec_l33Result_ok hy1) rfl rfl ?_ rfl (by kernel_rfl) rfl rfl)
 intro W hS
 refine .c (.alloc T.t124 hS ?_ rfl rfl rfl)
 intro g5 W hS
 refine .c (.st T.t124 hS rfl rfl rfl ?_ rfl rfl rfl rfl rfl)
 intro W hS
 refine .nil (.seq (.block (.seq (.region (.s (fa T.f124_0 rfl rfl rfl) rfl (.s (ld T.t3 hS rfl rfl rfl rfl rfl) rfl (.q rfl (.q rfl (.nil ?_)))))))))
 refine .cs rfl h ?_ ?_ <;> intro h
 ·refine .seq (.region (.s (fa T.f34_1 rfl rfl rfl) rfl (.s (ld T.t3 hS.p4 rfl rfl rfl rfl rfl) rfl (.s (fa T.f124_1 rfl rfl rfl) rfl (.s (ld T.t3 hS rfl rfl rfl rfl rfl) rfl (.s (bs T.s34 rfl rfl) rfl (.c (.st T.t34 hS.p1 rfl rfl rfl ?_ rfl rfl rfl rfl rfl))))))))
  intro W hS
  cases h
  exact .nil (.ret (fin_ret (vs := [_]) () (rc hS T.t34 rfl rn rfl rfl) rfl (hS.to [] rfl)))
 refine .seq (.region (.s (ld T.t124 hS.p2 rfl rfl rfl rfl rfl) rfl ?_))
 have ⟨y2, hy2, h⟩ := bnd h
 refine .c (.call0 hS Tryz.func116 (spec_l33Is_ok hy2) rfl rfl ?_ rfl (by kernel_rfl) rfl rfl)
 intro W hS
 refine .q rfl ?_
 have ⟨b1, hb1, h⟩ := bnd h
 refine .chunk 5 29 (b1) hS ?_ ?_
 ·refine .both (y2) (fun hb => ?_) (fun hb => ?_)
  ·have hg1 := hb
   have h := sel_t hb hb1
   refine .g hg1 (.s (fa T.f34_4 rfl rfl rfl) rfl (.g hg1 (.s (ld T.t3 hS.p4 rfl rfl rfl rfl rfl) rfl (.g hg1 (.c (.liv [1, 2, 6, 7, 8, 9] (D.int .i64) T.u31 T.t3 hS rfl rfl rfl rfl ?_ rfl (fun _ => rfl) rfl rfl rfl rfl)) rfl)) rfl)) rfl
   intro v1 W hS
   have ⟨y3, hy3, h⟩ := bnd h
   refine .g hg1 (.c (.call0 hS Tryz.func128 (spec_l33Any_ok hy3 hS.lendv) rfl rfl ?_ rfl (by kernel_rfl) rfl rfl)) rfl
   intro W hS
   refine .s (pkt hg1 rfl rfl rfl) rfl ?_
   cases h
   exact .nil (ck 5 (hS.to [1, 1, 1, 1, 1] rfl) rfl rfl rfl rfl)
  refine .xx hb rfl (.xx hb rfl (.xx hb rfl (.xx hb rfl ?_)))
  cases sel_f hb hb1
  exact .s (pkf hb rfl rfl rfl) rfl (.nil (ck 5 hS rfl rfl rfl rfl))
 intro W hS
 refine .q rfl (.nil ?_)
 refine .cs rfl h ?_ ?_ <;> intro h
 ·refine .seq (.region (.s (fa T.f34_1 rfl rfl rfl) rfl (.s (ld T.t3 hS.p4 rfl rfl rfl rfl rfl) rfl (.s (fa T.f34_2 rfl rfl rfl) rfl (.s (ld T.t3 hS.p4 rfl rfl rfl rfl rfl) rfl (.s (bs T.s34 rfl rfl) rfl (.c (.st T.t34 hS.p1 rfl rfl rfl ?_ rfl rfl rfl rfl rfl))))))))
  intro W hS
  cases h
  exact .nil (.ret (fin_ret (vs := [_]) () (rc hS T.t34 rfl rn rfl rfl) rfl (hS.to [] rfl)))
 refine .seq (.region (.s (ld T.t124 hS.p2 rfl rfl rfl rfl rfl) rfl ?_))
 have ⟨y4, hy4, h⟩ := bnd h
 refine .c (.call0 hS Tryz.func116 (spec_l33Is_ok hy4) rfl rfl ?_ rfl (by kernel_rfl) rfl rfl)
 intro W hS
 refine .q rfl ?_
 have ⟨b2, hb2, h⟩ := bnd h
 refine .chunk 5 43 (b2) hS ?_ ?_
 ·refine .both (y4) (fun hb => ?_) (fun hb => ?_)
  ·have hg2 := hb
   have h := sel_t hb hb2
   refine .g hg2 (.s (fa T.f34_4 rfl rfl rfl) rfl (.g hg2 (.s (ld T.t3 hS.p4 rfl rfl rfl rfl rfl) rfl (.g hg2 (.c (.liv [10, 11] (D.int .i64) T.u31 T.t3 hS rfl rfl rfl rfl ?_ rfl (fun _ => rfl) rfl rfl rfl rfl)) rfl)) rfl)) rfl
   intro v2 W hS
   have ⟨y5, hy5, h⟩ := bnd h
   refine .g hg2 (.c (.call0 hS Tryz.func128 (spec_l33Any_ok hy5 hS.lendv) rfl rfl ?_ rfl (by kernel_rfl) rfl rfl)) rfl
   intro W hS
   refine .s (pkt hg2 rfl rfl rfl) rfl ?_
   cases h
   exact .nil (ck 5 (hS.to [1, 1, 1, 1, 1] rfl) rfl rfl rfl rfl)
  refine .xx hb rfl (.xx hb rfl (.xx hb rfl (.xx hb rfl ?_)))
  cases sel_f hb hb2
  exact .s (pkf hb rfl rfl rfl) rfl (.nil (ck 5 hS rfl rfl rfl rfl))
 intro W hS
 refine .q rfl (.nil ?_)
 refine .cs rfl h ?_ ?_ <;> intro h
 ·refine .seq (.region (.s (fa T.f34_1 rfl rfl rfl) rfl (.s (ld T.t3 hS.p4 rfl rfl rfl rfl rfl) rfl (.s (fa T.f34_2 rfl rfl rfl) rfl (.s (ld T.t3 hS.p4 rfl rfl rfl rfl rfl) rfl (.s (bs T.s34 rfl rfl) rfl (.c (.st T.t34 hS.p1 rfl rfl rfl ?_ rfl rfl rfl rfl rfl))))))))
  intro W hS
  cases h
  exact .nil (.ret (fin_ret (vs := [_]) () (rc hS T.t34 rfl rn rfl rfl) rfl (hS.to [] rfl)))
 refine .seq (.region (.s (ld T.t124 hS.p3 rfl rfl rfl rfl rfl) rfl ?_))
 have ⟨y6, hy6, h⟩ := bnd h
 refine .c (.call0 hS Tryz.func116 (spec_l33Is_ok hy6) rfl rfl ?_ rfl (by kernel_rfl) rfl rfl)
 intro W hS
 refine .q rfl ?_
 have ⟨b3, hb3, h⟩ := bnd h
 refine .chunk 5 57 (b3) hS ?_ ?_
 ·refine .both (y6) (fun hb => ?_) (fun hb => ?_)
  ·have hg3 := hb
   have h := sel_t hb hb3
   refine .g hg3 (.s (fa T.f34_4 rfl rfl rfl) rfl (.g hg3 (.s (ld T.t3 hS.p4 rfl rfl rfl rfl rfl) rfl (.g hg3 (.c (.liv [1, 2, 8] (D.int .i64) T.u31 T.t3 hS rfl rfl rfl rfl ?_ rfl (fun _ => rfl) rfl rfl rfl rfl)) rfl)) rfl)) rfl
   intro v3 W hS
   have ⟨y7, hy7, h⟩ := bnd h
   refine .g hg3 (.c (.call0 hS Tryz.func128 (spec_l33Any_ok hy7 hS.lendv) rfl rfl ?_ rfl (by kernel_rfl) rfl rfl)) rfl
   intro W hS
   refine .s (pkt hg3 rfl rfl rfl) rfl ?_
   cases h
   exact .nil (ck 5 (hS.to [1, 1, 1, 1, 1] rfl) rfl rfl rfl rfl)
  refine .xx hb rfl (.xx hb rfl (.xx hb rfl (.xx hb rfl ?_)))
  cases sel_f hb hb3
  exact .s (pkf hb rfl rfl rfl) rfl (.nil (ck 5 hS rfl rfl rfl rfl))
 intro W hS
 refine .q rfl (.nil ?_)
 refine .cs rfl h ?_ ?_ <;> intro h
 ·refine .seq (.region (.s (fa T.f34_1 rfl rfl rfl) rfl (.s (ld T.t3 hS.p4 rfl rfl rfl rfl rfl) rfl (.s (fa T.f34_3 rfl rfl rfl) rfl (.s (ld T.t3 hS.p4 rfl rfl rfl rfl rfl) rfl (.s (bs T.s34 rfl rfl) rfl (.c (.st T.t34 hS.p1 rfl rfl rfl ?_ rfl rfl rfl rfl rfl))))))))
  intro W hS
  cases h
  exact .nil (.ret (fin_ret (vs := [_]) () (rc hS T.t34 rfl rn rfl rfl) rfl (hS.to [] rfl)))
 refine .seq (.region (.s (ld T.t124 hS.p3 rfl rfl rfl rfl rfl) rfl ?_))
 have ⟨y8, hy8, h⟩ := bnd h
 refine .c (.call0 hS Tryz.func116 (spec_l33Is_ok hy8) rfl rfl ?_ rfl (by kernel_rfl) rfl rfl)
 intro W hS
 refine .q rfl (.chunk 4 70 (y8 && (a0.N == 10)) hS ?_ ?_)
 ·refine .both (y8) (fun hb => ?_) (fun hb => ?_)
  ·have hg4 := hb
   exact .g hg4 (.s (fa T.f34_4 rfl rfl rfl) rfl (.g hg4 (.s (ld T.t3 hS.p4 rfl rfl rfl rfl rfl) rfl (.g hg4 (.q rfl (.s (pkt hg4 rfl rfl rfl) rfl (.nil (ck 4 hS rfl (and_t hg4) rfl rfl)))) rfl)) rfl)) rfl
  exact .xx hb rfl (.xx hb rfl (.xx hb rfl (.s (pkf hb rfl rfl rfl) rfl (.nil (ck 4 hS rfl (and_f hb) rfl rfl)))))
 intro W hS
 refine .q rfl (.nil ?_)
 refine .cs rfl h ?_ ?_ <;> intro h
 ·refine .seq (.region (.s (fa T.f34_1 rfl rfl rfl) rfl (.s (ld T.t3 hS.p4 rfl rfl rfl rfl rfl) rfl (.s (fa T.f34_3 rfl rfl rfl) rfl (.s (ld T.t3 hS.p4 rfl rfl rfl rfl rfl) rfl (.s (bs T.s34 rfl rfl) rfl (.c (.st T.t34 hS.p1 rfl rfl rfl ?_ rfl rfl rfl rfl rfl))))))))
  intro W hS
  cases h
  exact .nil (.ret (fin_ret (vs := [_]) () (rc hS T.t34 rfl rn rfl rfl) rfl (hS.to [] rfl)))
 refine .seq (.region (.s (ld T.t124 hS.p3 rfl rfl rfl rfl rfl) rfl ?_))
 have ⟨y9, hy9, h⟩ := bnd h
 refine .c (.call0 hS Tryz.func116 (spec_l33Is_ok hy9) rfl rfl ?_ rfl (by kernel_rfl) rfl rfl)
 intro W hS
 refine .q rfl ?_
 have ⟨b4, hb4, h⟩ := bnd h
 refine .chunk 3 82 (b4) hS ?_ ?_
 ·refine .both (y9) (fun hb => ?_) (fun hb => ?_)
  ·refine .xx hb rfl (.xx hb rfl ?_)
   cases sel_t hb hb4
   exact .s (pkt hb rfl rfl rfl) rfl (.nil (ck 3 hS rfl rfl rfl rfl))
  have hg5 := hb
  have h := sel_f hb hb4
  refine .g hg5 (.s (ld T.t124 hS.p2 rfl rfl rfl rfl rfl) rfl ?_) rfl
  have ⟨y10, hy10, h⟩ := bnd h
  refine .g hg5 (.c (.call0 hS Tryz.func116 (spec_l33Is_ok hy10) rfl rfl ?_ rfl (by kernel_rfl) rfl rfl)) rfl
  intro W hS
  refine .s (pkf hg5 rfl rfl rfl) rfl ?_
  cases h
  exact .nil (ck 3 hS rfl rfl rfl rfl)
 intro W hS
 refine .q rfl ?_
 have ⟨b5, hb5, h⟩ := bnd h
 refine .chunk 5 88 (b5) hS ?_ ?_
 ·refine .both (b4) (fun hb => ?_) (fun hb => ?_)
  ·have hg6 := hb
   have h := sel_t hb hb5
   refine .g hg6 (.s (fa T.f34_4 rfl rfl rfl) rfl (.g hg6 (.s (ld T.t3 hS.p4 rfl rfl rfl rfl rfl) rfl (.g hg6 (.c (.liv [3, 10] (D.int .i64) T.u31 T.t3 hS rfl rfl rfl rfl ?_ rfl (fun _ => rfl) rfl rfl rfl rfl)) rfl)) rfl)) rfl
   intro v4 W hS
   have ⟨y11, hy11, h⟩ := bnd h
   refine .g hg6 (.c (.call0 hS Tryz.func128 (spec_l33Any_ok hy11 hS.lendv) rfl rfl ?_ rfl (by kernel_rfl) rfl rfl)) rfl
   intro W hS
   refine .s (pkt hg6 rfl rfl rfl) rfl ?_
   cases h
   exact .nil (ck 5 (hS.to [1, 1, 1, 1, 1] rfl) rfl rfl rfl rfl)
  refine .xx hb rfl (.xx hb rfl (.xx hb rfl (.xx hb rfl ?_)))
  cases sel_f hb hb5
  exact .s (pkf hb rfl rfl rfl) rfl (.nil (ck 5 hS rfl rfl rfl rfl))
 intro W hS
 refine .q rfl (.nil ?_)
 refine .cs rfl h ?_ ?_ <;> intro h
 ·refine .seq (.region (.s (fa T.f34_1 rfl rfl rfl) rfl (.s (ld T.t3 hS.p4 rfl rfl rfl rfl rfl) rfl (.s (bs T.s34 rfl rfl) rfl (.c (.st T.t34 hS.p1 rfl rfl rfl ?_ rfl rfl rfl rfl rfl))))))
  intro W hS
  cases h
  exact .nil (.ret (fin_ret (vs := [_]) () (rc hS T.t34 rfl rn rfl rfl) rfl (hS.to [] rfl)))
 refine .skip (.seq (.region (.s (ld T.t34 hS.p4 rfl rfl rfl rfl rfl) rfl (.c (.st T.t34 hS.p1 rfl rfl rfl ?_ rfl rfl rfl rfl rfl)))))
 intro W hS
 obtain rfl := Option.some.inj h
 exact .nil (.ret (fin_ret (vs := [_]) () (rc hS T.t34 rfl rn rfl rfl) rfl (hS.to [] rfl)))
theorem spec_l33Fold_ok {a0 : Quad} {a1 : List Fact} {a2 : Int} {v_1 : Hd} {w : World} {r : Quad} (h : spec_l33Fold a0 a1 a2 = some r) (q_1 : RV w (Old No w) (sv v_1) 124 2 dFact a1) : Calls Tryz.prog 97 #[.agg #[.int .i64 a0.Op, .int .i64 a0.Dst, .int .i64 a0.A, .int .i64 a0.B, .int .i64 a0.N], (sv v_1), .int .i64 a2] w (Ret No w (fun s : Unit => .agg #[.int .i64 r.Op, .int .i64 r.Dst, .int .i64 r.A, .int .i64 r.B, .int .i64 r.N]) (fun s => [])) := by
 unfold spec_l33Fold at h
 refine enter Tryz.func97 rfl rfl ?_
 have hS := Sep.start w
 refine .seq (.region (.c (.box hS rfl rfl ?_ rfl rfl)))
 intro g1 W hS
 refine .c (.alloc T.t34 hS ?_ rfl rfl rfl)
 intro g2 W hS
 refine .nil (.seq (.seq (.region (.q rfl ?_))))
 have ⟨x1, hx1, h⟩ := bnd h
 refine .s (ixv (hS.keep q_1) hx1 T.u105 T.t124 rfl rfl rfl) rfl (.s (fe T.f124_0 rfl rfl rfl) rfl (.s (lde (RV.flat (hS.keep q_1) hx1 rfl) T.t3 rfl rfl rfl rfl rfl) rfl (.q rfl (.nil ?_))))
 refine .cs rfl h ?_ ?_ <;> intro h
 ·refine .seq (.region (.s (ld T.t34 hS.p1 rfl rfl rfl rfl rfl) rfl (.c (.st T.t34 hS rfl rfl rfl ?_ rfl rfl rfl rfl rfl))))
  intro W hS
  obtain rfl := Option.some.inj h
  exact .nil (.ret (fin_ret (vs := [_]) () (rc hS T.t34 rfl rn rfl rfl) rfl (hS.to [] rfl)))
 refine .skip (.seq (.seq (.region (.s (fa T.f34_0 rfl rfl rfl) rfl (.s (ld T.t3 hS.p1 rfl rfl rfl rfl rfl) rfl (.nil (.block (.seq (.region (.q rfl (.q rfl (.nil ?_))))))))))))
 refine .cs rfl h ?_ ?_ <;> intro h
 ·refine .seq (.region (.q rfl (.s (fa T.f34_2 rfl rfl rfl) rfl (.s (ld T.t3 hS.p1 rfl rfl rfl rfl rfl) rfl ?_))))
  have ⟨x2, hx2, h⟩ := bnd h
  refine .s (ixv (hS.keep q_1) hx2 T.u105 T.t124 rfl rfl rfl) rfl (.s (fe T.f124_0 rfl rfl rfl) rfl (.s (lde (RV.flat (hS.keep q_1) hx2 rfl) T.t3 rfl rfl rfl rfl rfl) rfl (.q rfl (.nil ?_))))
  refine .cs rfl h ?_ ?_ <;> intro h
  ·refine .seq (.rk 9 hS [0, 0] T.mix ?_)
   intro W hS
   have hT := hS.to [0, 0] rfl
   refine .ts 0 rfl (fun W hT => fa T.f34_1 rfl rfl rfl) hT rfl (by kernel_rfl) (.ts 1 rfl (fun W hT => ld T.t3 hT.p1 rfl rfl rfl rfl rfl) hT rfl (by kernel_rfl) (.tp 2 rfl rfl hT (by kernel_rfl) (.ts 3 rfl (fun W hT => fa T.f34_2 rfl rfl rfl) hT rfl (by kernel_rfl) (.ts 4 rfl (fun W hT => ld T.t3 hT.p1 rfl rfl rfl rfl rfl) hT rfl (by kernel_rfl) ?_))))
   have ⟨x3, hx3, h⟩ := bnd h
   refine .ts 5 rfl (fun W hT => ixv (hS.keep q_1) hx3 T.u105 T.t124 rfl rfl rfl) hT rfl (by kernel_rfl) (.ts 6 rfl (fun W hT => fe T.f124_1 rfl rfl rfl) hT rfl (by kernel_rfl) (.ts 7 rfl (fun W hT => lde (RV.flat (hT.keep q_1) hx3 rfl) T.t3 rfl rfl rfl rfl rfl) hT rfl (by kernel_rfl) (.ts 8 rfl (fun W hT => bs T.s34 rfl rfl) hT rfl (by kernel_rfl) (.by1 9 rfl (.st T.t34 hS rfl rfl rfl ?_ rfl rfl rfl rfl rfl) (by kernel_rfl)))))
   intro W hS
   refine ⟨fun h => absurd rfl h, ?_⟩
   cases h
   exact .done (.ret (fin_ret (vs := [_]) () (rc hS T.t34 rfl rn rfl rfl) rfl (hS.to [] rfl))) (by kernel_rfl)
  refine .skip (.seq (.region (.s (ld T.t34 hS.p1 rfl rfl rfl rfl rfl) rfl (.c (.st T.t34 hS rfl rfl rfl ?_ rfl rfl rfl rfl rfl)))))
  intro W hS
  obtain rfl := Option.some.inj h
  exact .nil (.ret (fin_ret (vs := [_]) () (rc hS T.t34 rfl rn rfl rfl) rfl (hS.to [] rfl)))
 refine .seq (.region (.q rfl (.q rfl (.nil ?_))))
 refine .cs rfl h ?_ ?_ <;> intro h
 ·refine .seq (.rk 12 hS [0, 0] T.mix ?_)
  intro W hS
  have hT := hS.to [0, 0] rfl
  refine .ts 0 rfl (fun W hT => ld T.t34 hT.p1 rfl rfl rfl rfl rfl) hT rfl (by kernel_rfl) (.tp 1 rfl rfl hT (by kernel_rfl) (.ts 2 rfl (fun W hT => fa T.f34_2 rfl rfl rfl) hT rfl (by kernel_rfl) (.ts 3 rfl (fun W hT => ld T.t3 hT.p1 rfl rfl rfl rfl rfl) hT rfl (by kernel_rfl) ?_)))
  have ⟨x4, hx4, h⟩ := bnd h
  refine .ts 4 rfl (fun W hT => ixv (hS.keep q_1) hx4 T.u105 T.t124 rfl rfl rfl) hT rfl (by kernel_rfl) (.ts 5 rfl (fun W hT => lde (RV.flat (hT.keep q_1) hx4 rfl) T.t124 rfl rfl rfl rfl rfl) hT rfl (by kernel_rfl) (.tp 6 rfl rfl hT (by kernel_rfl) (.ts 7 rfl (fun W hT => fa T.f34_3 rfl rfl rfl) hT rfl (by kernel_rfl) (.ts 8 rfl (fun W hT => ld T.t3 hT.p1 rfl rfl rfl rfl rfl) hT rfl (by kernel_rfl) ?_))))
  have ⟨x5, hx5, h⟩ := bnd h
  refine .ts 9 rfl (fun W hT => ixv (hS.keep q_1) hx5 T.u105 T.t124 rfl rfl rfl) hT rfl (by kernel_rfl) (.ts 10 rfl (fun W hT => lde (RV.flat (hT.keep q_1) hx5 rfl) T.t124 rfl rfl rfl rfl rfl) hT rfl (by kernel_rfl) ?_)
  have ⟨y1, hy1, h⟩ := bnd h
  refine .by1 11 rfl (.call0 hS Tryz.func115 (spec_l33Bin_ok hy1) rfl rfl ?_ rfl (by kernel_rfl) rfl rfl) (by kernel_rfl)
  intro W hS
  have hT := hS.to [0, 0] rfl
  refine ⟨fun _ => hT, ?_⟩
  refine .by1 12 rfl (.st T.t34 hS rfl rfl rfl ?_ rfl rfl rfl rfl rfl) (by kernel_rfl)
  intro W hS
  refine ⟨fun h => absurd rfl h, ?_⟩
  obtain rfl := Option.some.inj h
  exact .done (.ret (fin_ret (vs := [_]) () (rc hS T.t34 rfl rn rfl rfl) rfl (hS.to [] rfl))) (by kernel_rfl)
 refine .seq (.region (.q rfl (.q rfl (.nil ?_))))
 refine .cs rfl h ?_ ?_ <;> intro h
 ·refine .seq (.seq (.region (.q rfl (.s (fa T.f34_2 rfl rfl rfl) rfl (.s (ld T.t3 hS.p1 rfl rfl rfl rfl rfl) rfl ?_)))))
  have ⟨x6, hx6, h⟩ := bnd h
  refine .s (ixv (hS.keep q_1) hx6 T.u105 T.t124 rfl rfl rfl) rfl (.s (lde (RV.flat (hS.keep q_1) hx6 rfl) T.t124 rfl rfl rfl rfl rfl) rfl ?_)
  have ⟨y2, hy2, h⟩ := bnd h
  refine .c (.call0 hS Tryz.func116 (spec_l33Is_ok hy2) rfl rfl ?_ rfl (by kernel_rfl) rfl rfl)
  intro W hS
  refine .nil ?_
  refine .cs rfl h ?_ ?_ <;> intro h
  ·refine .seq (.region (.s (fa T.f34_4 rfl rfl rfl) rfl (.s (ld T.t3 hS.p1 rfl rfl rfl rfl rfl) rfl (.s (bs T.s34 rfl rfl) rfl (.c (.st T.t34 hS rfl rfl rfl ?_ rfl rfl rfl rfl rfl))))))
   intro W hS
   cases h
   exact .nil (.ret (fin_ret (vs := [_]) () (rc hS T.t34 rfl rn rfl rfl) rfl (hS.to [] rfl)))
  refine .skip (.seq (.region (.q rfl (.s (fa T.f34_2 rfl rfl rfl) rfl (.s (ld T.t3 hS.p1 rfl rfl rfl rfl rfl) rfl ?_)))))
  have ⟨x7, hx7, h⟩ := bnd h
  refine .s (ixv (hS.keep q_1) hx7 T.u105 T.t124 rfl rfl rfl) rfl (.s (fe T.f124_0 rfl rfl rfl) rfl (.s (lde (RV.flat (hS.keep q_1) hx7 rfl) T.t3 rfl rfl rfl rfl rfl) rfl (.q rfl (.nil ?_))))
  refine .cs rfl h ?_ ?_ <;> intro h
  ·refine .seq (.region (.q rfl (.q rfl (.s (bs T.s34 rfl rfl) rfl (.c (.st T.t34 hS rfl rfl rfl ?_ rfl rfl rfl rfl rfl))))))
   intro W hS
   cases h
   exact .nil (.ret (fin_ret (vs := [_]) () (rc hS T.t34 rfl rn rfl rfl) rfl (hS.to [] rfl)))
  refine .skip (.seq (.region (.s (ld T.t34 hS.p1 rfl rfl rfl rfl rfl) rfl (.c (.st T.t34 hS rfl rfl rfl ?_ rfl rfl rfl rfl rfl)))))
  intro W hS
  obtain rfl := Option.some.inj h
  exact .nil (.ret (fin_ret (vs := [_]) () (rc hS T.t34 rfl rn rfl rfl) rfl (hS.to [] rfl)))
 refine .skip (.seq (.region (.s (ld T.t34 hS.p1 rfl rfl rfl rfl rfl) rfl (.c (.st T.t34 hS rfl rfl rfl ?_ rfl rfl rfl rfl rfl)))))
 intro W hS
 obtain rfl := Option.some.inj h
 exact .nil (.ret (fin_ret (vs := [_]) () (rc hS T.t34 rfl rn rfl rfl) rfl (hS.to [] rfl)))
theorem spec_FoldCode_ok {a0 : List Quad} {v_0 : Hd} {w : World} {r : (List Quad) × Bool} (h : spec_FoldCode a0 = some r) (q_0 : RV w (Old No w) (sv v_0) 34 5 dQuad a0) : Calls Tryz.prog 81 #[(sv v_0)] w (Ret No w (fun s : Hd => .tuple #[(sv s), .bool r.2]) (fun s => [rowV (sv s) 34 5 dQuad r.1])) := by
 unfold spec_FoldCode at h
 refine enter Tryz.func81 rfl rfl ?_
 have hS := Sep.start w
 refine .seq (.region (.q rfl (.q rfl (.nil (.seq (.region (.c (.liv [] dQuad T.u23 T.t34 hS rfl rfl rfl rfl ?_ rfl (fun _ => rfl) rfl rfl rfl rfl))))))))
 intro v1 W hS
 refine .q rfl (.nil (.seq (.seq (.region (.q rfl ?_)))))
 have ⟨y1, hy1, h⟩ := bnd h
 refine .c (.call0 hS Tryz.func18 (spec_CodeValid_ok hy1 (hS.keep q_0)) rfl rfl ?_ rfl (by kernel_rfl) rfl rfl)
 intro W hS
 refine .q rfl (.nil ?_)
 refine .cs rfl h ?_ ?_ <;> intro h
 ·cases h
  exact .seq (.region (.q rfl (.q rfl (.q rfl (.nil (.ret (fin_ret (vs := [_, _]) v1 (rt rfl (rt rfl rn)) rfl (hS.to [0] rfl))))))))
 refine .skip (.seq (.region (.q rfl ?_)))
 have ⟨y2, hy2, h⟩ := bnd h
 refine .c (.call1v hS Tryz.func96 (spec_FactsOf_ok hy2 (hS.keep q_0)) rfl rfl ?_ rfl (by kernel_rfl) rfl rfl)
 intro v2 W hS
 refine .q rfl (.nil (.seq (.seq (.region (.q rfl (.nil (.block ?_)))))))
 have ⟨y3, hy3, h⟩ := bnd h
 refine .via (.iter (fun s1 E' W' => ∃ (v5 : Hd), SubL E' [(0, (sv v_0)), (4, (sv v5)), (5, (sv v2)), (6, .int .i64 s1.2)] ∧ Sep No w W' [rowV (sv v2) 105 1 (fun (l : List Fact) => D.row 124 2 (l.map dFact)) y2, rowV (sv v5) 34 5 dQuad s1.1]) (fun y4 x E' W' => x = .exit 0 ∧ ∃ (v6 : Hd), SubL E' [(4, (sv v6))] ∧ Sep No w W' [rowV (sv v2) 105 1 (fun (l : List Fact) => D.row 124 2 (l.map dFact)) y2, rowV (sv v6) 34 5 dQuad y4]) hy3 ⟨v1, sb rfl, hS.to [0, 0] rfl⟩ ?_) ?_
 ·intro s1 y5 E W h hI
  obtain ⟨v4, hE, hS⟩ := hI
  refine CW.sub hE ?_
  unfold spec_FoldCode_b1 at h
  refine .seq (.seq (.region (.q rfl (.q rfl (.s (lenv (hS.keep q_0) T.u23 rfl rfl) rfl (.q rfl (.nil ?_)))))))
  refine .cs rfl h ?_ ?_ <;> intro h
  ·refine .skip (.seq (.block ?_))
   have ⟨x1, hx1, h⟩ := bnd h
   obtain ⟨k1, hS⟩ := Sep.outv hS hx1
   obtain ⟨v7, k1, rfl, hS⟩ := hS.orowv
   obtain ⟨rfl, hS⟩ := hS.onil
   refine .rk 14 hS [0, 0] T.mix ?_
   intro W hS
   have hT := hS.to [0, 0] rfl
   refine .tp 0 rfl rfl hT (by kernel_rfl) (.tp 1 rfl rfl hT (by kernel_rfl) (.tp 2 rfl rfl hT (by kernel_rfl) ?_))
   have ⟨x3, hx3, h⟩ := bnd h
   refine .ts 3 rfl (fun W hT => ixv (hS.keep q_0) hx3 T.u23 T.t34 rfl rfl rfl) hT rfl (by kernel_rfl) (.ts 4 rfl (fun W hT => lde (RV.flat (hT.keep q_0) hx3 rfl) T.t34 rfl rfl rfl rfl rfl) hT rfl (by kernel_rfl) (.tp 5 rfl rfl hT (by kernel_rfl) (.tp 6 rfl rfl hT (by kernel_rfl) (.ts 7 rfl (fun W hT => ixh hT.p1 hx1 T.u102 T.t105 rfl rfl rfl) hT rfl (by kernel_rfl) (.ts 8 rfl (fun W hT => lde (hT.p1.hcellsv) T.t105 rfl rfl rfl rfl rfl) hT rfl (by kernel_rfl) (.tp 9 rfl rfl hT (by kernel_rfl) ?_))))))
   have ⟨y7, hy7, h⟩ := bnd h
   refine .by1 10 rfl (.call0 hS Tryz.func97 (spec_l33Fold_ok hy7 hS.lendv) rfl rfl ?_ rfl (by kernel_rfl) rfl rfl) (by kernel_rfl)
   intro W hS
   have hT := hS.to [0, 0] rfl
   refine ⟨fun _ => hT, ?_⟩
   refine .by1 11 rfl (.liv [y7] dQuad T.u23 T.t34 hS rfl rfl rfl rfl ?_ rfl (fun _ => rfl) rfl rfl rfl rfl) (by kernel_rfl)
   intro v10 W hS
   have hT := hS.to [1, 1] rfl
   refine ⟨fun _ => hT, ?_⟩
   have ⟨r2, hr2, h⟩ := bnd h
   have hT0 := hS.p3
   refine .by1 12 rfl (.apprv hr2 hT0 hT0.p1.lendv (fun _ => rfl) T.u23 T.t34 rfl rfl rfl ?_ rfl rfl rfl rfl rfl) (by kernel_rfl)
   intro v11 W hS
   have hT := hS.to [2, 2] rfl
   refine ⟨fun _ => hT, ?_⟩
   refine .tp 13 rfl rfl hT (by kernel_rfl) (.done (.region (.q rfl (.q rfl (.q rfl (.nil ?_))))) (by kernel_rfl))
   have hS := Sep.gat (ds := [.row 124 2 (x1.map dFact)]) (cs := [(sv v7)]) (L1 := [rowV (sv v7) 124 2 dFact x1]) (.row (.nil)) (hS.to [2, 2, 0, 0] rfl)
   have hS : Sep _ _ _ [rowV (sv v2) 105 1 (fun (l : List Fact) => D.row 124 2 (l.map dFact)) y2, rowV (sv v11) 34 5 dQuad r2, rowV (sv v10) 34 5 dQuad [y7]] := Sep.back0v hx1 hS
   cases h
   exact ⟨rfl, v11, sb rfl, hS.to [0, 0] rfl⟩
  refine .exit ?_
  cases h
  exact ⟨by simp, rfl, v4, sb rfl, hS.to [0, 0] rfl⟩
 intro x E W hJ
 obtain ⟨rfl, v12, hE, hS⟩ := hJ
 refine ⟨_, hE.sub, ?_⟩
 cases h
 exact .seq (.region (.q rfl (.q rfl (.q rfl (.nil (.ret (fin_ret (vs := [_, _]) v12 (rt rfl (rt rfl rn)) rfl (hS.to [1] rfl))))))))
theorem spec_l34Self_ok {w : World} {r : (List Int)} (h : spec_l34Self = some r) : Calls Tryz.prog 117 #[] w (Ret No w (fun s : Hd => (sv s)) (fun s => [rowV (sv s) 3 1 (D.int .i64) r])) := by
 unfold spec_l34Self at h
 refine enter Tryz.func117 rfl rfl ?_
 have hS := Sep.start w
 refine .seq (.region (.q rfl (.nil (.seq (.region (.c (.liv [] (D.int .i64) T.u31 T.t3 hS rfl rfl rfl rfl ?_ rfl (fun _ => rfl) rfl rfl rfl rfl)))))))
 intro v1 W hS
 refine .q rfl (.nil (.seq (.seq (.region (.q rfl (.nil (.block ?_)))))))
 have ⟨y1, hy1, h⟩ := bnd h
 refine .via (.iter (fun s1 E' W' => ∃ (v4 : Hd), SubL E' [(1, (sv v4)), (2, .int .i64 s1.2)] ∧ Sep No w W' [rowV (sv v4) 3 1 (D.int .i64) s1.1]) (fun y2 x E' W' => x = .exit 0 ∧ ∃ (v5 : Hd), SubL E' [(1, (sv v5))] ∧ Sep No w W' [rowV (sv v5) 3 1 (D.int .i64) y2]) hy1 ⟨v1, sb rfl, hS.to [0] rfl⟩ ?_) ?_
 ·intro s1 y3 E W h hI
  obtain ⟨v3, hE, hS⟩ := hI
  refine CW.sub hE ?_
  unfold spec_l34Self_b1 at h
  refine .seq (.seq (.region (.q rfl (.q rfl (.nil ?_)))))
  refine .cs rfl h ?_ ?_ <;> intro h
  ·refine .skip (.seq (.block (.region (.q rfl (.q rfl (.c (.liv [s1.2] (D.int .i64) T.u31 T.t3 hS rfl rfl rfl rfl ?_ rfl (fun _ => rfl) rfl rfl rfl rfl)))))))
   intro v6 W hS
   have ⟨r1, hr1, h⟩ := bnd h
   have hT0 := hS.p1
   refine .c (.apprv hr1 hT0 hT0.p1.lendv (fun _ => rfl) T.u31 T.t3 rfl rfl rfl ?_ rfl rfl rfl rfl rfl)
   intro v7 W hS
   refine .q rfl (.nil (.region (.q rfl (.q rfl (.q rfl (.nil ?_))))))
   cases h
   exact ⟨rfl, v7, sb rfl, hS.to [0] rfl⟩
  refine .exit ?_
  cases h
  exact ⟨by simp, rfl, v3, sb rfl, hS.to [0] rfl⟩
 intro x E W hJ
 obtain ⟨rfl, v8, hE, hS⟩ := hJ
 refine ⟨_, hE.sub, ?_⟩
 obtain rfl := Option.some.inj h
 exact .seq (.region (.q rfl (.q rfl (.nil (.ret (fin_ret (vs := [_]) v8 (rt rfl rn) rfl (hS.to [0] rfl)))))))
theorem spec_QuadSets_ok {a0 : Quad} {w : World} {r : Int} (h : spec_QuadSets a0 = some r) : Calls Tryz.prog 136 #[.agg #[.int .i64 a0.Op, .int .i64 a0.Dst, .int .i64 a0.A, .int .i64 a0.B, .int .i64 a0.N]] w (Ret No w (fun s : Unit => .int .i64 r) (fun s => [])) := by
 unfold spec_QuadSets at h
 refine enter Tryz.func136 rfl rfl ?_
 have hS := Sep.start w
 refine .seq (.region (.c (.box hS rfl rfl ?_ rfl rfl)))
 intro g1 W hS
 refine .q rfl (.nil (.seq (.seq (.region (.s (ld T.t34 hS rfl rfl rfl rfl rfl) rfl ?_)))))
 have ⟨y1, hy1, h⟩ := bnd h
 refine .c (.call0 hS Tryz.func35 (spec_QuadValid_ok hy1) rfl rfl ?_ rfl (by kernel_rfl) rfl rfl)
 intro W hS
 refine .q rfl (.nil ?_)
 refine .cs rfl h ?_ ?_ <;> intro h
 ·cases h
  exact .seq (.region (.q rfl (.nil (.ret (fin_ret (vs := [_]) () (rt rfl rn) rfl (hS.to [] rfl))))))
 refine .skip (.seq (.seq (.region (.s (fa T.f34_0 rfl rfl rfl) rfl (.s (ld T.t3 hS rfl rfl rfl rfl rfl) rfl (.nil (.block ?_)))))))
 have ⟨y2, hy2, h⟩ := bnd h
 refine .seq (CW.via (R' := fun x E' W' => x = .normal ∧ SubL E' [(1, .pointer (some ⟨g1, 0, none⟩)), (8, .bool y2)] ∧ Sep No w W' [.box g1 34 [.int .i64 a0.Op, .int .i64 a0.Dst, .int .i64 a0.A, .int .i64 a0.B, .int .i64 a0.N]]) ?_ ?_)
 ·have h := hy2
  refine .seq (.region (.q rfl (.q rfl (.nil ?_))))
  refine .cs rfl h ?_ ?_ <;> intro h
  ·refine .skip ?_
   cases h
   exact ⟨rfl, sb rfl, hS.to [0] rfl⟩
  refine .seq (.region (.q rfl (.q rfl (.nil ?_))))
  refine .cs rfl h ?_ ?_ <;> intro h
  ·refine .skip ?_
   cases h
   exact ⟨rfl, sb rfl, hS.to [0] rfl⟩
  refine .seq (.region (.q rfl (.q rfl (.nil ?_))))
  refine .cs rfl h ?_ ?_ <;> intro h
  ·refine .skip ?_
   cases h
   exact ⟨rfl, sb rfl, hS.to [0] rfl⟩
  refine .region (.q rfl (.q rfl (.nil ?_)))
  cases h
  exact ⟨rfl, sb rfl, hS.to [0] rfl⟩
 intro x E W hJ
 obtain ⟨rfl, hE, hS⟩ := hJ
 refine ⟨_, hE.sub, ?_⟩
 refine .cs rfl h ?_ ?_ <;> intro h
 ·cases h
  exact .seq (.region (.s (fa T.f34_1 rfl rfl rfl) rfl (.s (ld T.t3 hS rfl rfl rfl rfl rfl) rfl (.q rfl (.nil (.ret (fin_ret (vs := [_]) () (rt rfl rn) rfl (hS.to [] rfl))))))))
 cases h
 exact .skip (.seq (.region (.q rfl (.nil (.ret (fin_ret (vs := [_]) () (rt rfl rn) rfl (hS.to [] rfl)))))))
theorem spec_l34After_ok {a0 : Quad} {a1 : List Int} {v_1 : Hd} {w : World} {r : (List Int)} (h : spec_l34After a0 a1 = some r) (q_1 : RV w (Old No w) (sv v_1) 3 1 (D.int .i64) a1) : Calls Tryz.prog 129 #[.agg #[.int .i64 a0.Op, .int .i64 a0.Dst, .int .i64 a0.A, .int .i64 a0.B, .int .i64 a0.N], (sv v_1)] w (Ret No w (fun s : Hd => (sv s)) (fun s => [rowV (sv s) 3 1 (D.int .i64) r])) := by
 unfold spec_l34After at h
 refine enter Tryz.func129 rfl rfl ?_
 have hS := Sep.start w
 refine .seq (.region (.c (.box hS rfl rfl ?_ rfl rfl)))
 intro g1 W hS
 refine .q rfl (.nil (.seq (.region (.c (.liv [] (D.int .i64) T.u31 T.t3 hS rfl rfl rfl rfl ?_ rfl (fun _ => rfl) rfl rfl rfl rfl)))))
 intro v1 W hS
 refine .q rfl ?_
 have ⟨r1, hr1, h⟩ := bnd h
 refine .c (.apprv hr1 hS (hS.keep q_1) (fun _ => rfl) T.u31 T.t3 rfl rfl rfl ?_ rfl rfl rfl rfl rfl)
 intro v2 W hS
 refine .q rfl (.nil (.seq (.region (.s (ld T.t34 hS.p1 rfl rfl rfl rfl rfl) rfl ?_))))
 have ⟨y1, hy1, h⟩ := bnd h
 refine .c (.call0 hS Tryz.func136 (spec_QuadSets_ok hy1) rfl rfl ?_ rfl (by kernel_rfl) rfl rfl)
 intro W hS
 refine .q rfl (.nil (.seq (.seq (.region (.q rfl (.q rfl (.nil ?_)))))))
 refine .cs rfl h ?_ ?_ <;> intro h
 ·obtain rfl := Option.some.inj h
  exact .seq (.region (.q rfl (.q rfl (.nil (.ret (fin_ret (vs := [_]) v2 (rt rfl rn) rfl (hS.to [0] rfl)))))))
 refine .skip (.seq (.seq (.region (.q rfl (.nil (.block ?_))))))
 have ⟨y2, hy2, h⟩ := bnd h
 refine .via (.iter (fun s1 E' W' => SubL E' [(2, .pointer (some ⟨g1, 0, none⟩)), (5, (sv v2)), (6, .int .i64 y1), (7, .int .i64 s1.1)] ∧ Sep No w W' [rowV (sv v2) 3 1 (D.int .i64) s1.2, .box g1 34 [.int .i64 a0.Op, .int .i64 a0.Dst, .int .i64 a0.A, .int .i64 a0.B, .int .i64 a0.N]]) (fun y3 x E' W' => x = .exit 0 ∧ SubL E' [(2, .pointer (some ⟨g1, 0, none⟩)), (5, (sv v2)), (6, .int .i64 y1)] ∧ Sep No w W' [rowV (sv v2) 3 1 (D.int .i64) y3, .box g1 34 [.int .i64 a0.Op, .int .i64 a0.Dst, .int .i64 a0.A, .int .i64 a0.B, .int .i64 a0.N]]) hy2 ⟨sb rfl, hS.to [0, 0] rfl⟩ ?_) ?_
 ·intro s1 y4 E W h hI
  obtain ⟨hE, hS⟩ := hI
  refine CW.sub hE ?_
  unfold spec_l34After_b1 at h
  refine .seq (.seq (.region (.q rfl (.q rfl (.nil ?_)))))
  refine .cs rfl h ?_ ?_ <;> intro h
  ·refine .skip ?_
   have ⟨y5, hy5, h⟩ := bnd h
   refine .seq (CW.via (R' := fun x E' W' => x = .normal ∧ SubL E' [(2, .pointer (some ⟨g1, 0, none⟩)), (5, (sv v2)), (6, .int .i64 y1), (7, .int .i64 s1.1)] ∧ Sep No w W' [rowV (sv v2) 3 1 (D.int .i64) y5, .box g1 34 [.int .i64 a0.Op, .int .i64 a0.Dst, .int .i64 a0.A, .int .i64 a0.B, .int .i64 a0.N]]) ?_ ?_)
   ·have h := hy5
    refine .block (.seq (.region (.q rfl (.q rfl ?_))))
    have ⟨x1, hx1, h⟩ := bnd h
    refine .s (ixv hS.lendv hx1 T.u31 T.t3 rfl rfl rfl) rfl (.s (lde (RV.flat hS.lendv hx1 rfl) T.t3 rfl rfl rfl rfl rfl) rfl (.q rfl (.q rfl (.nil ?_))))
    refine .cs rfl h ?_ ?_ <;> intro h
    ·refine .region (.q rfl (.q rfl (.q rfl ?_)))
     have ⟨x2, hx2, h⟩ := bnd h
     refine .s (ixv hS.lendv hx2 T.u31 T.t3 rfl rfl rfl) rfl ?_
     have ⟨r2, hr2, h⟩ := bnd h
     refine .c (.sev hr2 hx2 hS T.t3 rfl rfl rfl rfl rfl rfl ?_ rfl rfl rfl rfl rfl rfl)
     intro W hS
     refine .nil ?_
     obtain rfl := Option.some.inj h
     exact ⟨rfl, sb rfl, hS.to [0, 0] rfl⟩
    refine .skip ?_
    cases h
    exact ⟨rfl, sb rfl, hS.to [0, 0] rfl⟩
   intro x E W hJ
   obtain ⟨rfl, hE, hS⟩ := hJ
   refine ⟨_, hE.sub, ?_⟩
   refine .region (.q rfl (.q rfl (.q rfl (.nil ?_))))
   cases h
   exact ⟨rfl, sb rfl, hS.to [0, 0] rfl⟩
  refine .exit ?_
  cases h
  exact ⟨by simp, rfl, sb rfl, hS.to [0, 0] rfl⟩
 intro x E W hJ
 obtain ⟨rfl, hE, hS⟩ := hJ
 refine ⟨_, hE.sub, ?_⟩
 refine .seq (.region (.q rfl (.q rfl (.q rfl ?_))))
 have ⟨x3, hx3, h⟩ := bnd h
 refine .s (ixv hS.lendv hx3 T.u31 T.t3 rfl rfl rfl) rfl ?_
 have ⟨r3, hr3, h⟩ := bnd h
 refine .c (.sev hr3 hx3 hS T.t3 rfl rfl rfl rfl rfl rfl ?_ rfl rfl rfl rfl rfl rfl)
 intro W hS
 refine .nil (.seq (.seq (.region (.s (fa T.f34_0 rfl rfl rfl) rfl (.s (ld T.t3 hS.p1 rfl rfl rfl rfl rfl) rfl (.q rfl (.nil ?_)))))))
 refine .cs rfl h ?_ ?_ <;> intro h
 ·refine .region (.q rfl (.q rfl (.s (fa T.f34_2 rfl rfl rfl) rfl (.s (ld T.t3 hS.p1 rfl rfl rfl rfl rfl) rfl ?_))))
  have ⟨x4, hx4, h⟩ := bnd h
  refine .s (ixv hS.lendv hx4 T.u31 T.t3 rfl rfl rfl) rfl ?_
  have ⟨r4, hr4, h⟩ := bnd h
  refine .c (.sev hr4 hx4 hS T.t3 rfl rfl rfl rfl rfl rfl ?_ rfl rfl rfl rfl rfl rfl)
  intro W hS
  obtain rfl := Option.some.inj h
  exact .nil (.seq (.region (.q rfl (.q rfl (.nil (.ret (fin_ret (vs := [_]) v2 (rt rfl rn) rfl (hS.to [0] rfl))))))))
 obtain rfl := Option.some.inj h
 exact .skip (.seq (.region (.q rfl (.q rfl (.nil (.ret (fin_ret (vs := [_]) v2 (rt rfl rn) rfl (hS.to [0] rfl))))))))
theorem spec_l34Carry_ok {a0 : List (List Int)} {a1 : Int} {a2 : List Int} {v_0 : Hd} {v_2 : Hd} {S : Nat → Prop} {w : World} {r : Bool × (List (List Int))} (h : spec_l34Carry a0 a1 a2 = some r) (q_2 : RV w (Old S w) (sv v_2) 3 1 (D.int .i64) a2) (hO : Owns w [rowV (sv v_0) 31 1 (fun (l : List Int) => D.row 3 1 (l.map (D.int .i64))) a0] S) (hlt : ∀ b, S b → b < w.heap.size) : Calls Tryz.prog 130 #[(sv v_0), .int .i64 a1, (sv v_2)] w (Ret S w (fun s : Unit => .bool r.1) (fun s => [rowV (sv v_0) 31 1 (fun (l : List Int) => D.row 3 1 (l.map (D.int .i64))) r.2])) := by
 unfold spec_l34Carry at h
 refine enter Tryz.func130 rfl rfl ?_
 have hS := Sep.startM hO hlt
 refine .seq (.region (.q rfl (.nil (.seq (.seq (.region (.q rfl (.q rfl ?_))))))))
 have ⟨x1, hx1, h⟩ := bnd h
 refine .s (ixv hS.lendv hx1 T.u106 T.t31 rfl rfl rfl) rfl ?_
 obtain ⟨k1, hS⟩ := Sep.outv hS hx1
 obtain ⟨v1, k1, rfl, hS⟩ := hS.orowv
 obtain ⟨rfl, hS⟩ := hS.onil
 refine .s (lde (hS.p1.hcellsv) T.t31 rfl rfl rfl rfl rfl) rfl (.s (lenv hS.lendv T.u31 rfl rfl) rfl (.q rfl (.nil ?_)))
 refine .cs rfl h ?_ ?_ <;> intro h
 ·refine .seq (.region (.q rfl (.q rfl (.c (.liv [] (D.int .i64) T.u31 T.t3 hS rfl rfl rfl rfl ?_ rfl (fun _ => rfl) rfl rfl rfl rfl)))))
  intro v2 W hS
  refine .q rfl ?_
  have ⟨r1, hr1, h⟩ := bnd h
  refine .c (.apprv hr1 hS (hS.keep q_2) (fun _ => rfl) T.u31 T.t3 rfl rfl rfl ?_ rfl rfl rfl rfl rfl)
  intro v3 W hS
  refine .s (ixh hS.p2 hx1 T.u106 T.t31 rfl rfl rfl) rfl (.c (.sthv hS.p2 T.t31 rfl rfl rfl ?_ rfl rfl rfl rfl rfl rfl))
  intro W hS
  refine .nil (.seq (.region (.q rfl (.nil (.ret ?_)))))
  have hS := Sep.gat (ds := [.row 3 1 (r1.map (D.int .i64))]) (cs := [(sv v3)]) (L1 := [rowV (sv v3) 3 1 (D.int .i64) r1]) (.row (.nil)) (hS.to [1, 0, 0] rfl)
  have hS : Sep _ _ _ [rowV (sv v_0) 31 1 (fun (l : List Int) => D.row 3 1 (l.map (D.int .i64))) (a0.set (Int.toNat a1) r1), rowV (sv v1) 3 1 (D.int .i64) x1] := hS.backv
  cases h
  exact fin_ret (vs := [_]) () (rt rfl rn) rfl (hS.to [0] rfl)
 refine .skip (.seq (.region (.q rfl (.nil (.seq (.seq (.region (.q rfl (.nil (.block ?_))))))))))
 have hS := Sep.gat (ds := [.row 3 1 (x1.map (D.int .i64))]) (cs := [(sv v1)]) (L1 := [rowV (sv v1) 3 1 (D.int .i64) x1]) (.row (.nil)) (hS.to [0, 0] rfl)
 have hS : Sep _ _ _ [rowV (sv v_0) 31 1 (fun (l : List Int) => D.row 3 1 (l.map (D.int .i64))) a0] := Sep.back0v hx1 hS
 have ⟨y1, hy1, h⟩ := bnd h
 refine .via (.iter (fun s1 E' W' => SubL E' [(0, (sv v_0)), (1, .int .i64 a1), (2, (sv v_2)), (7, .bool s1.1), (8, .int .i64 s1.2.1)] ∧ Sep S w W' [rowV (sv v_0) 31 1 (fun (l : List Int) => D.row 3 1 (l.map (D.int .i64))) s1.2.2]) (fun y2 x E' W' => x = .exit 0 ∧ SubL E' [(7, .bool y2.1)] ∧ Sep S w W' [rowV (sv v_0) 31 1 (fun (l : List Int) => D.row 3 1 (l.map (D.int .i64))) y2.2]) hy1 ⟨sb rfl, hS.to [0] rfl⟩ ?_) ?_
 ·intro s1 y3 E W h hI
  obtain ⟨hE, hS⟩ := hI
  refine CW.sub hE ?_
  unfold spec_l34Carry_b1 at h
  refine .seq (.seq (.region (.q rfl (.q rfl (.nil ?_)))))
  refine .cs rfl h ?_ ?_ <;> intro h
  ·refine .skip ?_
   have ⟨y4, hy4, h⟩ := bnd h
   refine .seq (CW.via (R' := fun x E' W' => x = .normal ∧ SubL E' [(0, (sv v_0)), (1, .int .i64 a1), (2, (sv v_2)), (7, .bool y4.1), (8, .int .i64 s1.2.1)] ∧ Sep S w W' [rowV (sv v_0) 31 1 (fun (l : List Int) => D.row 3 1 (l.map (D.int .i64))) y4.2]) ?_ ?_)
   ·have h := hy4
    refine .block (.seq ?_)
    have ⟨x2, hx2, h⟩ := bnd h
    obtain ⟨k2, hS⟩ := Sep.outv hS hx2
    obtain ⟨v4, k2, rfl, hS⟩ := hS.orowv
    obtain ⟨rfl, hS⟩ := hS.onil
    have ⟨x6, hx6, h⟩ := bnd h
    have ⟨b2, hb2, h⟩ := bnd h
    refine .via (R' := fun x E' W' => x = .normal ∧ SubL E' [(0, (sv v_0)), (1, .int .i64 a1), (2, (sv v_2)), (7, .bool s1.1), (8, .int .i64 s1.2.1), (47, .bool b2)] ∧ Sep S w W' [rowV (sv v_0) 31 1 (fun (l : List Int) => D.row 3 1 (l.map (D.int .i64))) s1.2.2]) ?_ ?_
    ·refine .rk 23 hS [0, 0] T.mix ?_
     intro W hS
     have hT := hS.to [0, 0] rfl
     refine .tp 0 rfl rfl hT (by kernel_rfl) (.tp 1 rfl rfl hT (by kernel_rfl) (.ts 2 rfl (fun W hT => ixh hT.p1 hx2 T.u106 T.t31 rfl rfl rfl) hT rfl (by kernel_rfl) (.ts 3 rfl (fun W hT => lde (hT.p1.hcellsv) T.t31 rfl rfl rfl rfl rfl) hT rfl (by kernel_rfl) (.tp 4 rfl rfl hT (by kernel_rfl) (.ts 5 rfl (fun W hT => ixv hS.lendv hx6 T.u31 T.t3 rfl rfl rfl) hT rfl (by kernel_rfl) (.ts 6 rfl (fun W hT => lde (RV.flat hT.lendv hx6 rfl) T.t3 rfl rfl rfl rfl rfl) hT rfl (by kernel_rfl) (.tp 7 rfl rfl hT (by kernel_rfl) (.tp 8 rfl rfl hT (by kernel_rfl) (.tp 9 rfl rfl hT (by kernel_rfl) (.both (x6 != s1.2.1) (fun hb => ?_) (fun hb => ?_)))))))))))
     ·have hg2 := hb
      have h_b2 := sel_t hb hb2
      refine .t1g 10 rfl hg2 (fun W hT => pr rfl) hT (.t1g 11 rfl hg2 (fun W hT => pr rfl) hT (.t1g 12 rfl hg2 (fun W hT => ixh hT.p1 hx2 T.u106 T.t31 rfl rfl rfl) hT (.t1g 13 rfl hg2 (fun W hT => lde (hT.p1.hcellsv) T.t31 rfl rfl rfl rfl rfl) hT (.t1g 14 rfl hg2 (fun W hT => pr rfl) hT ?_ (by kernel_rfl) rfl rfl) (by kernel_rfl) rfl rfl) (by kernel_rfl) rfl rfl) (by kernel_rfl) rfl rfl) (by kernel_rfl) rfl rfl
      have ⟨x7, hx7, h_b2⟩ := bnd h_b2
      refine .t1g 15 rfl hg2 (fun W hT => ixv hS.lendv hx7 T.u31 T.t3 rfl rfl rfl) hT (.t1g 16 rfl hg2 (fun W hT => lde (RV.flat hT.lendv hx7 rfl) T.t3 rfl rfl rfl rfl rfl) hT (.t1g 17 rfl hg2 (fun W hT => pr rfl) hT (.t1g 18 rfl hg2 (fun W hT => pr rfl) hT ?_ (by kernel_rfl) rfl rfl) (by kernel_rfl) rfl rfl) (by kernel_rfl) rfl rfl) (by kernel_rfl) rfl rfl
      have ⟨x8, hx8, h_b2⟩ := bnd h_b2
      refine .t1g 19 rfl hg2 (fun W hT => ixv (hS.keep q_2) hx8 T.u31 T.t3 rfl rfl rfl) hT (.t1g 20 rfl hg2 (fun W hT => lde (RV.flat (hT.keep q_2) hx8 rfl) T.t3 rfl rfl rfl rfl rfl) hT (.t1g 21 rfl hg2 (fun W hT => pr rfl) hT (.ts 22 rfl (fun W hT => pkt hg2 rfl rfl rfl) hT rfl (by kernel_rfl) (.eqv 47 rfl (bool_eq h_b2) (.done ?_ (by kernel_rfl)))) (by kernel_rfl) rfl rfl) (by kernel_rfl) rfl rfl) (by kernel_rfl) rfl rfl
      have hS := Sep.gat (ds := [.row 3 1 (x2.map (D.int .i64))]) (cs := [(sv v4)]) (L1 := [rowV (sv v4) 3 1 (D.int .i64) x2]) (.row (.nil)) (hS.to [0, 0] rfl)
      have hS : Sep _ _ _ [rowV (sv v_0) 31 1 (fun (l : List Int) => D.row 3 1 (l.map (D.int .i64))) s1.2.2] := Sep.back0v hx2 hS
      exact ⟨rfl, sb rfl, hS.to [0] rfl⟩
     refine .off 10 rfl hb hT (.off 11 rfl hb hT (.off 12 rfl hb hT (.off 13 rfl hb hT (.off 14 rfl hb hT (.off 15 rfl hb hT (.off 16 rfl hb hT (.off 17 rfl hb hT (.off 18 rfl hb hT (.off 19 rfl hb hT (.off 20 rfl hb hT (.off 21 rfl hb hT (.ts 22 rfl (fun W hT => pkf hb rfl rfl rfl) hT rfl (by kernel_rfl) (.eqv 47 rfl (bool_eq (sel_f hb hb2)) (.done ?_ (by kernel_rfl)))) (by kernel_rfl) rfl rfl) (by kernel_rfl) rfl rfl) (by kernel_rfl) rfl rfl) (by kernel_rfl) rfl rfl) (by kernel_rfl) rfl rfl) (by kernel_rfl) rfl rfl) (by kernel_rfl) rfl rfl) (by kernel_rfl) rfl rfl) (by kernel_rfl) rfl rfl) (by kernel_rfl) rfl rfl) (by kernel_rfl) rfl rfl) (by kernel_rfl) rfl rfl
     have hS := Sep.gat (ds := [.row 3 1 (x2.map (D.int .i64))]) (cs := [(sv v4)]) (L1 := [rowV (sv v4) 3 1 (D.int .i64) x2]) (.row (.nil)) (hS.to [0, 0] rfl)
     have hS : Sep _ _ _ [rowV (sv v_0) 31 1 (fun (l : List Int) => D.row 3 1 (l.map (D.int .i64))) s1.2.2] := Sep.back0v hx2 hS
     exact ⟨rfl, sb rfl, hS.to [0] rfl⟩
    intro x E W hJ
    obtain ⟨rfl, hE, hS⟩ := hJ
    refine ⟨_, hE.sub, ?_⟩
    refine .cs rfl h ?_ ?_ <;> intro h
    ·refine .seq (.region (.q rfl (.q rfl ?_)))
     have ⟨x9, hx9, h⟩ := bnd h
     refine .s (ixv hS.lendv hx9 T.u106 T.t31 rfl rfl rfl) rfl ?_
     obtain ⟨k3, hS⟩ := Sep.outv hS hx9
     obtain ⟨v5, k3, rfl, hS⟩ := hS.orowv
     obtain ⟨rfl, hS⟩ := hS.onil
     refine .s (lde (hS.p1.hcellsv) T.t31 rfl rfl rfl rfl rfl) rfl (.q rfl (.q rfl ?_))
     have ⟨x10, hx10, h⟩ := bnd h
     refine .s (ixv hS.lendv hx10 T.u31 T.t3 rfl rfl rfl) rfl ?_
     have ⟨r2, hr2, h⟩ := bnd h
     refine .c (.sev hr2 hx10 hS T.t3 rfl rfl rfl rfl rfl rfl ?_ rfl rfl rfl rfl rfl rfl)
     intro W hS
     refine .nil (.region (.q rfl (.nil ?_)))
     have hS := Sep.gat (ds := [.row 3 1 (r2.map (D.int .i64))]) (cs := [(sv v5)]) (L1 := [rowV (sv v5) 3 1 (D.int .i64) r2]) (.row (.nil)) (hS.to [0, 0] rfl)
     have hS : Sep _ _ _ [rowV (sv v_0) 31 1 (fun (l : List Int) => D.row 3 1 (l.map (D.int .i64))) (s1.2.2.set (Int.toNat a1) r2)] := hS.backv
     cases h
     exact ⟨rfl, sb rfl, hS.to [0] rfl⟩
    refine .skip ?_
    cases h
    exact ⟨rfl, sb rfl, hS.to [0] rfl⟩
   intro x E W hJ
   obtain ⟨rfl, hE, hS⟩ := hJ
   refine ⟨_, hE.sub, ?_⟩
   refine .region (.q rfl (.q rfl (.q rfl (.nil ?_))))
   cases h
   exact ⟨rfl, sb rfl, hS.to [0] rfl⟩
  refine .exit ?_
  cases h
  exact ⟨by simp, rfl, sb rfl, hS.to [0] rfl⟩
 intro x E W hJ
 obtain ⟨rfl, hE, hS⟩ := hJ
 refine ⟨_, hE.sub, ?_⟩
 cases h
 exact .seq (.region (.q rfl (.q rfl (.nil (.ret (fin_ret (vs := [_]) () (rt rfl rn) rfl (hS.to [0] rfl)))))))
theorem spec_l34Round_ok {a0 : List Quad} {a1 : List (List Int)} {v_0 : Hd} {v_1 : Hd} {S : Nat → Prop} {w : World} {r : Bool × (List (List Int))} (h : spec_l34Round a0 a1 = some r) (q_0 : RV w (Old S w) (sv v_0) 34 5 dQuad a0) (hO : Owns w [rowV (sv v_1) 31 1 (fun (l : List Int) => D.row 3 1 (l.map (D.int .i64))) a1] S) (hlt : ∀ b, S b → b < w.heap.size) : Calls Tryz.prog 118 #[(sv v_0), (sv v_1)] w (Ret S w (fun s : Unit => .bool r.1) (fun s => [rowV (sv v_1) 31 1 (fun (l : List Int) => D.row 3 1 (l.map (D.int .i64))) r.2])) := by
 unfold spec_l34Round at h
 refine enter Tryz.func118 rfl rfl ?_
 have hS := Sep.startM hO hlt
 refine .seq (.region (.q rfl (.nil (.seq (.region (.q rfl (.nil (.seq (.seq (.region (.q rfl (.nil (.block ?_)))))))))))))
 have ⟨y1, hy1, h⟩ := bnd h
 refine .via (.iter (fun s1 E' W' => SubL E' [(0, (sv v_0)), (1, (sv v_1)), (5, .bool s1.1), (6, .int .i64 s1.2.1)] ∧ Sep S w W' [rowV (sv v_1) 31 1 (fun (l : List Int) => D.row 3 1 (l.map (D.int .i64))) s1.2.2]) (fun y2 x E' W' => x = .exit 0 ∧ SubL E' [(5, .bool y2.1)] ∧ Sep S w W' [rowV (sv v_1) 31 1 (fun (l : List Int) => D.row 3 1 (l.map (D.int .i64))) y2.2]) hy1 ⟨sb rfl, hS.to [0] rfl⟩ ?_) ?_
 ·intro s1 y3 E W h hI
  obtain ⟨hE, hS⟩ := hI
  refine CW.sub hE ?_
  unfold spec_l34Round_b5 at h
  refine .seq (.seq (.region (.q rfl (.q rfl (.s (lenv (hS.keep q_0) T.u23 rfl rfl) rfl (.q rfl (.nil ?_)))))))
  refine .cs rfl h ?_ ?_ <;> intro h
  ·refine .skip ?_
   have ⟨y4, hy4, h⟩ := bnd h
   refine .seq (CW.via (R' := fun x E' W' => x = .normal ∧ SubL E' [(0, (sv v_0)), (1, (sv v_1)), (5, .bool y4.1), (6, .int .i64 s1.2.1)] ∧ Sep S w W' [rowV (sv v_1) 31 1 (fun (l : List Int) => D.row 3 1 (l.map (D.int .i64))) y4.2]) ?_ ?_)
   ·have h := hy4
    refine .block (.seq (.seq (.region (.q rfl (.q rfl ?_)))))
    have ⟨x1, hx1, h⟩ := bnd h
    refine .s (ixv hS.lendv hx1 T.u106 T.t31 rfl rfl rfl) rfl ?_
    obtain ⟨k1, hS⟩ := Sep.outv hS hx1
    obtain ⟨v1, k1, rfl, hS⟩ := hS.orowv
    obtain ⟨rfl, hS⟩ := hS.onil
    refine .s (lde (hS.p1.hcellsv) T.t31 rfl rfl rfl rfl rfl) rfl (.s (lenv hS.lendv T.u31 rfl rfl) rfl (.q rfl (.nil ?_)))
    refine .cs rfl h ?_ ?_ <;> intro h
    ·refine .exit ?_
     have hS := Sep.gat (ds := [.row 3 1 (x1.map (D.int .i64))]) (cs := [(sv v1)]) (L1 := [rowV (sv v1) 3 1 (D.int .i64) x1]) (.row (.nil)) (hS.to [0, 0] rfl)
     have hS : Sep _ _ _ [rowV (sv v_1) 31 1 (fun (l : List Int) => D.row 3 1 (l.map (D.int .i64))) s1.2.2] := Sep.back0v hx1 hS
     cases h
     exact ⟨rfl, sb rfl, hS.to [0] rfl⟩
    refine .skip (.seq (.region (.q rfl (.q rfl ?_))))
    have ⟨y5, hy5, h⟩ := bnd h
    refine .c (.call1v hS Tryz.func120 (spec_l31Next_ok hy5 (hS.keep q_0)) rfl rfl ?_ rfl (by kernel_rfl) rfl rfl)
    intro v2 W hS
    refine .q rfl (.nil (.seq (.rk 10 hS [0, 0, 0] T.mix ?_)))
    intro W hS
    have hT := hS.to [0, 0, 0] rfl
    refine .tp 0 rfl rfl hT (by kernel_rfl) (.tp 1 rfl rfl hT (by kernel_rfl) ?_)
    have ⟨x2, hx2, h⟩ := bnd h
    refine .ts 2 rfl (fun W hT => ixv (hS.keep q_0) hx2 T.u23 T.t34 rfl rfl rfl) hT rfl (by kernel_rfl) (.ts 3 rfl (fun W hT => lde (RV.flat (hT.keep q_0) hx2 rfl) T.t34 rfl rfl rfl rfl rfl) hT rfl (by kernel_rfl) (.tp 4 rfl rfl hT (by kernel_rfl) (.tp 5 rfl rfl hT (by kernel_rfl) (.ts 6 rfl (fun W hT => ixh hT.p2 hx1 T.u106 T.t31 rfl rfl rfl) hT rfl (by kernel_rfl) (.ts 7 rfl (fun W hT => lde (hT.p2.hcellsv) T.t31 rfl rfl rfl rfl rfl) hT rfl (by kernel_rfl) ?_)))))
    have ⟨y6, hy6, h⟩ := bnd h
    refine .by1 8 rfl (.call1v hS Tryz.func129 (spec_l34After_ok hy6 hS.p1.lendv) rfl rfl ?_ rfl (by kernel_rfl) rfl rfl) (by kernel_rfl)
    intro v3 W hS
    have hT := hS.to [1, 1, 1] rfl
    refine ⟨fun _ => hT, ?_⟩
    refine .tp 9 rfl rfl hT (by kernel_rfl) (.done (.seq (.region (.q rfl (.nil (.block ?_))))) (by kernel_rfl))
    have hS := Sep.gat (ds := [.row 3 1 (x1.map (D.int .i64))]) (cs := [(sv v1)]) (L1 := [rowV (sv v1) 3 1 (D.int .i64) x1]) (.row (.nil)) (hS.to [2, 2, 0, 0] rfl)
    have hS : Sep _ _ _ [rowV (sv v_1) 31 1 (fun (l : List Int) => D.row 3 1 (l.map (D.int .i64))) s1.2.2, rowV (sv v3) 3 1 (D.int .i64) y6, rowV (sv v2) 3 1 (D.int .i64) y5] := Sep.back0v hx1 hS
    have ⟨y7, hy7, h⟩ := bnd h
    refine .via (.iter (fun s2 E' W' => SubL E' [(0, (sv v_0)), (1, (sv v_1)), (5, .bool s2.1), (6, .int .i64 s1.2.1), (7, (sv v2)), (8, (sv v3)), (9, .int .i64 s2.2.1)] ∧ Sep S w W' [rowV (sv v_1) 31 1 (fun (l : List Int) => D.row 3 1 (l.map (D.int .i64))) s2.2.2, rowV (sv v3) 3 1 (D.int .i64) y6, rowV (sv v2) 3 1 (D.int .i64) y5]) (fun y8 x E' W' => x = .exit 2 ∧ SubL E' [(0, (sv v_0)), (1, (sv v_1)), (5, .bool y8.1), (6, .int .i64 s1.2.1)] ∧ Sep S w W' [rowV (sv v_1) 31 1 (fun (l : List Int) => D.row 3 1 (l.map (D.int .i64))) y8.2, rowV (sv v3) 3 1 (D.int .i64) y6, rowV (sv v2) 3 1 (D.int .i64) y5]) hy7 ⟨sb rfl, hS.to [0, 0, 0] rfl⟩ ?_) ?_
    ·intro s2 y9 E W h hI
     obtain ⟨hE, hS⟩ := hI
     refine CW.sub hE ?_
     unfold spec_l34Round_b7 at h
     refine .seq (.seq (.region (.q rfl (.q rfl (.s (lenv hS.p2.lendv T.u31 rfl rfl) rfl (.q rfl (.nil (.cond rfl (fun hb => ?_) (fun hb => ?_)))))))))
     ·have h := sel_t hb h
      refine .skip ?_
      have ⟨y10, hy10, h⟩ := bnd h
      refine .seq (CW.via (R' := fun x E' W' => x = .normal ∧ SubL E' [(0, (sv v_0)), (1, (sv v_1)), (5, .bool y10.1), (6, .int .i64 s1.2.1), (7, (sv v2)), (8, (sv v3)), (9, .int .i64 s2.2.1)] ∧ Sep S w W' [rowV (sv v_1) 31 1 (fun (l : List Int) => D.row 3 1 (l.map (D.int .i64))) y10.2, rowV (sv v3) 3 1 (D.int .i64) y6, rowV (sv v2) 3 1 (D.int .i64) y5]) ?_ ?_)
      ·have h := hy10
       refine .block (.seq (.region (.q rfl (.q rfl (.q rfl ?_)))))
       have ⟨x3, hx3, h⟩ := bnd h
       refine .s (ixv hS.p2.lendv hx3 T.u31 T.t3 rfl rfl rfl) rfl (.s (lde (RV.flat hS.p2.lendv hx3 rfl) T.t3 rfl rfl rfl rfl rfl) rfl (.q rfl ?_))
       have ⟨y11, hy11, h⟩ := bnd h
       refine .c (.callS2 (L0 := [rowV (sv v_1) 31 1 (fun (l : List Int) => D.row 3 1 (l.map (D.int .i64))) s2.2.2]) hS Tryz.func130 (fun S h1 h2 h3 => (spec_l34Carry_ok hy11 (h3.rdv (k := 0) rfl) h2 (fun b hb => (h1 b hb).2))) rfl rfl ?_ rfl (by kernel_rfl) rfl rfl)
       rintro ⟨⟩ W hS
       refine .nil ?_
       refine .cs rfl h ?_ ?_ <;> intro h
       ·refine .region (.q rfl (.nil ?_))
        cases h
        exact ⟨rfl, sb rfl, hS.to [0, 0, 0] rfl⟩
       refine .skip ?_
       cases h
       exact ⟨rfl, sb rfl, hS.to [0, 0, 0] rfl⟩
      intro x E W hJ
      obtain ⟨rfl, hE, hS⟩ := hJ
      refine ⟨_, hE.sub, ?_⟩
      refine .region (.q rfl (.q rfl (.q rfl (.nil ?_))))
      cases h
      exact ⟨rfl, sb rfl, hS.to [0, 0, 0] rfl⟩
     have h := sel_f hb h
     refine .exit ?_
     cases h
     exact ⟨by simp, rfl, sb rfl, hS.to [0, 0, 0] rfl⟩
    intro x E W hJ
    obtain ⟨rfl, hE, hS⟩ := hJ
    refine ⟨_, hE.sub, ?_⟩
    cases h
    exact ⟨rfl, sb rfl, hS.to [0] rfl⟩
   intro x E W hJ
   obtain ⟨rfl, hE, hS⟩ := hJ
   refine ⟨_, hE.sub, ?_⟩
   refine .region (.q rfl (.q rfl (.q rfl (.nil ?_))))
   cases h
   exact ⟨rfl, sb rfl, hS.to [0] rfl⟩
  refine .exit ?_
  cases h
  exact ⟨by simp, rfl, sb rfl, hS.to [0] rfl⟩
 intro x E W hJ
 obtain ⟨rfl, hE, hS⟩ := hJ
 refine ⟨_, hE.sub, ?_⟩
 cases h
 exact .seq (.region (.q rfl (.q rfl (.nil (.ret (fin_ret (vs := [_]) () (rt rfl rn) rfl (hS.to [0] rfl)))))))
end Go.Proofs.YtjpbdpfkhdekpaaGreatDoor.N
