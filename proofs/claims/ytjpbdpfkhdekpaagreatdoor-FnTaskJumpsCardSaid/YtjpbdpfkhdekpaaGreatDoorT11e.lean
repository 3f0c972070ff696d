/- Printed by a program of mine: that the program's functions compute it. -/
import Derived.Test.YtjpbdpfkhdekpaaGreatDoorT11
import Derived.Test.YtjpbdpfkhdekpaaGreatDoorT11a
import Derived.Test.YtjpbdpfkhdekpaaGreatDoorT11c
import Derived.Test.YtjpbdpfkhdekpaaGreatDoorT11d
set_option linter.unusedVariables false
set_option maxRecDepth 100000
set_option maxHeartbeats 4000000
namespace Go.Proofs.YtjpbdpfkhdekpaaGreatDoor.N
open Go.Proofs.YtjpbdpfkhdekpaaGreatDoor.X
theorem spec_CopiesOf_ok {a0 : List Quad} {v_0 : Hd} {w : World} {r : (List (List Int))} (h : spec_CopiesOf a0 = some r) (q_0 : RV w (Old No w) (sv v_0) 34 5 dQuad a0) : Calls Tryz.prog 98 #[(sv v_0)] w (Ret No w (fun s : Hd => (sv s)) (fun s => [rowV (sv s) 31 1 (fun (l : List Int) => D.row 3 1 (l.map (D.int .i64))) r])) := by
 unfold spec_CopiesOf at h
 refine enter Tryz.func98 rfl rfl ?_
 have hS := Sep.start w
 refine .seq (.region (.q rfl (.nil (.seq (.region (.c (.ligv (L1 := []) [] (fun (l : List Int) => D.row 3 1 (l.map (D.int .i64))) T.u106 T.t31 (hS.to [] rfl) rfl rfl rfl (.nil) ?_ rfl (fun _ => rfl) rfl rfl rfl rfl rfl)))))))
 intro v1 W hS
 refine .q rfl (.nil (.seq (.seq (.region (.q rfl ?_)))))
 have ⟨y1, hy1, h⟩ := bnd h
 refine .c (.call0 hS Tryz.func18 (spec_CodeValid_ok hy1 (hS.keep q_0)) rfl rfl ?_ rfl (by kernel_rfl) rfl rfl)
 intro W hS
 refine .q rfl (.nil (.cond rfl (fun hb => ?_) (fun hb => ?_)))
 ·have h := sel_t hb h
  cases h
  exact .seq (.region (.q rfl (.q rfl (.nil (.ret (fin_ret (vs := [_]) v1 (rt rfl rn) rfl (hS.to [0] rfl)))))))
 have h := sel_f hb h
 refine .skip (.seq (.seq (.region (.q rfl (.nil (.block ?_))))))
 have ⟨y2, hy2, h⟩ := bnd h
 refine .via (.iter (fun s1 E' W' => ∃ (v4 : Hd), SubL E' [(0, (sv v_0)), (3, (sv v4)), (4, .int .i64 s1.2)] ∧ Sep No w W' [rowV (sv v4) 31 1 (fun (l : List Int) => D.row 3 1 (l.map (D.int .i64))) s1.1]) (fun y3 x E' W' => x = .exit 0 ∧ ∃ (v5 : Hd), SubL E' [(0, (sv v_0)), (3, (sv v5))] ∧ Sep No w W' [rowV (sv v5) 31 1 (fun (l : List Int) => D.row 3 1 (l.map (D.int .i64))) y3]) hy2 ⟨v1, sb rfl, hS.to [0] rfl⟩ ?_) ?_
 ·intro s1 y4 E W h hI
  obtain ⟨v3, hE, hS⟩ := hI
  refine CW.sub hE ?_
  unfold spec_CopiesOf_b1 at h
  refine .seq (.seq (.region (.q rfl (.q rfl (.s (lenv (hS.keep q_0) T.u23 rfl rfl) rfl (.q rfl (.nil ?_)))))))
  refine .cs rfl h ?_ ?_ <;> intro h
  ·refine .skip (.seq (.block (.region (.q rfl (.c (.liv [] (D.int .i64) T.u31 T.t3 hS rfl rfl rfl rfl ?_ rfl (fun _ => rfl) rfl rfl rfl rfl))))))
   intro v6 W hS
   refine .c (.ligv (L1 := [rowV (sv v6) 3 1 (D.int .i64) []]) [[]] (fun (l : List Int) => D.row 3 1 (l.map (D.int .i64))) T.u106 T.t31 (hS.to [0, 0] rfl) rfl rfl rfl (.row (.nil)) ?_ rfl (fun _ => rfl) rfl rfl rfl rfl rfl)
   intro v7 W hS
   have ⟨r1, hr1, h⟩ := bnd h
   refine .c (.appv hr1 (hS.to [1, 0] rfl) T.u106 T.t31 rfl rfl rfl ?_ rfl rfl rfl rfl rfl)
   intro v8 W hS
   refine .q rfl (.nil (.region (.q rfl (.q rfl (.q rfl (.nil ?_))))))
   cases h
   exact ⟨rfl, v8, sb rfl, hS.to [0] rfl⟩
  refine .exit ?_
  cases h
  exact ⟨by simp, rfl, v3, sb rfl, hS.to [0] rfl⟩
 intro x E W hJ
 obtain ⟨rfl, v9, hE, hS⟩ := hJ
 refine ⟨_, hE.sub, ?_⟩
 refine .seq (.region (.q rfl ?_))
 have ⟨y5, hy5, h⟩ := bnd h
 refine .c (.call1v hS Tryz.func117 (spec_l34Self_ok hy5) rfl rfl ?_ rfl (by kernel_rfl) rfl rfl)
 intro v10 W hS
 have ⟨x1, hx1, h⟩ := bnd h
 refine .s (ixv hS.p1.lendv hx1 T.u106 T.t31 rfl rfl rfl) rfl ?_
 obtain ⟨k1, hS⟩ := Sep.outv hS.p1 hx1
 obtain ⟨v11, k1, rfl, hS⟩ := hS.orowv
 obtain ⟨rfl, hS⟩ := hS.onil
 refine .c (.sthv hS.p1 T.t31 rfl rfl rfl ?_ rfl rfl rfl rfl rfl rfl)
 intro W hS
 refine .nil (.seq (.block ?_))
 have hS := Sep.gat (ds := [.row 3 1 (y5.map (D.int .i64))]) (cs := [(sv v10)]) (L1 := [rowV (sv v10) 3 1 (D.int .i64) y5]) (.row (.nil)) (hS.to [2, 0, 0] rfl)
 have hS : Sep _ _ _ [rowV (sv v9) 31 1 (fun (l : List Int) => D.row 3 1 (l.map (D.int .i64))) (y2.set (Int.toNat 0) y5), rowV (sv v11) 3 1 (D.int .i64) x1] := hS.backv
 have ⟨y6, hy6, h⟩ := bnd h
 refine .via (.iter (fun s2 E' W' => SubL E' [(0, (sv v_0)), (3, (sv v9))] ∧ Sep No w W' [rowV (sv v9) 31 1 (fun (l : List Int) => D.row 3 1 (l.map (D.int .i64))) s2, rowV (sv v11) 3 1 (D.int .i64) x1]) (fun y7 x E' W' => x = .exit 2 ∧ SubL E' [(0, (sv v_0)), (3, (sv v9))] ∧ Sep No w W' [rowV (sv v9) 31 1 (fun (l : List Int) => D.row 3 1 (l.map (D.int .i64))) y7, rowV (sv v11) 3 1 (D.int .i64) x1]) hy6 ⟨sb rfl, hS.to [0, 0] rfl⟩ ?_) ?_
 ·intro s2 y8 E W h hI
  obtain ⟨hE, hS⟩ := hI
  refine CW.sub hE ?_
  unfold spec_CopiesOf_b2 at h
  refine .seq (.seq (.region (.q rfl (.q rfl ?_))))
  have ⟨y9, hy9, h⟩ := bnd h
  refine .c (.callS2 (L0 := [rowV (sv v9) 31 1 (fun (l : List Int) => D.row 3 1 (l.map (D.int .i64))) s2]) hS Tryz.func118 (fun S h1 h2 h3 => (spec_l34Round_ok hy9 (hS.keepS q_0 h1) h2 (fun b hb => (h1 b hb).2))) rfl rfl ?_ rfl (by kernel_rfl) rfl rfl)
  rintro ⟨⟩ W hS
  refine .nil ?_
  refine .cs rfl h ?_ ?_ <;> intro h
  ·refine .skip (.block (.skip ?_))
   cases h
   exact ⟨rfl, sb rfl, hS.to [0, 0] rfl⟩
  refine .exit ?_
  cases h
  exact ⟨by simp, rfl, sb rfl, hS.to [0, 0] rfl⟩
 intro x E W hJ
 obtain ⟨rfl, hE, hS⟩ := hJ
 refine ⟨_, hE.sub, ?_⟩
 refine .seq (.seq (.region (.q rfl (.nil (.block ?_)))))
 have ⟨y10, hy10, h⟩ := bnd h
 refine .via (.iter (fun s3 E' W' => SubL E' [(0, (sv v_0)), (3, (sv v9)), (5, .int .i64 s3.1)] ∧ Sep No w W' [rowV (sv v9) 31 1 (fun (l : List Int) => D.row 3 1 (l.map (D.int .i64))) s3.2, rowV (sv v11) 3 1 (D.int .i64) x1]) (fun y11 x E' W' => x = .exit 4 ∧ SubL E' [(3, (sv v9))] ∧ Sep No w W' [rowV (sv v9) 31 1 (fun (l : List Int) => D.row 3 1 (l.map (D.int .i64))) y11, rowV (sv v11) 3 1 (D.int .i64) x1]) hy10 ⟨sb rfl, hS.to [0, 0] rfl⟩ ?_) ?_
 ·intro s3 y12 E W h hI
  obtain ⟨hE, hS⟩ := hI
  refine CW.sub hE ?_
  unfold spec_CopiesOf_b3 at h
  refine .seq (.seq (.region (.q rfl (.q rfl (.s (lenv (hS.keep q_0) T.u23 rfl rfl) rfl (.q rfl (.nil ?_)))))))
  refine .cs rfl h ?_ ?_ <;> intro h
  ·refine .skip ?_
   have ⟨y13, hy13, h⟩ := bnd h
   refine .seq (CW.via (R' := fun x E' W' => x = .normal ∧ SubL E' [(0, (sv v_0)), (3, (sv v9)), (5, .int .i64 s3.1)] ∧ Sep No w W' [rowV (sv v9) 31 1 (fun (l : List Int) => D.row 3 1 (l.map (D.int .i64))) y13, rowV (sv v11) 3 1 (D.int .i64) x1]) ?_ ?_)
   ·have h := hy13
    refine .block (.seq (.region (.q rfl (.q rfl ?_))))
    have ⟨x2, hx2, h⟩ := bnd h
    refine .s (ixv hS.lendv hx2 T.u106 T.t31 rfl rfl rfl) rfl ?_
    obtain ⟨k2, hS⟩ := Sep.outv hS hx2
    obtain ⟨v12, k2, rfl, hS⟩ := hS.orowv
    obtain ⟨rfl, hS⟩ := hS.onil
    refine .s (lde (hS.p1.hcellsv) T.t31 rfl rfl rfl rfl rfl) rfl (.s (lenv hS.lendv T.u31 rfl rfl) rfl (.q rfl (.nil ?_)))
    refine .cs rfl h ?_ ?_ <;> intro h
    ·refine .region (.q rfl (.q rfl ?_))
     have ⟨y14, hy14, h⟩ := bnd h
     refine .c (.call1v hS Tryz.func117 (spec_l34Self_ok hy14) rfl rfl ?_ rfl (by kernel_rfl) rfl rfl)
     intro v13 W hS
     refine .s (ixh hS.p2 hx2 T.u106 T.t31 rfl rfl rfl) rfl (.c (.sthv hS.p2 T.t31 rfl rfl rfl ?_ rfl rfl rfl rfl rfl rfl))
     intro W hS
     refine .nil ?_
     have hS := Sep.gat (ds := [.row 3 1 (y14.map (D.int .i64))]) (cs := [(sv v13)]) (L1 := [rowV (sv v13) 3 1 (D.int .i64) y14]) (.row (.nil)) (hS.to [1, 0, 0, 0] rfl)
     have hS : Sep _ _ _ [rowV (sv v9) 31 1 (fun (l : List Int) => D.row 3 1 (l.map (D.int .i64))) (s3.2.set (Int.toNat s3.1) y14), rowV (sv v12) 3 1 (D.int .i64) x2, rowV (sv v11) 3 1 (D.int .i64) x1] := hS.backv
     cases h
     exact ⟨rfl, sb rfl, hS.to [0, 1] rfl⟩
    refine .skip ?_
    have hS := Sep.gat (ds := [.row 3 1 (x2.map (D.int .i64))]) (cs := [(sv v12)]) (L1 := [rowV (sv v12) 3 1 (D.int .i64) x2]) (.row (.nil)) (hS.to [0, 0, 0] rfl)
    have hS : Sep _ _ _ [rowV (sv v9) 31 1 (fun (l : List Int) => D.row 3 1 (l.map (D.int .i64))) s3.2, rowV (sv v11) 3 1 (D.int .i64) x1] := Sep.back0v hx2 hS
    cases h
    exact ⟨rfl, sb rfl, hS.to [0, 0] rfl⟩
   intro x E W hJ
   obtain ⟨rfl, hE, hS⟩ := hJ
   refine ⟨_, hE.sub, ?_⟩
   refine .region (.q rfl (.q rfl (.q rfl (.nil ?_))))
   cases h
   exact ⟨rfl, sb rfl, hS.to [0, 0] rfl⟩
  refine .exit ?_
  cases h
  exact ⟨by simp, rfl, sb rfl, hS.to [0, 0] rfl⟩
 intro x E W hJ
 obtain ⟨rfl, hE, hS⟩ := hJ
 refine ⟨_, hE.sub, ?_⟩
 obtain rfl := Option.some.inj h
 exact .seq (.region (.q rfl (.q rfl (.nil (.ret (fin_ret (vs := [_]) v9 (rt rfl rn) rfl (hS.to [0] rfl)))))))
theorem spec_l34Read_ok {a0 : Quad} {a1 : List Int} {v_1 : Hd} {w : World} {r : Quad} (h : spec_l34Read a0 a1 = some r) (q_1 : RV w (Old No w) (sv v_1) 3 1 (D.int .i64) a1) : Calls Tryz.prog 99 #[.agg #[.int .i64 a0.Op, .int .i64 a0.Dst, .int .i64 a0.A, .int .i64 a0.B, .int .i64 a0.N], (sv v_1)] w (Ret No w (fun s : Unit => .agg #[.int .i64 r.Op, .int .i64 r.Dst, .int .i64 r.A, .int .i64 r.B, .int .i64 r.N]) (fun s => [])) := by
 unfold spec_l34Read at h
 refine enter Tryz.func99 rfl rfl ?_
 have hS := Sep.start w
 refine .seq (.region (.c (.box hS rfl rfl ?_ rfl rfl)))
 intro g1 W hS
 refine .c (.alloc T.t34 hS ?_ rfl rfl rfl)
 intro g2 W hS
 refine .nil (.seq (.seq (.region (.s (fa T.f34_0 rfl rfl rfl) rfl (.s (ld T.t3 hS.p1 rfl rfl rfl rfl rfl) rfl (.nil (.block ?_)))))))
 have ⟨y1, hy1, h⟩ := bnd h
 refine .seq (CW.via (R' := fun x E' W' => x = .normal ∧ SubL E' [(1, (sv v_1)), (2, .pointer (some ⟨g1, 0, none⟩)), (4, .pointer (some ⟨g2, 0, none⟩)), (6, .int .i64 a0.Op), (7, .bool y1)] ∧ Sep No w W' [.box g2 34 [.int .i64 0, .int .i64 0, .int .i64 0, .int .i64 0, .int .i64 0], .box g1 34 [.int .i64 a0.Op, .int .i64 a0.Dst, .int .i64 a0.A, .int .i64 a0.B, .int .i64 a0.N]]) ?_ ?_)
 ·have h := hy1
  refine .seq (.region (.q rfl (.q rfl (.nil ?_))))
  refine .cs rfl h ?_ ?_ <;> intro h
  ·refine .skip ?_
   cases h
   exact ⟨rfl, sb rfl, hS.to [0, 0] rfl⟩
  refine .seq (.region (.q rfl (.q rfl (.nil ?_))))
  refine .cs rfl h ?_ ?_ <;> intro h
  ·refine .skip ?_
   cases h
   exact ⟨rfl, sb rfl, hS.to [0, 0] rfl⟩
  refine .seq (.region (.q rfl (.q rfl (.nil ?_))))
  refine .cs rfl h ?_ ?_ <;> intro h
  ·refine .skip ?_
   cases h
   exact ⟨rfl, sb rfl, hS.to [0, 0] rfl⟩
  refine .region (.q rfl (.q rfl (.nil ?_)))
  cases h
  exact ⟨rfl, sb rfl, hS.to [0, 0] rfl⟩
 intro x E W hJ
 obtain ⟨rfl, hE, hS⟩ := hJ
 refine ⟨_, hE.sub, ?_⟩
 refine .cs rfl h ?_ ?_ <;> intro h
 ·refine .region (.q rfl (.s (fa T.f34_2 rfl rfl rfl) rfl (.s (ld T.t3 hS.p1 rfl rfl rfl rfl rfl) rfl ?_)))
  have ⟨x1, hx1, h⟩ := bnd h
  refine .s (ixv (hS.keep q_1) hx1 T.u31 T.t3 rfl rfl rfl) rfl (.s (lde (RV.flat (hS.keep q_1) hx1 rfl) T.t3 rfl rfl rfl rfl rfl) rfl (.s (fa T.f34_2 rfl rfl rfl) rfl (.c (.st T.t3 hS.p1 rfl rfl rfl ?_ rfl rfl rfl rfl rfl))))
  intro W hS
  refine .nil (.seq (.region (.s (ld T.t34 hS rfl rfl rfl rfl rfl) rfl (.c (.st T.t34 hS.p1 rfl rfl rfl ?_ rfl rfl rfl rfl rfl)))))
  intro W hS
  cases h
  exact .nil (.ret (fin_ret (vs := [_]) () (rc hS T.t34 rfl rn rfl rfl) rfl (hS.to [] rfl)))
 refine .seq (.region (.q rfl (.q rfl (.nil ?_))))
 refine .cs rfl h ?_ ?_ <;> intro h
 ·refine .seq (.region (.q rfl (.s (fa T.f34_2 rfl rfl rfl) rfl (.s (ld T.t3 hS.p1 rfl rfl rfl rfl rfl) rfl ?_))))
  have ⟨x2, hx2, h⟩ := bnd h
  refine .s (ixv (hS.keep q_1) hx2 T.u31 T.t3 rfl rfl rfl) rfl (.s (lde (RV.flat (hS.keep q_1) hx2 rfl) T.t3 rfl rfl rfl rfl rfl) rfl (.s (fa T.f34_2 rfl rfl rfl) rfl (.c (.st T.t3 hS.p1 rfl rfl rfl ?_ rfl rfl rfl rfl rfl))))
  intro W hS
  refine .nil (.region (.q rfl (.s (fa T.f34_3 rfl rfl rfl) rfl (.s (ld T.t3 hS rfl rfl rfl rfl rfl) rfl ?_))))
  have ⟨x3, hx3, h⟩ := bnd h
  refine .s (ixv (hS.keep q_1) hx3 T.u31 T.t3 rfl rfl rfl) rfl (.s (lde (RV.flat (hS.keep q_1) hx3 rfl) T.t3 rfl rfl rfl rfl rfl) rfl (.s (fa T.f34_3 rfl rfl rfl) rfl (.c (.st T.t3 hS rfl rfl rfl ?_ rfl rfl rfl rfl rfl))))
  intro W hS
  refine .nil (.seq (.region (.s (ld T.t34 hS rfl rfl rfl rfl rfl) rfl (.c (.st T.t34 hS.p1 rfl rfl rfl ?_ rfl rfl rfl rfl rfl)))))
  intro W hS
  cases h
  exact .nil (.ret (fin_ret (vs := [_]) () (rc hS T.t34 rfl rn rfl rfl) rfl (hS.to [] rfl)))
 refine .skip (.seq (.region (.s (ld T.t34 hS.p1 rfl rfl rfl rfl rfl) rfl (.c (.st T.t34 hS rfl rfl rfl ?_ rfl rfl rfl rfl rfl)))))
 intro W hS
 obtain rfl := Option.some.inj h
 exact .nil (.ret (fin_ret (vs := [_]) () (rc hS T.t34 rfl rn rfl rfl) rfl (hS.to [] rfl)))
theorem spec_CopyCode_ok {a0 : List Quad} {v_0 : Hd} {w : World} {r : (List Quad) × Bool} (h : spec_CopyCode a0 = some r) (q_0 : RV w (Old No w) (sv v_0) 34 5 dQuad a0) : Calls Tryz.prog 82 #[(sv v_0)] w (Ret No w (fun s : Hd => .tuple #[(sv s), .bool r.2]) (fun s => [rowV (sv s) 34 5 dQuad r.1])) := by
 unfold spec_CopyCode at h
 refine enter Tryz.func82 rfl rfl ?_
 have hS := Sep.start w
 refine .seq (.region (.q rfl (.q rfl (.nil (.seq (.region (.c (.liv [] dQuad T.u23 T.t34 hS rfl rfl rfl rfl ?_ rfl (fun _ => rfl) rfl rfl rfl rfl))))))))
 intro v1 W hS
 refine .q rfl (.nil (.seq (.seq (.region (.q rfl ?_)))))
 have ⟨y1, hy1, h⟩ := bnd h
 refine .c (.call0 hS Tryz.func18 (spec_CodeValid_ok hy1 (hS.keep q_0)) rfl rfl ?_ rfl (by kernel_rfl) rfl rfl)
 intro W hS
 refine .q rfl (.nil ?_)
 refine .cs rfl h ?_ ?_ <;> intro h
 ·cases h
  exact .seq (.region (.q rfl (.q rfl (.q rfl (.nil (.ret (fin_ret (vs := [_, _]) v1 (rt rfl (rt rfl rn)) rfl (hS.to [0] rfl))))))))
 refine .skip (.seq (.region (.q rfl ?_)))
 have ⟨y2, hy2, h⟩ := bnd h
 refine .c (.call1v hS Tryz.func98 (spec_CopiesOf_ok hy2 (hS.keep q_0)) rfl rfl ?_ rfl (by kernel_rfl) rfl rfl)
 intro v2 W hS
 refine .q rfl (.nil (.seq (.seq (.region (.q rfl (.nil (.block ?_)))))))
 have ⟨y3, hy3, h⟩ := bnd h
 refine .via (.iter (fun s1 E' W' => ∃ (v5 : Hd), SubL E' [(0, (sv v_0)), (4, (sv v5)), (5, (sv v2)), (6, .int .i64 s1.2)] ∧ Sep No w W' [rowV (sv v2) 31 1 (fun (l : List Int) => D.row 3 1 (l.map (D.int .i64))) y2, rowV (sv v5) 34 5 dQuad s1.1]) (fun y4 x E' W' => x = .exit 0 ∧ ∃ (v6 : Hd), SubL E' [(4, (sv v6))] ∧ Sep No w W' [rowV (sv v2) 31 1 (fun (l : List Int) => D.row 3 1 (l.map (D.int .i64))) y2, rowV (sv v6) 34 5 dQuad y4]) hy3 ⟨v1, sb rfl, hS.to [0, 0] rfl⟩ ?_) ?_
 ·intro s1 y5 E W h hI
  obtain ⟨v4, hE, hS⟩ := hI
  refine CW.sub hE ?_
  unfold spec_CopyCode_b1 at h
  refine .seq (.seq (.region (.q rfl (.q rfl (.s (lenv (hS.keep q_0) T.u23 rfl rfl) rfl (.q rfl (.nil ?_)))))))
  refine .cs rfl h ?_ ?_ <;> intro h
  ·refine .skip (.seq (.block ?_))
   have ⟨x1, hx1, h⟩ := bnd h
   obtain ⟨k1, hS⟩ := Sep.outv hS hx1
   obtain ⟨v7, k1, rfl, hS⟩ := hS.orowv
   obtain ⟨rfl, hS⟩ := hS.onil
   refine .rk 13 hS [0, 0] T.mix ?_
   intro W hS
   have hT := hS.to [0, 0] rfl
   refine .tp 0 rfl rfl hT (by kernel_rfl) (.tp 1 rfl rfl hT (by kernel_rfl) (.tp 2 rfl rfl hT (by kernel_rfl) ?_))
   have ⟨x3, hx3, h⟩ := bnd h
   refine .ts 3 rfl (fun W hT => ixv (hS.keep q_0) hx3 T.u23 T.t34 rfl rfl rfl) hT rfl (by kernel_rfl) (.ts 4 rfl (fun W hT => lde (RV.flat (hT.keep q_0) hx3 rfl) T.t34 rfl rfl rfl rfl rfl) hT rfl (by kernel_rfl) (.tp 5 rfl rfl hT (by kernel_rfl) (.tp 6 rfl rfl hT (by kernel_rfl) (.ts 7 rfl (fun W hT => ixh hT.p1 hx1 T.u106 T.t31 rfl rfl rfl) hT rfl (by kernel_rfl) (.ts 8 rfl (fun W hT => lde (hT.p1.hcellsv) T.t31 rfl rfl rfl rfl rfl) hT rfl (by kernel_rfl) ?_)))))
   have ⟨y7, hy7, h⟩ := bnd h
   refine .by1 9 rfl (.call0 hS Tryz.func99 (spec_l34Read_ok hy7 hS.lendv) rfl rfl ?_ rfl (by kernel_rfl) rfl rfl) (by kernel_rfl)
   intro W hS
   have hT := hS.to [0, 0] rfl
   refine ⟨fun _ => hT, ?_⟩
   refine .by1 10 rfl (.liv [y7] dQuad T.u23 T.t34 hS rfl rfl rfl rfl ?_ rfl (fun _ => rfl) rfl rfl rfl rfl) (by kernel_rfl)
   intro v10 W hS
   have hT := hS.to [1, 1] rfl
   refine ⟨fun _ => hT, ?_⟩
   have ⟨r2, hr2, h⟩ := bnd h
   have hT0 := hS.p3
   refine .by1 11 rfl (.apprv hr2 hT0 hT0.p1.lendv (fun _ => rfl) T.u23 T.t34 rfl rfl rfl ?_ rfl rfl rfl rfl rfl) (by kernel_rfl)
   intro v11 W hS
   have hT := hS.to [2, 2] rfl
   refine ⟨fun _ => hT, ?_⟩
   refine .tp 12 rfl rfl hT (by kernel_rfl) (.done (.region (.q rfl (.q rfl (.q rfl (.nil ?_))))) (by kernel_rfl))
   have hS := Sep.gat (ds := [.row 3 1 (x1.map (D.int .i64))]) (cs := [(sv v7)]) (L1 := [rowV (sv v7) 3 1 (D.int .i64) x1]) (.row (.nil)) (hS.to [2, 2, 0, 0] rfl)
   have hS : Sep _ _ _ [rowV (sv v2) 31 1 (fun (l : List Int) => D.row 3 1 (l.map (D.int .i64))) y2, rowV (sv v11) 34 5 dQuad r2, rowV (sv v10) 34 5 dQuad [y7]] := Sep.back0v hx1 hS
   cases h
   exact ⟨rfl, v11, sb rfl, hS.to [0, 0] rfl⟩
  refine .exit ?_
  cases h
  exact ⟨by simp, rfl, v4, sb rfl, hS.to [0, 0] rfl⟩
 intro x E W hJ
 obtain ⟨rfl, v12, hE, hS⟩ := hJ
 refine ⟨_, hE.sub, ?_⟩
 cases h
 exact .seq (.region (.q rfl (.q rfl (.q rfl (.nil (.ret (fin_ret (vs := [_, _]) v12 (rt rfl (rt rfl rn)) rfl (hS.to [1] rfl))))))))
def spec_l36Target_F (w : World) (r : Int) : Env → World → Prop := Fin Tryz.prog Tryz.f100 No w (fun s : Unit => .int .i64 r) (fun s => []) .ret
theorem spec_l36Target_ok {a0 : List Quad} {a1 : Int} {v_0 : Hd} {w : World} {r : Int} (h : spec_l36Target a0 a1 = some r) (q_0 : RV w (Old No w) (sv v_0) 34 5 dQuad a0) : Calls Tryz.prog 100 #[(sv v_0), .int .i64 a1] w (Ret No w (fun s : Unit => .int .i64 r) (fun s => [])) := by
 unfold spec_l36Target at h
 refine enter Tryz.func100 rfl rfl ?_
 have hS := Sep.start w
 refine .seq (.region (.q rfl (.nil (.seq (.region (.q rfl (.q rfl (.nil (.seq (.seq (.region (.q rfl (.nil (.block ?_))))))))))))))
 have ⟨y1, hy1, h⟩ := bnd h
 refine .via (.iter (fun s1 E' W' => SubL E' [(0, (sv v_0)), (1, .int .i64 a1), (5, .int .i64 s1.1), (6, .int .i64 s1.2)] ∧ Sep No w W' []) (fun y2 x E' W' => (match y2 with | .inl o1 => x = .ret ∧ spec_l36Target_F w o1 E' W' | .inr o2 => x = .exit 0 ∧ SubL E' [(1, .int .i64 a1)] ∧ Sep No w W' [])) hy1 ⟨sb rfl, hS.to [] rfl⟩ ?_) ?_
 ·intro s1 y3 E W h hI
  obtain ⟨hE, hS⟩ := hI
  refine CW.sub hE ?_
  unfold spec_l36Target_b1 at h
  refine .seq (.seq (.region (.q rfl (.q rfl (.s (lenv (hS.keep q_0) T.u23 rfl rfl) rfl (.q rfl (.nil ?_)))))))
  refine .cs rfl h ?_ ?_ <;> intro h
  ·refine .skip (.seq (.block (.seq (.seq (.region (.q rfl (.q rfl ?_)))))))
   have ⟨x1, hx1, h⟩ := bnd h
   refine .s (ixv (hS.keep q_0) hx1 T.u23 T.t34 rfl rfl rfl) rfl (.s (fe T.f34_0 rfl rfl rfl) rfl (.s (lde (RV.flat (hS.keep q_0) hx1 rfl) T.t3 rfl rfl rfl rfl rfl) rfl (.q rfl (.nil ?_))))
   refine .cs rfl h ?_ ?_ <;> intro h
   ·refine .seq (.region (.q rfl (.q rfl (.nil (.ret ?_)))))
    cases h
    exact ⟨by simp, rfl, fin_ret (vs := [_]) () (rt rfl rn) rfl (hS.to [] rfl)⟩
   refine .skip (.region (.q rfl (.q rfl ?_)))
   have ⟨x2, hx2, h⟩ := bnd h
   refine .s (ixv (hS.keep q_0) hx2 T.u23 T.t34 rfl rfl rfl) rfl (.s (fe T.f34_4 rfl rfl rfl) rfl (.s (lde (RV.flat (hS.keep q_0) hx2 rfl) T.t3 rfl rfl rfl rfl rfl) rfl (.q rfl (.nil (.region (.q rfl (.q rfl (.q rfl (.nil ?_)))))))))
   cases h
   exact ⟨rfl, sb rfl, hS.to [] rfl⟩
  refine .exit ?_
  cases h
  exact ⟨by simp, rfl, sb rfl, hS.to [] rfl⟩
 intro x E W hJ
 rcases y1 with o3 | o4
 ·obtain ⟨rfl, hF⟩ := hJ
  refine ⟨_, fun _ _ h => h, ?_⟩
  cases h
  exact hF
 obtain ⟨rfl, hE, hS⟩ := hJ
 refine ⟨_, hE.sub, ?_⟩
 obtain rfl := Option.some.inj h
 exact .seq (.region (.q rfl (.q rfl (.nil (.ret (fin_ret (vs := [_]) () (rt rfl rn) rfl (hS.to [] rfl)))))))
theorem spec_JumpCode_ok {a0 : List Quad} {v_0 : Hd} {w : World} {r : (List Quad) × Bool} (h : spec_JumpCode a0 = some r) (q_0 : RV w (Old No w) (sv v_0) 34 5 dQuad a0) : Calls Tryz.prog 83 #[(sv v_0)] w (Ret No w (fun s : Hd => .tuple #[(sv s), .bool r.2]) (fun s => [rowV (sv s) 34 5 dQuad r.1])) := by
 unfold spec_JumpCode at h
 refine enter Tryz.func83 rfl rfl ?_
 have hS := Sep.start w
 refine .seq (.region (.q rfl (.q rfl (.nil (.seq (.region (.c (.liv [] dQuad T.u23 T.t34 hS rfl rfl rfl rfl ?_ rfl (fun _ => rfl) rfl rfl rfl rfl))))))))
 intro v1 W hS
 refine .q rfl (.nil (.seq (.seq (.region (.q rfl ?_)))))
 have ⟨y1, hy1, h⟩ := bnd h
 refine .c (.call0 hS Tryz.func18 (spec_CodeValid_ok hy1 (hS.keep q_0)) rfl rfl ?_ rfl (by kernel_rfl) rfl rfl)
 intro W hS
 refine .q rfl (.nil ?_)
 refine .cs rfl h ?_ ?_ <;> intro h
 ·cases h
  exact .seq (.region (.q rfl (.q rfl (.q rfl (.nil (.ret (fin_ret (vs := [_, _]) v1 (rt rfl (rt rfl rn)) rfl (hS.to [0] rfl))))))))
 refine .skip (.seq (.seq (.region (.q rfl (.nil (.block ?_))))))
 have ⟨y2, hy2, h⟩ := bnd h
 refine .via (.iter (fun s1 E' W' => ∃ (v4 : Hd), SubL E' [(0, (sv v_0)), (4, (sv v4)), (5, .int .i64 s1.2)] ∧ Sep No w W' [rowV (sv v4) 34 5 dQuad s1.1]) (fun y3 x E' W' => x = .exit 0 ∧ ∃ (v5 : Hd), SubL E' [(4, (sv v5))] ∧ Sep No w W' [rowV (sv v5) 34 5 dQuad y3]) hy2 ⟨v1, sb rfl, hS.to [0] rfl⟩ ?_) ?_
 ·intro s1 y4 E W h hI
  obtain ⟨v3, hE, hS⟩ := hI
  refine CW.sub hE ?_
  unfold spec_JumpCode_b1 at h
  refine .seq (.seq (.region (.q rfl (.q rfl (.s (lenv (hS.keep q_0) T.u23 rfl rfl) rfl (.q rfl (.nil ?_)))))))
  refine .cs rfl h ?_ ?_ <;> intro h
  ·refine .skip (.seq (.block (.seq (.region (.q rfl (.q rfl ?_))))))
   have ⟨x1, hx1, h⟩ := bnd h
   refine .s (ixv (hS.keep q_0) hx1 T.u23 T.t34 rfl rfl rfl) rfl (.s (lde (RV.flat (hS.keep q_0) hx1 rfl) T.t34 rfl rfl rfl rfl rfl) rfl (.c (.alloc T.t34 hS ?_ rfl rfl rfl)))
   intro g1 W hS
   refine .c (.st T.t34 hS rfl rfl rfl ?_ rfl rfl rfl rfl rfl)
   intro W hS
   refine .nil ?_
   have ⟨y5, hy5, h⟩ := bnd h
   refine .seq (CW.via (R' := fun x E' W' => x = .normal ∧ SubL E' [(0, (sv v_0)), (4, (sv v3)), (5, .int .i64 s1.2), (6, .pointer (some ⟨g1, 0, none⟩))] ∧ Sep No w W' [.box g1 34 [.int .i64 y5.Op, .int .i64 y5.Dst, .int .i64 y5.A, .int .i64 y5.B, .int .i64 y5.N], rowV (sv v3) 34 5 dQuad s1.1]) ?_ ?_)
   ·have h := hy5
    refine .seq (.region (.s (fa T.f34_0 rfl rfl rfl) rfl (.s (ld T.t3 hS rfl rfl rfl rfl rfl) rfl (.q rfl (.q rfl (.chunk 4 29 ((x1.Op == 4) || (x1.Op == 5)) hS ?_ ?_))))))
    ·refine .both (x1.Op == 4) (fun hb => ?_) (fun hb => ?_)
     ·exact .xx hb rfl (.xx hb rfl (.xx hb rfl (.s (pkt hb rfl rfl rfl) rfl (.nil (ck 4 hS rfl (or_t hb) rfl rfl)))))
     have hg1 := hb
     exact .g hg1 (.s (fa T.f34_0 rfl rfl rfl) rfl (.g hg1 (.s (ld T.t3 hS rfl rfl rfl rfl rfl) rfl (.g hg1 (.q rfl (.s (pkf hg1 rfl rfl rfl) rfl (.nil (ck 4 hS rfl (or_f hg1) rfl rfl)))) rfl)) rfl)) rfl
    intro W hS
    refine .nil ?_
    refine .cs rfl h ?_ ?_ <;> intro h
    ·refine .region (.q rfl (.s (fa T.f34_4 rfl rfl rfl) rfl (.s (ld T.t3 hS rfl rfl rfl rfl rfl) rfl ?_)))
     have ⟨y6, hy6, h⟩ := bnd h
     refine .c (.call0 hS Tryz.func100 (spec_l36Target_ok hy6 (hS.keep q_0)) rfl rfl ?_ rfl (by kernel_rfl) rfl rfl)
     intro W hS
     refine .s (fa T.f34_4 rfl rfl rfl) rfl (.c (.st T.t3 hS rfl rfl rfl ?_ rfl rfl rfl rfl rfl))
     intro W hS
     refine .nil ?_
     cases h
     exact ⟨rfl, sb rfl, hS.to [0, 0] rfl⟩
    refine .skip ?_
    obtain rfl := Option.some.inj h
    exact ⟨rfl, sb rfl, hS.to [0, 0] rfl⟩
   intro x E W hJ
   obtain ⟨rfl, hE, hS⟩ := hJ
   refine ⟨_, hE.sub, ?_⟩
   refine .region (.q rfl (.s (ld T.t34 hS rfl rfl rfl rfl rfl) rfl (.c (.liv [y5] dQuad T.u23 T.t34 hS rfl rfl rfl rfl ?_ rfl (fun _ => rfl) rfl rfl rfl rfl))))
   intro v6 W hS
   have ⟨r1, hr1, h⟩ := bnd h
   have hT0 := hS.p2
   refine .c (.apprv hr1 hT0 hT0.p1.lendv (fun _ => rfl) T.u23 T.t34 rfl rfl rfl ?_ rfl rfl rfl rfl rfl)
   intro v7 W hS
   refine .q rfl (.nil (.region (.q rfl (.q rfl (.q rfl (.nil ?_))))))
   cases h
   exact ⟨rfl, v7, sb rfl, hS.to [0] rfl⟩
  refine .exit ?_
  cases h
  exact ⟨by simp, rfl, v3, sb rfl, hS.to [0] rfl⟩
 intro x E W hJ
 obtain ⟨rfl, v8, hE, hS⟩ := hJ
 refine ⟨_, hE.sub, ?_⟩
 cases h
 exact .seq (.region (.q rfl (.q rfl (.q rfl (.nil (.ret (fin_ret (vs := [_, _]) v8 (rt rfl (rt rfl rn)) rfl (hS.to [0] rfl))))))))
theorem spec_l32After_ok {a0 : List Quad} {a1 : List (List Bool)} {a2 : Int} {v_0 : Hd} {v_1 : Hd} {w : World} {r : (List Bool)} (h : spec_l32After a0 a1 a2 = some r) (q_0 : RV w (Old No w) (sv v_0) 34 5 dQuad a0) (q_1 : RV w (Old No w) (sv v_1) 113 1 (fun (l : List Bool) => D.row 4 1 (l.map D.bool)) a1) : Calls Tryz.prog 103 #[(sv v_0), (sv v_1), .int .i64 a2] w (Ret No w (fun s : Hd => (sv s)) (fun s => [rowV (sv s) 4 1 D.bool r])) := by
 unfold spec_l32After at h
 refine enter Tryz.func103 rfl rfl ?_
 have hS := Sep.start w
 refine .seq (.region (.q rfl (.nil (.seq (.region ?_)))))
 have ⟨r1, hr1, h⟩ := bnd h
 refine .c (.mkv false D.bool hr1 T.u113 T.t4 hS rfl rfl rfl rfl rfl (fun _ => rfl) ?_ rfl rfl rfl)
 intro v1 W hS
 refine .q rfl (.nil (.seq (.region (.q rfl (.q rfl ?_)))))
 have ⟨y1, hy1, h⟩ := bnd h
 refine .c (.call1v hS Tryz.func120 (spec_l31Next_ok hy1 (hS.keep q_0)) rfl rfl ?_ rfl (by kernel_rfl) rfl rfl)
 intro v2 W hS
 refine .q rfl (.nil (.seq (.seq (.region (.q rfl (.nil (.block ?_)))))))
 have ⟨y2, hy2, h⟩ := bnd h
 refine .via (.iter (fun s1 E' W' => SubL E' [(1, (sv v_1)), (7, (sv v1)), (8, (sv v2)), (9, .int .i64 s1.1)] ∧ Sep No w W' [rowV (sv v2) 3 1 (D.int .i64) y1, rowV (sv v1) 4 1 D.bool s1.2]) (fun y3 x E' W' => x = .exit 0 ∧ SubL E' [(7, (sv v1))] ∧ Sep No w W' [rowV (sv v2) 3 1 (D.int .i64) y1, rowV (sv v1) 4 1 D.bool y3]) hy2 ⟨sb rfl, hS.to [0, 0] rfl⟩ ?_) ?_
 ·intro s1 y4 E W h hI
  obtain ⟨hE, hS⟩ := hI
  refine CW.sub hE ?_
  unfold spec_l32After_b3 at h
  refine .seq (.seq (.region (.q rfl (.q rfl (.s (lenv hS.lendv T.u31 rfl rfl) rfl (.q rfl (.nil ?_)))))))
  refine .cs rfl h ?_ ?_ <;> intro h
  ·refine .skip (.seq (.block (.seq (.region (.q rfl (.nil (.block ?_)))))))
   have ⟨y5, hy5, h⟩ := bnd h
   refine .via (.iter (fun s2 E' W' => SubL E' [(1, (sv v_1)), (7, (sv v1)), (8, (sv v2)), (9, .int .i64 s1.1), (10, .int .i64 s2.1)] ∧ Sep No w W' [rowV (sv v2) 3 1 (D.int .i64) y1, rowV (sv v1) 4 1 D.bool s2.2]) (fun y6 x E' W' => x = .exit 2 ∧ SubL E' [(1, (sv v_1)), (7, (sv v1)), (8, (sv v2)), (9, .int .i64 s1.1)] ∧ Sep No w W' [rowV (sv v2) 3 1 (D.int .i64) y1, rowV (sv v1) 4 1 D.bool y6]) hy5 ⟨sb rfl, hS.to [0, 0] rfl⟩ ?_) ?_
   ·intro s2 y7 E W h hI
    obtain ⟨hE, hS⟩ := hI
    refine CW.sub hE ?_
    unfold spec_l32After_b4 at h
    refine .seq (.seq (.region (.q rfl (.q rfl (.nil ?_)))))
    refine .cs rfl h ?_ ?_ <;> intro h
    ·refine .skip (.seq (.block (.region (.q rfl (.q rfl (.q rfl (.q rfl ?_)))))))
     have ⟨x1, hx1, h⟩ := bnd h
     refine .s (ixv hS.p1.lendv hx1 T.u113 T.t4 rfl rfl rfl) rfl (.s (lde (RV.flat hS.p1.lendv hx1 rfl) T.t4 rfl rfl rfl rfl rfl) rfl (.q rfl ?_))
     have ⟨b1, hb1, h⟩ := bnd h
     refine .chunk 11 42 (b1) hS ?_ ?_
     ·refine .both (x1) (fun hb => ?_) (fun hb => ?_)
      ·refine .xx hb rfl (.xx hb rfl (.xx hb rfl (.xx hb rfl (.xx hb rfl (.xx hb rfl (.xx hb rfl (.xx hb rfl (.xx hb rfl (.xx hb rfl ?_)))))))))
       cases sel_t hb hb1
       exact .s (pkt hb rfl rfl rfl) rfl (.nil (ck 11 hS rfl rfl rfl rfl))
      have hg1 := hb
      have h := sel_f hb hb1
      refine .g hg1 (.q rfl (.g hg1 (.q rfl (.g hg1 (.q rfl ?_) rfl)) rfl)) rfl
      have ⟨x2, hx2, h⟩ := bnd h
      refine .g hg1 (.s (ixv hS.lendv hx2 T.u31 T.t3 rfl rfl rfl) rfl (.g hg1 (.s (lde (RV.flat hS.lendv hx2 rfl) T.t3 rfl rfl rfl rfl rfl) rfl ?_) rfl)) rfl
      have ⟨x3, hx3, h⟩ := bnd h
      obtain ⟨k1, hd, hck1⟩ := RV.el2 q_1 hx3
      obtain ⟨v3, k1, rfl, q1, hd1⟩ := rrowv q_1 hd
      obtain rfl := rnil q_1 hd1
      refine .g hg1 (.s (ixv (hS.keep q_1) hx3 T.u110 T.t113 rfl rfl rfl) rfl (.g hg1 (.s (lde (hck1 _ hS.agree) T.t113 rfl rfl rfl rfl rfl) rfl (.g hg1 (.q rfl ?_) rfl)) rfl)) rfl
      have ⟨x4, hx4, h⟩ := bnd h
      refine .g hg1 (.s (ixv (hS.keep (q1 _ q_1)) hx4 T.u113 T.t4 rfl rfl rfl) rfl (.g hg1 (.s (lde (RV.flat (hS.keep (q1 _ q_1)) hx4 rfl) T.t4 rfl rfl rfl rfl rfl) rfl (.s (pkf hg1 rfl rfl rfl) rfl ?_)) rfl)) rfl
      cases h
      exact .nil (ck 11 hS rfl rfl rfl rfl)
     intro W hS
     have ⟨x5, hx5, h⟩ := bnd h
     refine .s (ixv hS.p1.lendv hx5 T.u113 T.t4 rfl rfl rfl) rfl ?_
     have ⟨r2, hr2, h⟩ := bnd h
     refine .c (.sev hr2 hx5 hS.p1 T.t4 rfl rfl rfl rfl rfl rfl ?_ rfl rfl rfl rfl rfl rfl)
     intro W hS
     refine .nil (.region (.q rfl (.q rfl (.q rfl (.nil ?_)))))
     cases h
     exact ⟨rfl, sb rfl, hS.to [1, 0] rfl⟩
    refine .exit ?_
    cases h
    exact ⟨by simp, rfl, sb rfl, hS.to [0, 0] rfl⟩
   intro x E W hJ
   obtain ⟨rfl, hE, hS⟩ := hJ
   refine ⟨_, hE.sub, ?_⟩
   refine .region (.q rfl (.q rfl (.q rfl (.nil ?_))))
   cases h
   exact ⟨rfl, sb rfl, hS.to [0, 0] rfl⟩
  refine .exit ?_
  cases h
  exact ⟨by simp, rfl, sb rfl, hS.to [0, 0] rfl⟩
 intro x E W hJ
 obtain ⟨rfl, hE, hS⟩ := hJ
 refine ⟨_, hE.sub, ?_⟩
 obtain rfl := Option.some.inj h
 exact .seq (.region (.q rfl (.q rfl (.nil (.ret (fin_ret (vs := [_]) v1 (rt rfl rn) rfl (hS.to [1] rfl)))))))
theorem spec_QuadUses_ok {a0 : Quad} {w : World} {r : (List Int)} (h : spec_QuadUses a0 = some r) : Calls Tryz.prog 137 #[.agg #[.int .i64 a0.Op, .int .i64 a0.Dst, .int .i64 a0.A, .int .i64 a0.B, .int .i64 a0.N]] w (Ret No w (fun s : Hd => (sv s)) (fun s => [rowV (sv s) 3 1 (D.int .i64) r])) := by
 unfold spec_QuadUses at h
 refine enter Tryz.func137 rfl rfl ?_
 have hS := Sep.start w
 refine .seq (.region (.c (.box hS rfl rfl ?_ rfl rfl)))
 intro g1 W hS
 refine .q rfl (.nil (.seq (.seq (.region (.s (ld T.t34 hS rfl rfl rfl rfl rfl) rfl ?_)))))
 have ⟨y1, hy1, h⟩ := bnd h
 refine .c (.call0 hS Tryz.func35 (spec_QuadValid_ok hy1) rfl rfl ?_ rfl (by kernel_rfl) rfl rfl)
 intro W hS
 refine .q rfl (.nil ?_)
 refine .cs rfl h ?_ ?_ <;> intro h
 ·refine .seq (.region (.c (.liv [] (D.int .i64) T.u31 T.t3 hS rfl rfl rfl rfl ?_ rfl (fun _ => rfl) rfl rfl rfl rfl)))
  intro v1 W hS
  cases h
  exact .q rfl (.nil (.ret (fin_ret (vs := [_]) v1 (rt rfl rn) rfl (hS.to [0] rfl))))
 refine .skip (.seq (.seq (.region (.s (fa T.f34_0 rfl rfl rfl) rfl (.s (ld T.t3 hS rfl rfl rfl rfl rfl) rfl (.nil (.block ?_)))))))
 have ⟨y2, hy2, h⟩ := bnd h
 refine .seq (CW.via (R' := fun x E' W' => x = .normal ∧ SubL E' [(1, .pointer (some ⟨g1, 0, none⟩)), (8, .int .i64 a0.Op), (9, .bool y2)] ∧ Sep No w W' [.box g1 34 [.int .i64 a0.Op, .int .i64 a0.Dst, .int .i64 a0.A, .int .i64 a0.B, .int .i64 a0.N]]) ?_ ?_)
 ·have h := hy2
  refine .seq (.region (.q rfl (.q rfl (.nil ?_))))
  refine .cs rfl h ?_ ?_ <;> intro h
  ·refine .skip ?_
   cases h
   exact ⟨rfl, sb rfl, hS.to [0] rfl⟩
  refine .seq (.region (.q rfl (.q rfl (.nil ?_))))
  refine .cs rfl h ?_ ?_ <;> intro h
  ·refine .skip ?_
   cases h
   exact ⟨rfl, sb rfl, hS.to [0] rfl⟩
  refine .seq (.region (.q rfl (.q rfl (.nil ?_))))
  refine .cs rfl h ?_ ?_ <;> intro h
  ·refine .skip ?_
   cases h
   exact ⟨rfl, sb rfl, hS.to [0] rfl⟩
  refine .region (.q rfl (.q rfl (.nil ?_)))
  cases h
  exact ⟨rfl, sb rfl, hS.to [0] rfl⟩
 intro x E W hJ
 obtain ⟨rfl, hE, hS⟩ := hJ
 refine ⟨_, hE.sub, ?_⟩
 refine .cs rfl h ?_ ?_ <;> intro h
 ·refine .seq (.region (.s (fa T.f34_2 rfl rfl rfl) rfl (.s (ld T.t3 hS rfl rfl rfl rfl rfl) rfl (.c (.liv [a0.A] (D.int .i64) T.u31 T.t3 hS rfl rfl rfl rfl ?_ rfl (fun _ => rfl) rfl rfl rfl rfl)))))
  intro v2 W hS
  cases h
  exact .q rfl (.nil (.ret (fin_ret (vs := [_]) v2 (rt rfl rn) rfl (hS.to [0] rfl))))
 refine .seq (.region (.q rfl (.q rfl (.nil ?_))))
 refine .cs rfl h ?_ ?_ <;> intro h
 ·refine .seq (.seq (.region (.s (fa T.f34_2 rfl rfl rfl) rfl (.s (ld T.t3 hS rfl rfl rfl rfl rfl) rfl (.s (fa T.f34_3 rfl rfl rfl) rfl (.s (ld T.t3 hS rfl rfl rfl rfl rfl) rfl (.q rfl (.nil ?_))))))))
  refine .cs rfl h ?_ ?_ <;> intro h
  ·refine .seq (.region (.s (fa T.f34_2 rfl rfl rfl) rfl (.s (ld T.t3 hS rfl rfl rfl rfl rfl) rfl (.c (.liv [a0.A] (D.int .i64) T.u31 T.t3 hS rfl rfl rfl rfl ?_ rfl (fun _ => rfl) rfl rfl rfl rfl)))))
   intro v3 W hS
   cases h
   exact .q rfl (.nil (.ret (fin_ret (vs := [_]) v3 (rt rfl rn) rfl (hS.to [0] rfl))))
  refine .skip (.seq (.region (.s (fa T.f34_2 rfl rfl rfl) rfl (.s (ld T.t3 hS rfl rfl rfl rfl rfl) rfl (.s (fa T.f34_3 rfl rfl rfl) rfl (.s (ld T.t3 hS rfl rfl rfl rfl rfl) rfl (.s (mnv rfl rfl rfl) rfl (.s (fa T.f34_2 rfl rfl rfl) rfl (.s (ld T.t3 hS rfl rfl rfl rfl rfl) rfl (.s (fa T.f34_3 rfl rfl rfl) rfl (.s (ld T.t3 hS rfl rfl rfl rfl rfl) rfl (.s (mxv rfl rfl rfl) rfl (.c (.liv [min a0.A a0.B, max a0.A a0.B] (D.int .i64) T.u31 T.t3 hS rfl rfl rfl rfl ?_ rfl (fun _ => rfl) rfl rfl rfl rfl))))))))))))))
  intro v4 W hS
  cases h
  exact .q rfl (.nil (.ret (fin_ret (vs := [_]) v4 (rt rfl rn) rfl (hS.to [0] rfl))))
 refine .skip (.seq (.region (.c (.liv [] (D.int .i64) T.u31 T.t3 hS rfl rfl rfl rfl ?_ rfl (fun _ => rfl) rfl rfl rfl rfl))))
 intro v5 W hS
 cases h
 exact .q rfl (.nil (.ret (fin_ret (vs := [_]) v5 (rt rfl rn) rfl (hS.to [0] rfl))))
theorem spec_l32Before_ok {a0 : Quad} {a1 : List Bool} {v_1 : Hd} {w : World} {r : (List Bool)} (h : spec_l32Before a0 a1 = some r) (q_1 : RV w (Old No w) (sv v_1) 4 1 D.bool a1) : Calls Tryz.prog 131 #[.agg #[.int .i64 a0.Op, .int .i64 a0.Dst, .int .i64 a0.A, .int .i64 a0.B, .int .i64 a0.N], (sv v_1)] w (Ret No w (fun s : Hd => (sv s)) (fun s => [rowV (sv s) 4 1 D.bool r])) := by
 unfold spec_l32Before at h
 refine enter Tryz.func131 rfl rfl ?_
 have hS := Sep.start w
 refine .seq (.region (.c (.box hS rfl rfl ?_ rfl rfl)))
 intro g1 W hS
 refine .q rfl (.nil (.seq (.region (.c (.liv [] D.bool T.u113 T.t4 hS rfl rfl rfl rfl ?_ rfl (fun _ => rfl) rfl rfl rfl rfl)))))
 intro v1 W hS
 refine .q rfl ?_
 have ⟨r1, hr1, h⟩ := bnd h
 refine .c (.apprv hr1 hS (hS.keep q_1) (fun _ => rfl) T.u113 T.t4 rfl rfl rfl ?_ rfl rfl rfl rfl rfl)
 intro v2 W hS
 refine .q rfl (.nil ?_)
 have ⟨y1, hy1, h⟩ := bnd h
 refine .seq (CW.via (R' := fun x E' W' => x = .normal ∧ SubL E' [(2, .pointer (some ⟨g1, 0, none⟩)), (5, (sv v2))] ∧ Sep No w W' [rowV (sv v2) 4 1 D.bool y1, .box g1 34 [.int .i64 a0.Op, .int .i64 a0.Dst, .int .i64 a0.A, .int .i64 a0.B, .int .i64 a0.N]]) ?_ ?_)
 ·have h := hy1
  refine .seq (.region (.s (ld T.t34 hS.p1 rfl rfl rfl rfl rfl) rfl ?_))
  have ⟨y2, hy2, h⟩ := bnd h
  refine .c (.call0 hS Tryz.func136 (spec_QuadSets_ok hy2) rfl rfl ?_ rfl (by kernel_rfl) rfl rfl)
  intro W hS
  refine .q rfl (.nil ?_)
  refine .cs rfl h ?_ ?_ <;> intro h
  ·refine .region (.q rfl (.s (ld T.t34 hS.p1 rfl rfl rfl rfl rfl) rfl ?_))
   have ⟨y3, hy3, h⟩ := bnd h
   refine .c (.call0 hS Tryz.func136 (spec_QuadSets_ok hy3) rfl rfl ?_ rfl (by kernel_rfl) rfl rfl)
   intro W hS
   have ⟨x1, hx1, h⟩ := bnd h
   refine .s (ixv hS.lendv hx1 T.u113 T.t4 rfl rfl rfl) rfl ?_
   have ⟨r2, hr2, h⟩ := bnd h
   refine .c (.sev hr2 hx1 hS T.t4 rfl rfl rfl rfl rfl rfl ?_ rfl rfl rfl rfl rfl rfl)
   intro W hS
   refine .nil ?_
   obtain rfl := Option.some.inj h
   exact ⟨rfl, sb rfl, hS.to [0, 0] rfl⟩
  refine .skip ?_
  obtain rfl := Option.some.inj h
  exact ⟨rfl, sb rfl, hS.to [0, 0] rfl⟩
 intro x E W hJ
 obtain ⟨rfl, hE, hS⟩ := hJ
 refine ⟨_, hE.sub, ?_⟩
 refine .seq (.region (.s (ld T.t34 hS.p1 rfl rfl rfl rfl rfl) rfl ?_))
 have ⟨y4, hy4, h⟩ := bnd h
 refine .c (.call1v hS Tryz.func137 (spec_QuadUses_ok hy4) rfl rfl ?_ rfl (by kernel_rfl) rfl rfl)
 intro v3 W hS
 refine .q rfl (.nil (.seq (.seq (.region (.q rfl (.nil (.block ?_)))))))
 have ⟨y5, hy5, h⟩ := bnd h
 refine .via (.iter (fun s1 E' W' => SubL E' [(5, (sv v2)), (6, (sv v3)), (7, .int .i64 s1.1)] ∧ Sep No w W' [rowV (sv v3) 3 1 (D.int .i64) y4, rowV (sv v2) 4 1 D.bool s1.2, .box g1 34 [.int .i64 a0.Op, .int .i64 a0.Dst, .int .i64 a0.A, .int .i64 a0.B, .int .i64 a0.N]]) (fun y6 x E' W' => x = .exit 0 ∧ SubL E' [(5, (sv v2))] ∧ Sep No w W' [rowV (sv v3) 3 1 (D.int .i64) y4, rowV (sv v2) 4 1 D.bool y6, .box g1 34 [.int .i64 a0.Op, .int .i64 a0.Dst, .int .i64 a0.A, .int .i64 a0.B, .int .i64 a0.N]]) hy5 ⟨sb rfl, hS.to [0, 0, 0] rfl⟩ ?_) ?_
 ·intro s1 y7 E W h hI
  obtain ⟨hE, hS⟩ := hI
  refine CW.sub hE ?_
  unfold spec_l32Before_b1 at h
  refine .seq (.seq (.region (.q rfl (.q rfl (.s (lenv hS.lendv T.u31 rfl rfl) rfl (.q rfl (.nil ?_)))))))
  refine .cs rfl h ?_ ?_ <;> intro h
  ·refine .skip (.seq (.block (.region (.q rfl (.q rfl (.q rfl ?_))))))
   have ⟨x2, hx2, h⟩ := bnd h
   refine .s (ixv hS.lendv hx2 T.u31 T.t3 rfl rfl rfl) rfl (.s (lde (RV.flat hS.lendv hx2 rfl) T.t3 rfl rfl rfl rfl rfl) rfl ?_)
   have ⟨x3, hx3, h⟩ := bnd h
   refine .s (ixv hS.p1.lendv hx3 T.u113 T.t4 rfl rfl rfl) rfl ?_
   have ⟨r3, hr3, h⟩ := bnd h
   refine .c (.sev hr3 hx3 hS.p1 T.t4 rfl rfl rfl rfl rfl rfl ?_ rfl rfl rfl rfl rfl rfl)
   intro W hS
   refine .nil (.region (.q rfl (.q rfl (.q rfl (.nil ?_)))))
   cases h
   exact ⟨rfl, sb rfl, hS.to [1, 0, 0] rfl⟩
  refine .exit ?_
  cases h
  exact ⟨by simp, rfl, sb rfl, hS.to [0, 0, 0] rfl⟩
 intro x E W hJ
 obtain ⟨rfl, hE, hS⟩ := hJ
 refine ⟨_, hE.sub, ?_⟩
 obtain rfl := Option.some.inj h
 exact .seq (.region (.q rfl (.q rfl (.nil (.ret (fin_ret (vs := [_]) v2 (rt rfl rn) rfl (hS.to [1] rfl)))))))
def spec_l32Same_F (w : World) (r : Bool) : Env → World → Prop := Fin Tryz.prog Tryz.f132 No w (fun s : Unit => .bool r) (fun s => []) .ret
theorem spec_l32Same_ok {a0 : List Bool} {a1 : List Bool} {v_0 : Hd} {v_1 : Hd} {w : World} {r : Bool} (h : spec_l32Same a0 a1 = some r) (q_0 : RV w (Old No w) (sv v_0) 4 1 D.bool a0) (q_1 : RV w (Old No w) (sv v_1) 4 1 D.bool a1) : Calls Tryz.prog 132 #[(sv v_0), (sv v_1)] w (Ret No w (fun s : Unit => .bool r) (fun s => [])) := by
 unfold spec_l32Same at h
 refine enter Tryz.func132 rfl rfl ?_
 have hS := Sep.start w
 refine .seq (.region (.q rfl (.nil (.seq (.seq (.region (.q rfl (.nil (.block ?_)))))))))
 have ⟨y1, hy1, h⟩ := bnd h
 refine .via (.iter (fun s1 E' W' => SubL E' [(0, (sv v_0)), (1, (sv v_1)), (5, .int .i64 s1)] ∧ Sep No w W' []) (fun y2 x E' W' => (match y2 with | .inl o1 => x = .ret ∧ spec_l32Same_F w o1 E' W' | .inr o2 => x = .exit 0 ∧ SubL E' [(0, (sv v_0)), (1, (sv v_1))] ∧ Sep No w W' [])) hy1 ⟨sb rfl, hS.to [] rfl⟩ ?_) ?_
 ·intro s1 y3 E W h hI
  obtain ⟨hE, hS⟩ := hI
  refine CW.sub hE ?_
  unfold spec_l32Same_b1 at h
  refine .seq (.seq (.region (.q rfl (.q rfl (.s (lenv (hS.keep q_0) T.u113 rfl rfl) rfl (.q rfl (.nil ?_)))))))
  refine .cs rfl h ?_ ?_ <;> intro h
  ·refine .skip (.seq (.block (.seq (.rk 9 hS [] T.mix ?_))))
   intro W hS
   have hT := hS.to [] rfl
   refine .tp 0 rfl rfl hT (by kernel_rfl) (.tp 1 rfl rfl hT (by kernel_rfl) ?_)
   have ⟨x1, hx1, h⟩ := bnd h
   refine .ts 2 rfl (fun W hT => ixv (hS.keep q_0) hx1 T.u113 T.t4 rfl rfl rfl) hT rfl (by kernel_rfl) (.ts 3 rfl (fun W hT => lde (RV.flat (hT.keep q_0) hx1 rfl) T.t4 rfl rfl rfl rfl rfl) hT rfl (by kernel_rfl) (.tp 4 rfl rfl hT (by kernel_rfl) (.tp 5 rfl rfl hT (by kernel_rfl) ?_)))
   have ⟨x2, hx2, h⟩ := bnd h
   refine .ts 6 rfl (fun W hT => ixv (hS.keep q_1) hx2 T.u113 T.t4 rfl rfl rfl) hT rfl (by kernel_rfl) (.ts 7 rfl (fun W hT => lde (RV.flat (hT.keep q_1) hx2 rfl) T.t4 rfl rfl rfl rfl rfl) hT rfl (by kernel_rfl) (.ts 8 rfl (fun W hT => neb T.u4 rfl rfl rfl) hT rfl (by kernel_rfl) (.done ?_ (by kernel_rfl))))
   refine .cs rfl h ?_ ?_ <;> intro h
   ·refine .seq (.region (.q rfl (.nil (.ret ?_))))
    cases h
    exact ⟨by simp, rfl, fin_ret (vs := [_]) () (rt rfl rn) rfl (hS.to [] rfl)⟩
   refine .skip (.region (.q rfl (.q rfl (.q rfl (.nil ?_)))))
   cases h
   exact ⟨rfl, sb rfl, hS.to [] rfl⟩
  refine .exit ?_
  cases h
  exact ⟨by simp, rfl, sb rfl, hS.to [] rfl⟩
 intro x E W hJ
 rcases y1 with o3 | o4
 ·obtain ⟨rfl, hF⟩ := hJ
  refine ⟨_, fun _ _ h => h, ?_⟩
  cases h
  exact hF
 obtain ⟨rfl, hE, hS⟩ := hJ
 refine ⟨_, hE.sub, ?_⟩
 cases h
 exact .seq (.region (.q rfl (.s (lenv (hS.keep q_0) T.u113 rfl rfl) rfl (.q rfl (.s (lenv (hS.keep q_1) T.u113 rfl rfl) rfl (.q rfl (.q rfl (.nil (.ret (fin_ret (vs := [_]) () (rt rfl rn) rfl (hS.to [] rfl)))))))))))
theorem spec_l32Round_ok {a0 : List Quad} {a1 : List (List Bool)} {v_0 : Hd} {v_1 : Hd} {S : Nat → Prop} {w : World} {r : Bool × (List (List Bool))} (h : spec_l32Round a0 a1 = some r) (q_0 : RV w (Old S w) (sv v_0) 34 5 dQuad a0) (hO : Owns w [rowV (sv v_1) 113 1 (fun (l : List Bool) => D.row 4 1 (l.map D.bool)) a1] S) (hlt : ∀ b, S b → b < w.heap.size) : Calls Tryz.prog 119 #[(sv v_0), (sv v_1)] w (Ret S w (fun s : Unit => .bool r.1) (fun s => [rowV (sv v_1) 113 1 (fun (l : List Bool) => D.row 4 1 (l.map D.bool)) r.2])) := by
 unfold spec_l32Round at h
 refine enter Tryz.func119 rfl rfl ?_
 have hS := Sep.startM hO hlt
 refine .seq (.region (.q rfl (.nil (.seq (.region (.q rfl (.nil (.seq (.seq (.region (.q rfl (.s (lenv (hS.keep q_0) T.u23 rfl rfl) rfl (.q rfl (.q rfl (.nil (.block ?_))))))))))))))))
 have ⟨y1, hy1, h⟩ := bnd h
 refine .via (.iter (fun s1 E' W' => SubL E' [(0, (sv v_0)), (1, (sv v_1)), (5, .bool s1.1), (6, .int .i64 s1.2.1)] ∧ Sep S w W' [rowV (sv v_1) 113 1 (fun (l : List Bool) => D.row 4 1 (l.map D.bool)) s1.2.2]) (fun y2 x E' W' => x = .exit 0 ∧ SubL E' [(5, .bool y2.1)] ∧ Sep S w W' [rowV (sv v_1) 113 1 (fun (l : List Bool) => D.row 4 1 (l.map D.bool)) y2.2]) hy1 ⟨sb rfl, hS.to [0] rfl⟩ ?_) ?_
 ·intro s1 y3 E W h hI
  obtain ⟨hE, hS⟩ := hI
  refine CW.sub hE ?_
  unfold spec_l32Round_b1 at h
  refine .seq (.seq (.region (.q rfl (.q rfl (.nil ?_)))))
  refine .cs rfl h ?_ ?_ <;> intro h
  ·refine .skip ?_
   have ⟨y4, hy4, h⟩ := bnd h
   refine .seq (CW.via (R' := fun x E' W' => x = .normal ∧ SubL E' [(0, (sv v_0)), (1, (sv v_1)), (5, .bool y4.1), (6, .int .i64 s1.2.1)] ∧ Sep S w W' [rowV (sv v_1) 113 1 (fun (l : List Bool) => D.row 4 1 (l.map D.bool)) y4.2]) ?_ ?_)
   ·have h := hy4
    refine .block (.seq (.rk 10 hS [0] T.mix ?_))
    intro W hS
    have hT := hS.to [0] rfl
    refine .tp 0 rfl rfl hT (by kernel_rfl) (.tp 1 rfl rfl hT (by kernel_rfl) ?_)
    have ⟨x1, hx1, h⟩ := bnd h
    refine .ts 2 rfl (fun W hT => ixv (hS.keep q_0) hx1 T.u23 T.t34 rfl rfl rfl) hT rfl (by kernel_rfl) (.ts 3 rfl (fun W hT => lde (RV.flat (hT.keep q_0) hx1 rfl) T.t34 rfl rfl rfl rfl rfl) hT rfl (by kernel_rfl) (.tp 4 rfl rfl hT (by kernel_rfl) (.tp 5 rfl rfl hT (by kernel_rfl) (.tp 6 rfl rfl hT (by kernel_rfl) ?_))))
    have ⟨y5, hy5, h⟩ := bnd h
    refine .by1 7 rfl (.call1v hS Tryz.func103 (spec_l32After_ok hy5 (hS.keep q_0) hS.lendv) rfl rfl ?_ rfl (by kernel_rfl) rfl rfl) (by kernel_rfl)
    intro v1 W hS
    have hT := hS.to [1] rfl
    refine ⟨fun _ => hT, ?_⟩
    have ⟨y6, hy6, h⟩ := bnd h
    refine .by1 8 rfl (.call1v hS Tryz.func131 (spec_l32Before_ok hy6 hS.lendv) rfl rfl ?_ rfl (by kernel_rfl) rfl rfl) (by kernel_rfl)
    intro v2 W hS
    have hT := hS.to [2] rfl
    refine ⟨fun _ => hT, ?_⟩
    refine .tp 9 rfl rfl hT (by kernel_rfl) (.done (.seq (.region (.q rfl (.q rfl (.q rfl ?_))))) (by kernel_rfl))
    have ⟨x2, hx2, h⟩ := bnd h
    refine .s (ixv hS.p2.lendv hx2 T.u110 T.t113 rfl rfl rfl) rfl ?_
    obtain ⟨k1, hS⟩ := Sep.outv hS.p2 hx2
    obtain ⟨v3, k1, rfl, hS⟩ := hS.orowv
    obtain ⟨rfl, hS⟩ := hS.onil
    refine .s (lde (hS.p1.hcellsv) T.t113 rfl rfl rfl rfl rfl) rfl ?_
    have ⟨y7, hy7, h⟩ := bnd h
    refine .c (.call0 hS Tryz.func132 (spec_l32Same_ok hy7 hS.p2.lendv hS.lendv) rfl rfl ?_ rfl (by kernel_rfl) rfl rfl)
    intro W hS
    refine .q rfl (.nil ?_)
    refine .cs rfl h ?_ ?_ <;> intro h
    ·refine .seq (.region (.q rfl (.q rfl (.q rfl (.s (ixh hS.p1 hx2 T.u110 T.t113 rfl rfl rfl) rfl (.c (.sthv hS.p1 T.t113 rfl rfl rfl ?_ rfl rfl rfl rfl rfl rfl)))))))
     intro W hS
     refine .nil (.region (.q rfl (.nil ?_)))
     have hS := Sep.gat (ds := [.row 4 1 (y6.map D.bool)]) (cs := [(sv v2)]) (L1 := [rowV (sv v2) 4 1 D.bool y6]) (.row (.nil)) (hS.to [2, 0, 0, 0] rfl)
     have hS : Sep _ _ _ [rowV (sv v_1) 113 1 (fun (l : List Bool) => D.row 4 1 (l.map D.bool)) (s1.2.2.set (Int.toNat s1.2.1) y6), rowV (sv v3) 4 1 D.bool x2, rowV (sv v1) 4 1 D.bool y5] := hS.backv
     cases h
     exact ⟨rfl, sb rfl, hS.to [0] rfl⟩
    refine .skip ?_
    have hS := Sep.gat (ds := [.row 4 1 (x2.map D.bool)]) (cs := [(sv v3)]) (L1 := [rowV (sv v3) 4 1 D.bool x2]) (.row (.nil)) (hS.to [0, 0, 0, 0] rfl)
    have hS : Sep _ _ _ [rowV (sv v_1) 113 1 (fun (l : List Bool) => D.row 4 1 (l.map D.bool)) s1.2.2, rowV (sv v2) 4 1 D.bool y6, rowV (sv v1) 4 1 D.bool y5] := Sep.back0v hx2 hS
    cases h
    exact ⟨rfl, sb rfl, hS.to [0] rfl⟩
   intro x E W hJ
   obtain ⟨rfl, hE, hS⟩ := hJ
   refine ⟨_, hE.sub, ?_⟩
   refine .region (.q rfl (.q rfl (.q rfl (.nil ?_))))
   cases h
   exact ⟨rfl, sb rfl, hS.to [0] rfl⟩
  refine .exit ?_
  cases h
  exact ⟨by simp, rfl, sb rfl, hS.to [0] rfl⟩
 intro x E W hJ
 obtain ⟨rfl, hE, hS⟩ := hJ
 refine ⟨_, hE.sub, ?_⟩
 cases h
 exact .seq (.region (.q rfl (.q rfl (.nil (.ret (fin_ret (vs := [_]) () (rt rfl rn) rfl (hS.to [0] rfl)))))))
theorem spec_LiveOf_ok {a0 : List Quad} {v_0 : Hd} {w : World} {r : (List (List Bool))} (h : spec_LiveOf a0 = some r) (q_0 : RV w (Old No w) (sv v_0) 34 5 dQuad a0) : Calls Tryz.prog 101 #[(sv v_0)] w (Ret No w (fun s : Hd => (sv s)) (fun s => [rowV (sv s) 113 1 (fun (l : List Bool) => D.row 4 1 (l.map D.bool)) r])) := by
 unfold spec_LiveOf at h
 refine enter Tryz.func101 rfl rfl ?_
 have hS := Sep.start w
 refine .seq (.region (.q rfl (.nil (.seq (.region (.c (.ligv (L1 := []) [] (fun (l : List Bool) => D.row 4 1 (l.map D.bool)) T.u110 T.t113 (hS.to [] rfl) rfl rfl rfl (.nil) ?_ rfl (fun _ => rfl) rfl rfl rfl rfl rfl)))))))
 intro v1 W hS
 refine .q rfl (.nil (.seq (.seq (.region (.q rfl ?_)))))
 have ⟨y1, hy1, h⟩ := bnd h
 refine .c (.call0 hS Tryz.func18 (spec_CodeValid_ok hy1 (hS.keep q_0)) rfl rfl ?_ rfl (by kernel_rfl) rfl rfl)
 intro W hS
 refine .q rfl (.nil (.cond rfl (fun hb => ?_) (fun hb => ?_)))
 ·have h := sel_t hb h
  cases h
  exact .seq (.region (.q rfl (.q rfl (.nil (.ret (fin_ret (vs := [_]) v1 (rt rfl rn) rfl (hS.to [0] rfl)))))))
 have h := sel_f hb h
 refine .skip (.seq (.seq (.region (.q rfl (.nil (.block ?_))))))
 have ⟨y2, hy2, h⟩ := bnd h
 refine .via (.iter (fun s1 E' W' => ∃ (v4 : Hd), SubL E' [(0, (sv v_0)), (3, (sv v4)), (4, .int .i64 s1.2)] ∧ Sep No w W' [rowV (sv v4) 113 1 (fun (l : List Bool) => D.row 4 1 (l.map D.bool)) s1.1]) (fun y3 x E' W' => x = .exit 0 ∧ ∃ (v5 : Hd), SubL E' [(0, (sv v_0)), (3, (sv v5))] ∧ Sep No w W' [rowV (sv v5) 113 1 (fun (l : List Bool) => D.row 4 1 (l.map D.bool)) y3]) hy2 ⟨v1, sb rfl, hS.to [0] rfl⟩ ?_) ?_
 ·intro s1 y4 E W h hI
  obtain ⟨v3, hE, hS⟩ := hI
  refine CW.sub hE ?_
  unfold spec_LiveOf_b1 at h
  refine .seq (.seq (.region (.q rfl (.q rfl (.s (lenv (hS.keep q_0) T.u23 rfl rfl) rfl (.q rfl (.nil ?_)))))))
  refine .cs rfl h ?_ ?_ <;> intro h
  ·refine .skip (.seq (.block (.region (.q rfl ?_))))
   have ⟨r1, hr1, h⟩ := bnd h
   refine .c (.mkv false D.bool hr1 T.u113 T.t4 hS rfl rfl rfl rfl rfl (fun _ => rfl) ?_ rfl rfl rfl)
   intro v6 W hS
   refine .c (.ligv (L1 := [rowV (sv v6) 4 1 D.bool r1]) [r1] (fun (l : List Bool) => D.row 4 1 (l.map D.bool)) T.u110 T.t113 (hS.to [0, 0] rfl) rfl rfl rfl (.row (.nil)) ?_ rfl (fun _ => rfl) rfl rfl rfl rfl rfl)
   intro v7 W hS
   have ⟨r2, hr2, h⟩ := bnd h
   refine .c (.appv hr2 (hS.to [1, 0] rfl) T.u110 T.t113 rfl rfl rfl ?_ rfl rfl rfl rfl rfl)
   intro v8 W hS
   refine .q rfl (.nil (.region (.q rfl (.q rfl (.q rfl (.nil ?_))))))
   cases h
   exact ⟨rfl, v8, sb rfl, hS.to [0] rfl⟩
  refine .exit ?_
  cases h
  exact ⟨by simp, rfl, v3, sb rfl, hS.to [0] rfl⟩
 intro x E W hJ
 obtain ⟨rfl, v9, hE, hS⟩ := hJ
 refine ⟨_, hE.sub, ?_⟩
 refine .seq (.block ?_)
 have ⟨y5, hy5, h⟩ := bnd h
 refine .via (.iter (fun s2 E' W' => SubL E' [(0, (sv v_0)), (3, (sv v9))] ∧ Sep No w W' [rowV (sv v9) 113 1 (fun (l : List Bool) => D.row 4 1 (l.map D.bool)) s2]) (fun y6 x E' W' => x = .exit 2 ∧ SubL E' [(3, (sv v9))] ∧ Sep No w W' [rowV (sv v9) 113 1 (fun (l : List Bool) => D.row 4 1 (l.map D.bool)) y6]) hy5 ⟨sb rfl, hS.to [0] rfl⟩ ?_) ?_
 ·intro s2 y7 E W h hI
  obtain ⟨hE, hS⟩ := hI
  refine CW.sub hE ?_
  unfold spec_LiveOf_b2 at h
  refine .seq (.seq (.region (.q rfl (.q rfl ?_))))
  have ⟨y8, hy8, h⟩ := bnd h
  refine .c (.callS2 (L0 := [rowV (sv v9) 113 1 (fun (l : List Bool) => D.row 4 1 (l.map D.bool)) s2]) hS Tryz.func119 (fun S h1 h2 h3 => (spec_l32Round_ok hy8 (hS.keepS q_0 h1) h2 (fun b hb => (h1 b hb).2))) rfl rfl ?_ rfl (by kernel_rfl) rfl rfl)
  rintro ⟨⟩ W hS
  refine .nil ?_
  refine .cs rfl h ?_ ?_ <;> intro h
  ·refine .skip (.block (.skip ?_))
   cases h
   exact ⟨rfl, sb rfl, hS.to [0] rfl⟩
  refine .exit ?_
  cases h
  exact ⟨by simp, rfl, sb rfl, hS.to [0] rfl⟩
 intro x E W hJ
 obtain ⟨rfl, hE, hS⟩ := hJ
 refine ⟨_, hE.sub, ?_⟩
 obtain rfl := Option.some.inj h
 exact .seq (.region (.q rfl (.q rfl (.nil (.ret (fin_ret (vs := [_]) v9 (rt rfl rn) rfl (hS.to [0] rfl)))))))
theorem spec_l35Dead_ok {a0 : Quad} {a1 : List Bool} {v_1 : Hd} {w : World} {r : Bool} (h : spec_l35Dead a0 a1 = some r) (q_1 : RV w (Old No w) (sv v_1) 4 1 D.bool a1) : Calls Tryz.prog 102 #[.agg #[.int .i64 a0.Op, .int .i64 a0.Dst, .int .i64 a0.A, .int .i64 a0.B, .int .i64 a0.N], (sv v_1)] w (Ret No w (fun s : Unit => .bool r) (fun s => [])) := by
 unfold spec_l35Dead at h
 refine enter Tryz.func102 rfl rfl ?_
 have hS := Sep.start w
 refine .seq (.region (.c (.box hS rfl rfl ?_ rfl rfl)))
 intro g1 W hS
 refine .q rfl (.nil (.seq (.seq (.region (.s (fa T.f34_0 rfl rfl rfl) rfl (.s (ld T.t3 hS rfl rfl rfl rfl rfl) rfl (.nil (.block ?_))))))))
 have ⟨y1, hy1, h⟩ := bnd h
 refine .seq (CW.via (R' := fun x E' W' => x = .normal ∧ SubL E' [(1, (sv v_1)), (2, .pointer (some ⟨g1, 0, none⟩)), (7, .bool y1)] ∧ Sep No w W' [.box g1 34 [.int .i64 a0.Op, .int .i64 a0.Dst, .int .i64 a0.A, .int .i64 a0.B, .int .i64 a0.N]]) ?_ ?_)
 ·have h := hy1
  refine .seq (.region (.q rfl (.q rfl (.nil ?_))))
  refine .cs rfl h ?_ ?_ <;> intro h
  ·refine .skip ?_
   cases h
   exact ⟨rfl, sb rfl, hS.to [0] rfl⟩
  refine .seq (.region (.q rfl (.q rfl (.nil ?_))))
  refine .cs rfl h ?_ ?_ <;> intro h
  ·refine .skip ?_
   cases h
   exact ⟨rfl, sb rfl, hS.to [0] rfl⟩
  refine .region (.q rfl (.q rfl (.nil ?_)))
  cases h
  exact ⟨rfl, sb rfl, hS.to [0] rfl⟩
 intro x E W hJ
 obtain ⟨rfl, hE, hS⟩ := hJ
 refine ⟨_, hE.sub, ?_⟩
 refine .cs rfl h ?_ ?_ <;> intro h
 ·refine .seq (.region (.q rfl (.s (fa T.f34_1 rfl rfl rfl) rfl (.s (ld T.t3 hS rfl rfl rfl rfl rfl) rfl ?_))))
  have ⟨x1, hx1, h⟩ := bnd h
  cases h
  exact .s (ixv (hS.keep q_1) hx1 T.u113 T.t4 rfl rfl rfl) rfl (.s (lde (RV.flat (hS.keep q_1) hx1 rfl) T.t4 rfl rfl rfl rfl rfl) rfl (.q rfl (.q rfl (.nil (.ret (fin_ret (vs := [_]) () (rt rfl rn) rfl (hS.to [] rfl)))))))
 obtain rfl := Option.some.inj h
 exact .skip (.seq (.region (.q rfl (.nil (.ret (fin_ret (vs := [_]) () (rt rfl rn) rfl (hS.to [] rfl)))))))
theorem spec_DeadCode_ok {a0 : List Quad} {v_0 : Hd} {w : World} {r : (List Quad) × Bool} (h : spec_DeadCode a0 = some r) (q_0 : RV w (Old No w) (sv v_0) 34 5 dQuad a0) : Calls Tryz.prog 84 #[(sv v_0)] w (Ret No w (fun s : Hd => .tuple #[(sv s), .bool r.2]) (fun s => [rowV (sv s) 34 5 dQuad r.1])) := by
 unfold spec_DeadCode at h
 refine enter Tryz.func84 rfl rfl ?_
 have hS := Sep.start w
 refine .seq (.region (.q rfl (.q rfl (.nil (.seq (.region (.c (.liv [] dQuad T.u23 T.t34 hS rfl rfl rfl rfl ?_ rfl (fun _ => rfl) rfl rfl rfl rfl))))))))
 intro v1 W hS
 refine .q rfl (.nil (.seq (.seq (.region (.q rfl ?_)))))
 have ⟨y1, hy1, h⟩ := bnd h
 refine .c (.call0 hS Tryz.func18 (spec_CodeValid_ok hy1 (hS.keep q_0)) rfl rfl ?_ rfl (by kernel_rfl) rfl rfl)
 intro W hS
 refine .q rfl (.nil ?_)
 refine .cs rfl h ?_ ?_ <;> intro h
 ·cases h
  exact .seq (.region (.q rfl (.q rfl (.q rfl (.nil (.ret (fin_ret (vs := [_, _]) v1 (rt rfl (rt rfl rn)) rfl (hS.to [0] rfl))))))))
 refine .skip (.seq (.region (.q rfl ?_)))
 have ⟨y2, hy2, h⟩ := bnd h
 refine .c (.call1v hS Tryz.func101 (spec_LiveOf_ok hy2 (hS.keep q_0)) rfl rfl ?_ rfl (by kernel_rfl) rfl rfl)
 intro v2 W hS
 refine .q rfl (.nil (.seq (.seq (.region (.q rfl (.nil (.block ?_)))))))
 have ⟨y3, hy3, h⟩ := bnd h
 refine .via (.iter (fun s1 E' W' => ∃ (v5 : Hd), SubL E' [(0, (sv v_0)), (4, (sv v5)), (5, (sv v2)), (6, .int .i64 s1.2)] ∧ Sep No w W' [rowV (sv v2) 113 1 (fun (l : List Bool) => D.row 4 1 (l.map D.bool)) y2, rowV (sv v5) 34 5 dQuad s1.1]) (fun y4 x E' W' => x = .exit 0 ∧ ∃ (v6 : Hd), SubL E' [(4, (sv v6))] ∧ Sep No w W' [rowV (sv v2) 113 1 (fun (l : List Bool) => D.row 4 1 (l.map D.bool)) y2, rowV (sv v6) 34 5 dQuad y4]) hy3 ⟨v1, sb rfl, hS.to [0, 0] rfl⟩ ?_) ?_
 ·intro s1 y5 E W h hI
  obtain ⟨v4, hE, hS⟩ := hI
  refine CW.sub hE ?_
  unfold spec_DeadCode_b1 at h
  refine .seq (.seq (.region (.q rfl (.q rfl (.s (lenv (hS.keep q_0) T.u23 rfl rfl) rfl (.q rfl (.nil ?_)))))))
  refine .cs rfl h ?_ ?_ <;> intro h
  ·refine .skip (.seq (.block (.seq (.region (.q rfl (.q rfl ?_))))))
   have ⟨x1, hx1, h⟩ := bnd h
   refine .s (ixv (hS.keep q_0) hx1 T.u23 T.t34 rfl rfl rfl) rfl (.s (lde (RV.flat (hS.keep q_0) hx1 rfl) T.t34 rfl rfl rfl rfl rfl) rfl (.c (.alloc T.t34 hS ?_ rfl rfl rfl)))
   intro g1 W hS
   refine .c (.st T.t34 hS rfl rfl rfl ?_ rfl rfl rfl rfl rfl)
   intro W hS
   refine .nil ?_
   have ⟨y6, hy6, h⟩ := bnd h
   refine .seq (CW.via (R' := fun x E' W' => x = .normal ∧ SubL E' [(0, (sv v_0)), (4, (sv v4)), (5, (sv v2)), (6, .int .i64 s1.2), (7, .pointer (some ⟨g1, 0, none⟩))] ∧ Sep No w W' [.box g1 34 [.int .i64 y6.Op, .int .i64 y6.Dst, .int .i64 y6.A, .int .i64 y6.B, .int .i64 y6.N], rowV (sv v2) 113 1 (fun (l : List Bool) => D.row 4 1 (l.map D.bool)) y2, rowV (sv v4) 34 5 dQuad s1.1]) ?_ ?_)
   ·have h := hy6
    refine .seq (.rk 6 hS [0, 0, 0] T.mix ?_)
    intro W hS
    have hT := hS.to [0, 0, 0] rfl
    refine .ts 0 rfl (fun W hT => ld T.t34 hT rfl rfl rfl rfl rfl) hT rfl (by kernel_rfl) (.tp 1 rfl rfl hT (by kernel_rfl) (.tp 2 rfl rfl hT (by kernel_rfl) (.tp 3 rfl rfl hT (by kernel_rfl) ?_)))
    have ⟨y7, hy7, h⟩ := bnd h
    refine .by1 4 rfl (.call1v hS Tryz.func103 (spec_l32After_ok hy7 (hS.keep q_0) hS.p1.lendv) rfl rfl ?_ rfl (by kernel_rfl) rfl rfl) (by kernel_rfl)
    intro v7 W hS
    have hT := hS.to [1, 1, 1] rfl
    refine ⟨fun _ => hT, ?_⟩
    have ⟨y8, hy8, h⟩ := bnd h
    refine .by1 5 rfl (.call0 hS Tryz.func102 (spec_l35Dead_ok hy8 hS.lendv) rfl rfl ?_ rfl (by kernel_rfl) rfl rfl) (by kernel_rfl)
    intro W hS
    have hT := hS.to [1, 1, 1] rfl
    refine ⟨fun _ => hT, ?_⟩
    refine .done ?_ (by kernel_rfl)
    refine .cs rfl h ?_ ?_ <;> intro h
    ·refine .region (.q rfl (.q rfl (.s (bs T.s34 rfl rfl) rfl (.c (.st T.t34 hS.p1 rfl rfl rfl ?_ rfl rfl rfl rfl rfl)))))
     intro W hS
     refine .nil ?_
     cases h
     exact ⟨rfl, sb rfl, hS.to [0, 1, 1] rfl⟩
    refine .skip ?_
    obtain rfl := Option.some.inj h
    exact ⟨rfl, sb rfl, hS.to [1, 1, 1] rfl⟩
   intro x E W hJ
   obtain ⟨rfl, hE, hS⟩ := hJ
   refine ⟨_, hE.sub, ?_⟩
   refine .region (.q rfl (.s (ld T.t34 hS rfl rfl rfl rfl rfl) rfl (.c (.liv [y6] dQuad T.u23 T.t34 hS rfl rfl rfl rfl ?_ rfl (fun _ => rfl) rfl rfl rfl rfl))))
   intro v8 W hS
   have ⟨r1, hr1, h⟩ := bnd h
   have hT0 := hS.p3
   refine .c (.apprv hr1 hT0 hT0.p1.lendv (fun _ => rfl) T.u23 T.t34 rfl rfl rfl ?_ rfl rfl rfl rfl rfl)
   intro v9 W hS
   refine .q rfl (.nil (.region (.q rfl (.q rfl (.q rfl (.nil ?_))))))
   cases h
   exact ⟨rfl, v9, sb rfl, hS.to [3, 0] rfl⟩
  refine .exit ?_
  cases h
  exact ⟨by simp, rfl, v4, sb rfl, hS.to [0, 0] rfl⟩
 intro x E W hJ
 obtain ⟨rfl, v10, hE, hS⟩ := hJ
 refine ⟨_, hE.sub, ?_⟩
 cases h
 exact .seq (.region (.q rfl (.q rfl (.q rfl (.nil (.ret (fin_ret (vs := [_, _]) v10 (rt rfl (rt rfl rn)) rfl (hS.to [1] rfl))))))))
theorem spec_l31Spread_ok {a0 : List Quad} {a1 : List Bool} {v_0 : Hd} {v_1 : Hd} {S : Nat → Prop} {w : World} {r : Bool × (List Bool)} (h : spec_l31Spread a0 a1 = some r) (q_0 : RV w (Old S w) (sv v_0) 34 5 dQuad a0) (hO : Owns w [rowV (sv v_1) 4 1 D.bool a1] S) (hlt : ∀ b, S b → b < w.heap.size) : Calls Tryz.prog 121 #[(sv v_0), (sv v_1)] w (Ret S w (fun s : Unit => .bool r.1) (fun s => [rowV (sv v_1) 4 1 D.bool r.2])) := by
 unfold spec_l31Spread at h
 refine enter Tryz.func121 rfl rfl ?_
 have hS := Sep.startM hO hlt
 refine .seq (.region (.q rfl (.nil (.seq (.region (.q rfl (.nil (.seq (.seq (.region (.q rfl (.nil (.block ?_)))))))))))))
 have ⟨y1, hy1, h⟩ := bnd h
 refine .via (.iter (fun s1 E' W' => SubL E' [(0, (sv v_0)), (1, (sv v_1)), (5, .bool s1.1), (6, .int .i64 s1.2.1)] ∧ Sep S w W' [rowV (sv v_1) 4 1 D.bool s1.2.2]) (fun y2 x E' W' => x = .exit 0 ∧ SubL E' [(5, .bool y2.1)] ∧ Sep S w W' [rowV (sv v_1) 4 1 D.bool y2.2]) hy1 ⟨sb rfl, hS.to [0] rfl⟩ ?_) ?_
 ·intro s1 y3 E W h hI
  obtain ⟨hE, hS⟩ := hI
  refine CW.sub hE ?_
  unfold spec_l31Spread_b5 at h
  refine .seq (.seq (.region (.q rfl (.q rfl (.s (lenv (hS.keep q_0) T.u23 rfl rfl) rfl (.q rfl (.nil ?_)))))))
  refine .cs rfl h ?_ ?_ <;> intro h
  ·refine .skip ?_
   have ⟨y4, hy4, h⟩ := bnd h
   refine .seq (CW.via (R' := fun x E' W' => x = .normal ∧ SubL E' [(0, (sv v_0)), (1, (sv v_1)), (5, .bool y4.1), (6, .int .i64 s1.2.1)] ∧ Sep S w W' [rowV (sv v_1) 4 1 D.bool y4.2]) ?_ ?_)
   ·have h := hy4
    refine .block (.seq (.seq (.region (.q rfl (.q rfl ?_)))))
    have ⟨x1, hx1, h⟩ := bnd h
    refine .s (ixv hS.lendv hx1 T.u113 T.t4 rfl rfl rfl) rfl (.s (lde (RV.flat hS.lendv hx1 rfl) T.t4 rfl rfl rfl rfl rfl) rfl (.q rfl (.nil ?_)))
    refine .cs rfl h ?_ ?_ <;> intro h
    ·refine .exit ?_
     cases h
     exact ⟨rfl, sb rfl, hS.to [0] rfl⟩
    refine .skip (.seq (.region (.q rfl (.q rfl ?_))))
    have ⟨y5, hy5, h⟩ := bnd h
    refine .c (.call1v hS Tryz.func120 (spec_l31Next_ok hy5 (hS.keep q_0)) rfl rfl ?_ rfl (by kernel_rfl) rfl rfl)
    intro v1 W hS
    refine .q rfl (.nil (.seq (.region (.q rfl (.nil (.block ?_))))))
    have ⟨y6, hy6, h⟩ := bnd h
    refine .via (.iter (fun s2 E' W' => SubL E' [(0, (sv v_0)), (1, (sv v_1)), (5, .bool s2.1), (6, .int .i64 s1.2.1), (7, (sv v1)), (8, .int .i64 s2.2.1)] ∧ Sep S w W' [rowV (sv v1) 3 1 (D.int .i64) y5, rowV (sv v_1) 4 1 D.bool s2.2.2]) (fun y7 x E' W' => x = .exit 2 ∧ SubL E' [(0, (sv v_0)), (1, (sv v_1)), (5, .bool y7.1), (6, .int .i64 s1.2.1)] ∧ Sep S w W' [rowV (sv v1) 3 1 (D.int .i64) y5, rowV (sv v_1) 4 1 D.bool y7.2]) hy6 ⟨sb rfl, hS.to [0, 0] rfl⟩ ?_) ?_
    ·intro s2 y8 E W h hI
     obtain ⟨hE, hS⟩ := hI
     refine CW.sub hE ?_
     unfold spec_l31Spread_b7 at h
     refine .seq (.seq (.region (.q rfl (.q rfl (.s (lenv hS.lendv T.u31 rfl rfl) rfl (.q rfl (.nil ?_)))))))
     refine .cs rfl h ?_ ?_ <;> intro h
     ·refine .skip ?_
      have ⟨y9, hy9, h⟩ := bnd h
      refine .seq (CW.via (R' := fun x E' W' => x = .normal ∧ SubL E' [(0, (sv v_0)), (1, (sv v_1)), (5, .bool y9.1), (6, .int .i64 s1.2.1), (7, (sv v1)), (8, .int .i64 s2.2.1)] ∧ Sep S w W' [rowV (sv v1) 3 1 (D.int .i64) y5, rowV (sv v_1) 4 1 D.bool y9.2]) ?_ ?_)
      ·have h := hy9
       refine .block (.seq (.region (.q rfl (.q rfl (.q rfl ?_)))))
       have ⟨x2, hx2, h⟩ := bnd h
       refine .s (ixv hS.lendv hx2 T.u31 T.t3 rfl rfl rfl) rfl (.s (lde (RV.flat hS.lendv hx2 rfl) T.t3 rfl rfl rfl rfl rfl) rfl ?_)
       have ⟨x3, hx3, h⟩ := bnd h
       refine .s (ixv hS.p1.lendv hx3 T.u113 T.t4 rfl rfl rfl) rfl (.s (lde (RV.flat hS.p1.lendv hx3 rfl) T.t4 rfl rfl rfl rfl rfl) rfl (.q rfl (.nil ?_)))
       refine .cs rfl h ?_ ?_ <;> intro h
       ·refine .seq (.region (.q rfl (.q rfl (.q rfl ?_))))
        have ⟨x4, hx4, h⟩ := bnd h
        refine .s (ixv hS.lendv hx4 T.u31 T.t3 rfl rfl rfl) rfl (.s (lde (RV.flat hS.lendv hx4 rfl) T.t3 rfl rfl rfl rfl rfl) rfl ?_)
        have ⟨x5, hx5, h⟩ := bnd h
        refine .s (ixv hS.p1.lendv hx5 T.u113 T.t4 rfl rfl rfl) rfl ?_
        have ⟨r1, hr1, h⟩ := bnd h
        refine .c (.sev hr1 hx5 hS.p1 T.t4 rfl rfl rfl rfl rfl rfl ?_ rfl rfl rfl rfl rfl rfl)
        intro W hS
        refine .nil (.region (.q rfl (.nil ?_)))
        cases h
        exact ⟨rfl, sb rfl, hS.to [1, 0] rfl⟩
       refine .skip ?_
       cases h
       exact ⟨rfl, sb rfl, hS.to [0, 0] rfl⟩
      intro x E W hJ
      obtain ⟨rfl, hE, hS⟩ := hJ
      refine ⟨_, hE.sub, ?_⟩
      refine .region (.q rfl (.q rfl (.q rfl (.nil ?_))))
      cases h
      exact ⟨rfl, sb rfl, hS.to [0, 0] rfl⟩
     refine .exit ?_
     cases h
     exact ⟨by simp, rfl, sb rfl, hS.to [0, 0] rfl⟩
    intro x E W hJ
    obtain ⟨rfl, hE, hS⟩ := hJ
    refine ⟨_, hE.sub, ?_⟩
    cases h
    exact ⟨rfl, sb rfl, hS.to [1] rfl⟩
   intro x E W hJ
   obtain ⟨rfl, hE, hS⟩ := hJ
   refine ⟨_, hE.sub, ?_⟩
   refine .region (.q rfl (.q rfl (.q rfl (.nil ?_))))
   cases h
   exact ⟨rfl, sb rfl, hS.to [0] rfl⟩
  refine .exit ?_
  cases h
  exact ⟨by simp, rfl, sb rfl, hS.to [0] rfl⟩
 intro x E W hJ
 obtain ⟨rfl, hE, hS⟩ := hJ
 refine ⟨_, hE.sub, ?_⟩
 cases h
 exact .seq (.region (.q rfl (.q rfl (.nil (.ret (fin_ret (vs := [_]) () (rt rfl rn) rfl (hS.to [0] rfl)))))))
theorem spec_CodeReach_ok {a0 : List Quad} {v_0 : Hd} {w : World} {r : (List Bool)} (h : spec_CodeReach a0 = some r) (q_0 : RV w (Old No w) (sv v_0) 34 5 dQuad a0) : Calls Tryz.prog 104 #[(sv v_0)] w (Ret No w (fun s : Hd => (sv s)) (fun s => [rowV (sv s) 4 1 D.bool r])) := by
 unfold spec_CodeReach at h
 refine enter Tryz.func104 rfl rfl ?_
 have hS := Sep.start w
 refine .seq (.region (.q rfl (.nil (.seq (.seq (.region (.q rfl ?_)))))))
 have ⟨y1, hy1, h⟩ := bnd h
 refine .c (.call0 hS Tryz.func18 (spec_CodeValid_ok hy1 (hS.keep q_0)) rfl rfl ?_ rfl (by kernel_rfl) rfl rfl)
 intro W hS
 refine .q rfl (.nil (.cond rfl (fun hb => ?_) (fun hb => ?_)))
 ·have h := sel_t hb h
  refine .seq (.region (.c (.liv [] D.bool T.u113 T.t4 hS rfl rfl rfl rfl ?_ rfl (fun _ => rfl) rfl rfl rfl rfl)))
  intro v1 W hS
  cases h
  exact .q rfl (.nil (.ret (fin_ret (vs := [_]) v1 (rt rfl rn) rfl (hS.to [0] rfl))))
 have h := sel_f hb h
 refine .skip (.seq (.region (.q rfl (.s (lenv (hS.keep q_0) T.u23 rfl rfl) rfl ?_))))
 have ⟨r1, hr1, h⟩ := bnd h
 refine .c (.mkv false D.bool hr1 T.u113 T.t4 hS rfl rfl rfl rfl rfl (fun _ => rfl) ?_ rfl rfl rfl)
 intro v2 W hS
 refine .q rfl (.nil (.seq (.region (.q rfl ?_))))
 have ⟨x1, hx1, h⟩ := bnd h
 refine .s (ixv hS.lendv hx1 T.u113 T.t4 rfl rfl rfl) rfl ?_
 have ⟨r2, hr2, h⟩ := bnd h
 refine .c (.sev hr2 hx1 hS T.t4 rfl rfl rfl rfl rfl rfl ?_ rfl rfl rfl rfl rfl rfl)
 intro W hS
 refine .nil (.seq (.block ?_))
 have ⟨y2, hy2, h⟩ := bnd h
 refine .via (.iter (fun s1 E' W' => SubL E' [(0, (sv v_0)), (3, (sv v2))] ∧ Sep No w W' [rowV (sv v2) 4 1 D.bool s1]) (fun y3 x E' W' => x = .exit 0 ∧ SubL E' [(3, (sv v2))] ∧ Sep No w W' [rowV (sv v2) 4 1 D.bool y3]) hy2 ⟨sb rfl, hS.to [0] rfl⟩ ?_) ?_
 ·intro s1 y4 E W h hI
  obtain ⟨hE, hS⟩ := hI
  refine CW.sub hE ?_
  unfold spec_CodeReach_b1 at h
  refine .seq (.seq (.region (.q rfl (.q rfl ?_))))
  have ⟨y5, hy5, h⟩ := bnd h
  refine .c (.callS2 (L0 := [rowV (sv v2) 4 1 D.bool s1]) hS Tryz.func121 (fun S h1 h2 h3 => (spec_l31Spread_ok hy5 (hS.keepS q_0 h1) h2 (fun b hb => (h1 b hb).2))) rfl rfl ?_ rfl (by kernel_rfl) rfl rfl)
  rintro ⟨⟩ W hS
  refine .nil ?_
  refine .cs rfl h ?_ ?_ <;> intro h
  ·refine .skip (.block (.skip ?_))
   cases h
   exact ⟨rfl, sb rfl, hS.to [0] rfl⟩
  refine .exit ?_
  cases h
  exact ⟨by simp, rfl, sb rfl, hS.to [0] rfl⟩
 intro x E W hJ
 obtain ⟨rfl, hE, hS⟩ := hJ
 refine ⟨_, hE.sub, ?_⟩
 obtain rfl := Option.some.inj h
 exact .seq (.region (.q rfl (.q rfl (.nil (.ret (fin_ret (vs := [_]) v2 (rt rfl rn) rfl (hS.to [0] rfl)))))))
theorem spec_l36Idle_ok {a0 : Quad} {a1 : Int} {w : World} {r : Bool} (h : spec_l36Idle a0 a1 = some r) : Calls Tryz.prog 105 #[.agg #[.int .i64 a0.Op, .int .i64 a0.Dst, .int .i64 a0.A, .int .i64 a0.B, .int .i64 a0.N], .int .i64 a1] w (Ret No w (fun s : Unit => .bool r) (fun s => [])) := by
 unfold spec_l36Idle at h
 refine enter Tryz.func105 rfl rfl ?_
 have hS := Sep.start w
 refine .seq (.region (.c (.box hS rfl rfl ?_ rfl rfl)))
 intro g1 W hS
 refine .q rfl (.nil (.seq (.seq (.region (.s (fa T.f34_0 rfl rfl rfl) rfl (.s (ld T.t3 hS rfl rfl rfl rfl rfl) rfl (.nil (.block ?_))))))))
 have ⟨y1, hy1, h⟩ := bnd h
 refine .seq (CW.via (R' := fun x E' W' => x = .normal ∧ SubL E' [(1, .int .i64 a1), (2, .pointer (some ⟨g1, 0, none⟩)), (6, .int .i64 a0.Op), (7, .bool y1)] ∧ Sep No w W' [.box g1 34 [.int .i64 a0.Op, .int .i64 a0.Dst, .int .i64 a0.A, .int .i64 a0.B, .int .i64 a0.N]]) ?_ ?_)
 ·have h := hy1
  refine .seq (.region (.q rfl (.q rfl (.nil ?_))))
  refine .cs rfl h ?_ ?_ <;> intro h
  ·refine .skip ?_
   cases h
   exact ⟨rfl, sb rfl, hS.to [0] rfl⟩
  refine .region (.q rfl (.q rfl (.nil ?_)))
  cases h
  exact ⟨rfl, sb rfl, hS.to [0] rfl⟩
 intro x E W hJ
 obtain ⟨rfl, hE, hS⟩ := hJ
 refine ⟨_, hE.sub, ?_⟩
 refine .cs rfl h ?_ ?_ <;> intro h
 ·cases h
  exact .seq (.region (.s (fa T.f34_4 rfl rfl rfl) rfl (.s (ld T.t3 hS rfl rfl rfl rfl rfl) rfl (.q rfl (.q rfl (.q rfl (.q rfl (.nil (.ret (fin_ret (vs := [_]) () (rt rfl rn) rfl (hS.to [] rfl)))))))))))
 refine .seq (.region (.q rfl (.q rfl (.nil ?_))))
 refine .cs rfl h ?_ ?_ <;> intro h
 ·cases h
  exact .seq (.region (.s (fa T.f34_1 rfl rfl rfl) rfl (.s (ld T.t3 hS rfl rfl rfl rfl rfl) rfl (.s (fa T.f34_2 rfl rfl rfl) rfl (.s (ld T.t3 hS rfl rfl rfl rfl rfl) rfl (.q rfl (.q rfl (.nil (.ret (fin_ret (vs := [_]) () (rt rfl rn) rfl (hS.to [] rfl)))))))))))
 obtain rfl := Option.some.inj h
 exact .skip (.seq (.region (.q rfl (.nil (.ret (fin_ret (vs := [_]) () (rt rfl rn) rfl (hS.to [] rfl)))))))
theorem spec_l36Place_ok {a0 : List Bool} {a1 : Int} {v_0 : Hd} {w : World} {r : Int} (h : spec_l36Place a0 a1 = some r) (q_0 : RV w (Old No w) (sv v_0) 4 1 D.bool a0) : Calls Tryz.prog 106 #[(sv v_0), .int .i64 a1] w (Ret No w (fun s : Unit => .int .i64 r) (fun s => [])) := by
 unfold spec_l36Place at h
 refine enter Tryz.func106 rfl rfl ?_
 have hS := Sep.start w
 refine .seq (.region (.q rfl (.nil (.seq (.region (.q rfl (.nil (.seq (.seq (.region (.q rfl (.nil (.block ?_)))))))))))))
 have ⟨y1, hy1, h⟩ := bnd h
 refine .via (.iter (fun s1 E' W' => SubL E' [(0, (sv v_0)), (1, .int .i64 a1), (5, .int .i64 s1.1), (6, .int .i64 s1.2)] ∧ Sep No w W' []) (fun y2 x E' W' => x = .exit 0 ∧ SubL E' [(5, .int .i64 y2)] ∧ Sep No w W' []) hy1 ⟨sb rfl, hS.to [] rfl⟩ ?_) ?_
 ·intro s1 y3 E W h hI
  obtain ⟨hE, hS⟩ := hI
  refine CW.sub hE ?_
  unfold spec_l36Place_b1 at h
  refine .seq (.seq (.region (.q rfl (.q rfl (.q rfl (.nil ?_))))))
  refine .cs rfl h ?_ ?_ <;> intro h
  ·refine .skip ?_
   have ⟨y4, hy4, h⟩ := bnd h
   refine .seq (CW.via (R' := fun x E' W' => x = .normal ∧ SubL E' [(0, (sv v_0)), (1, .int .i64 a1), (5, .int .i64 y4), (6, .int .i64 s1.2)] ∧ Sep No w W' []) ?_ ?_)
   ·have h := hy4
    refine .block (.seq (.region (.q rfl (.q rfl ?_))))
    have ⟨x1, hx1, h⟩ := bnd h
    refine .s (ixv (hS.keep q_0) hx1 T.u113 T.t4 rfl rfl rfl) rfl (.s (lde (RV.flat (hS.keep q_0) hx1 rfl) T.t4 rfl rfl rfl rfl rfl) rfl (.nil ?_))
    refine .cs rfl h ?_ ?_ <;> intro h
    ·refine .region (.q rfl (.q rfl (.q rfl (.nil ?_))))
     cases h
     exact ⟨rfl, sb rfl, hS.to [] rfl⟩
    refine .skip ?_
    cases h
    exact ⟨rfl, sb rfl, hS.to [] rfl⟩
   intro x E W hJ
   obtain ⟨rfl, hE, hS⟩ := hJ
   refine ⟨_, hE.sub, ?_⟩
   refine .region (.q rfl (.q rfl (.q rfl (.nil ?_))))
   cases h
   exact ⟨rfl, sb rfl, hS.to [] rfl⟩
  refine .exit ?_
  cases h
  exact ⟨by simp, rfl, sb rfl, hS.to [] rfl⟩
 intro x E W hJ
 obtain ⟨rfl, hE, hS⟩ := hJ
 refine ⟨_, hE.sub, ?_⟩
 obtain rfl := Option.some.inj h
 exact .seq (.region (.q rfl (.q rfl (.nil (.ret (fin_ret (vs := [_]) () (rt rfl rn) rfl (hS.to [] rfl)))))))
theorem spec_SqueezeCode_ok {a0 : List Quad} {v_0 : Hd} {w : World} {r : (List Quad) × Bool} (h : spec_SqueezeCode a0 = some r) (q_0 : RV w (Old No w) (sv v_0) 34 5 dQuad a0) : Calls Tryz.prog 85 #[(sv v_0)] w (Ret No w (fun s : Hd => .tuple #[(sv s), .bool r.2]) (fun s => [rowV (sv s) 34 5 dQuad r.1])) := by
 unfold spec_SqueezeCode at h
 refine enter Tryz.func85 rfl rfl ?_
 have hS := Sep.start w
 refine .seq (.region (.q rfl (.q rfl (.nil (.seq (.region (.c (.liv [] dQuad T.u23 T.t34 hS rfl rfl rfl rfl ?_ rfl (fun _ => rfl) rfl rfl rfl rfl))))))))
 intro v1 W hS
 refine .q rfl (.nil (.seq (.seq (.region (.q rfl ?_)))))
 have ⟨y1, hy1, h⟩ := bnd h
 refine .c (.call0 hS Tryz.func18 (spec_CodeValid_ok hy1 (hS.keep q_0)) rfl rfl ?_ rfl (by kernel_rfl) rfl rfl)
 intro W hS
 refine .q rfl (.nil ?_)
 refine .cs rfl h ?_ ?_ <;> intro h
 ·cases h
  exact .seq (.region (.q rfl (.q rfl (.q rfl (.nil (.ret (fin_ret (vs := [_, _]) v1 (rt rfl (rt rfl rn)) rfl (hS.to [0] rfl))))))))
 refine .skip (.seq (.region (.q rfl ?_)))
 have ⟨y2, hy2, h⟩ := bnd h
 refine .c (.call1v hS Tryz.func104 (spec_CodeReach_ok hy2 (hS.keep q_0)) rfl rfl ?_ rfl (by kernel_rfl) rfl rfl)
 intro v2 W hS
 refine .q rfl (.nil (.seq (.seq (.region (.q rfl (.nil (.block ?_)))))))
 have ⟨y3, hy3, h⟩ := bnd h
 refine .via (.iter (fun s1 E' W' => SubL E' [(0, (sv v_0)), (4, (sv v1)), (5, (sv v2)), (6, .int .i64 s1.1)] ∧ Sep No w W' [rowV (sv v2) 4 1 D.bool s1.2, rowV (sv v1) 34 5 dQuad []]) (fun y4 x E' W' => x = .exit 0 ∧ SubL E' [(0, (sv v_0)), (4, (sv v1)), (5, (sv v2))] ∧ Sep No w W' [rowV (sv v2) 4 1 D.bool y4, rowV (sv v1) 34 5 dQuad []]) hy3 ⟨sb rfl, hS.to [0, 0] rfl⟩ ?_) ?_
 ·intro s1 y5 E W h hI
  obtain ⟨hE, hS⟩ := hI
  refine CW.sub hE ?_
  unfold spec_SqueezeCode_b1 at h
  refine .seq (.seq (.region (.q rfl (.q rfl (.s (lenv (hS.keep q_0) T.u23 rfl rfl) rfl (.q rfl (.nil ?_)))))))
  refine .cs rfl h ?_ ?_ <;> intro h
  ·refine .skip (.seq (.block (.region (.q rfl (.q rfl (.q rfl (.q rfl ?_)))))))
   have ⟨x1, hx1, h⟩ := bnd h
   refine .s (ixv hS.lendv hx1 T.u113 T.t4 rfl rfl rfl) rfl (.s (lde (RV.flat hS.lendv hx1 rfl) T.t4 rfl rfl rfl rfl rfl) rfl (.q rfl ?_))
   have ⟨b1, hb1, h⟩ := bnd h
   refine .chunk 8 36 (b1) hS ?_ ?_
   ·refine .both (x1) (fun hb => ?_) (fun hb => ?_)
    ·have hg1 := hb
     have h := sel_t hb hb1
     refine .g hg1 (.q rfl (.g hg1 (.q rfl ?_) rfl)) rfl
     have ⟨x2, hx2, h⟩ := bnd h
     refine .g hg1 (.s (ixv (hS.keep q_0) hx2 T.u23 T.t34 rfl rfl rfl) rfl (.g hg1 (.s (lde (RV.flat (hS.keep q_0) hx2 rfl) T.t34 rfl rfl rfl rfl rfl) rfl (.g hg1 (.q rfl ?_) rfl)) rfl)) rfl
     have ⟨y6, hy6, h⟩ := bnd h
     refine .g hg1 (.c (.call0 hS Tryz.func105 (spec_l36Idle_ok hy6) rfl rfl ?_ rfl (by kernel_rfl) rfl rfl)) rfl
     intro W hS
     refine .g hg1 (.q rfl (.s (pkt hg1 rfl rfl rfl) rfl ?_)) rfl
     cases h
     exact .nil (ck 8 hS rfl rfl rfl rfl)
    refine .xx hb rfl (.xx hb rfl (.xx hb rfl (.xx hb rfl (.xx hb rfl (.xx hb rfl (.xx hb rfl ?_))))))
    cases sel_f hb hb1
    exact .s (pkf hb rfl rfl rfl) rfl (.nil (ck 8 hS rfl rfl rfl rfl))
   intro W hS
   have ⟨x3, hx3, h⟩ := bnd h
   refine .s (ixv hS.lendv hx3 T.u113 T.t4 rfl rfl rfl) rfl ?_
   have ⟨r1, hr1, h⟩ := bnd h
   refine .c (.sev hr1 hx3 hS T.t4 rfl rfl rfl rfl rfl rfl ?_ rfl rfl rfl rfl rfl rfl)
   intro W hS
   refine .nil (.region (.q rfl (.q rfl (.q rfl (.nil ?_)))))
   cases h
   exact ⟨rfl, sb rfl, hS.to [0, 0] rfl⟩
  refine .exit ?_
  cases h
  exact ⟨by simp, rfl, sb rfl, hS.to [0, 0] rfl⟩
 intro x E W hJ
 obtain ⟨rfl, hE, hS⟩ := hJ
 refine ⟨_, hE.sub, ?_⟩
 refine .seq (.seq (.region (.q rfl (.nil (.block ?_)))))
 have ⟨y7, hy7, h⟩ := bnd h
 refine .via (.iter (fun s2 E' W' => ∃ (v5 : Hd), SubL E' [(0, (sv v_0)), (4, (sv v5)), (5, (sv v2)), (7, .int .i64 s2.2)] ∧ Sep No w W' [rowV (sv v2) 4 1 D.bool y3, rowV (sv v5) 34 5 dQuad s2.1]) (fun y8 x E' W' => x = .exit 2 ∧ ∃ (v6 : Hd), SubL E' [(4, (sv v6))] ∧ Sep No w W' [rowV (sv v2) 4 1 D.bool y3, rowV (sv v6) 34 5 dQuad y8]) hy7 ⟨v1, sb rfl, hS.to [0, 0] rfl⟩ ?_) ?_
 ·intro s2 y9 E W h hI
  obtain ⟨v4, hE, hS⟩ := hI
  refine CW.sub hE ?_
  unfold spec_SqueezeCode_b2 at h
  refine .seq (.seq (.region (.q rfl (.q rfl (.s (lenv (hS.keep q_0) T.u23 rfl rfl) rfl (.q rfl (.nil ?_)))))))
  refine .cs rfl h ?_ ?_ <;> intro h
  ·refine .skip ?_
   have ⟨y10, hy10, h⟩ := bnd h
   refine .seq (CW.via (R' := fun x E' W' => x = .normal ∧ ∃ (v7 : Hd), SubL E' [(0, (sv v_0)), (4, (sv v7)), (5, (sv v2)), (7, .int .i64 s2.2)] ∧ Sep No w W' [rowV (sv v2) 4 1 D.bool y3, rowV (sv v7) 34 5 dQuad y10]) ?_ ?_)
   ·have h := hy10
    refine .block (.seq (.region (.q rfl (.q rfl ?_))))
    have ⟨x4, hx4, h⟩ := bnd h
    refine .s (ixv (hS.keep q_0) hx4 T.u23 T.t34 rfl rfl rfl) rfl (.s (lde (RV.flat (hS.keep q_0) hx4 rfl) T.t34 rfl rfl rfl rfl rfl) rfl (.c (.alloc T.t34 hS ?_ rfl rfl rfl)))
    intro g1 W hS
    refine .c (.st T.t34 hS rfl rfl rfl ?_ rfl rfl rfl rfl rfl)
    intro W hS
    refine .nil (.seq (.seq (.region (.q rfl (.q rfl ?_)))))
    have ⟨x5, hx5, h⟩ := bnd h
    refine .s (ixv hS.p1.lendv hx5 T.u113 T.t4 rfl rfl rfl) rfl (.s (lde (RV.flat hS.p1.lendv hx5 rfl) T.t4 rfl rfl rfl rfl rfl) rfl (.q rfl (.nil ?_)))
    refine .cs rfl h ?_ ?_ <;> intro h
    ·refine .exit ?_
     cases h
     exact ⟨rfl, v4, sb rfl, hS.to [1, 1] rfl⟩
    refine .skip ?_
    have ⟨y11, hy11, h⟩ := bnd h
    refine .seq (CW.via (R' := fun x E' W' => x = .normal ∧ SubL E' [(0, (sv v_0)), (4, (sv v4)), (5, (sv v2)), (7, .int .i64 s2.2), (8, .pointer (some ⟨g1, 0, none⟩))] ∧ Sep No w W' [.box g1 34 [.int .i64 y11.Op, .int .i64 y11.Dst, .int .i64 y11.A, .int .i64 y11.B, .int .i64 y11.N], rowV (sv v2) 4 1 D.bool y3, rowV (sv v4) 34 5 dQuad s2.1]) ?_ ?_)
    ·have h := hy11
     refine .seq (.region (.s (fa T.f34_0 rfl rfl rfl) rfl (.s (ld T.t3 hS rfl rfl rfl rfl rfl) rfl (.q rfl (.q rfl (.chunk 4 60 ((x4.Op == 4) || (x4.Op == 5)) hS ?_ ?_))))))
     ·refine .both (x4.Op == 4) (fun hb => ?_) (fun hb => ?_)
      ·exact .xx hb rfl (.xx hb rfl (.xx hb rfl (.s (pkt hb rfl rfl rfl) rfl (.nil (ck 4 hS rfl (or_t hb) rfl rfl)))))
      have hg2 := hb
      exact .g hg2 (.s (fa T.f34_0 rfl rfl rfl) rfl (.g hg2 (.s (ld T.t3 hS rfl rfl rfl rfl rfl) rfl (.g hg2 (.q rfl (.s (pkf hg2 rfl rfl rfl) rfl (.nil (ck 4 hS rfl (or_f hg2) rfl rfl)))) rfl)) rfl)) rfl
     intro W hS
     refine .nil ?_
     refine .cs rfl h ?_ ?_ <;> intro h
     ·refine .region (.q rfl (.s (fa T.f34_4 rfl rfl rfl) rfl (.s (ld T.t3 hS rfl rfl rfl rfl rfl) rfl ?_)))
      have ⟨y12, hy12, h⟩ := bnd h
      refine .c (.call0 hS Tryz.func106 (spec_l36Place_ok hy12 hS.p1.lendv) rfl rfl ?_ rfl (by kernel_rfl) rfl rfl)
      intro W hS
      refine .s (fa T.f34_4 rfl rfl rfl) rfl (.c (.st T.t3 hS rfl rfl rfl ?_ rfl rfl rfl rfl rfl))
      intro W hS
      refine .nil ?_
      cases h
      exact ⟨rfl, sb rfl, hS.to [0, 0, 0] rfl⟩
     refine .skip ?_
     obtain rfl := Option.some.inj h
     exact ⟨rfl, sb rfl, hS.to [0, 0, 0] rfl⟩
    intro x E W hJ
    obtain ⟨rfl, hE, hS⟩ := hJ
    refine ⟨_, hE.sub, ?_⟩
    refine .region (.q rfl (.s (ld T.t34 hS rfl rfl rfl rfl rfl) rfl (.c (.liv [y11] dQuad T.u23 T.t34 hS rfl rfl rfl rfl ?_ rfl (fun _ => rfl) rfl rfl rfl rfl))))
    intro v8 W hS
    have ⟨r2, hr2, h⟩ := bnd h
    have hT0 := hS.p3
    refine .c (.apprv hr2 hT0 hT0.p1.lendv (fun _ => rfl) T.u23 T.t34 rfl rfl rfl ?_ rfl rfl rfl rfl rfl)
    intro v9 W hS
    refine .q rfl (.nil ?_)
    obtain rfl := Option.some.inj h
    exact ⟨rfl, v9, sb rfl, hS.to [3, 0] rfl⟩
   intro x E W hJ
   obtain ⟨rfl, v10, hE, hS⟩ := hJ
   refine ⟨_, hE.sub, ?_⟩
   refine .region (.q rfl (.q rfl (.q rfl (.nil ?_))))
   cases h
   exact ⟨rfl, v10, sb rfl, hS.to [0, 0] rfl⟩
  refine .exit ?_
  cases h
  exact ⟨by simp, rfl, v4, sb rfl, hS.to [0, 0] rfl⟩
 intro x E W hJ
 obtain ⟨rfl, v11, hE, hS⟩ := hJ
 refine ⟨_, hE.sub, ?_⟩
 cases h
 exact .seq (.region (.q rfl (.q rfl (.q rfl (.nil (.ret (fin_ret (vs := [_, _]) v11 (rt rfl (rt rfl rn)) rfl (hS.to [1] rfl))))))))
theorem spec_l37Once_ok {a0 : List Quad} {v_0 : Hd} {w : World} {r : (List Quad)} (h : spec_l37Once a0 = some r) (q_0 : RV w (Old No w) (sv v_0) 34 5 dQuad a0) : Calls Tryz.prog 67 #[(sv v_0)] w (Ret No w (fun s : Hd => (sv s)) (fun s => [rowV (sv s) 34 5 dQuad r])) := by
 unfold spec_l37Once at h
 refine enter Tryz.func67 rfl rfl ?_
 have hS := Sep.start w
 refine .seq (.region (.q rfl (.nil (.seq (.region (.q rfl ?_))))))
 have ⟨y1, hy1, h⟩ := bnd h
 refine .c (.call1v hS Tryz.func81 (spec_FoldCode_ok hy1 (hS.keep q_0)) rfl rfl ?_ rfl (by kernel_rfl) rfl rfl)
 intro v1 W hS
 refine .q rfl (.q rfl (.q rfl (.q rfl (.q rfl (.nil (.seq (.region (.q rfl ?_))))))))
 have ⟨y2, hy2, h⟩ := bnd h
 refine .c (.call1v hS Tryz.func82 (spec_CopyCode_ok hy2 hS.lendv) rfl rfl ?_ rfl (by kernel_rfl) rfl rfl)
 intro v2 W hS
 refine .q rfl (.q rfl (.q rfl (.q rfl (.q rfl (.nil (.seq (.region (.q rfl ?_))))))))
 have ⟨y3, hy3, h⟩ := bnd h
 refine .c (.call1v hS Tryz.func83 (spec_JumpCode_ok hy3 hS.lendv) rfl rfl ?_ rfl (by kernel_rfl) rfl rfl)
 intro v3 W hS
 refine .q rfl (.q rfl (.q rfl (.q rfl (.q rfl (.nil (.seq (.region (.q rfl ?_))))))))
 have ⟨y4, hy4, h⟩ := bnd h
 refine .c (.call1v hS Tryz.func84 (spec_DeadCode_ok hy4 hS.lendv) rfl rfl ?_ rfl (by kernel_rfl) rfl rfl)
 intro v4 W hS
 refine .q rfl (.q rfl (.q rfl (.q rfl (.q rfl (.nil (.seq (.region (.q rfl ?_))))))))
 have ⟨y5, hy5, h⟩ := bnd h
 refine .c (.call1v hS Tryz.func85 (spec_SqueezeCode_ok hy5 hS.lendv) rfl rfl ?_ rfl (by kernel_rfl) rfl rfl)
 intro v5 W hS
 cases h
 exact .q rfl (.q rfl (.q rfl (.q rfl (.q rfl (.nil (.seq (.region (.q rfl (.q rfl (.nil (.ret (fin_ret (vs := [_]) v5 (rt rfl rn) rfl (hS.to [0] rfl)))))))))))))
theorem spec_OptimizeCode_ok {a0 : List Quad} {a1 : Int} {v_0 : Hd} {w : World} {r : (List Quad) × Bool} (h : spec_OptimizeCode a0 a1 = some r) (q_0 : RV w (Old No w) (sv v_0) 34 5 dQuad a0) : Calls Tryz.prog 44 #[(sv v_0), .int .i64 a1] w (Ret No w (fun s : Hd => .tuple #[(sv s), .bool r.2]) (fun s => [rowV (sv s) 34 5 dQuad r.1])) := by
 unfold spec_OptimizeCode at h
 refine enter Tryz.func44 rfl rfl ?_
 have hS := Sep.start w
 refine .seq (.region (.q rfl (.q rfl (.nil (.seq (.seq (.region (.q rfl ?_))))))))
 have ⟨y1, hy1, h⟩ := bnd h
 refine .c (.call0 hS Tryz.func18 (spec_CodeValid_ok hy1 (hS.keep q_0)) rfl rfl ?_ rfl (by kernel_rfl) rfl rfl)
 intro W hS
 refine .q rfl (.q rfl ?_)
 have ⟨b1, hb1, h⟩ := bnd h
 refine .chunk 4 15 (b1) hS ?_ ?_
 ·refine .both (!y1) (fun hb => ?_) (fun hb => ?_)
  ·refine .xx hb rfl (.xx hb rfl (.xx hb rfl ?_))
   cases sel_t hb hb1
   exact .s (pkt hb rfl rfl rfl) rfl (.nil (ck 4 hS rfl rfl rfl rfl))
  have hg1 := hb
  have h := sel_f hb hb1
  refine .g hg1 (.q rfl ?_) rfl
  have ⟨y2, hy2, h⟩ := bnd h
  refine .g hg1 (.c (.call0 hS Tryz.func19 (spec_l6In_ok hy2) rfl rfl ?_ rfl (by kernel_rfl) rfl rfl)) rfl
  intro W hS
  refine .g hg1 (.q rfl (.s (pkf hg1 rfl rfl rfl) rfl ?_)) rfl
  cases h
  exact .nil (ck 4 hS rfl rfl rfl rfl)
 intro W hS
 refine .nil ?_
 refine .cs rfl h ?_ ?_ <;> intro h
 ·refine .seq (.region (.c (.liv [] dQuad T.u23 T.t34 hS rfl rfl rfl rfl ?_ rfl (fun _ => rfl) rfl rfl rfl rfl)))
  intro v1 W hS
  cases h
  exact .q rfl (.q rfl (.nil (.ret (fin_ret (vs := [_, _]) v1 (rt rfl (rt rfl rn)) rfl (hS.to [0] rfl)))))
 refine .skip (.seq (.region (.c (.liv [] dQuad T.u23 T.t34 hS rfl rfl rfl rfl ?_ rfl (fun _ => rfl) rfl rfl rfl rfl))))
 intro v2 W hS
 refine .q rfl ?_
 have ⟨r1, hr1, h⟩ := bnd h
 refine .c (.apprv hr1 hS (hS.keep q_0) (fun _ => rfl) T.u23 T.t34 rfl rfl rfl ?_ rfl rfl rfl rfl rfl)
 intro v3 W hS
 refine .q rfl (.nil (.seq (.seq (.region (.q rfl (.nil (.block ?_)))))))
 have ⟨y3, hy3, h⟩ := bnd h
 refine .via (.iter (fun s1 E' W' => ∃ (v6 : Hd), SubL E' [(1, .int .i64 a1), (6, (sv v6)), (7, .int .i64 s1.2)] ∧ Sep No w W' [rowV (sv v6) 34 5 dQuad s1.1]) (fun y4 x E' W' => x = .exit 0 ∧ ∃ (v7 : Hd), SubL E' [(6, (sv v7))] ∧ Sep No w W' [rowV (sv v7) 34 5 dQuad y4]) hy3 ⟨v3, sb rfl, hS.to [0] rfl⟩ ?_) ?_
 ·intro s1 y5 E W h hI
  obtain ⟨v5, hE, hS⟩ := hI
  refine CW.sub hE ?_
  unfold spec_OptimizeCode_b1 at h
  refine .seq (.seq (.region (.q rfl (.q rfl (.q rfl (.nil ?_))))))
  refine .cs rfl h ?_ ?_ <;> intro h
  ·refine .skip (.seq (.block (.region (.q rfl ?_))))
   have ⟨y6, hy6, h⟩ := bnd h
   refine .c (.call1v hS Tryz.func67 (spec_l37Once_ok hy6 hS.lendv) rfl rfl ?_ rfl (by kernel_rfl) rfl rfl)
   intro v8 W hS
   refine .q rfl (.nil (.region (.q rfl (.q rfl (.q rfl (.nil ?_))))))
   cases h
   exact ⟨rfl, v8, sb rfl, hS.to [0] rfl⟩
  refine .exit ?_
  cases h
  exact ⟨by simp, rfl, v5, sb rfl, hS.to [0] rfl⟩
 intro x E W hJ
 obtain ⟨rfl, v9, hE, hS⟩ := hJ
 refine ⟨_, hE.sub, ?_⟩
 cases h
 exact .seq (.region (.q rfl (.q rfl (.q rfl (.nil (.ret (fin_ret (vs := [_, _]) v9 (rt rfl (rt rfl rn)) rfl (hS.to [0] rfl))))))))
theorem spec_l93Good_ok {k : Nat} {a0 : L6Rd} {v_0_b : Hd} {g_0 : Nat} {S : Nat → Prop} {w : World} {r : (List Quad) × Int} (h : spec_l93Good k a0 = some r) (q_0_b : RV w (Old S w) (sv v_0_b) 5 1 (D.int .u8) a0.b) (hO : Owns w [.box g_0 50 [(sv v_0_b), .int .i64 a0.p]] S) (hlt : ∀ b, S b → b < w.heap.size) : Calls Tryz.prog 23 #[.pointer (some ⟨g_0, 0, none⟩)] w (Ret S w (fun s : Hd => (sv s)) (fun s => [.box g_0 50 [(sv v_0_b), .int .i64 r.2], rowV (sv s) 34 5 dQuad r.1])) := by
 unfold spec_l93Good at h
 refine enter Tryz.func23 rfl rfl ?_
 have hS := Sep.startM hO hlt
 refine .seq (.region (.q rfl (.nil (.seq (.seq (.region (.q rfl ?_)))))))
 have ⟨y1, hy1, h⟩ := bnd h
 refine .c (.callS2 (L0 := [.box g_0 50 [(sv v_0_b), .int .i64 a0.p]]) hS Tryz.func15 (fun S h1 h2 h3 => (spec_l6Rd_pick_ok hy1 (hS.keepS q_0_b h1) h2 (fun b hb => (h1 b hb).2))) rfl rfl ?_ rfl (by kernel_rfl) rfl rfl)
 rintro ⟨⟩ W hS
 refine .q rfl (.nil (.cond rfl (fun hb => ?_) (fun hb => ?_)))
 ·have h := sel_t hb h
  refine .seq (.region (.q rfl ?_))
  have ⟨y2, hy2, h⟩ := bnd h
  refine .c (.callS2 (L0 := [.box g_0 50 [(sv v_0_b), .int .i64 y1.2]]) hS Tryz.func41 (fun S h1 h2 h3 => (spec_l93Random_ok hy2 (hS.keepS q_0_b h1) h2 (fun b hb => (h1 b hb).2))) rfl rfl ?_ rfl (by kernel_rfl) rfl rfl)
  rintro v1 W hS
  cases h
  exact .q rfl (.nil (.ret (fin_ret (vs := [_]) v1 (rt rfl rn) rfl (hS.to [0, 0] rfl))))
 have h := sel_f hb h
 refine .skip (.seq (.region (.q rfl ?_)))
 have ⟨y3, hy3, h⟩ := bnd h
 refine .c (.callS2 (L0 := [.box g_0 50 [(sv v_0_b), .int .i64 y1.2]]) hS Tryz.func43 (fun S h1 h2 h3 => (spec_l92Stmts_ok hy3 (hS.keepS q_0_b h1) h2 (fun b hb => (h1 b hb).2))) rfl rfl ?_ rfl (by kernel_rfl) rfl rfl)
 rintro v2 W hS
 have ⟨y4, hy4, h⟩ := bnd h
 refine .c (.call1v hS Tryz.func42 (spec_CompileTask_ok hy4 hS.p1.lendv) rfl rfl ?_ rfl (by kernel_rfl) rfl rfl)
 intro v3 W hS
 refine .q rfl (.q rfl (.q rfl (.q rfl (.q rfl (.nil (.seq (.seq (.region (.q rfl (.s (lenv hS.lendv T.u23 rfl rfl) rfl (.q rfl (.nil (.cond rfl (fun hb => ?_) (fun hb => ?_))))))))))))))
 ·have h := sel_t hb h
  refine .seq (.region (.q rfl ?_))
  have ⟨y5, hy5, h⟩ := bnd h
  have hS := hS.p1
  refine .c (.callS2 (L0 := [.box g_0 50 [(sv v_0_b), .int .i64 y3.2]]) hS Tryz.func41 (fun S h1 h2 h3 => (spec_l93Random_ok hy5 (hS.keepS q_0_b h1) h2 (fun b hb => (h1 b hb).2))) rfl rfl ?_ rfl (by kernel_rfl) rfl rfl)
  rintro v4 W hS
  cases h
  exact .q rfl (.nil (.ret (fin_ret (vs := [_]) v4 (rt rfl rn) rfl (hS.to [0, 0] rfl))))
 have h := sel_f hb h
 refine .skip (.seq (.region (.q rfl (.q rfl ?_))))
 have ⟨y6, hy6, h⟩ := bnd h
 have hS := hS.p1
 refine .c (.callS2 (L0 := [.box g_0 50 [(sv v_0_b), .int .i64 y3.2]]) hS Tryz.func15 (fun S h1 h2 h3 => (spec_l6Rd_pick_ok hy6 (hS.keepS q_0_b h1) h2 (fun b hb => (h1 b hb).2))) rfl rfl ?_ rfl (by kernel_rfl) rfl rfl)
 rintro ⟨⟩ W hS
 refine .q rfl ?_
 have ⟨y7, hy7, h⟩ := bnd h
 refine .c (.call1v hS Tryz.func44 (spec_OptimizeCode_ok hy7 hS.p1.lendv) rfl rfl ?_ rfl (by kernel_rfl) rfl rfl)
 intro v5 W hS
 cases h
 exact .q rfl (.q rfl (.q rfl (.q rfl (.q rfl (.nil (.seq (.region (.q rfl (.q rfl (.nil (.ret (fin_ret (vs := [_]) v5 (rt rfl rn) rfl (hS.to [1, 0] rfl)))))))))))))
theorem spec_l93Code_ok {k : Nat} {a0 : L6Rd} {v_0_b : Hd} {g_0 : Nat} {S : Nat → Prop} {w : World} {r : (List Quad) × Int} (h : spec_l93Code k a0 = some r) (q_0_b : RV w (Old S w) (sv v_0_b) 5 1 (D.int .u8) a0.b) (hO : Owns w [.box g_0 50 [(sv v_0_b), .int .i64 a0.p]] S) (hlt : ∀ b, S b → b < w.heap.size) : Calls Tryz.prog 14 #[.pointer (some ⟨g_0, 0, none⟩)] w (Ret S w (fun s : Hd => (sv s)) (fun s => [.box g_0 50 [(sv v_0_b), .int .i64 r.2], rowV (sv s) 34 5 dQuad r.1])) := by
 unfold spec_l93Code at h
 refine enter Tryz.func14 rfl rfl ?_
 have hS := Sep.startM hO hlt
 refine .seq (.region (.q rfl (.nil (.seq (.region (.q rfl ?_))))))
 have ⟨y1, hy1, h⟩ := bnd h
 refine .c (.callS2 (L0 := [.box g_0 50 [(sv v_0_b), .int .i64 a0.p]]) hS Tryz.func23 (fun S h1 h2 h3 => (spec_l93Good_ok hy1 (hS.keepS q_0_b h1) h2 (fun b hb => (h1 b hb).2))) rfl rfl ?_ rfl (by kernel_rfl) rfl rfl)
 rintro v1 W hS
 refine .q rfl (.nil (.seq (.seq (.region (.q rfl ?_)))))
 have ⟨y2, hy2, h⟩ := bnd h
 refine .c (.callS2 (L0 := [.box g_0 50 [(sv v_0_b), .int .i64 y1.2]]) hS Tryz.func15 (fun S h1 h2 h3 => (spec_l6Rd_pick_ok hy2 (hS.keepS q_0_b h1) h2 (fun b hb => (h1 b hb).2))) rfl rfl ?_ rfl (by kernel_rfl) rfl rfl)
 rintro ⟨⟩ W hS
 refine .nil (.block (.seq (.region (.q rfl (.q rfl (.nil ?_))))))
 refine .cs rfl h ?_ ?_ <;> intro h
 ·refine .region (.q rfl ?_)
  have ⟨x1, hx1, h⟩ := bnd h
  refine .s (ixv hS.p1.lendv hx1 T.u23 T.t34 rfl rfl rfl) rfl (.s (fe T.f34_1 rfl rfl rfl) rfl ?_)
  have ⟨r1, hr1, h⟩ := bnd h
  refine .c (.sev hr1 hx1 hS.p1 T.t3 rfl rfl rfl rfl rfl rfl ?_ rfl rfl rfl rfl rfl rfl)
  intro W hS
  cases h
  exact .nil (.seq (.region (.q rfl (.q rfl (.nil (.ret (fin_ret (vs := [_]) v1 (rt rfl rn) rfl (hS.to [1, 0] rfl))))))))
 refine .seq (.region (.q rfl (.q rfl (.nil ?_))))
 refine .cs rfl h ?_ ?_ <;> intro h
 ·refine .region (.q rfl (.s (bs T.s34 rfl rfl) rfl (.c (.liv [(Quad.mk 9 0 0 0 0)] dQuad T.u23 T.t34 hS rfl rfl rfl rfl ?_ rfl (fun _ => rfl) rfl rfl rfl rfl))))
  intro v2 W hS
  have ⟨r2, hr2, h⟩ := bnd h
  have hT0 := hS.p2
  refine .c (.apprv hr2 hT0 hT0.p1.lendv (fun _ => rfl) T.u23 T.t34 rfl rfl rfl ?_ rfl rfl rfl rfl rfl)
  intro v3 W hS
  cases h
  exact .q rfl (.nil (.seq (.region (.q rfl (.q rfl (.nil (.ret (fin_ret (vs := [_]) v3 (rt rfl rn) rfl (hS.to [2, 0] rfl)))))))))
 refine .seq (.region (.q rfl (.q rfl (.nil ?_))))
 refine .cs rfl h ?_ ?_ <;> intro h
 ·refine .region (.q rfl (.q rfl (.s (lenv hS.p1.lendv T.u23 rfl rfl) rfl (.s (bs T.s34 rfl rfl) rfl ?_))))
  have ⟨x2, hx2, h⟩ := bnd h
  refine .s (ixv hS.p1.lendv hx2 T.u23 T.t34 rfl rfl rfl) rfl ?_
  have ⟨r3, hr3, h⟩ := bnd h
  refine .c (.sev hr3 hx2 hS.p1 T.t34 rfl rfl rfl rfl rfl rfl ?_ rfl rfl rfl rfl rfl rfl)
  intro W hS
  cases h
  exact .nil (.seq (.region (.q rfl (.q rfl (.nil (.ret (fin_ret (vs := [_]) v1 (rt rfl rn) rfl (hS.to [1, 0] rfl))))))))
 refine .seq (.region (.q rfl (.q rfl (.nil ?_))))
 refine .cs rfl h ?_ ?_ <;> intro h
 ·refine .seq (.region (.c (.liv [] dQuad T.u23 T.t34 hS rfl rfl rfl rfl ?_ rfl (fun _ => rfl) rfl rfl rfl rfl)))
  intro v4 W hS
  cases h
  exact .q rfl (.nil (.ret (fin_ret (vs := [_]) v4 (rt rfl rn) rfl (hS.to [1, 0] rfl))))
 cases h
 exact .skip (.seq (.region (.q rfl (.q rfl (.nil (.ret (fin_ret (vs := [_]) v1 (rt rfl rn) rfl (hS.to [0, 0] rfl))))))))
theorem spec_DrawTaskInstrs_ok {k : Nat} {a0 : List Int} {v_0 : Hd} {w : World} {r : (List Quad) × Int} (h : spec_DrawTaskInstrs k a0 = some r) (q_0 : RV w (Old No w) (sv v_0) 5 1 (D.int .u8) a0) : Calls Tryz.prog 6 #[(sv v_0)] w (Ret No w (fun s : Hd => .tuple #[(sv s), .int .i64 r.2]) (fun s => [rowV (sv s) 34 5 dQuad r.1])) := by
 unfold spec_DrawTaskInstrs at h
 refine enter Tryz.func6 rfl rfl ?_
 have hS := Sep.start w
 have Q_0 := q_0
 refine .seq (.region (.q rfl (.q rfl (.nil (.seq (.region (.q rfl ?_)))))))
 have ⟨y1, hy1, h⟩ := bnd h
 have hQ1 := hS
 refine .c (.call hS Tryz.func13 (spec_l6Open_ok hy1 (hS.keep q_0)) rfl rfl ?_ rfl (by kernel_rfl) rfl rfl)
 rintro ⟨g1, ⟨v1, q1⟩⟩ W hS
 refine .q rfl (.nil (.seq (.region (.q rfl ?_))))
 have ⟨y2, hy2, h⟩ := bnd h
 refine .c (.callS2 (L0 := [.box g1 50 [(sv v1), .int .i64 y1.p]]) hS Tryz.func14 (fun S h1 h2 h3 => (spec_l93Code_ok hy2 (hS.keepS (hQ1.wasA (q1 _ (hQ1.keepA q_0 Q_0))) h1) h2 (fun b hb => (h1 b hb).2))) rfl rfl ?_ rfl (by kernel_rfl) rfl rfl)
 rintro v2 W hS
 refine .q rfl (.nil (.seq (.seq (.region (.q rfl ?_)))))
 have ⟨y3, hy3, h⟩ := bnd h
 refine .c (.callS2 (L0 := [.box g1 50 [(sv v1), .int .i64 y2.2]]) hS Tryz.func15 (fun S h1 h2 h3 => (spec_l6Rd_pick_ok hy3 (hS.keepS (hQ1.wasA (q1 _ (hQ1.keepA q_0 Q_0))) h1) h2 (fun b hb => (h1 b hb).2))) rfl rfl ?_ rfl (by kernel_rfl) rfl rfl)
 rintro ⟨⟩ W hS
 refine .q rfl (.nil (.cond rfl (fun hb => ?_) (fun hb => ?_)))
 ·have h := sel_t hb h
  refine .seq ?_
  have ⟨y4, hy4, h⟩ := bnd h
  have ⟨x1, hx1, h⟩ := bnd h
  refine .via (R' := fun x E' W' => x = .normal ∧ SubL E' [(2, (sv v2)), (3, .int .i64 x1)] ∧ Sep No w W' [.box g1 50 [(sv v1), .int .i64 y4.2], rowV (sv v2) 34 5 dQuad y2.1]) ?_ ?_
  ·refine .rk 8 hS [1] T.mix ?_
   intro W hS
   have hT := hS.to [1] rfl
   refine .tp 0 rfl rfl hT (by kernel_rfl) (.tp 2 rfl rfl hT (by kernel_rfl) (.by [1, 3] ⟨⟨_, rfl, ?_⟩, ⟨_, rfl, ?_⟩, trivial⟩ (by kernel_rfl) rfl))
   ·refine (.liv [0, 9] (D.int .i64) T.u31 T.t3 hS rfl rfl rfl rfl ?_ rfl (fun _ => rfl) rfl rfl rfl rfl)
    intro v3 W hS
    have hT := hS.to [2] rfl
    refine ⟨fun _ => hT, ?_⟩
    have hS := hS.p1
    refine .by1 3 rfl (.callS2 (L0 := [.box g1 50 [(sv v1), .int .i64 y3.2]]) hS Tryz.func15 (fun S h1 h2 h3 => (spec_l6Rd_pick_ok hy4 (hS.keepS (hQ1.wasA (q1 _ (hQ1.keepA q_0 Q_0))) h1) h2 (fun b hb => (h1 b hb).2))) rfl rfl ?_ rfl (by kernel_rfl) rfl rfl) (by kernel_rfl)
    rintro ⟨⟩ W hS
    have hT := hS.to [2] rfl
    refine ⟨fun _ => hT, ?_⟩
    refine .ts 4 rfl (fun W hT => ixv hS.p1.lendv hx1 T.u31 T.t3 rfl rfl rfl) hT rfl (by kernel_rfl) (.tp 6 rfl rfl hT (by kernel_rfl) (.by1 5 rfl (.runs (lde (RV.flat hS.p1.lendv hx1 rfl) T.t3 rfl rfl rfl rfl rfl) rfl rfl ?_) (by kernel_rfl)))
    have hT := hS.to [2] rfl
    refine ⟨fun _ => hT, ?_⟩
    exact .tp 7 rfl rfl hT (by kernel_rfl) (.done (⟨rfl, sb rfl, hS.to [0, 1] rfl⟩) (by kernel_rfl))
   refine (.callS2 (L0 := [.box g1 50 [(sv v1), .int .i64 y3.2]]) hS Tryz.func15 (fun S h1 h2 h3 => (spec_l6Rd_pick_ok hy4 (hS.keepS (hQ1.wasA (q1 _ (hQ1.keepA q_0 Q_0))) h1) h2 (fun b hb => (h1 b hb).2))) rfl rfl ?_ rfl (by kernel_rfl) rfl rfl)
   rintro ⟨⟩ W hS
   have hT := hS.to [1] rfl
   refine ⟨fun _ => hT, ?_⟩
   refine .tp 6 rfl rfl hT (by kernel_rfl) (.by1 1 rfl (.liv [0, 9] (D.int .i64) T.u31 T.t3 hS rfl rfl rfl rfl ?_ rfl (fun _ => rfl) rfl rfl rfl rfl) (by kernel_rfl))
   intro v4 W hS
   have hT := hS.to [2] rfl
   refine ⟨fun _ => hT, ?_⟩
   refine .ts 4 rfl (fun W hT => ixv hS.lendv hx1 T.u31 T.t3 rfl rfl rfl) hT rfl (by kernel_rfl) (.by1 5 rfl (.runs (lde (RV.flat hS.lendv hx1 rfl) T.t3 rfl rfl rfl rfl rfl) rfl rfl ?_) (by kernel_rfl))
   have hT := hS.to [2] rfl
   refine ⟨fun _ => hT, ?_⟩
   exact .tp 7 rfl rfl hT (by kernel_rfl) (.done (⟨rfl, sb rfl, hS.to [1, 1] rfl⟩) (by kernel_rfl))
  intro x E W hJ
  obtain ⟨rfl, hE, hS⟩ := hJ
  refine ⟨_, hE.sub, ?_⟩
  cases h
  exact .ret (fin_ret (vs := [_, _]) v2 (rt rfl (rt rfl rn)) rfl (hS.to [1] rfl))
 have h := sel_f hb h
 refine .skip (.seq (.region (.q rfl (.q rfl ?_))))
 have ⟨y5, hy5, h⟩ := bnd h
 refine .c (.callS2 (L0 := [.box g1 50 [(sv v1), .int .i64 y3.2]]) hS Tryz.func15 (fun S h1 h2 h3 => (spec_l6Rd_pick_ok hy5 (hS.keepS (hQ1.wasA (q1 _ (hQ1.keepA q_0 Q_0))) h1) h2 (fun b hb => (h1 b hb).2))) rfl rfl ?_ rfl (by kernel_rfl) rfl rfl)
 rintro ⟨⟩ W hS
 cases h
 exact .q rfl (.q rfl (.q rfl (.nil (.ret (fin_ret (vs := [_, _]) v2 (rt rfl (rt rfl rn)) rfl (hS.to [1] rfl))))))
theorem impl_emitter_emit_ok {a0 : Emitter} {a1 : List Instr} {v_0_list : Hd} {g_0 : Nat} {v_1 : Hd} {S : Nat → Prop} {w : World} {r : (List Instr)} (h : impl_emitter_emit a0 a1 = some r) (q_1 : RV w (Old S w) (sv v_1) 37 5 dInstr a1) (hO : Owns w [rowV (sv v_0_list) 37 5 dInstr a0.list, .box g_0 53 [.int .i64 a0.colors, (sv v_0_list)]] S) (hlt : ∀ b, S b → b < w.heap.size) : Calls Tryz.prog 32 #[.pointer (some ⟨g_0, 0, none⟩), (sv v_1)] w (Ret S w (fun s : Hd => .tuple #[]) (fun s => [.box g_0 53 [.int .i64 a0.colors, (sv s)], rowV (sv s) 37 5 dInstr r])) := by
 unfold impl_emitter_emit at h
 refine enter Tryz.func32 rfl rfl ?_
 have hS := Sep.startM hO hlt
 refine .region (.q rfl (.q rfl (.q rfl (.s (fa T.f53_1 rfl rfl rfl) rfl (.s (ld T.t26 hS.p1 rfl rfl rfl rfl rfl) rfl (.q rfl ?_))))))
 have ⟨r1, hr1, h⟩ := bnd h
 refine .c (.apprv hr1 hS (hS.keep q_1) (fun _ => rfl) T.u26 T.t37 rfl rfl rfl ?_ rfl rfl rfl rfl rfl)
 intro v1 W hS
 refine .q rfl (.s (fa T.f53_1 rfl rfl rfl) rfl (.c (.st T.t26 hS.p1 rfl rfl rfl ?_ rfl rfl rfl rfl rfl)))
 intro W hS
 obtain rfl := Option.some.inj h
 exact .nil (fin_ret (vs := []) v1 (rn) rfl (hS.to [0, 0] rfl))
theorem impl_emitter_write_ok {a0 : Emitter} {a1 : Int} {a2 : Int → Option (List Instr)} {v_0_list : Hd} {g_0 : Nat} {f_2 : FuncId} {c_2 : Array Value} {S : Nat → Prop} {w : World} {r : (List Instr)} (h : impl_emitter_write a0 a1 a2 = some r) (n_2 : FnOk Tryz.prog f_2) (k_2 : ∀ {W : World} {b0 : Int} {r : List Instr}, Agree (Old S w) w W → Gl W → a2 b0 = some r → Calls Tryz.prog f_2 (([.int .i64 b0] : List Value) ++ c_2.toList).toArray W (Ret No W (fun s : Hd => (sv s)) (fun s => [rowV (sv s) 37 5 dInstr r]))) (hO : Owns w [rowV (sv v_0_list) 37 5 dInstr a0.list, .box g_0 53 [.int .i64 a0.colors, (sv v_0_list)]] S) (hlt : ∀ b, S b → b < w.heap.size) (hG : Gl w) (hM : ∀ g, g < NGl → ¬ S g) : Calls Tryz.prog 24 #[.pointer (some ⟨g_0, 0, none⟩), .int .i64 a1, .func (.func f_2) #[] c_2] w (Ret S w (fun s : Hd => .tuple #[]) (fun s => [.box g_0 53 [.int .i64 a0.colors, (sv s)], rowV (sv s) 37 5 dInstr r])) := by
 unfold impl_emitter_write at h
 refine enter Tryz.func24 rfl rfl ?_
 have hS := Sep.startM hO hlt
 refine .seq (.seq (.region (.q rfl (.q rfl (.q rfl (.s (fa T.f53_0 rfl rfl rfl) rfl (.s (ld T.t3 hS.p1 rfl rfl rfl rfl rfl) rfl (.q rfl (.nil (.cond rfl (fun hb => ?_) (fun hb => ?_)))))))))))
 ·have h := sel_t hb h
  refine .seq (.region (.q rfl (.q rfl (.q rfl ?_))))
  have ⟨x1, hx1, h⟩ := bnd h
  refine .s (ixt hx1 rfl T.u68 T.t3 rfl rfl rfl) rfl (.s (ldt (hG.at hS hM).2 hx1 T.t3 rfl rfl rfl rfl rfl) rfl ?_)
  have ⟨y1, hy1, h⟩ := bnd h
  refine .c (.callv (vs := [.int .i64 x1]) hS n_2 (k_2 hS.agree (hG.at hS hM) hy1) rfl rfl rfl ?_ rfl rfl)
  intro v1 W hS
  have ⟨y2, hy2, h⟩ := bnd h
  have hS := hS.p2
  have hS := hS.p2
  refine .c (.callS2 (L0 := [rowV (sv v_0_list) 37 5 dInstr a0.list, .box g_0 53 [.int .i64 a0.colors, (sv v_0_list)]]) hS Tryz.func32 (fun S h1 h2 h3 => (impl_emitter_emit_ok hy2 (h3.rdv (k := 0) rfl) h2 (fun b hb => (h1 b hb).2))) rfl rfl ?_ rfl (by kernel_rfl) rfl rfl)
  rintro v2 W hS
  obtain rfl := Option.some.inj h
  exact .nil (.ret (fin_ret (vs := []) v2 (rn) rfl (hS.to [0, 0] rfl)))
 have h := sel_f hb h
 refine .skip (.seq (.region (.q rfl (.q rfl ?_))))
 have ⟨y3, hy3, h⟩ := bnd h
 refine .c (.callv (vs := [.int .i64 7]) hS n_2 (k_2 hS.agree (hG.at hS hM) hy3) rfl rfl rfl ?_ rfl rfl)
 intro v3 W hS
 have ⟨y4, hy4, h⟩ := bnd h
 have hS := hS.p2
 have hS := hS.p2
 refine .c (.callS2 (L0 := [rowV (sv v_0_list) 37 5 dInstr a0.list, .box g_0 53 [.int .i64 a0.colors, (sv v_0_list)]]) hS Tryz.func32 (fun S h1 h2 h3 => (impl_emitter_emit_ok hy4 (h3.rdv (k := 0) rfl) h2 (fun b hb => (h1 b hb).2))) rfl rfl ?_ rfl (by kernel_rfl) rfl rfl)
 rintro v4 W hS
 refine .nil (.region (.q rfl (.q rfl (.q rfl (.q rfl (.s (fa T.f53_0 rfl rfl rfl) rfl (.s (ld T.t3 hS rfl rfl rfl rfl rfl) rfl (.q rfl (.q rfl (.s (bs T.s37 rfl rfl) rfl (.c (.liv [(Instr.mk 16 0 2 7 (w64 (4 * (w64 (a1 - a0.colors)))))] dInstr T.u26 T.t37 hS rfl rfl rfl rfl ?_ rfl (fun _ => rfl) rfl rfl rfl rfl))))))))))))
 intro v5 W hS
 have ⟨y5, hy5, h⟩ := bnd h
 have hS := hS.p1
 have hS := hS.p2
 refine .c (.callS2 (L0 := [rowV (sv v4) 37 5 dInstr y4, .box g_0 53 [.int .i64 a0.colors, (sv v4)]]) hS Tryz.func32 (fun S h1 h2 h3 => (impl_emitter_emit_ok hy5 (h3.rdv (k := 0) rfl) h2 (fun b hb => (h1 b hb).2))) rfl rfl ?_ rfl (by kernel_rfl) rfl rfl)
 rintro v6 W hS
 obtain rfl := Option.some.inj h
 exact .nil (fin_ret (vs := []) v6 (rn) rfl (hS.to [0, 0] rfl))
theorem impl_emitter_read_ok {a0 : Emitter} {a1 : Int} {a2 : Int} {v_0_list : Hd} {g_0 : Nat} {S : Nat → Prop} {w : World} {r : Int × (List Instr)} (h : impl_emitter_read a0 a1 a2 = some r) (hO : Owns w [rowV (sv v_0_list) 37 5 dInstr a0.list, .box g_0 53 [.int .i64 a0.colors, (sv v_0_list)]] S) (hlt : ∀ b, S b → b < w.heap.size) (hG : Gl w) (hM : ∀ g, g < NGl → ¬ S g) : Calls Tryz.prog 27 #[.pointer (some ⟨g_0, 0, none⟩), .int .i64 a1, .int .i64 a2] w (Ret S w (fun s : Hd => .int .i64 r.1) (fun s => [.box g_0 53 [.int .i64 a0.colors, (sv s)], rowV (sv s) 37 5 dInstr r.2])) := by
 unfold impl_emitter_read at h
 refine enter Tryz.func27 rfl rfl ?_
 have hS := Sep.startM hO hlt
 refine .seq (.region (.q rfl (.nil (.seq (.seq (.region (.q rfl (.q rfl (.q rfl (.s (fa T.f53_0 rfl rfl rfl) rfl (.s (ld T.t3 hS.p1 rfl rfl rfl rfl rfl) rfl (.q rfl (.nil (.cond rfl (fun hb => ?_) (fun hb => ?_)))))))))))))))
 ·have h := sel_t hb h
  refine .seq (.region (.q rfl ?_))
  have ⟨x1, hx1, h⟩ := bnd h
  cases h
  exact .s (ixt hx1 rfl T.u68 T.t3 rfl rfl rfl) rfl (.s (ldt (hG.at hS hM).2 hx1 T.t3 rfl rfl rfl rfl rfl) rfl (.q rfl (.nil (.ret (fin_ret (vs := [_]) v_0_list (rt rfl rn) rfl (hS.to [1, 0] rfl))))))
 have h := sel_f hb h
 refine .skip (.seq (.region (.q rfl (.q rfl (.q rfl (.q rfl (.q rfl (.s (fa T.f53_0 rfl rfl rfl) rfl (.s (ld T.t3 hS.p1 rfl rfl rfl rfl rfl) rfl (.q rfl (.q rfl (.s (bs T.s37 rfl rfl) rfl (.c (.liv [(Instr.mk 14 a2 2 0 (w64 (4 * (w64 (a1 - a0.colors)))))] dInstr T.u26 T.t37 hS rfl rfl rfl rfl ?_ rfl (fun _ => rfl) rfl rfl rfl rfl))))))))))))))
 intro v1 W hS
 have ⟨y1, hy1, h⟩ := bnd h
 have hS := hS.p2
 have hS := hS.p2
 refine .c (.callS2 (L0 := [rowV (sv v_0_list) 37 5 dInstr a0.list, .box g_0 53 [.int .i64 a0.colors, (sv v_0_list)]]) hS Tryz.func32 (fun S h1 h2 h3 => (impl_emitter_emit_ok hy1 (h3.rdv (k := 0) rfl) h2 (fun b hb => (h1 b hb).2))) rfl rfl ?_ rfl (by kernel_rfl) rfl rfl)
 rintro v2 W hS
 cases h
 exact .nil (.seq (.region (.q rfl (.q rfl (.nil (.ret (fin_ret (vs := [_]) v2 (rt rfl rn) rfl (hS.to [0, 0] rfl))))))))
theorem impl_addi_ok {a0 : Int} {a1 : Int} {a2 : Int} {w : World} {r : Instr} (h : impl_addi a0 a1 a2 = some r) : Calls Tryz.prog 29 #[.int .i64 a0, .int .i64 a1, .int .i64 a2] w (Ret No w (fun s : Unit => .agg #[.int .i64 r.Op, .int .i64 r.Rd, .int .i64 r.Rs, .int .i64 r.Rt, .int .i64 r.Imm]) (fun s => [])) := by
 unfold impl_addi at h
 refine enter Tryz.func29 rfl rfl ?_
 have hS := Sep.start w
 refine .seq (.region (.c (.alloc T.t37 hS ?_ rfl rfl rfl)))
 intro g1 W hS
 refine .nil (.seq (.region (.q rfl (.q rfl (.q rfl (.s (bs T.s37 rfl rfl) rfl (.c (.st T.t37 hS rfl rfl rfl ?_ rfl rfl rfl rfl rfl))))))))
 intro W hS
 cases h
 exact .nil (.ret (fin_ret (vs := [_]) () (rc hS T.t37 rfl rn rfl rfl) rfl (hS.to [] rfl)))
theorem impl_emitter_jump_ok {a0 : Emitter} {a1 : Int} {v_0_list : Hd} {g_0 : Nat} {S : Nat → Prop} {w : World} {r : (List Instr)} (h : impl_emitter_jump a0 a1 = some r) (hO : Owns w [rowV (sv v_0_list) 37 5 dInstr a0.list, .box g_0 53 [.int .i64 a0.colors, (sv v_0_list)]] S) (hlt : ∀ b, S b → b < w.heap.size) : Calls Tryz.prog 31 #[.pointer (some ⟨g_0, 0, none⟩), .int .i64 a1] w (Ret S w (fun s : Hd => .tuple #[]) (fun s => [.box g_0 53 [.int .i64 a0.colors, (sv s)], rowV (sv s) 37 5 dInstr r])) := by
 unfold impl_emitter_jump at h
 refine enter Tryz.func31 rfl rfl ?_
 have hS := Sep.startM hO hlt
 refine .region (.q rfl (.q rfl (.q rfl (.q rfl (.s (fa T.f53_1 rfl rfl rfl) rfl (.s (ld T.t26 hS.p1 rfl rfl rfl rfl rfl) rfl (.s (lenv hS.lendv T.u26 rfl rfl) rfl (.q rfl (.q rfl (.s (bs T.s37 rfl rfl) rfl (.c (.liv [(Instr.mk 20 0 0 0 (w64 (a1 - (w64 (4 * (a0.list.length : Int))))))] dInstr T.u26 T.t37 hS rfl rfl rfl rfl ?_ rfl (fun _ => rfl) rfl rfl rfl rfl))))))))))))
 intro v1 W hS
 have ⟨y1, hy1, h⟩ := bnd h
 have hS := hS.p2
 have hS := hS.p2
 refine .c (.callS2 (L0 := [rowV (sv v_0_list) 37 5 dInstr a0.list, .box g_0 53 [.int .i64 a0.colors, (sv v_0_list)]]) hS Tryz.func32 (fun S h1 h2 h3 => (impl_emitter_emit_ok hy1 (h3.rdv (k := 0) rfl) h2 (fun b hb => (h1 b hb).2))) rfl rfl ?_ rfl (by kernel_rfl) rfl rfl)
 rintro v2 W hS
 obtain rfl := Option.some.inj h
 exact .nil (fin_ret (vs := []) v2 (rn) rfl (hS.to [0, 0] rfl))
theorem impl_emitter_call_ok {a0 : Emitter} {a1 : Int} {v_0_list : Hd} {g_0 : Nat} {S : Nat → Prop} {w : World} {r : (List Instr)} (h : impl_emitter_call a0 a1 = some r) (hO : Owns w [rowV (sv v_0_list) 37 5 dInstr a0.list, .box g_0 53 [.int .i64 a0.colors, (sv v_0_list)]] S) (hlt : ∀ b, S b → b < w.heap.size) : Calls Tryz.prog 33 #[.pointer (some ⟨g_0, 0, none⟩), .int .i64 a1] w (Ret S w (fun s : Hd => .tuple #[]) (fun s => [.box g_0 53 [.int .i64 a0.colors, (sv s)], rowV (sv s) 37 5 dInstr r])) := by
 unfold impl_emitter_call at h
 refine enter Tryz.func33 rfl rfl ?_
 have hS := Sep.startM hO hlt
 refine .region (.q rfl (.q rfl ?_))
 have ⟨y1, hy1, h⟩ := bnd h
 refine .c (.call0 hS Tryz.func29 (impl_addi_ok hy1) rfl rfl ?_ rfl (by kernel_rfl) rfl rfl)
 intro W hS
 refine .s (bs T.s37 rfl rfl) rfl (.c (.liv [y1, (Instr.mk 15 1 0 0 0)] dInstr T.u26 T.t37 hS rfl rfl rfl rfl ?_ rfl (fun _ => rfl) rfl rfl rfl rfl))
 intro v1 W hS
 have ⟨y2, hy2, h⟩ := bnd h
 have hS := hS.p2
 have hS := hS.p2
 refine .c (.callS2 (L0 := [rowV (sv v_0_list) 37 5 dInstr a0.list, .box g_0 53 [.int .i64 a0.colors, (sv v_0_list)]]) hS Tryz.func32 (fun S h1 h2 h3 => (impl_emitter_emit_ok hy2 (h3.rdv (k := 0) rfl) h2 (fun b hb => (h1 b hb).2))) rfl rfl ?_ rfl (by kernel_rfl) rfl rfl)
 rintro v2 W hS
 obtain rfl := Option.some.inj h
 exact .nil (fin_ret (vs := []) v2 (rn) rfl (hS.to [0, 0] rfl))
theorem impl_SignExtend_ok {a0 : Int} {a1 : Int} {w : World} {r : Int} (h : impl_SignExtend a0 a1 = some r) : Calls Tryz.prog 45 #[.int .i64 a0, .int .i64 a1] w (Ret No w (fun s : Unit => .int .i64 r) (fun s => [])) := by
 unfold impl_SignExtend at h
 refine enter Tryz.func45 rfl rfl ?_
 have hS := Sep.start w
 refine .seq (.region (.q rfl (.nil (.seq (.seq (.region (.q rfl (.q rfl (.q rfl (.chunk 3 10 ((decide (a1 < 1)) || (decide (a1 > 32))) hS ?_ ?_))))))))))
 ·refine .both (decide (a1 < 1)) (fun hb => ?_) (fun hb => ?_)
  ·exact .xx hb rfl (.xx hb rfl (.s (pkt hb rfl rfl rfl) rfl (.nil (ck 3 hS rfl (or_t hb) rfl rfl))))
  have hg1 := hb
  exact .g hg1 (.q rfl (.g hg1 (.q rfl (.s (pkf hg1 rfl rfl rfl) rfl (.nil (ck 3 hS rfl (or_f hg1) rfl rfl)))) rfl)) rfl
 intro W hS
 refine .q rfl (.chunk 3 14 (((decide (a1 < 1)) || (decide (a1 > 32))) || (decide (a0 < 0))) hS ?_ ?_)
 ·refine .both ((decide (a1 < 1)) || (decide (a1 > 32))) (fun hb => ?_) (fun hb => ?_)
  ·exact .xx hb rfl (.xx hb rfl (.s (pkt hb rfl rfl rfl) rfl (.nil (ck 3 hS rfl (or_t hb) rfl rfl))))
  have hg2 := hb
  exact .g hg2 (.q rfl (.g hg2 (.q rfl (.s (pkf hg2 rfl rfl rfl) rfl (.nil (ck 3 hS rfl (or_f hg2) rfl rfl)))) rfl)) rfl
 intro W hS
 refine .q rfl ?_
 have ⟨b1, hb1, h⟩ := bnd h
 refine .chunk 5 20 (b1) hS ?_ ?_
 ·refine .both (((decide (a1 < 1)) || (decide (a1 > 32))) || (decide (a0 < 0))) (fun hb => ?_) (fun hb => ?_)
  ·refine .xx hb rfl (.xx hb rfl (.xx hb rfl (.xx hb rfl ?_)))
   cases sel_t hb hb1
   exact .s (pkt hb rfl rfl rfl) rfl (.nil (ck 5 hS rfl rfl rfl rfl))
  have hg3 := hb
  have h := sel_f hb hb1
  refine .g hg3 (.q rfl (.g hg3 (.q rfl ?_) rfl)) rfl
  have ⟨d1, hd1, h⟩ := bnd h
  refine .g hg3 (.s (shr_run hd1 rfl rfl rfl) rfl (.g hg3 (.q rfl (.s (pkf hg3 rfl rfl rfl) rfl ?_)) rfl)) rfl
  cases h
  exact .nil (ck 5 hS rfl rfl rfl rfl)
 intro W hS
 refine .nil ?_
 refine .cs rfl h ?_ ?_ <;> intro h
 ·cases h
  exact .seq (.region (.q rfl (.nil (.ret (fin_ret (vs := [_]) () (rt rfl rn) rfl (hS.to [] rfl))))))
 refine .skip (.seq (.seq (.region (.q rfl (.q rfl (.q rfl ?_))))))
 have ⟨d2, hd2, h⟩ := bnd h
 refine .s (shr_run hd2 rfl rfl rfl) rfl (.q rfl (.nil ?_))
 refine .cs rfl h ?_ ?_ <;> intro h
 ·refine .seq (.region (.q rfl (.q rfl ?_)))
  have ⟨d3, hd3, h⟩ := bnd h
  cases h
  exact .s (shr_run hd3 rfl rfl rfl) rfl (.q rfl (.q rfl (.nil (.ret (fin_ret (vs := [_]) () (rt rfl rn) rfl (hS.to [] rfl))))))
 obtain rfl := Option.some.inj h
 exact .skip (.seq (.region (.q rfl (.q rfl (.nil (.ret (fin_ret (vs := [_]) () (rt rfl rn) rfl (hS.to [] rfl))))))))
theorem impl_isUnsigned_ok {a0 : Int} {w : World} {r : Bool} (h : impl_isUnsigned a0 = some r) : Calls Tryz.prog 68 #[.int .i64 a0] w (Ret No w (fun s : Unit => .bool r) (fun s => [])) := by
 unfold impl_isUnsigned at h
 refine enter Tryz.func68 rfl rfl ?_
 have hS := Sep.start w
 refine .seq (.region (.q rfl (.nil (.seq (.region (.q rfl (.q rfl (.q rfl (.chunk 3 8 ((decide (a0 ≥ 0)) && (decide (a0 < 4294967296))) hS ?_ ?_)))))))))
 ·refine .both (decide (a0 ≥ 0)) (fun hb => ?_) (fun hb => ?_)
  ·have hg1 := hb
   exact .g hg1 (.q rfl (.g hg1 (.q rfl (.s (pkt hg1 rfl rfl rfl) rfl (.nil (ck 3 hS rfl (and_t hg1) rfl rfl)))) rfl)) rfl
  exact .xx hb rfl (.xx hb rfl (.s (pkf hb rfl rfl rfl) rfl (.nil (ck 3 hS rfl (and_f hb) rfl rfl))))
 intro W hS
 cases h
 exact .q rfl (.nil (.ret (fin_ret (vs := [_]) () (rt rfl rn) rfl (hS.to [] rfl))))
end Go.Proofs.YtjpbdpfkhdekpaaGreatDoor.N
