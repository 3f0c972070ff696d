/- Printed by a program of mine: that the program's functions compute it. -/
import Derived.Test.YtjpbdpfkhdekpaaGreatDoorT11
import Derived.Test.YtjpbdpfkhdekpaaGreatDoorT11a
import Derived.Test.YtjpbdpfkhdekpaaGreatDoorT11c
import Derived.Test.YtjpbdpfkhdekpaaGreatDoorT11e
import Derived.Test.YtjpbdpfkhdekpaaGreatDoorT11f
set_option linter.unusedVariables false
set_option maxRecDepth 100000
set_option maxHeartbeats 4000000
namespace Go.Proofs.YtjpbdpfkhdekpaaGreatDoor.N
open Go.Proofs.YtjpbdpfkhdekpaaGreatDoor.X
theorem spec_l43Quad_ok {a0 : Quad} {a1 : Int} {a2 : Int} {w : World} {r : (List Instr)} (h : spec_l43Quad a0 a1 a2 = some r) : Calls Tryz.prog 37 #[.agg #[.int .i64 a0.Op, .int .i64 a0.Dst, .int .i64 a0.A, .int .i64 a0.B, .int .i64 a0.N], .int .i64 a1, .int .i64 a2] w (Ret No w (fun s : Hd => (sv s)) (fun s => [rowV (sv s) 37 5 dInstr r])) := by
 unfold spec_l43Quad at h
 refine enter Tryz.func37 rfl rfl ?_
 have hS := Sep.start w
 refine .seq (.region (.c (.box hS rfl rfl ?_ rfl rfl)))
 intro g1 W hS
 refine .q rfl (.nil (.seq (.region (.s (fa T.f34_1 rfl rfl rfl) rfl (.s (ld T.t3 hS rfl rfl rfl rfl rfl) rfl (.q rfl ?_))))))
 have ⟨y1, hy1, h⟩ := bnd h
 refine .c (.call0 hS Tryz.func52 (spec_l43Reg_ok hy1) rfl rfl ?_ rfl (by kernel_rfl) rfl rfl)
 intro W hS
 refine .q rfl (.nil (.seq (.seq (.region (.s (fa T.f34_0 rfl rfl rfl) rfl (.s (ld T.t3 hS rfl rfl rfl rfl rfl) rfl (.nil (.block (.seq (.region (.q rfl (.q rfl (.nil (.cond rfl (fun hb => ?_) (fun hb => ?_)))))))))))))))
 ·have h := sel_t hb h
  refine .seq (.rk 9 hS [0] T.mix ?_)
  intro W hS
  have hT := hS.to [0] rfl
  refine .tp 0 rfl rfl hT (by kernel_rfl) (.ts 1 rfl (fun W hT => fa T.f34_4 rfl rfl rfl) hT rfl (by kernel_rfl) (.ts 2 rfl (fun W hT => ld T.t3 hT rfl rfl rfl rfl rfl) hT rfl (by kernel_rfl) (.ts 4 rfl (fun W hT => fa T.f34_1 rfl rfl rfl) hT rfl (by kernel_rfl) (.ts 5 rfl (fun W hT => ld T.t3 hT rfl rfl rfl rfl rfl) hT rfl (by kernel_rfl) (.tp 6 rfl rfl hT (by kernel_rfl) ?_)))))
  have ⟨y2, hy2, h⟩ := bnd h
  refine .by1 3 rfl (.call1v hS Tryz.func54 (spec_l43Const_ok hy2) rfl rfl ?_ rfl (by kernel_rfl) rfl rfl) (by kernel_rfl)
  intro v1 W hS
  have hT := hS.to [1] rfl
  refine ⟨fun _ => hT, ?_⟩
  have ⟨y3, hy3, h⟩ := bnd h
  refine .by1 7 rfl (.callS2 (L0 := [rowV (sv v1) 37 5 dInstr y2]) hS Tryz.func53 (fun S h1 h2 h3 => (spec_l43Write_ok hy3 h2 (fun b hb => (h1 b hb).2))) rfl rfl ?_ rfl (by kernel_rfl) rfl rfl) (by kernel_rfl)
  rintro v2 W hS
  have hT := hS.to [1] rfl
  refine ⟨fun _ => hT, ?_⟩
  obtain rfl := Option.some.inj h
  exact .tp 8 rfl rfl hT (by kernel_rfl) (.done (.ret (fin_ret (vs := [_]) v2 (rt rfl rn) rfl (hS.to [0] rfl))) (by kernel_rfl))
 have h := sel_f hb h
 refine .seq (.region (.q rfl (.q rfl (.nil (.cond rfl (fun hb => ?_) (fun hb => ?_))))))
 ·have h := sel_t hb h
  refine .seq (.rk 17 hS [0] T.mix ?_)
  intro W hS
  have hT := hS.to [0] rfl
  refine .ts 0 rfl (fun W hT => fa T.f34_2 rfl rfl rfl) hT rfl (by kernel_rfl) (.ts 1 rfl (fun W hT => ld T.t3 hT rfl rfl rfl rfl rfl) hT rfl (by kernel_rfl) (.tp 2 rfl rfl hT (by kernel_rfl) (.tp 4 rfl rfl hT (by kernel_rfl) (.ts 5 rfl (fun W hT => fa T.f34_2 rfl rfl rfl) hT rfl (by kernel_rfl) (.ts 6 rfl (fun W hT => ld T.t3 hT rfl rfl rfl rfl rfl) hT rfl (by kernel_rfl) (.tp 7 rfl rfl hT (by kernel_rfl) (.ts 12 rfl (fun W hT => fa T.f34_1 rfl rfl rfl) hT rfl (by kernel_rfl) (.ts 13 rfl (fun W hT => ld T.t3 hT rfl rfl rfl rfl rfl) hT rfl (by kernel_rfl) (.tp 14 rfl rfl hT (by kernel_rfl) ?_)))))))))
  have ⟨y4, hy4, h⟩ := bnd h
  refine .by1 3 rfl (.call1v hS Tryz.func55 (spec_l43Read_ok hy4) rfl rfl ?_ rfl (by kernel_rfl) rfl rfl) (by kernel_rfl)
  intro v3 W hS
  have hT := hS.to [1] rfl
  refine ⟨fun _ => hT, ?_⟩
  have ⟨y5, hy5, h⟩ := bnd h
  refine .by1 8 rfl (.call0 hS Tryz.func52 (spec_l43Reg_ok hy5) rfl rfl ?_ rfl (by kernel_rfl) rfl rfl) (by kernel_rfl)
  intro W hS
  have hT := hS.to [1] rfl
  refine ⟨fun _ => hT, ?_⟩
  have ⟨y6, hy6, h⟩ := bnd h
  refine .by1 9 rfl (.call0 hS Tryz.func56 (spec_l43Move_ok hy6) rfl rfl ?_ rfl (by kernel_rfl) rfl rfl) (by kernel_rfl)
  intro W hS
  have hT := hS.to [1] rfl
  refine ⟨fun _ => hT, ?_⟩
  refine .by1 10 rfl (.liv [y6] dInstr T.u26 T.t37 hS rfl rfl rfl rfl ?_ rfl (fun _ => rfl) rfl rfl rfl rfl) (by kernel_rfl)
  intro v4 W hS
  have hT := hS.to [2] rfl
  refine ⟨fun _ => hT, ?_⟩
  have ⟨r1, hr1, h⟩ := bnd h
  have hT0 := hS.p1
  refine .by1 11 rfl (.apprv hr1 hT0 hT0.p1.lendv (fun _ => rfl) T.u26 T.t37 rfl rfl rfl ?_ rfl rfl rfl rfl rfl) (by kernel_rfl)
  intro v5 W hS
  have hT := hS.to [2] rfl
  refine ⟨fun _ => hT, ?_⟩
  have ⟨y7, hy7, h⟩ := bnd h
  refine .by1 15 rfl (.callS2 (L0 := [rowV (sv v5) 37 5 dInstr r1]) hS Tryz.func53 (fun S h1 h2 h3 => (spec_l43Write_ok hy7 h2 (fun b hb => (h1 b hb).2))) rfl rfl ?_ rfl (by kernel_rfl) rfl rfl) (by kernel_rfl)
  rintro v6 W hS
  have hT := hS.to [2] rfl
  refine ⟨fun _ => hT, ?_⟩
  obtain rfl := Option.some.inj h
  exact .tp 16 rfl rfl hT (by kernel_rfl) (.done (.ret (fin_ret (vs := [_]) v6 (rt rfl rn) rfl (hS.to [0] rfl))) (by kernel_rfl))
 have h := sel_f hb h
 refine .seq (.region (.q rfl (.q rfl (.nil ?_))))
 refine .cs rfl h ?_ ?_ <;> intro h
 ·refine .seq (.region (.s (ld T.t34 hS rfl rfl rfl rfl rfl) rfl (.q rfl ?_)))
  have ⟨y8, hy8, h⟩ := bnd h
  refine .c (.call1v hS Tryz.func57 (spec_l43Bin_ok hy8) rfl rfl ?_ rfl (by kernel_rfl) rfl rfl)
  intro v7 W hS
  obtain rfl := Option.some.inj h
  exact .q rfl (.nil (.ret (fin_ret (vs := [_]) v7 (rt rfl rn) rfl (hS.to [0] rfl))))
 refine .seq (.region (.q rfl (.q rfl (.nil ?_))))
 refine .cs rfl h ?_ ?_ <;> intro h
 ·refine .seq (.region (.q rfl (.s (bs T.s37 rfl rfl) rfl (.c (.liv [(Instr.mk 20 0 0 0 a2)] dInstr T.u26 T.t37 hS rfl rfl rfl rfl ?_ rfl (fun _ => rfl) rfl rfl rfl rfl)))))
  intro v8 W hS
  cases h
  exact .q rfl (.nil (.ret (fin_ret (vs := [_]) v8 (rt rfl rn) rfl (hS.to [0] rfl))))
 refine .seq (.region (.q rfl (.q rfl (.nil ?_))))
 refine .cs rfl h ?_ ?_ <;> intro h
 ·refine .seq (.region (.s (ld T.t34 hS rfl rfl rfl rfl rfl) rfl (.q rfl (.q rfl ?_))))
  have ⟨y9, hy9, h⟩ := bnd h
  refine .c (.call1v hS Tryz.func58 (spec_l43Zero_ok hy9) rfl rfl ?_ rfl (by kernel_rfl) rfl rfl)
  intro v9 W hS
  obtain rfl := Option.some.inj h
  exact .q rfl (.nil (.ret (fin_ret (vs := [_]) v9 (rt rfl rn) rfl (hS.to [0] rfl))))
 refine .seq (.region (.q rfl (.q rfl (.nil (.cond rfl (fun hb => ?_) (fun hb => ?_))))))
 ·have h := sel_t hb h
  refine .seq (.rk 11 hS [0] T.mix ?_)
  intro W hS
  have hT := hS.to [0] rfl
  refine .ts 0 rfl (fun W hT => fa T.f34_2 rfl rfl rfl) hT rfl (by kernel_rfl) (.ts 1 rfl (fun W hT => ld T.t3 hT rfl rfl rfl rfl rfl) hT rfl (by kernel_rfl) (.tp 2 rfl rfl hT (by kernel_rfl) (.ts 4 rfl (fun W hT => fa T.f34_4 rfl rfl rfl) hT rfl (by kernel_rfl) (.ts 5 rfl (fun W hT => ld T.t3 hT rfl rfl rfl rfl rfl) hT rfl (by kernel_rfl) ?_))))
  have ⟨y10, hy10, h⟩ := bnd h
  refine .by1 3 rfl (.call1v hS Tryz.func60 (spec_l43Give_ok hy10) rfl rfl ?_ rfl (by kernel_rfl) rfl rfl) (by kernel_rfl)
  intro v10 W hS
  have hT := hS.to [1] rfl
  refine ⟨fun _ => hT, ?_⟩
  have ⟨y11, hy11, h⟩ := bnd h
  refine .by1 6 rfl (.call0 hS Tryz.func61 (spec_l43Box_ok hy11) rfl rfl ?_ rfl (by kernel_rfl) rfl rfl) (by kernel_rfl)
  intro W hS
  have hT := hS.to [1] rfl
  refine ⟨fun _ => hT, ?_⟩
  refine .by1 7 rfl (.liv [y11] dInstr T.u26 T.t37 hS rfl rfl rfl rfl ?_ rfl (fun _ => rfl) rfl rfl rfl rfl) (by kernel_rfl)
  intro v11 W hS
  have hT := hS.to [2] rfl
  refine ⟨fun _ => hT, ?_⟩
  have ⟨r2, hr2, h⟩ := bnd h
  have hT0 := hS.p1
  refine .by1 8 rfl (.apprv hr2 hT0 hT0.p1.lendv (fun _ => rfl) T.u26 T.t37 rfl rfl rfl ?_ rfl rfl rfl rfl rfl) (by kernel_rfl)
  intro v12 W hS
  have hT := hS.to [2] rfl
  refine ⟨fun _ => hT, ?_⟩
  have ⟨y12, hy12, h⟩ := bnd h
  refine .by1 9 rfl (.callS2 (L0 := [rowV (sv v12) 37 5 dInstr r2]) hS Tryz.func59 (fun S h1 h2 h3 => (spec_l43Call_ok hy12 h2 (fun b hb => (h1 b hb).2))) rfl rfl ?_ rfl (by kernel_rfl) rfl rfl) (by kernel_rfl)
  rintro v13 W hS
  have hT := hS.to [2] rfl
  refine ⟨fun _ => hT, ?_⟩
  obtain rfl := Option.some.inj h
  exact .tp 10 rfl rfl hT (by kernel_rfl) (.done (.ret (fin_ret (vs := [_]) v13 (rt rfl rn) rfl (hS.to [0] rfl))) (by kernel_rfl))
 have h := sel_f hb h
 refine .seq (.region (.q rfl (.q rfl (.nil (.cond rfl (fun hb => ?_) (fun hb => ?_))))))
 ·have h := sel_t hb h
  refine .seq (.region (.s (fa T.f34_4 rfl rfl rfl) rfl (.s (ld T.t3 hS rfl rfl rfl rfl rfl) rfl ?_)))
  have ⟨y13, hy13, h⟩ := bnd h
  refine .c (.call0 hS Tryz.func61 (spec_l43Box_ok hy13) rfl rfl ?_ rfl (by kernel_rfl) rfl rfl)
  intro W hS
  refine .c (.liv [y13] dInstr T.u26 T.t37 hS rfl rfl rfl rfl ?_ rfl (fun _ => rfl) rfl rfl rfl rfl)
  intro v14 W hS
  have ⟨y14, hy14, h⟩ := bnd h
  refine .c (.callS2 (L0 := [rowV (sv v14) 37 5 dInstr [y13]]) hS Tryz.func59 (fun S h1 h2 h3 => (spec_l43Call_ok hy14 h2 (fun b hb => (h1 b hb).2))) rfl rfl ?_ rfl (by kernel_rfl) rfl rfl)
  rintro v15 W hS
  refine .q rfl (.nil (.seq (.rk 10 hS [1] T.mix ?_)))
  intro W hS
  have hT := hS.to [1] rfl
  refine .tp 0 rfl rfl hT (by kernel_rfl) (.tp 1 rfl rfl hT (by kernel_rfl) (.ts 5 rfl (fun W hT => fa T.f34_1 rfl rfl rfl) hT rfl (by kernel_rfl) (.ts 6 rfl (fun W hT => ld T.t3 hT rfl rfl rfl rfl rfl) hT rfl (by kernel_rfl) (.tp 7 rfl rfl hT (by kernel_rfl) ?_))))
  have ⟨y15, hy15, h⟩ := bnd h
  refine .by1 2 rfl (.call0 hS Tryz.func56 (spec_l43Move_ok hy15) rfl rfl ?_ rfl (by kernel_rfl) rfl rfl) (by kernel_rfl)
  intro W hS
  have hT := hS.to [1] rfl
  refine ⟨fun _ => hT, ?_⟩
  refine .by1 3 rfl (.liv [y15] dInstr T.u26 T.t37 hS rfl rfl rfl rfl ?_ rfl (fun _ => rfl) rfl rfl rfl rfl) (by kernel_rfl)
  intro v16 W hS
  have hT := hS.to [2] rfl
  refine ⟨fun _ => hT, ?_⟩
  have ⟨r3, hr3, h⟩ := bnd h
  have hT0 := hS.p1
  refine .by1 4 rfl (.apprv hr3 hT0 hT0.p1.lendv (fun _ => rfl) T.u26 T.t37 rfl rfl rfl ?_ rfl rfl rfl rfl rfl) (by kernel_rfl)
  intro v17 W hS
  have hT := hS.to [2] rfl
  refine ⟨fun _ => hT, ?_⟩
  have ⟨y16, hy16, h⟩ := bnd h
  refine .by1 8 rfl (.callS2 (L0 := [rowV (sv v17) 37 5 dInstr r3]) hS Tryz.func53 (fun S h1 h2 h3 => (spec_l43Write_ok hy16 h2 (fun b hb => (h1 b hb).2))) rfl rfl ?_ rfl (by kernel_rfl) rfl rfl) (by kernel_rfl)
  rintro v18 W hS
  have hT := hS.to [2] rfl
  refine ⟨fun _ => hT, ?_⟩
  obtain rfl := Option.some.inj h
  exact .tp 9 rfl rfl hT (by kernel_rfl) (.done (.ret (fin_ret (vs := [_]) v18 (rt rfl rn) rfl (hS.to [0] rfl))) (by kernel_rfl))
 have h := sel_f hb h
 refine .seq (.region (.q rfl (.q rfl (.nil (.cond rfl (fun hb => ?_) (fun hb => ?_))))))
 ·have h := sel_t hb h
  refine .seq (.region (.c (.liv [] dInstr T.u26 T.t37 hS rfl rfl rfl rfl ?_ rfl (fun _ => rfl) rfl rfl rfl rfl)))
  intro v19 W hS
  have ⟨y17, hy17, h⟩ := bnd h
  refine .c (.callS2 (L0 := [rowV (sv v19) 37 5 dInstr []]) hS Tryz.func59 (fun S h1 h2 h3 => (spec_l43Call_ok hy17 h2 (fun b hb => (h1 b hb).2))) rfl rfl ?_ rfl (by kernel_rfl) rfl rfl)
  rintro v20 W hS
  obtain rfl := Option.some.inj h
  exact .q rfl (.nil (.ret (fin_ret (vs := [_]) v20 (rt rfl rn) rfl (hS.to [0] rfl))))
 have h := sel_f hb h
 refine .seq (.region (.q rfl (.q rfl (.nil (.cond rfl (fun hb => ?_) (fun hb => ?_))))))
 ·have h := sel_t hb h
  refine .seq (.region (.s (fa T.f34_2 rfl rfl rfl) rfl (.s (ld T.t3 hS rfl rfl rfl rfl rfl) rfl (.q rfl ?_))))
  have ⟨y18, hy18, h⟩ := bnd h
  refine .c (.call1v hS Tryz.func60 (spec_l43Give_ok hy18) rfl rfl ?_ rfl (by kernel_rfl) rfl rfl)
  intro v21 W hS
  have ⟨y19, hy19, h⟩ := bnd h
  refine .c (.callS2 (L0 := [rowV (sv v21) 37 5 dInstr y18]) hS Tryz.func59 (fun S h1 h2 h3 => (spec_l43Call_ok hy19 h2 (fun b hb => (h1 b hb).2))) rfl rfl ?_ rfl (by kernel_rfl) rfl rfl)
  rintro v22 W hS
  obtain rfl := Option.some.inj h
  exact .q rfl (.nil (.ret (fin_ret (vs := [_]) v22 (rt rfl rn) rfl (hS.to [0] rfl))))
 have h := sel_f hb h
 refine .skip (.seq (.region (.c (.liv [] dInstr T.u26 T.t37 hS rfl rfl rfl rfl ?_ rfl (fun _ => rfl) rfl rfl rfl rfl))))
 intro v23 W hS
 have ⟨y20, hy20, h⟩ := bnd h
 refine .c (.callS2 (L0 := [rowV (sv v23) 37 5 dInstr []]) hS Tryz.func59 (fun S h1 h2 h3 => (spec_l43Call_ok hy20 h2 (fun b hb => (h1 b hb).2))) rfl rfl ?_ rfl (by kernel_rfl) rfl rfl)
 rintro v24 W hS
 obtain rfl := Option.some.inj h
 exact .q rfl (.nil (.ret (fin_ret (vs := [_]) v24 (rt rfl rn) rfl (hS.to [0] rfl))))
theorem spec_l43Places_ok {a0 : List Quad} {a1 : Int} {v_0 : Hd} {w : World} {r : (List Int)} (h : spec_l43Places a0 a1 = some r) (q_0 : RV w (Old No w) (sv v_0) 34 5 dQuad a0) : Calls Tryz.prog 36 #[(sv v_0), .int .i64 a1] w (Ret No w (fun s : Hd => (sv s)) (fun s => [rowV (sv s) 3 1 (D.int .i64) r])) := by
 unfold spec_l43Places at h
 refine enter Tryz.func36 rfl rfl ?_
 have hS := Sep.start w
 refine .seq (.region (.q rfl (.nil (.seq (.region (.c (.liv [] (D.int .i64) T.u31 T.t3 hS rfl rfl rfl rfl ?_ rfl (fun _ => rfl) rfl rfl rfl rfl)))))))
 intro v1 W hS
 refine .q rfl (.nil (.seq (.region (.q rfl (.nil (.seq (.seq (.region (.q rfl (.nil (.block ?_)))))))))))
 have ⟨y1, hy1, h⟩ := bnd h
 refine .via (.iter (fun s1 E' W' => ∃ (v4 : Hd), SubL E' [(0, (sv v_0)), (1, .int .i64 a1), (5, (sv v4)), (6, .int .i64 s1.2.1), (7, .int .i64 s1.2.2)] ∧ Sep No w W' [rowV (sv v4) 3 1 (D.int .i64) s1.1]) (fun y2 x E' W' => x = .exit 0 ∧ ∃ (v5 : Hd), SubL E' [(5, (sv v5))] ∧ Sep No w W' [rowV (sv v5) 3 1 (D.int .i64) y2]) hy1 ⟨v1, sb rfl, hS.to [0] rfl⟩ ?_) ?_
 ·intro s1 y3 E W h hI
  obtain ⟨v3, hE, hS⟩ := hI
  refine CW.sub hE ?_
  unfold spec_l43Places_b1 at h
  refine .seq (.seq (.region (.q rfl (.q rfl (.s (lenv (hS.keep q_0) T.u23 rfl rfl) rfl (.q rfl (.nil ?_)))))))
  refine .cs rfl h ?_ ?_ <;> intro h
  ·refine .skip (.seq (.block (.seq (.region (.q rfl (.q rfl (.c (.liv [s1.2.1] (D.int .i64) T.u31 T.t3 hS rfl rfl rfl rfl ?_ rfl (fun _ => rfl) rfl rfl rfl rfl))))))))
   intro v6 W hS
   have ⟨r1, hr1, h⟩ := bnd h
   have hT0 := hS.p1
   refine .c (.apprv hr1 hT0 hT0.p1.lendv (fun _ => rfl) T.u31 T.t3 rfl rfl rfl ?_ rfl rfl rfl rfl rfl)
   intro v7 W hS
   refine .q rfl (.nil (.region (.q rfl (.q rfl (.q rfl ?_)))))
   have ⟨x1, hx1, h⟩ := bnd h
   refine .s (ixv (hS.keep q_0) hx1 T.u23 T.t34 rfl rfl rfl) rfl (.s (lde (RV.flat (hS.keep q_0) hx1 rfl) T.t34 rfl rfl rfl rfl rfl) rfl (.q rfl ?_))
   have ⟨y4, hy4, h⟩ := bnd h
   refine .c (.call1v hS Tryz.func37 (spec_l43Quad_ok hy4) rfl rfl ?_ rfl (by kernel_rfl) rfl rfl)
   intro v8 W hS
   refine .s (lenv hS.lendv T.u26 rfl rfl) rfl (.q rfl (.q rfl (.nil (.region (.q rfl (.q rfl (.q rfl (.nil ?_))))))))
   cases h
   exact ⟨rfl, v7, sb rfl, hS.to [1] rfl⟩
  refine .exit ?_
  cases h
  exact ⟨by simp, rfl, v3, sb rfl, hS.to [0] rfl⟩
 intro x E W hJ
 obtain ⟨rfl, v9, hE, hS⟩ := hJ
 refine ⟨_, hE.sub, ?_⟩
 obtain rfl := Option.some.inj h
 exact .seq (.region (.q rfl (.q rfl (.nil (.ret (fin_ret (vs := [_]) v9 (rt rfl rn) rfl (hS.to [0] rfl)))))))
theorem spec_l43Task_ok {a0 : List Quad} {a1 : Int} {v_0 : Hd} {w : World} {r : (List Instr)} (h : spec_l43Task a0 a1 = some r) (q_0 : RV w (Old No w) (sv v_0) 34 5 dQuad a0) : Calls Tryz.prog 20 #[(sv v_0), .int .i64 a1] w (Ret No w (fun s : Hd => (sv s)) (fun s => [rowV (sv s) 37 5 dInstr r])) := by
 unfold spec_l43Task at h
 refine enter Tryz.func20 rfl rfl ?_
 have hS := Sep.start w
 refine .seq (.region (.q rfl (.nil (.seq (.region (.q rfl (.q rfl ?_)))))))
 have ⟨y1, hy1, h⟩ := bnd h
 refine .c (.call1v hS Tryz.func36 (spec_l43Places_ok hy1 (hS.keep q_0)) rfl rfl ?_ rfl (by kernel_rfl) rfl rfl)
 intro v1 W hS
 refine .q rfl (.nil (.seq (.region (.c (.liv [] dInstr T.u26 T.t37 hS rfl rfl rfl rfl ?_ rfl (fun _ => rfl) rfl rfl rfl rfl)))))
 intro v2 W hS
 refine .q rfl (.nil (.seq (.seq (.region (.q rfl (.nil (.block ?_)))))))
 have ⟨y2, hy2, h⟩ := bnd h
 refine .via (.iter (fun s1 E' W' => ∃ (v5 : Hd), SubL E' [(0, (sv v_0)), (1, .int .i64 a1), (5, (sv v1)), (6, (sv v5)), (7, .int .i64 s1.2)] ∧ Sep No w W' [rowV (sv v1) 3 1 (D.int .i64) y1, rowV (sv v5) 37 5 dInstr s1.1]) (fun y3 x E' W' => x = .exit 0 ∧ ∃ (v6 : Hd), SubL E' [(6, (sv v6))] ∧ Sep No w W' [rowV (sv v1) 3 1 (D.int .i64) y1, rowV (sv v6) 37 5 dInstr y3]) hy2 ⟨v2, sb rfl, hS.to [1, 0] rfl⟩ ?_) ?_
 ·intro s1 y4 E W h hI
  obtain ⟨v4, hE, hS⟩ := hI
  refine CW.sub hE ?_
  unfold spec_l43Task_b1 at h
  refine .seq (.seq (.region (.q rfl (.q rfl (.s (lenv (hS.keep q_0) T.u23 rfl rfl) rfl (.q rfl (.nil ?_)))))))
  refine .cs rfl h ?_ ?_ <;> intro h
  ·refine .skip (.seq (.block (.seq (.region (.q rfl (.nil ?_))))))
   have ⟨y5, hy5, h⟩ := bnd h
   refine .seq (CW.via (R' := fun x E' W' => x = .normal ∧ SubL E' [(0, (sv v_0)), (1, .int .i64 a1), (5, (sv v1)), (6, (sv v4)), (7, .int .i64 s1.2), (8, .int .i64 y5)] ∧ Sep No w W' [rowV (sv v1) 3 1 (D.int .i64) y1, rowV (sv v4) 37 5 dInstr s1.1]) ?_ ?_)
   ·have h := hy5
    refine .seq (.region (.q rfl (.q rfl ?_)))
    have ⟨x1, hx1, h⟩ := bnd h
    refine .s (ixv (hS.keep q_0) hx1 T.u23 T.t34 rfl rfl rfl) rfl (.s (fe T.f34_0 rfl rfl rfl) rfl (.s (lde (RV.flat (hS.keep q_0) hx1 rfl) T.t3 rfl rfl rfl rfl rfl) rfl (.q rfl (.q rfl ?_))))
    have ⟨b1, hb1, h⟩ := bnd h
    refine .chunk 7 32 (b1) hS ?_ ?_
    ·refine .both (x1.Op == 4) (fun hb => ?_) (fun hb => ?_)
     ·refine .xx hb rfl (.xx hb rfl (.xx hb rfl (.xx hb rfl (.xx hb rfl (.xx hb rfl ?_)))))
      cases sel_t hb hb1
      exact .s (pkt hb rfl rfl rfl) rfl (.nil (ck 7 hS rfl rfl rfl rfl))
     have hg1 := hb
     have h := sel_f hb hb1
     refine .g hg1 (.q rfl (.g hg1 (.q rfl ?_) rfl)) rfl
     have ⟨x2, hx2, h⟩ := bnd h
     refine .g hg1 (.s (ixv (hS.keep q_0) hx2 T.u23 T.t34 rfl rfl rfl) rfl (.g hg1 (.s (fe T.f34_0 rfl rfl rfl) rfl (.g hg1 (.s (lde (RV.flat (hS.keep q_0) hx2 rfl) T.t3 rfl rfl rfl rfl rfl) rfl (.g hg1 (.q rfl (.s (pkf hg1 rfl rfl rfl) rfl ?_)) rfl)) rfl)) rfl)) rfl
     cases h
     exact .nil (ck 7 hS rfl rfl rfl rfl)
    intro W hS
    refine .nil ?_
    refine .cs rfl h ?_ ?_ <;> intro h
    ·refine .rk 15 hS [0, 0] T.mix ?_
     intro W hS
     have hT := hS.to [0, 0] rfl
     refine .tp 0 rfl rfl hT (by kernel_rfl) (.tp 1 rfl rfl hT (by kernel_rfl) (.tp 2 rfl rfl hT (by kernel_rfl) ?_))
     have ⟨x3, hx3, h⟩ := bnd h
     refine .ts 3 rfl (fun W hT => ixv (hS.keep q_0) hx3 T.u23 T.t34 rfl rfl rfl) hT rfl (by kernel_rfl) (.ts 4 rfl (fun W hT => fe T.f34_4 rfl rfl rfl) hT rfl (by kernel_rfl) (.ts 5 rfl (fun W hT => lde (RV.flat (hT.keep q_0) hx3 rfl) T.t3 rfl rfl rfl rfl rfl) hT rfl (by kernel_rfl) ?_))
     have ⟨x4, hx4, h⟩ := bnd h
     refine .ts 6 rfl (fun W hT => ixv hS.lendv hx4 T.u31 T.t3 rfl rfl rfl) hT rfl (by kernel_rfl) (.ts 7 rfl (fun W hT => lde (RV.flat hT.lendv hx4 rfl) T.t3 rfl rfl rfl rfl rfl) hT rfl (by kernel_rfl) (.tp 8 rfl rfl hT (by kernel_rfl) (.tp 9 rfl rfl hT (by kernel_rfl) ?_)))
     have ⟨x5, hx5, h⟩ := bnd h
     refine .ts 10 rfl (fun W hT => ixv hS.lendv hx5 T.u31 T.t3 rfl rfl rfl) hT rfl (by kernel_rfl) (.ts 11 rfl (fun W hT => lde (RV.flat hT.lendv hx5 rfl) T.t3 rfl rfl rfl rfl rfl) hT rfl (by kernel_rfl) (.tp 12 rfl rfl hT (by kernel_rfl) (.tp 13 rfl rfl hT (by kernel_rfl) (.tp 14 rfl rfl hT (by kernel_rfl) (.done ?_ (by kernel_rfl))))))
     cases h
     exact ⟨rfl, sb rfl, hS.to [0, 0] rfl⟩
    refine .skip ?_
    cases h
    exact ⟨rfl, sb rfl, hS.to [0, 0] rfl⟩
   intro x E W hJ
   obtain ⟨rfl, hE, hS⟩ := hJ
   refine ⟨_, hE.sub, ?_⟩
   refine .region (.q rfl (.q rfl (.q rfl ?_)))
   have ⟨x6, hx6, h⟩ := bnd h
   refine .s (ixv (hS.keep q_0) hx6 T.u23 T.t34 rfl rfl rfl) rfl (.s (lde (RV.flat (hS.keep q_0) hx6 rfl) T.t34 rfl rfl rfl rfl rfl) rfl (.q rfl (.q rfl ?_)))
   have ⟨y6, hy6, h⟩ := bnd h
   refine .c (.call1v hS Tryz.func37 (spec_l43Quad_ok hy6) rfl rfl ?_ rfl (by kernel_rfl) rfl rfl)
   intro v7 W hS
   have ⟨r1, hr1, h⟩ := bnd h
   have hT0 := hS.p2
   refine .c (.apprv hr1 hT0 hT0.p1.lendv (fun _ => rfl) T.u26 T.t37 rfl rfl rfl ?_ rfl rfl rfl rfl rfl)
   intro v8 W hS
   refine .q rfl (.nil (.region (.q rfl (.q rfl (.q rfl (.nil ?_))))))
   cases h
   exact ⟨rfl, v8, sb rfl, hS.to [2, 0] rfl⟩
  refine .exit ?_
  cases h
  exact ⟨by simp, rfl, v4, sb rfl, hS.to [0, 0] rfl⟩
 intro x E W hJ
 obtain ⟨rfl, v9, hE, hS⟩ := hJ
 refine ⟨_, hE.sub, ?_⟩
 obtain rfl := Option.some.inj h
 exact .seq (.region (.q rfl (.q rfl (.nil (.ret (fin_ret (vs := [_]) v9 (rt rfl rn) rfl (hS.to [1] rfl)))))))
theorem spec_TaskInstrs_ok {a0 : List Quad} {a1 : Int} {v_0 : Hd} {w : World} {r : (List Instr) × Bool} (h : spec_TaskInstrs a0 a1 = some r) (q_0 : RV w (Old No w) (sv v_0) 34 5 dQuad a0) : Calls Tryz.prog 8 #[(sv v_0), .int .i64 a1] w (Ret No w (fun s : Hd => .tuple #[(sv s), .bool r.2]) (fun s => [rowV (sv s) 37 5 dInstr r.1])) := by
 unfold spec_TaskInstrs at h
 refine enter Tryz.func8 rfl rfl ?_
 have hS := Sep.start w
 refine .seq (.region (.q rfl (.q rfl (.nil (.seq (.seq (.region (.q rfl ?_))))))))
 have ⟨y1, hy1, h⟩ := bnd h
 refine .c (.call0 hS Tryz.func18 (spec_CodeValid_ok hy1 (hS.keep q_0)) rfl rfl ?_ rfl (by kernel_rfl) rfl rfl)
 intro W hS
 refine .q rfl (.q rfl ?_)
 have ⟨b1, hb1, h⟩ := bnd h
 refine .chunk 4 13 (b1) hS ?_ ?_
 ·refine .both (!y1) (fun hb => ?_) (fun hb => ?_)
  ·refine .xx hb rfl (.xx hb rfl (.xx hb rfl ?_))
   cases sel_t hb hb1
   exact .s (pkt hb rfl rfl rfl) rfl (.nil (ck 4 hS rfl rfl rfl rfl))
  have hg1 := hb
  have h := sel_f hb hb1
  refine .g hg1 (.q rfl ?_) rfl
  have ⟨y2, hy2, h⟩ := bnd h
  refine .g hg1 (.c (.call0 hS Tryz.func19 (spec_l6In_ok hy2) rfl rfl ?_ rfl (by kernel_rfl) rfl rfl)) rfl
  intro W hS
  refine .g hg1 (.q rfl (.s (pkf hg1 rfl rfl rfl) rfl ?_)) rfl
  cases h
  exact .nil (ck 4 hS rfl rfl rfl rfl)
 intro W hS
 refine .nil ?_
 refine .cs rfl h ?_ ?_ <;> intro h
 ·refine .seq (.region (.c (.liv [] dInstr T.u26 T.t37 hS rfl rfl rfl rfl ?_ rfl (fun _ => rfl) rfl rfl rfl rfl)))
  intro v1 W hS
  cases h
  exact .q rfl (.q rfl (.nil (.ret (fin_ret (vs := [_, _]) v1 (rt rfl (rt rfl rn)) rfl (hS.to [0] rfl)))))
 refine .skip (.seq (.region (.q rfl (.q rfl ?_))))
 have ⟨y3, hy3, h⟩ := bnd h
 refine .c (.call1v hS Tryz.func20 (spec_l43Task_ok hy3 (hS.keep q_0)) rfl rfl ?_ rfl (by kernel_rfl) rfl rfl)
 intro v2 W hS
 cases h
 exact .q rfl (.q rfl (.nil (.ret (fin_ret (vs := [_, _]) v2 (rt rfl (rt rfl rn)) rfl (hS.to [0] rfl)))))
def laws_sameInstrs_F (w : World) (r : Bool) : Env → World → Prop := Fin Tryz.prog Tryz.f9 No w (fun s : Unit => .bool r) (fun s => []) .ret
theorem laws_sameInstrs_ok {a0 : List Instr} {a1 : List Instr} {v_0 : Hd} {v_1 : Hd} {w : World} {r : Bool} (h : laws_sameInstrs a0 a1 = some r) (q_0 : RV w (Old No w) (sv v_0) 37 5 dInstr a0) (q_1 : RV w (Old No w) (sv v_1) 37 5 dInstr a1) : Calls Tryz.prog 9 #[(sv v_0), (sv v_1)] w (Ret No w (fun s : Unit => .bool r) (fun s => [])) := by
 unfold laws_sameInstrs at h
 refine enter Tryz.func9 rfl rfl ?_
 have hS := Sep.start w
 refine .seq (.region (.q rfl (.nil (.seq (.seq (.region (.q rfl (.s (lenv (hS.keep q_0) T.u26 rfl rfl) rfl (.q rfl (.s (lenv (hS.keep q_1) T.u26 rfl rfl) rfl (.q rfl (.nil ?_))))))))))))
 refine .cs rfl h ?_ ?_ <;> intro h
 ·obtain rfl := Option.some.inj h
  exact .seq (.region (.q rfl (.nil (.ret (fin_ret (vs := [_]) () (rt rfl rn) rfl (hS.to [] rfl))))))
 refine .skip (.seq (.seq (.region (.q rfl (.nil (.block ?_))))))
 have ⟨y1, hy1, h⟩ := bnd h
 refine .via (.iter (fun s1 E' W' => SubL E' [(0, (sv v_0)), (1, (sv v_1)), (5, .int .i64 s1)] ∧ Sep No w W' []) (fun y2 x E' W' => (match y2 with | .inl o1 => x = .ret ∧ laws_sameInstrs_F w o1 E' W' | .inr o2 => x = .exit 0 ∧ SubL E' [] ∧ Sep No w W' [])) hy1 ⟨sb rfl, hS.to [] rfl⟩ ?_) ?_
 ·intro s1 y3 E W h hI
  obtain ⟨hE, hS⟩ := hI
  refine CW.sub hE ?_
  unfold laws_sameInstrs_b1 at h
  refine .seq (.seq (.region (.q rfl (.q rfl (.s (lenv (hS.keep q_0) T.u26 rfl rfl) rfl (.q rfl (.nil ?_)))))))
  refine .cs rfl h ?_ ?_ <;> intro h
  ·refine .skip (.seq (.block (.seq (.rk 9 hS [] T.mix ?_))))
   intro W hS
   have hT := hS.to [] rfl
   refine .tp 0 rfl rfl hT (by kernel_rfl) (.tp 1 rfl rfl hT (by kernel_rfl) ?_)
   have ⟨x1, hx1, h⟩ := bnd h
   refine .ts 2 rfl (fun W hT => ixv (hS.keep q_0) hx1 T.u26 T.t37 rfl rfl rfl) hT rfl (by kernel_rfl) (.ts 3 rfl (fun W hT => lde (RV.flat (hT.keep q_0) hx1 rfl) T.t37 rfl rfl rfl rfl rfl) hT rfl (by kernel_rfl) (.tp 4 rfl rfl hT (by kernel_rfl) (.tp 5 rfl rfl hT (by kernel_rfl) ?_)))
   have ⟨x2, hx2, h⟩ := bnd h
   refine .ts 6 rfl (fun W hT => ixv (hS.keep q_1) hx2 T.u26 T.t37 rfl rfl rfl) hT rfl (by kernel_rfl) (.ts 7 rfl (fun W hT => lde (RV.flat (hT.keep q_1) hx2 rfl) T.t37 rfl rfl rfl rfl rfl) hT rfl (by kernel_rfl) (.ts 8 rfl (fun W hT => nes T.e37 rfl rfl rfl rfl) hT rfl (by kernel_rfl) (.done ?_ (by kernel_rfl))))
   refine .cs rfl h ?_ ?_ <;> intro h
   ·refine .seq (.region (.q rfl (.nil (.ret ?_))))
    cases h
    exact ⟨by simp, rfl, fin_ret (vs := [_]) () (rt rfl rn) rfl (hS.to [] rfl)⟩
   refine .skip (.region (.q rfl (.q rfl (.q rfl (.nil ?_)))))
   cases h
   exact ⟨rfl, sb rfl, hS.to [] rfl⟩
  refine .exit ?_
  cases h
  exact ⟨by simp, rfl, sb rfl, hS.to [] rfl⟩
 intro x E W hJ
 rcases y1 with o3 | o4
 ·obtain ⟨rfl, hF⟩ := hJ
  refine ⟨_, fun _ _ h => h, ?_⟩
  cases h
  exact hF
 obtain ⟨rfl, hE, hS⟩ := hJ
 refine ⟨_, hE.sub, ?_⟩
 obtain rfl := Option.some.inj h
 exact .seq (.region (.q rfl (.nil (.ret (fin_ret (vs := [_]) () (rt rfl rn) rfl (hS.to [] rfl))))))
theorem laws_FnTaskColors_ok {k : Nat} {a0 : List Int} {v_0 : Hd} {w : World} {r : Bool} (h : laws_FnTaskColors k a0 = some r) (q_0 : RV w (Old No w) (sv v_0) 5 1 (D.int .u8) a0) (hG : Gl w) : Calls Tryz.prog 3 #[(sv v_0)] w (Ret No w (fun s : Unit => .bool r) (fun s => [])) := by
 unfold laws_FnTaskColors at h
 refine enter Tryz.func3 rfl rfl ?_
 have hS := Sep.start w
 refine .seq (.region (.q rfl (.nil (.seq (.seq (.region (.q rfl (.s (lenv (hS.keep q_0) T.u22 rfl rfl) rfl (.q rfl (.nil ?_))))))))))
 refine .cs rfl h ?_ ?_ <;> intro h
 ·obtain rfl := Option.some.inj h
  exact .seq (.region (.q rfl (.nil (.ret (fin_ret (vs := [_]) () (rt rfl rn) rfl (hS.to [] rfl))))))
 refine .skip (.seq (.region (.q rfl ?_)))
 have ⟨y1, hy1, h⟩ := bnd h
 refine .c (.call1v hS Tryz.func6 (spec_DrawTaskInstrs_ok hy1 (hS.keep q_0)) rfl rfl ?_ rfl (by kernel_rfl) rfl rfl)
 intro v1 W hS
 refine .q rfl (.q rfl (.q rfl (.q rfl (.q rfl (.nil (.seq (.region (.q rfl (.q rfl ?_)))))))))
 have ⟨y2, hy2, h⟩ := bnd h
 refine .c (.call1v hS Tryz.func7 (impl_TaskInstrs_ok hy2 hS.lendv (hG.at hS (fun _ _ h => h))) rfl rfl ?_ rfl (by kernel_rfl) rfl rfl)
 intro v2 W hS
 refine .q rfl (.q rfl (.q rfl (.q rfl (.q rfl (.nil (.seq (.region (.q rfl (.q rfl ?_)))))))))
 have ⟨y3, hy3, h⟩ := bnd h
 refine .c (.call1v hS Tryz.func8 (spec_TaskInstrs_ok hy3 hS.p1.lendv) rfl rfl ?_ rfl (by kernel_rfl) rfl rfl)
 intro v3 W hS
 refine .q rfl (.q rfl (.q rfl (.q rfl (.q rfl (.nil (.seq (.seq (.region (.q rfl (.q rfl (.s (neb T.u4 rfl rfl rfl) rfl (.q rfl ?_))))))))))))
 have ⟨b1, hb1, h⟩ := bnd h
 refine .chunk 5 39 (b1) hS ?_ ?_
 ·refine .both (y2.2 != y3.2) (fun hb => ?_) (fun hb => ?_)
  ·refine .xx hb rfl (.xx hb rfl (.xx hb rfl (.xx hb rfl ?_)))
   cases sel_t hb hb1
   exact .s (pkt hb rfl rfl rfl) rfl (.nil (ck 5 hS rfl rfl rfl rfl))
  have hg1 := hb
  have h := sel_f hb hb1
  refine .g hg1 (.q rfl (.g hg1 (.q rfl ?_) rfl)) rfl
  have ⟨y4, hy4, h⟩ := bnd h
  refine .g hg1 (.c (.call0 hS Tryz.func9 (laws_sameInstrs_ok hy4 hS.p1.lendv hS.lendv) rfl rfl ?_ rfl (by kernel_rfl) rfl rfl)) rfl
  intro W hS
  refine .g hg1 (.q rfl (.s (pkf hg1 rfl rfl rfl) rfl ?_)) rfl
  cases h
  exact .nil (ck 5 hS rfl rfl rfl rfl)
 intro W hS
 refine .q rfl (.chunk 3 43 (b1 || (!y2.2)) hS ?_ ?_)
 ·refine .both (b1) (fun hb => ?_) (fun hb => ?_)
  ·exact .xx hb rfl (.xx hb rfl (.s (pkt hb rfl rfl rfl) rfl (.nil (ck 3 hS rfl (or_t hb) rfl rfl))))
  have hg2 := hb
  exact .g hg2 (.q rfl (.g hg2 (.q rfl (.s (pkf hg2 rfl rfl rfl) rfl (.nil (ck 3 hS rfl (or_f hg2) rfl rfl)))) rfl)) rfl
 intro W hS
 refine .nil ?_
 refine .cs rfl h ?_ ?_ <;> intro h
 ·refine .seq (.region (.q rfl (.q rfl (.s (eqb T.u4 rfl rfl rfl) rfl (.q rfl ?_)))))
  have ⟨b2, hb2, h⟩ := bnd h
  refine .chunk 4 51 (b2) hS ?_ ?_
  ·refine .both (y2.2 == y3.2) (fun hb => ?_) (fun hb => ?_)
   ·have hg3 := hb
    have h := sel_t hb hb2
    refine .g hg3 (.q rfl (.g hg3 (.q rfl ?_) rfl)) rfl
    have ⟨y5, hy5, h⟩ := bnd h
    refine .g hg3 (.c (.call0 hS Tryz.func9 (laws_sameInstrs_ok hy5 hS.p1.lendv hS.lendv) rfl rfl ?_ rfl (by kernel_rfl) rfl rfl)) rfl
    intro W hS
    refine .s (pkt hg3 rfl rfl rfl) rfl ?_
    cases h
    exact .nil (ck 4 hS rfl rfl rfl rfl)
   refine .xx hb rfl (.xx hb rfl (.xx hb rfl ?_))
   cases sel_f hb hb2
   exact .s (pkf hb rfl rfl rfl) rfl (.nil (ck 4 hS rfl rfl rfl rfl))
  intro W hS
  obtain rfl := Option.some.inj h
  exact .q rfl (.nil (.ret (fin_ret (vs := [_]) () (rt rfl rn) rfl (hS.to [] rfl))))
 refine .skip (.seq (.region (.q rfl (.q rfl (.q rfl (.s (mnv rfl rfl rfl) rfl ?_))))))
 have ⟨y6, hy6, h⟩ := bnd h
 refine .c (.call1v hS Tryz.func7 (impl_TaskInstrs_ok hy6 hS.p2.lendv (hG.at hS (fun _ _ h => h))) rfl rfl ?_ rfl (by kernel_rfl) rfl rfl)
 intro v4 W hS
 refine .q rfl (.q rfl (.q rfl (.q rfl (.q rfl (.nil (.seq (.region (.q rfl (.q rfl (.chunk 6 67 (y6.2 && (decide ((y6.1.length : Int) ≤ (y2.1.length : Int)))) hS ?_ ?_))))))))))
 ·refine .both (y6.2) (fun hb => ?_) (fun hb => ?_)
  ·have hg4 := hb
   exact .g hg4 (.q rfl (.g hg4 (.s (lenv hS.lendv T.u26 rfl rfl) rfl (.g hg4 (.q rfl (.g hg4 (.s (lenv hS.p2.lendv T.u26 rfl rfl) rfl (.g hg4 (.q rfl (.s (pkt hg4 rfl rfl rfl) rfl (.nil (ck 6 hS rfl (and_t hg4) rfl rfl)))) rfl)) rfl)) rfl)) rfl)) rfl
  exact .xx hb rfl (.xx hb rfl (.xx hb rfl (.xx hb rfl (.xx hb rfl (.s (pkf hb rfl rfl rfl) rfl (.nil (ck 6 hS rfl (and_f hb) rfl rfl)))))))
 intro W hS
 cases h
 exact .q rfl (.nil (.ret (fin_ret (vs := [_]) () (rt rfl rn) rfl (hS.to [] rfl))))
theorem impl_QuadInstrs_ok {a0 : Quad} {a1 : Int} {a2 : Int} {w : World} {r : (List Instr) × Bool} (h : impl_QuadInstrs a0 a1 a2 = some r) (hG : Gl w) : Calls Tryz.prog 11 #[.agg #[.int .i64 a0.Op, .int .i64 a0.Dst, .int .i64 a0.A, .int .i64 a0.B, .int .i64 a0.N], .int .i64 a1, .int .i64 a2] w (Ret No w (fun s : Hd => .tuple #[(sv s), .bool r.2]) (fun s => [rowV (sv s) 37 5 dInstr r.1])) := by
 unfold impl_QuadInstrs at h
 refine enter Tryz.func11 rfl rfl ?_
 have hS := Sep.start w
 refine .seq (.region (.c (.box hS rfl rfl ?_ rfl rfl)))
 intro g1 W hS
 refine .q rfl (.q rfl (.nil (.seq (.seq (.region (.s (ld T.t34 hS rfl rfl rfl rfl rfl) rfl ?_))))))
 have ⟨y1, hy1, h⟩ := bnd h
 refine .c (.call0 hS Tryz.func22 (impl_QuadValid_ok hy1) rfl rfl ?_ rfl (by kernel_rfl) rfl rfl)
 intro W hS
 refine .q rfl (.q rfl (.chunk 3 14 ((!y1) || (decide (a1 < 1))) hS ?_ ?_))
 ·refine .both (!y1) (fun hb => ?_) (fun hb => ?_)
  ·exact .xx hb rfl (.xx hb rfl (.s (pkt hb rfl rfl rfl) rfl (.nil (ck 3 hS rfl (or_t hb) rfl rfl))))
  have hg1 := hb
  exact .g hg1 (.q rfl (.g hg1 (.q rfl (.s (pkf hg1 rfl rfl rfl) rfl (.nil (ck 3 hS rfl (or_f hg1) rfl rfl)))) rfl)) rfl
 intro W hS
 refine .q rfl (.chunk 3 18 (((!y1) || (decide (a1 < 1))) || (decide (a1 > 8))) hS ?_ ?_)
 ·refine .both ((!y1) || (decide (a1 < 1))) (fun hb => ?_) (fun hb => ?_)
  ·exact .xx hb rfl (.xx hb rfl (.s (pkt hb rfl rfl rfl) rfl (.nil (ck 3 hS rfl (or_t hb) rfl rfl))))
  have hg2 := hb
  exact .g hg2 (.q rfl (.g hg2 (.q rfl (.s (pkf hg2 rfl rfl rfl) rfl (.nil (ck 3 hS rfl (or_f hg2) rfl rfl)))) rfl)) rfl
 intro W hS
 refine .q rfl (.chunk 4 23 ((((!y1) || (decide (a1 < 1))) || (decide (a1 > 8))) || ((Int.tmod a2 4) != 0)) hS ?_ ?_)
 ·refine .both (((!y1) || (decide (a1 < 1))) || (decide (a1 > 8))) (fun hb => ?_) (fun hb => ?_)
  ·exact .xx hb rfl (.xx hb rfl (.xx hb rfl (.s (pkt hb rfl rfl rfl) rfl (.nil (ck 4 hS rfl (or_t hb) rfl rfl)))))
  have hg3 := hb
  exact .g hg3 (.q rfl (.g hg3 (.q rfl (.g hg3 (.q rfl (.s (pkf hg3 rfl rfl rfl) rfl (.nil (ck 4 hS rfl (or_f hg3) rfl rfl)))) rfl)) rfl)) rfl
 intro W hS
 refine .q rfl (.chunk 3 27 (((((!y1) || (decide (a1 < 1))) || (decide (a1 > 8))) || ((Int.tmod a2 4) != 0)) || (decide (a2 < (-100000)))) hS ?_ ?_)
 ·refine .both ((((!y1) || (decide (a1 < 1))) || (decide (a1 > 8))) || ((Int.tmod a2 4) != 0)) (fun hb => ?_) (fun hb => ?_)
  ·exact .xx hb rfl (.xx hb rfl (.s (pkt hb rfl rfl rfl) rfl (.nil (ck 3 hS rfl (or_t hb) rfl rfl))))
  have hg4 := hb
  exact .g hg4 (.q rfl (.g hg4 (.q rfl (.s (pkf hg4 rfl rfl rfl) rfl (.nil (ck 3 hS rfl (or_f hg4) rfl rfl)))) rfl)) rfl
 intro W hS
 refine .q rfl (.chunk 3 31 ((((((!y1) || (decide (a1 < 1))) || (decide (a1 > 8))) || ((Int.tmod a2 4) != 0)) || (decide (a2 < (-100000)))) || (decide (a2 > 100000))) hS ?_ ?_)
 ·refine .both (((((!y1) || (decide (a1 < 1))) || (decide (a1 > 8))) || ((Int.tmod a2 4) != 0)) || (decide (a2 < (-100000)))) (fun hb => ?_) (fun hb => ?_)
  ·exact .xx hb rfl (.xx hb rfl (.s (pkt hb rfl rfl rfl) rfl (.nil (ck 3 hS rfl (or_t hb) rfl rfl))))
  have hg5 := hb
  exact .g hg5 (.q rfl (.g hg5 (.q rfl (.s (pkf hg5 rfl rfl rfl) rfl (.nil (ck 3 hS rfl (or_f hg5) rfl rfl)))) rfl)) rfl
 intro W hS
 refine .nil ?_
 refine .cs rfl h ?_ ?_ <;> intro h
 ·refine .seq (.region (.q rfl (.q rfl (.nil (.ret ?_)))))
  have hS := hS.nilv 37 5 dInstr
  cases h
  exact fin_ret (vs := [_, _]) nilH (rt rfl (rt rfl rn)) rfl (hS.to [0] rfl)
 refine .skip (.seq (.region (.s (ld T.t34 hS rfl rfl rfl rfl rfl) rfl (.q rfl (.q rfl ?_)))))
 have ⟨y2, hy2, h⟩ := bnd h
 refine .c (.call1v hS Tryz.func17 (impl_quadInstrs_ok hy2 (hG.at hS (fun _ _ h => h))) rfl rfl ?_ rfl (by kernel_rfl) rfl rfl)
 intro v1 W hS
 cases h
 exact .q rfl (.q rfl (.nil (.ret (fin_ret (vs := [_, _]) v1 (rt rfl (rt rfl rn)) rfl (hS.to [0] rfl)))))
def laws_FnTaskInstrs_F (w : World) (r : Bool) : Env → World → Prop := Fin Tryz.prog Tryz.f4 No w (fun s : Unit => .bool r) (fun s => []) .ret
theorem laws_FnTaskInstrs_ok {k : Nat} {a0 : List Int} {v_0 : Hd} {w : World} {r : Bool} (h : laws_FnTaskInstrs k a0 = some r) (q_0 : RV w (Old No w) (sv v_0) 5 1 (D.int .u8) a0) (hG : Gl w) : Calls Tryz.prog 4 #[(sv v_0)] w (Ret No w (fun s : Unit => .bool r) (fun s => [])) := by
 unfold laws_FnTaskInstrs at h
 refine enter Tryz.func4 rfl rfl ?_
 have hS := Sep.start w
 refine .seq (.region (.q rfl (.nil (.seq (.seq (.region (.q rfl (.s (lenv (hS.keep q_0) T.u22 rfl rfl) rfl (.q rfl (.nil ?_))))))))))
 refine .cs rfl h ?_ ?_ <;> intro h
 ·obtain rfl := Option.some.inj h
  exact .seq (.region (.q rfl (.nil (.ret (fin_ret (vs := [_]) () (rt rfl rn) rfl (hS.to [] rfl))))))
 refine .skip (.seq (.region (.q rfl ?_)))
 have ⟨y1, hy1, h⟩ := bnd h
 refine .c (.call1v hS Tryz.func6 (spec_DrawTaskInstrs_ok hy1 (hS.keep q_0)) rfl rfl ?_ rfl (by kernel_rfl) rfl rfl)
 intro v1 W hS
 refine .q rfl (.q rfl (.q rfl (.q rfl (.q rfl (.nil (.seq (.region (.q rfl (.q rfl ?_)))))))))
 have ⟨y2, hy2, h⟩ := bnd h
 refine .c (.call1v hS Tryz.func7 (impl_TaskInstrs_ok hy2 hS.lendv (hG.at hS (fun _ _ h => h))) rfl rfl ?_ rfl (by kernel_rfl) rfl rfl)
 intro v2 W hS
 refine .q rfl (.q rfl (.q rfl (.q rfl (.q rfl (.nil (.seq (.region (.q rfl (.q rfl ?_)))))))))
 have ⟨y3, hy3, h⟩ := bnd h
 refine .c (.call1v hS Tryz.func8 (spec_TaskInstrs_ok hy3 hS.p1.lendv) rfl rfl ?_ rfl (by kernel_rfl) rfl rfl)
 intro v3 W hS
 refine .q rfl (.q rfl (.q rfl (.q rfl (.q rfl (.nil (.seq (.seq (.region (.q rfl (.q rfl (.s (neb T.u4 rfl rfl rfl) rfl (.q rfl ?_))))))))))))
 have ⟨b1, hb1, h⟩ := bnd h
 refine .chunk 5 43 (b1) hS ?_ ?_
 ·refine .both (y2.2 != y3.2) (fun hb => ?_) (fun hb => ?_)
  ·refine .xx hb rfl (.xx hb rfl (.xx hb rfl (.xx hb rfl ?_)))
   cases sel_t hb hb1
   exact .s (pkt hb rfl rfl rfl) rfl (.nil (ck 5 hS rfl rfl rfl rfl))
  have hg1 := hb
  have h := sel_f hb hb1
  refine .g hg1 (.q rfl (.g hg1 (.q rfl ?_) rfl)) rfl
  have ⟨y4, hy4, h⟩ := bnd h
  refine .g hg1 (.c (.call0 hS Tryz.func9 (laws_sameInstrs_ok hy4 hS.p1.lendv hS.lendv) rfl rfl ?_ rfl (by kernel_rfl) rfl rfl)) rfl
  intro W hS
  refine .g hg1 (.q rfl (.s (pkf hg1 rfl rfl rfl) rfl ?_)) rfl
  cases h
  exact .nil (ck 5 hS rfl rfl rfl rfl)
 intro W hS
 refine .q rfl (.chunk 3 47 (b1 || (!y2.2)) hS ?_ ?_)
 ·refine .both (b1) (fun hb => ?_) (fun hb => ?_)
  ·exact .xx hb rfl (.xx hb rfl (.s (pkt hb rfl rfl rfl) rfl (.nil (ck 3 hS rfl (or_t hb) rfl rfl))))
  have hg2 := hb
  exact .g hg2 (.q rfl (.g hg2 (.q rfl (.s (pkf hg2 rfl rfl rfl) rfl (.nil (ck 3 hS rfl (or_f hg2) rfl rfl)))) rfl)) rfl
 intro W hS
 refine .nil ?_
 refine .cs rfl h ?_ ?_ <;> intro h
 ·refine .seq (.region (.q rfl (.q rfl (.s (eqb T.u4 rfl rfl rfl) rfl (.q rfl ?_)))))
  have ⟨b2, hb2, h⟩ := bnd h
  refine .chunk 4 55 (b2) hS ?_ ?_
  ·refine .both (y2.2 == y3.2) (fun hb => ?_) (fun hb => ?_)
   ·have hg3 := hb
    have h := sel_t hb hb2
    refine .g hg3 (.q rfl (.g hg3 (.q rfl ?_) rfl)) rfl
    have ⟨y5, hy5, h⟩ := bnd h
    refine .g hg3 (.c (.call0 hS Tryz.func9 (laws_sameInstrs_ok hy5 hS.p1.lendv hS.lendv) rfl rfl ?_ rfl (by kernel_rfl) rfl rfl)) rfl
    intro W hS
    refine .s (pkt hg3 rfl rfl rfl) rfl ?_
    cases h
    exact .nil (ck 4 hS rfl rfl rfl rfl)
   refine .xx hb rfl (.xx hb rfl (.xx hb rfl ?_))
   cases sel_f hb hb2
   exact .s (pkf hb rfl rfl rfl) rfl (.nil (ck 4 hS rfl rfl rfl rfl))
  intro W hS
  obtain rfl := Option.some.inj h
  exact .q rfl (.nil (.ret (fin_ret (vs := [_]) () (rt rfl rn) rfl (hS.to [] rfl))))
 refine .skip (.seq (.region (.q rfl (.q rfl ?_))))
 have ⟨y6, hy6, h⟩ := bnd h
 refine .c (.call hS Tryz.func10 (impl_TaskPlaces_ok hy6 hS.p2.lendv (hG.at hS (fun _ _ h => h))) rfl rfl ?_ rfl (by kernel_rfl) rfl rfl)
 rintro ⟨v4, q1⟩ W hS
 refine .q rfl (.nil (.seq (.region (.c (.liv [] dInstr T.u26 T.t37 hS rfl rfl rfl rfl ?_ rfl (fun _ => rfl) rfl rfl rfl rfl)))))
 intro v5 W hS
 refine .q rfl (.nil (.seq (.seq (.region (.q rfl (.nil (.block ?_)))))))
 have ⟨y7, hy7, h⟩ := bnd h
 refine .via (.iter (fun s1 E' W' => ∃ (v8 : Hd), SubL E' [(3, (sv v1)), (4, .int .i64 y1.2), (5, (sv v2)), (9, (sv v4)), (10, (sv v8)), (11, .int .i64 s1.2)] ∧ Sep No w W' [rowV (sv v4) 3 1 (D.int .i64) y6, rowV (sv v3) 37 5 dInstr y3.1, rowV (sv v2) 37 5 dInstr y2.1, rowV (sv v1) 34 5 dQuad y1.1, rowV (sv v8) 37 5 dInstr s1.1]) (fun y8 x E' W' => (match y8 with | .inl o1 => x = .ret ∧ laws_FnTaskInstrs_F w o1 E' W' | .inr o2 => x = .exit 0 ∧ ∃ (v9 : Hd), SubL E' [(5, (sv v2)), (10, (sv v9))] ∧ Sep No w W' [rowV (sv v4) 3 1 (D.int .i64) y6, rowV (sv v3) 37 5 dInstr y3.1, rowV (sv v2) 37 5 dInstr y2.1, rowV (sv v1) 34 5 dQuad y1.1, rowV (sv v9) 37 5 dInstr o2])) hy7 ⟨v5, sb rfl, hS.to [1, 1, 1, 1, 0] rfl⟩ ?_) ?_
 ·intro s1 y9 E W h hI
  obtain ⟨v7, hE, hS⟩ := hI
  refine CW.sub hE ?_
  unfold laws_FnTaskInstrs_b1 at h
  refine .seq (.seq (.region (.q rfl (.q rfl (.s (lenv hS.p3.lendv T.u23 rfl rfl) rfl (.q rfl (.nil ?_)))))))
  refine .cs rfl h ?_ ?_ <;> intro h
  ·refine .skip (.seq (.block (.seq (.region (.q rfl (.nil ?_))))))
   have ⟨y10, hy10, h⟩ := bnd h
   refine .seq (CW.via (R' := fun x E' W' => x = .normal ∧ SubL E' [(3, (sv v1)), (4, .int .i64 y1.2), (5, (sv v2)), (9, (sv v4)), (10, (sv v7)), (11, .int .i64 s1.2), (12, .int .i64 y10)] ∧ Sep No w W' [rowV (sv v4) 3 1 (D.int .i64) y6, rowV (sv v3) 37 5 dInstr y3.1, rowV (sv v2) 37 5 dInstr y2.1, rowV (sv v1) 34 5 dQuad y1.1, rowV (sv v7) 37 5 dInstr s1.1]) ?_ ?_)
   ·have h := hy10
    refine .seq (.region (.q rfl (.q rfl ?_)))
    have ⟨x1, hx1, h⟩ := bnd h
    refine .s (ixv hS.p3.lendv hx1 T.u23 T.t34 rfl rfl rfl) rfl (.s (fe T.f34_0 rfl rfl rfl) rfl (.s (lde (RV.flat hS.p3.lendv hx1 rfl) T.t3 rfl rfl rfl rfl rfl) rfl (.q rfl (.q rfl ?_))))
    have ⟨b3, hb3, h⟩ := bnd h
    refine .chunk 7 79 (b3) hS ?_ ?_
    ·refine .both (x1.Op == 4) (fun hb => ?_) (fun hb => ?_)
     ·refine .xx hb rfl (.xx hb rfl (.xx hb rfl (.xx hb rfl (.xx hb rfl (.xx hb rfl ?_)))))
      cases sel_t hb hb3
      exact .s (pkt hb rfl rfl rfl) rfl (.nil (ck 7 hS rfl rfl rfl rfl))
     have hg4 := hb
     have h := sel_f hb hb3
     refine .g hg4 (.q rfl (.g hg4 (.q rfl ?_) rfl)) rfl
     have ⟨x2, hx2, h⟩ := bnd h
     refine .g hg4 (.s (ixv hS.p3.lendv hx2 T.u23 T.t34 rfl rfl rfl) rfl (.g hg4 (.s (fe T.f34_0 rfl rfl rfl) rfl (.g hg4 (.s (lde (RV.flat hS.p3.lendv hx2 rfl) T.t3 rfl rfl rfl rfl rfl) rfl (.g hg4 (.q rfl (.s (pkf hg4 rfl rfl rfl) rfl ?_)) rfl)) rfl)) rfl)) rfl
     cases h
     exact .nil (ck 7 hS rfl rfl rfl rfl)
    intro W hS
    refine .nil ?_
    refine .cs rfl h ?_ ?_ <;> intro h
    ·refine .rk 15 hS [0, 0, 0, 0, 0] T.mix ?_
     intro W hS
     have hT := hS.to [0, 0, 0, 0, 0] rfl
     refine .tp 0 rfl rfl hT (by kernel_rfl) (.tp 1 rfl rfl hT (by kernel_rfl) (.tp 2 rfl rfl hT (by kernel_rfl) ?_))
     have ⟨x3, hx3, h⟩ := bnd h
     refine .ts 3 rfl (fun W hT => ixv hS.p3.lendv hx3 T.u23 T.t34 rfl rfl rfl) hT rfl (by kernel_rfl) (.ts 4 rfl (fun W hT => fe T.f34_4 rfl rfl rfl) hT rfl (by kernel_rfl) (.ts 5 rfl (fun W hT => lde (RV.flat hT.p3.lendv hx3 rfl) T.t3 rfl rfl rfl rfl rfl) hT rfl (by kernel_rfl) ?_))
     have ⟨x4, hx4, h⟩ := bnd h
     refine .ts 6 rfl (fun W hT => ixv hS.lendv hx4 T.u31 T.t3 rfl rfl rfl) hT rfl (by kernel_rfl) (.ts 7 rfl (fun W hT => lde (RV.flat hT.lendv hx4 rfl) T.t3 rfl rfl rfl rfl rfl) hT rfl (by kernel_rfl) (.tp 8 rfl rfl hT (by kernel_rfl) (.tp 9 rfl rfl hT (by kernel_rfl) ?_)))
     have ⟨x5, hx5, h⟩ := bnd h
     refine .ts 10 rfl (fun W hT => ixv hS.lendv hx5 T.u31 T.t3 rfl rfl rfl) hT rfl (by kernel_rfl) (.ts 11 rfl (fun W hT => lde (RV.flat hT.lendv hx5 rfl) T.t3 rfl rfl rfl rfl rfl) hT rfl (by kernel_rfl) (.tp 12 rfl rfl hT (by kernel_rfl) (.tp 13 rfl rfl hT (by kernel_rfl) (.tp 14 rfl rfl hT (by kernel_rfl) (.done ?_ (by kernel_rfl))))))
     cases h
     exact ⟨rfl, sb rfl, hS.to [0, 0, 0, 0, 0] rfl⟩
    refine .skip ?_
    cases h
    exact ⟨rfl, sb rfl, hS.to [0, 0, 0, 0, 0] rfl⟩
   intro x E W hJ
   obtain ⟨rfl, hE, hS⟩ := hJ
   refine ⟨_, hE.sub, ?_⟩
   refine .seq (.region (.q rfl (.q rfl ?_)))
   have ⟨x6, hx6, h⟩ := bnd h
   refine .s (ixv hS.p3.lendv hx6 T.u23 T.t34 rfl rfl rfl) rfl (.s (lde (RV.flat hS.p3.lendv hx6 rfl) T.t34 rfl rfl rfl rfl rfl) rfl (.q rfl (.q rfl ?_)))
   have ⟨y11, hy11, h⟩ := bnd h
   refine .c (.call1v hS Tryz.func11 (impl_QuadInstrs_ok hy11 (hG.at hS (fun _ _ h => h))) rfl rfl ?_ rfl (by kernel_rfl) rfl rfl)
   intro v10 W hS
   refine .q rfl (.q rfl (.q rfl (.q rfl (.q rfl (.nil (.seq (.seq (.region (.q rfl (.q rfl (.q rfl ?_)))))))))))
   have ⟨b4, hb4, h⟩ := bnd h
   refine .chunk 8 114 (b4) hS ?_ ?_
   ·refine .both (!y11.2) (fun hb => ?_) (fun hb => ?_)
    ·refine .xx hb rfl (.xx hb rfl (.xx hb rfl (.xx hb rfl (.xx hb rfl (.xx hb rfl (.xx hb rfl ?_))))))
     cases sel_t hb hb4
     exact .s (pkt hb rfl rfl rfl) rfl (.nil (ck 8 hS rfl rfl rfl rfl))
    have hg5 := hb
    have h := sel_f hb hb4
    refine .g hg5 (.q rfl (.g hg5 (.q rfl ?_) rfl)) rfl
    have ⟨x7, hx7, h⟩ := bnd h
    refine .g hg5 (.s (ixv hS.p1.lendv hx7 T.u31 T.t3 rfl rfl rfl) rfl (.g hg5 (.s (lde (RV.flat hS.p1.lendv hx7 rfl) T.t3 rfl rfl rfl rfl rfl) rfl (.g hg5 (.q rfl (.g hg5 (.s (lenv hS.p5.lendv T.u26 rfl rfl) rfl (.g hg5 (.q rfl (.s (pkf hg5 rfl rfl rfl) rfl ?_)) rfl)) rfl)) rfl)) rfl)) rfl
    cases h
    exact .nil (ck 8 hS rfl rfl rfl rfl)
   intro W hS
   refine .nil ?_
   refine .cs rfl h ?_ ?_ <;> intro h
   ·refine .seq (.region (.q rfl (.nil (.ret ?_))))
    cases h
    exact ⟨by simp, rfl, fin_ret (vs := [_]) () (rt rfl rn) rfl (hS.to [] rfl)⟩
   refine .skip (.region (.q rfl (.q rfl ?_)))
   have ⟨r1, hr1, h⟩ := bnd h
   have hT0 := hS.p5
   refine .c (.apprv hr1 hT0 hT0.p1.lendv (fun _ => rfl) T.u26 T.t37 rfl rfl rfl ?_ rfl rfl rfl rfl rfl)
   intro v11 W hS
   refine .q rfl (.nil (.region (.q rfl (.q rfl (.q rfl (.nil ?_))))))
   cases h
   exact ⟨rfl, v11, sb rfl, hS.to [2, 2, 2, 2, 0] rfl⟩
  refine .exit ?_
  cases h
  exact ⟨by simp, rfl, v7, sb rfl, hS.to [0, 0, 0, 0, 0] rfl⟩
 intro x E W hJ
 rcases y7 with o3 | o4
 ·obtain ⟨rfl, hF⟩ := hJ
  refine ⟨_, fun _ _ h => h, ?_⟩
  cases h
  exact hF
 obtain ⟨rfl, v12, hE, hS⟩ := hJ
 refine ⟨_, hE.sub, ?_⟩
 refine .seq (.region (.q rfl (.q rfl ?_)))
 have ⟨y12, hy12, h⟩ := bnd h
 refine .c (.call0 hS Tryz.func9 (laws_sameInstrs_ok hy12 hS.p4.lendv hS.p2.lendv) rfl rfl ?_ rfl (by kernel_rfl) rfl rfl)
 intro W hS
 obtain rfl := Option.some.inj h
 exact .q rfl (.nil (.ret (fin_ret (vs := [_]) () (rt rfl rn) rfl (hS.to [] rfl))))
def laws_hasInt_F (w : World) (r : Bool) : Env → World → Prop := Fin Tryz.prog Tryz.f12 No w (fun s : Unit => .bool r) (fun s => []) .ret
theorem laws_hasInt_ok {a0 : List Int} {a1 : Int} {v_0 : Hd} {w : World} {r : Bool} (h : laws_hasInt a0 a1 = some r) (q_0 : RV w (Old No w) (sv v_0) 3 1 (D.int .i64) a0) : Calls Tryz.prog 12 #[(sv v_0), .int .i64 a1] w (Ret No w (fun s : Unit => .bool r) (fun s => [])) := by
 unfold laws_hasInt at h
 refine enter Tryz.func12 rfl rfl ?_
 have hS := Sep.start w
 refine .seq (.region (.q rfl (.nil (.seq (.seq (.region (.q rfl (.nil (.block ?_)))))))))
 have ⟨y1, hy1, h⟩ := bnd h
 refine .via (.iter (fun s1 E' W' => SubL E' [(0, (sv v_0)), (1, .int .i64 a1), (5, .int .i64 s1)] ∧ Sep No w W' []) (fun y2 x E' W' => (match y2 with | .inl o1 => x = .ret ∧ laws_hasInt_F w o1 E' W' | .inr o2 => x = .exit 0 ∧ SubL E' [] ∧ Sep No w W' [])) hy1 ⟨sb rfl, hS.to [] rfl⟩ ?_) ?_
 ·intro s1 y3 E W h hI
  obtain ⟨hE, hS⟩ := hI
  refine CW.sub hE ?_
  unfold laws_hasInt_b1 at h
  refine .seq (.seq (.region (.q rfl (.q rfl (.s (lenv (hS.keep q_0) T.u31 rfl rfl) rfl (.q rfl (.nil ?_)))))))
  refine .cs rfl h ?_ ?_ <;> intro h
  ·refine .skip (.seq (.block (.seq (.region (.q rfl (.q rfl ?_))))))
   have ⟨x1, hx1, h⟩ := bnd h
   refine .s (ixv (hS.keep q_0) hx1 T.u31 T.t3 rfl rfl rfl) rfl (.s (lde (RV.flat (hS.keep q_0) hx1 rfl) T.t3 rfl rfl rfl rfl rfl) rfl (.q rfl (.q rfl (.nil ?_))))
   refine .cs rfl h ?_ ?_ <;> intro h
   ·refine .seq (.region (.q rfl (.nil (.ret ?_))))
    cases h
    exact ⟨by simp, rfl, fin_ret (vs := [_]) () (rt rfl rn) rfl (hS.to [] rfl)⟩
   refine .skip (.region (.q rfl (.q rfl (.q rfl (.nil ?_)))))
   cases h
   exact ⟨rfl, sb rfl, hS.to [] rfl⟩
  refine .exit ?_
  cases h
  exact ⟨by simp, rfl, sb rfl, hS.to [] rfl⟩
 intro x E W hJ
 rcases y1 with o3 | o4
 ·obtain ⟨rfl, hF⟩ := hJ
  refine ⟨_, fun _ _ h => h, ?_⟩
  cases h
  exact hF
 obtain ⟨rfl, hE, hS⟩ := hJ
 refine ⟨_, hE.sub, ?_⟩
 obtain rfl := Option.some.inj h
 exact .seq (.region (.q rfl (.nil (.ret (fin_ret (vs := [_]) () (rt rfl rn) rfl (hS.to [] rfl))))))
def laws_FnTaskJumps_F (w : World) (r : Bool) : Env → World → Prop := Fin Tryz.prog Tryz.f5 No w (fun s : Unit => .bool r) (fun s => []) .ret
theorem laws_FnTaskJumps_ok {k : Nat} {a0 : List Int} {v_0 : Hd} {w : World} {r : Bool} (h : laws_FnTaskJumps k a0 = some r) (q_0 : RV w (Old No w) (sv v_0) 5 1 (D.int .u8) a0) (hG : Gl w) : Calls Tryz.prog 5 #[(sv v_0)] w (Ret No w (fun s : Unit => .bool r) (fun s => [])) := by
 unfold laws_FnTaskJumps at h
 refine enter Tryz.func5 rfl rfl ?_
 have hS := Sep.start w
 refine .seq (.region (.q rfl (.nil (.seq (.seq (.region (.q rfl (.s (lenv (hS.keep q_0) T.u22 rfl rfl) rfl (.q rfl (.nil ?_))))))))))
 refine .cs rfl h ?_ ?_ <;> intro h
 ·obtain rfl := Option.some.inj h
  exact .seq (.region (.q rfl (.nil (.ret (fin_ret (vs := [_]) () (rt rfl rn) rfl (hS.to [] rfl))))))
 refine .skip (.seq (.region (.q rfl ?_)))
 have ⟨y1, hy1, h⟩ := bnd h
 refine .c (.call1v hS Tryz.func6 (spec_DrawTaskInstrs_ok hy1 (hS.keep q_0)) rfl rfl ?_ rfl (by kernel_rfl) rfl rfl)
 intro v1 W hS
 refine .q rfl (.q rfl (.q rfl (.q rfl (.q rfl (.nil (.seq (.region (.q rfl (.q rfl ?_)))))))))
 have ⟨y2, hy2, h⟩ := bnd h
 refine .c (.call1v hS Tryz.func7 (impl_TaskInstrs_ok hy2 hS.lendv (hG.at hS (fun _ _ h => h))) rfl rfl ?_ rfl (by kernel_rfl) rfl rfl)
 intro v2 W hS
 refine .q rfl (.q rfl (.q rfl (.q rfl (.q rfl (.nil (.seq (.region (.q rfl (.q rfl ?_)))))))))
 have ⟨y3, hy3, h⟩ := bnd h
 refine .c (.call1v hS Tryz.func8 (spec_TaskInstrs_ok hy3 hS.p1.lendv) rfl rfl ?_ rfl (by kernel_rfl) rfl rfl)
 intro v3 W hS
 refine .q rfl (.q rfl (.q rfl (.q rfl (.q rfl (.nil (.seq (.seq (.region (.q rfl (.q rfl (.s (neb T.u4 rfl rfl rfl) rfl (.q rfl ?_))))))))))))
 have ⟨b1, hb1, h⟩ := bnd h
 refine .chunk 5 39 (b1) hS ?_ ?_
 ·refine .both (y2.2 != y3.2) (fun hb => ?_) (fun hb => ?_)
  ·refine .xx hb rfl (.xx hb rfl (.xx hb rfl (.xx hb rfl ?_)))
   cases sel_t hb hb1
   exact .s (pkt hb rfl rfl rfl) rfl (.nil (ck 5 hS rfl rfl rfl rfl))
  have hg1 := hb
  have h := sel_f hb hb1
  refine .g hg1 (.q rfl (.g hg1 (.q rfl ?_) rfl)) rfl
  have ⟨y4, hy4, h⟩ := bnd h
  refine .g hg1 (.c (.call0 hS Tryz.func9 (laws_sameInstrs_ok hy4 hS.p1.lendv hS.lendv) rfl rfl ?_ rfl (by kernel_rfl) rfl rfl)) rfl
  intro W hS
  refine .g hg1 (.q rfl (.s (pkf hg1 rfl rfl rfl) rfl ?_)) rfl
  cases h
  exact .nil (ck 5 hS rfl rfl rfl rfl)
 intro W hS
 refine .q rfl (.chunk 3 43 (b1 || (!y2.2)) hS ?_ ?_)
 ·refine .both (b1) (fun hb => ?_) (fun hb => ?_)
  ·exact .xx hb rfl (.xx hb rfl (.s (pkt hb rfl rfl rfl) rfl (.nil (ck 3 hS rfl (or_t hb) rfl rfl))))
  have hg2 := hb
  exact .g hg2 (.q rfl (.g hg2 (.q rfl (.s (pkf hg2 rfl rfl rfl) rfl (.nil (ck 3 hS rfl (or_f hg2) rfl rfl)))) rfl)) rfl
 intro W hS
 refine .nil ?_
 refine .cs rfl h ?_ ?_ <;> intro h
 ·refine .seq (.region (.q rfl (.q rfl (.s (eqb T.u4 rfl rfl rfl) rfl (.q rfl ?_)))))
  have ⟨b2, hb2, h⟩ := bnd h
  refine .chunk 4 51 (b2) hS ?_ ?_
  ·refine .both (y2.2 == y3.2) (fun hb => ?_) (fun hb => ?_)
   ·have hg3 := hb
    have h := sel_t hb hb2
    refine .g hg3 (.q rfl (.g hg3 (.q rfl ?_) rfl)) rfl
    have ⟨y5, hy5, h⟩ := bnd h
    refine .g hg3 (.c (.call0 hS Tryz.func9 (laws_sameInstrs_ok hy5 hS.p1.lendv hS.lendv) rfl rfl ?_ rfl (by kernel_rfl) rfl rfl)) rfl
    intro W hS
    refine .s (pkt hg3 rfl rfl rfl) rfl ?_
    cases h
    exact .nil (ck 4 hS rfl rfl rfl rfl)
   refine .xx hb rfl (.xx hb rfl (.xx hb rfl ?_))
   cases sel_f hb hb2
   exact .s (pkf hb rfl rfl rfl) rfl (.nil (ck 4 hS rfl rfl rfl rfl))
  intro W hS
  obtain rfl := Option.some.inj h
  exact .q rfl (.nil (.ret (fin_ret (vs := [_]) () (rt rfl rn) rfl (hS.to [] rfl))))
 refine .skip (.seq (.region (.q rfl (.q rfl ?_))))
 have ⟨y6, hy6, h⟩ := bnd h
 refine .c (.call hS Tryz.func10 (impl_TaskPlaces_ok hy6 hS.p2.lendv (hG.at hS (fun _ _ h => h))) rfl rfl ?_ rfl (by kernel_rfl) rfl rfl)
 rintro ⟨v4, q1⟩ W hS
 refine .q rfl (.nil (.seq (.seq (.region (.q rfl (.nil (.block ?_)))))))
 have ⟨y7, hy7, h⟩ := bnd h
 refine .via (.iter (fun s1 E' W' => SubL E' [(5, (sv v2)), (9, (sv v4)), (10, .int .i64 s1)] ∧ Sep No w W' [rowV (sv v4) 3 1 (D.int .i64) y6, rowV (sv v3) 37 5 dInstr y3.1, rowV (sv v2) 37 5 dInstr y2.1, rowV (sv v1) 34 5 dQuad y1.1]) (fun y8 x E' W' => (match y8 with | .inl o1 => x = .ret ∧ laws_FnTaskJumps_F w o1 E' W' | .inr o2 => x = .exit 0 ∧ SubL E' [] ∧ Sep No w W' [rowV (sv v4) 3 1 (D.int .i64) y6, rowV (sv v3) 37 5 dInstr y3.1, rowV (sv v2) 37 5 dInstr y2.1, rowV (sv v1) 34 5 dQuad y1.1])) hy7 ⟨sb rfl, hS.to [0, 0, 0, 0] rfl⟩ ?_) ?_
 ·intro s1 y9 E W h hI
  obtain ⟨hE, hS⟩ := hI
  refine CW.sub hE ?_
  unfold laws_FnTaskJumps_b1 at h
  refine .seq (.seq (.region (.q rfl (.q rfl (.s (lenv hS.p2.lendv T.u26 rfl rfl) rfl (.q rfl (.nil ?_)))))))
  refine .cs rfl h ?_ ?_ <;> intro h
  ·refine .skip (.seq (.block (.seq (.region (.q rfl (.q rfl ?_))))))
   have ⟨x1, hx1, h⟩ := bnd h
   refine .s (ixv hS.p2.lendv hx1 T.u26 T.t37 rfl rfl rfl) rfl (.s (fe T.f37_0 rfl rfl rfl) rfl (.s (lde (RV.flat hS.p2.lendv hx1 rfl) T.t3 rfl rfl rfl rfl rfl) rfl (.q rfl (.q rfl ?_))))
   have ⟨b3, hb3, h⟩ := bnd h
   refine .chunk 12 79 (b3) hS ?_ ?_
   ·refine .both (x1.Op == 20) (fun hb => ?_) (fun hb => ?_)
    ·have hg4 := hb
     have h := sel_t hb hb3
     refine .g hg4 (.q rfl (.g hg4 (.q rfl (.g hg4 (.q rfl (.g hg4 (.q rfl ?_) rfl)) rfl)) rfl)) rfl
     have ⟨x2, hx2, h⟩ := bnd h
     refine .g hg4 (.s (ixv hS.p2.lendv hx2 T.u26 T.t37 rfl rfl rfl) rfl (.g hg4 (.s (fe T.f37_4 rfl rfl rfl) rfl (.g hg4 (.s (lde (RV.flat hS.p2.lendv hx2 rfl) T.t3 rfl rfl rfl rfl rfl) rfl (.g hg4 (.q rfl (.g hg4 (.q rfl ?_) rfl)) rfl)) rfl)) rfl)) rfl
     have ⟨y10, hy10, h⟩ := bnd h
     refine .g hg4 (.c (.call0 hS Tryz.func12 (laws_hasInt_ok hy10 hS.lendv) rfl rfl ?_ rfl (by kernel_rfl) rfl rfl)) rfl
     intro W hS
     refine .g hg4 (.q rfl (.s (pkt hg4 rfl rfl rfl) rfl ?_)) rfl
     cases h
     exact .nil (ck 12 hS rfl rfl rfl rfl)
    refine .xx hb rfl (.xx hb rfl (.xx hb rfl (.xx hb rfl (.xx hb rfl (.xx hb rfl (.xx hb rfl (.xx hb rfl (.xx hb rfl (.xx hb rfl (.xx hb rfl ?_))))))))))
    cases sel_f hb hb3
    exact .s (pkf hb rfl rfl rfl) rfl (.nil (ck 12 hS rfl rfl rfl rfl))
   intro W hS
   refine .q rfl ?_
   have ⟨b4, hb4, h⟩ := bnd h
   refine .chunk 20 100 (b4) hS ?_ ?_
   ·refine .both (b3) (fun hb => ?_) (fun hb => ?_)
    ·refine .xx hb rfl (.xx hb rfl (.xx hb rfl (.xx hb rfl (.xx hb rfl (.xx hb rfl (.xx hb rfl (.xu (.xu (.xu (.xu (.xu (.xu (.xu (.xu (.xu (.xu (.xu (.xx hb rfl ?_) rfl rfl) rfl rfl) rfl rfl) rfl rfl) rfl rfl) rfl rfl) rfl rfl) rfl rfl) rfl rfl) rfl rfl) rfl rfl)))))))
     cases sel_t hb hb4
     exact .s (pkt hb rfl rfl rfl) rfl (.nil (ck 20 hS rfl rfl rfl rfl))
    have hg5 := hb
    have h := sel_f hb hb4
    refine .g hg5 (.q rfl (.g hg5 (.q rfl ?_) rfl)) rfl
    have ⟨x3, hx3, h⟩ := bnd h
    refine .g hg5 (.s (ixv hS.p2.lendv hx3 T.u26 T.t37 rfl rfl rfl) rfl (.g hg5 (.s (fe T.f37_0 rfl rfl rfl) rfl (.g hg5 (.s (lde (RV.flat hS.p2.lendv hx3 rfl) T.t3 rfl rfl rfl rfl rfl) rfl (.g hg5 (.q rfl (.g hg5 (.q rfl ?_) rfl)) rfl)) rfl)) rfl)) rfl
    have ⟨b5, hb5, h⟩ := bnd h
    refine .chunk 12 99 (b5) hS ?_ ?_
    ·refine .both (x3.Op == 18) (fun hb => ?_) (fun hb => ?_)
     ·have hg6 := hb
      have h := sel_t hb hb5
      refine .g hg6 (.q rfl (.g hg6 (.q rfl (.g hg6 (.q rfl ?_) rfl)) rfl)) rfl
      have ⟨x4, hx4, h⟩ := bnd h
      refine .g hg6 (.s (ixv hS.p2.lendv hx4 T.u26 T.t37 rfl rfl rfl) rfl (.g hg6 (.s (fe T.f37_4 rfl rfl rfl) rfl (.g hg6 (.s (lde (RV.flat hS.p2.lendv hx4 rfl) T.t3 rfl rfl rfl rfl rfl) rfl (.g hg6 (.q rfl (.g hg6 (.q rfl (.g hg6 (.q rfl (.g hg6 (.s (lenv hS.p2.lendv T.u26 rfl rfl) rfl (.g hg6 (.q rfl (.g hg5 (.s (pkt hg6 rfl rfl rfl) rfl ?_) rfl)) rfl)) rfl)) rfl)) rfl)) rfl)) rfl)) rfl)) rfl
      cases h
      exact .nil (ck 12 hS rfl rfl rfl rfl)
     refine .xx hb rfl (.xx hb rfl (.xx hb rfl (.xx hb rfl (.xx hb rfl (.xx hb rfl (.xx hb rfl (.xx hb rfl (.xx hb rfl (.xx hb rfl (.xx hb rfl ?_))))))))))
     cases sel_f hb hb5
     exact .g hg5 (.s (pkf hb rfl rfl rfl) rfl (.nil (ck 12 hS rfl rfl rfl rfl))) rfl
    intro W hS
    refine .s (pkf hg5 rfl rfl rfl) rfl ?_
    cases h
    exact .nil (ck 9 hS rfl rfl rfl rfl)
   intro W hS
   refine .nil ?_
   refine .cs rfl h ?_ ?_ <;> intro h
   ·refine .seq (.region (.q rfl (.nil (.ret ?_))))
    cases h
    exact ⟨by simp, rfl, fin_ret (vs := [_]) () (rt rfl rn) rfl (hS.to [] rfl)⟩
   refine .skip (.region (.q rfl (.q rfl (.q rfl (.nil ?_)))))
   cases h
   exact ⟨rfl, sb rfl, hS.to [0, 0, 0, 0] rfl⟩
  refine .exit ?_
  cases h
  exact ⟨by simp, rfl, sb rfl, hS.to [0, 0, 0, 0] rfl⟩
 intro x E W hJ
 rcases y7 with o3 | o4
 ·obtain ⟨rfl, hF⟩ := hJ
  refine ⟨_, fun _ _ h => h, ?_⟩
  cases h
  exact hF
 obtain ⟨rfl, hE, hS⟩ := hJ
 refine ⟨_, hE.sub, ?_⟩
 obtain rfl := Option.some.inj h
 exact .seq (.region (.q rfl (.nil (.ret (fin_ret (vs := [_]) () (rt rfl rn) rfl (hS.to [] rfl))))))
end Go.Proofs.YtjpbdpfkhdekpaaGreatDoor.N
