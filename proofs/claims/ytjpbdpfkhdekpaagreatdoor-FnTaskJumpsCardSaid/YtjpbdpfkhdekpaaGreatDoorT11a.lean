/- Printed by a program of mine: that the program's functions compute it. -/
import Derived.Test.YtjpbdpfkhdekpaaGreatDoorT11
set_option linter.unusedVariables false
set_option maxRecDepth 100000
set_option maxHeartbeats 4000000
namespace Go.Proofs.YtjpbdpfkhdekpaaGreatDoor.N
open Go.Proofs.YtjpbdpfkhdekpaaGreatDoor.X
theorem spec_l6Open_ok {a0 : List Int} {v_0 : Hd} {w : World} {r : L6Rd} (h : spec_l6Open a0 = some r) (q_0 : RV w (Old No w) (sv v_0) 5 1 (D.int .u8) a0) : Calls Tryz.prog 13 #[(sv v_0)] w (Ret No w (fun s : Nat × {x : Hd // ∀ (T : Nat → Prop), RV w T (sv v_0) 5 1 (D.int .u8) a0 → RV w T (sv x) 5 1 (D.int .u8) r.b} => .pointer (some ⟨s.1, 0, none⟩)) (fun s => [.box s.1 50 [(sv s.2.1), .int .i64 r.p]])) := by
 unfold spec_l6Open at h
 refine enter Tryz.func13 rfl rfl ?_
 have hS := Sep.start w
 refine .seq (.region (.q rfl (.nil ?_)))
 have ⟨y1, hy1, h⟩ := bnd h
 refine .seq (CW.via (R' := fun x E' W' => x = .normal ∧ ∃ (v1 : Hd), (∀ (T : Nat → Prop), RV w T (sv v_0) 5 1 (D.int .u8) a0 → RV w T (sv v1) 5 1 (D.int .u8) y1) ∧ SubL E' [(0, (sv v1))] ∧ Sep No w W' []) ?_ ?_)
 ·have h := hy1
  refine .seq (.region (.q rfl (.s (lenv (hS.keep q_0) T.u22 rfl rfl) rfl (.q rfl (.nil ?_)))))
  refine .cs rfl h ?_ ?_ <;> intro h
  ·refine .region (.q rfl ?_)
   have ⟨r1, hr1, h⟩ := bnd h
   refine .s (slv hr1 q_0 T.u22 T.t5 rfl rfl rfl rfl) rfl (.q rfl (.nil ?_))
   obtain rfl := Option.some.inj h
   exact ⟨rfl, (cutH v_0 (Int.toNat 0) 1 r1.length), fun _ q_0 => (slv_rd hr1 q_0), sb rfl, hS.to [] rfl⟩
  refine .skip ?_
  obtain rfl := Option.some.inj h
  exact ⟨rfl, v_0, fun _ q_0 => q_0, sb rfl, hS.to [] rfl⟩
 intro x E W hJ
 obtain ⟨rfl, v2, q2, hE, hS⟩ := hJ
 refine ⟨_, hE.sub, ?_⟩
 refine .seq (.region (.q rfl (.s (bs T.s50 rfl rfl) rfl (.c (.box hS rfl rfl ?_ rfl rfl)))))
 intro g1 W hS
 cases h
 exact .q rfl (.nil (.ret (fin_ret (vs := [_]) (g1, ⟨v2, fun _ q_0 => (q2 _ q_0)⟩) (rt rfl rn) rfl (hS.to [0] rfl))))
theorem spec_l6Rd_pick_ok {a0 : L6Rd} {a1 : Int} {v_0_b : Hd} {g_0 : Nat} {S : Nat → Prop} {w : World} {r : Int × Int} (h : spec_l6Rd_pick a0 a1 = some r) (q_0_b : RV w (Old S w) (sv v_0_b) 5 1 (D.int .u8) a0.b) (hO : Owns w [.box g_0 50 [(sv v_0_b), .int .i64 a0.p]] S) (hlt : ∀ b, S b → b < w.heap.size) : Calls Tryz.prog 15 #[.pointer (some ⟨g_0, 0, none⟩), .int .i64 a1] w (Ret S w (fun s : Unit => .int .i64 r.1) (fun s => [.box g_0 50 [(sv v_0_b), .int .i64 r.2]])) := by
 unfold spec_l6Rd_pick at h
 refine enter Tryz.func15 rfl rfl ?_
 have hS := Sep.startM hO hlt
 refine .seq (.region (.q rfl (.nil (.seq (.region (.q rfl (.q rfl (.q rfl (.s (fa T.f50_1 rfl rfl rfl) rfl (.s (ld T.t3 hS rfl rfl rfl rfl rfl) rfl (.q rfl (.q rfl (.s (fa T.f50_1 rfl rfl rfl) rfl (.c (.st T.t3 hS rfl rfl rfl ?_ rfl rfl rfl rfl rfl)))))))))))))))
 intro W hS
 refine .nil (.seq (.seq (.region (.q rfl (.q rfl (.q rfl (.chunk 7 24 ((decide (a1 < 1)) || ((a0.b.length : Int) == 0)) hS ?_ ?_)))))))
 ·refine .both (decide (a1 < 1)) (fun hb => ?_) (fun hb => ?_)
  ·exact .xx hb rfl (.xx hb rfl (.xx hb rfl (.xx hb rfl (.xx hb rfl (.xx hb rfl (.s (pkt hb rfl rfl rfl) rfl (.nil (ck 7 hS rfl (or_t hb) rfl rfl))))))))
  have hg1 := hb
  exact .g hg1 (.q rfl (.g hg1 (.q rfl (.g hg1 (.s (fa T.f50_0 rfl rfl rfl) rfl (.g hg1 (.s (ld T.t22 hS rfl rfl rfl rfl rfl) rfl (.g hg1 (.s (lenv (hS.keep q_0_b) T.u22 rfl rfl) rfl (.g hg1 (.q rfl (.s (pkf hg1 rfl rfl rfl) rfl (.nil (ck 7 hS rfl (or_f hg1) rfl rfl)))) rfl)) rfl)) rfl)) rfl)) rfl)) rfl
 intro W hS
 refine .nil ?_
 refine .cs rfl h ?_ ?_ <;> intro h
 ·cases h
  exact .seq (.region (.q rfl (.nil (.ret (fin_ret (vs := [_]) () (rt rfl rn) rfl (hS.to [0] rfl))))))
 refine .skip (.seq (.region (.q rfl (.q rfl (.s (fa T.f50_1 rfl rfl rfl) rfl (.s (ld T.t3 hS rfl rfl rfl rfl rfl) rfl (.q rfl (.q rfl (.nil (.seq (.seq (.region (.q rfl (.q rfl (.q rfl (.s (fa T.f50_0 rfl rfl rfl) rfl (.s (ld T.t22 hS rfl rfl rfl rfl rfl) rfl (.s (lenv (hS.keep q_0_b) T.u22 rfl rfl) rfl (.q rfl (.nil ?_))))))))))))))))))))
 refine .cs rfl h ?_ ?_ <;> intro h
 ·refine .seq (.region (.q rfl (.q rfl (.s (fa T.f50_0 rfl rfl rfl) rfl (.s (ld T.t22 hS rfl rfl rfl rfl rfl) rfl (.q rfl ?_))))))
  have ⟨x1, hx1, h⟩ := bnd h
  refine .s (ixv (hS.keep q_0_b) hx1 T.u22 T.t5 rfl rfl rfl) rfl (.s (lde (RV.flat (hS.keep q_0_b) hx1 rfl) T.t5 rfl rfl rfl rfl rfl) rfl (.s (cv T.u5 T.u3 rfl rfl) rfl (.q rfl ?_)))
  have ⟨d1, hd1, h⟩ := bnd h
  cases h
  exact .s (dr hd1 rfl rfl rfl) rfl (.q rfl (.nil (.ret (fin_ret (vs := [_]) () (rt rfl rn) rfl (hS.to [0] rfl)))))
 refine .skip (.seq (.rk 46 hS [0] T.mix ?_))
 intro W hS
 have hT := hS.to [0] rfl
 refine .tp 0 rfl rfl hT (by kernel_rfl) (.tp 1 rfl rfl hT (by kernel_rfl) (.ts 2 rfl (fun W hT => fa T.f50_0 rfl rfl rfl) hT rfl (by kernel_rfl) (.ts 3 rfl (fun W hT => ld T.t22 hT rfl rfl rfl rfl rfl) hT rfl (by kernel_rfl) (.tp 4 rfl rfl hT (by kernel_rfl) (.tp 5 rfl rfl hT (by kernel_rfl) (.tp 6 rfl rfl hT (by kernel_rfl) (.ts 7 rfl (fun W hT => fa T.f50_0 rfl rfl rfl) hT rfl (by kernel_rfl) (.ts 8 rfl (fun W hT => ld T.t22 hT rfl rfl rfl rfl rfl) hT rfl (by kernel_rfl) (.ts 9 rfl (fun W hT => lenv (hS.keep q_0_b) T.u22 rfl rfl) hT rfl (by kernel_rfl) ?_)))))))))
 have ⟨d2, hd2, h⟩ := bnd h
 refine .ts 10 rfl (fun W hT => dr hd2 rfl rfl rfl) hT rfl (by kernel_rfl) ?_
 have ⟨x2, hx2, h⟩ := bnd h
 refine .ts 11 rfl (fun W hT => ixv (hS.keep q_0_b) hx2 T.u22 T.t5 rfl rfl rfl) hT rfl (by kernel_rfl) (.ts 12 rfl (fun W hT => lde (RV.flat (hT.keep q_0_b) hx2 rfl) T.t5 rfl rfl rfl rfl rfl) hT rfl (by kernel_rfl) (.ts 13 rfl (fun W hT => cv T.u5 T.u3 rfl rfl) hT rfl (by kernel_rfl) (.tp 14 rfl rfl hT (by kernel_rfl) (.tp 15 rfl rfl hT (by kernel_rfl) (.tp 16 rfl rfl hT (by kernel_rfl) (.ts 17 rfl (fun W hT => fa T.f50_0 rfl rfl rfl) hT rfl (by kernel_rfl) (.ts 18 rfl (fun W hT => ld T.t22 hT rfl rfl rfl rfl rfl) hT rfl (by kernel_rfl) (.tp 19 rfl rfl hT (by kernel_rfl) (.tp 20 rfl rfl hT (by kernel_rfl) (.tp 21 rfl rfl hT (by kernel_rfl) (.tp 22 rfl rfl hT (by kernel_rfl) (.tp 23 rfl rfl hT (by kernel_rfl) (.ts 24 rfl (fun W hT => fa T.f50_0 rfl rfl rfl) hT rfl (by kernel_rfl) (.ts 25 rfl (fun W hT => ld T.t22 hT rfl rfl rfl rfl rfl) hT rfl (by kernel_rfl) (.ts 26 rfl (fun W hT => lenv (hS.keep q_0_b) T.u22 rfl rfl) hT rfl (by kernel_rfl) ?_)))))))))))))))
 have ⟨d3, hd3, h⟩ := bnd h
 refine .ts 27 rfl (fun W hT => dr hd3 rfl rfl rfl) hT rfl (by kernel_rfl) ?_
 have ⟨x3, hx3, h⟩ := bnd h
 refine .ts 28 rfl (fun W hT => ixv (hS.keep q_0_b) hx3 T.u22 T.t5 rfl rfl rfl) hT rfl (by kernel_rfl) (.ts 29 rfl (fun W hT => lde (RV.flat (hT.keep q_0_b) hx3 rfl) T.t5 rfl rfl rfl rfl rfl) hT rfl (by kernel_rfl) (.ts 30 rfl (fun W hT => cv T.u5 T.u3 rfl rfl) hT rfl (by kernel_rfl) (.tp 31 rfl rfl hT (by kernel_rfl) (.tp 32 rfl rfl hT (by kernel_rfl) (.tp 33 rfl rfl hT (by kernel_rfl) (.tp 34 rfl rfl hT (by kernel_rfl) (.tp 35 rfl rfl hT (by kernel_rfl) (.tp 36 rfl rfl hT (by kernel_rfl) (.tp 37 rfl rfl hT (by kernel_rfl) (.tp 38 rfl rfl hT (by kernel_rfl) (.ts 39 rfl (fun W hT => fa T.f50_0 rfl rfl rfl) hT rfl (by kernel_rfl) (.ts 40 rfl (fun W hT => ld T.t22 hT rfl rfl rfl rfl rfl) hT rfl (by kernel_rfl) (.ts 41 rfl (fun W hT => lenv (hS.keep q_0_b) T.u22 rfl rfl) hT rfl (by kernel_rfl) ?_)))))))))))))
 have ⟨d4, hd4, h⟩ := bnd h
 refine .ts 42 rfl (fun W hT => dq hd4 rfl rfl rfl) hT rfl (by kernel_rfl) (.tp 43 rfl rfl hT (by kernel_rfl) (.tp 44 rfl rfl hT (by kernel_rfl) (.tp 45 rfl rfl hT (by kernel_rfl) (.done (.seq (.region (.q rfl (.q rfl (.q rfl (.q rfl (.q rfl (.nil (.seq (.region (.q rfl (.q rfl ?_)))))))))))) (by kernel_rfl)))))
 have ⟨d5, hd5, h⟩ := bnd h
 cases h
 exact .s (dr hd5 rfl rfl rfl) rfl (.q rfl (.nil (.ret (fin_ret (vs := [_]) () (rt rfl rn) rfl (hS.to [0] rfl)))))
theorem spec_l93Reg_ok {a0 : L6Rd} {v_0_b : Hd} {g_0 : Nat} {S : Nat → Prop} {w : World} {r : Int × Int} (h : spec_l93Reg a0 = some r) (q_0_b : RV w (Old S w) (sv v_0_b) 5 1 (D.int .u8) a0.b) (hO : Owns w [.box g_0 50 [(sv v_0_b), .int .i64 a0.p]] S) (hlt : ∀ b, S b → b < w.heap.size) : Calls Tryz.prog 75 #[.pointer (some ⟨g_0, 0, none⟩)] w (Ret S w (fun s : Unit => .int .i64 r.1) (fun s => [.box g_0 50 [(sv v_0_b), .int .i64 r.2]])) := by
 unfold spec_l93Reg at h
 refine enter Tryz.func75 rfl rfl ?_
 have hS := Sep.startM hO hlt
 refine .seq (.region (.q rfl (.nil (.seq (.region (.q rfl ?_))))))
 have ⟨y1, hy1, h⟩ := bnd h
 refine .c (.callS2 (L0 := [.box g_0 50 [(sv v_0_b), .int .i64 a0.p]]) hS Tryz.func15 (fun S h1 h2 h3 => (spec_l6Rd_pick_ok hy1 (hS.keepS q_0_b h1) h2 (fun b hb => (h1 b hb).2))) rfl rfl ?_ rfl (by kernel_rfl) rfl rfl)
 rintro ⟨⟩ W hS
 cases h
 exact .q rfl (.nil (.ret (fin_ret (vs := [_]) () (rt rfl rn) rfl (hS.to [0] rfl))))
theorem spec_Wrap_ok {a0 : Int} {w : World} {r : Int} (h : spec_Wrap a0 = some r) : Calls Tryz.prog 73 #[.int .i64 a0] w (Ret No w (fun s : Unit => .int .i64 r) (fun s => [])) := by
 unfold spec_Wrap at h
 refine enter Tryz.func73 rfl rfl ?_
 have hS := Sep.start w
 refine .seq (.region (.q rfl (.nil (.seq (.region (.q rfl (.q rfl (.q rfl (.nil (.seq (.seq (.region (.q rfl (.q rfl (.nil ?_)))))))))))))))
 refine .cs rfl h ?_ ?_ <;> intro h
 ·cases h
  exact .seq (.region (.q rfl (.q rfl (.q rfl (.nil (.ret (fin_ret (vs := [_]) () (rt rfl rn) rfl (hS.to [] rfl))))))))
 refine .skip (.seq (.seq (.region (.q rfl (.q rfl (.nil ?_))))))
 refine .cs rfl h ?_ ?_ <;> intro h
 ·cases h
  exact .seq (.region (.q rfl (.q rfl (.q rfl (.nil (.ret (fin_ret (vs := [_]) () (rt rfl rn) rfl (hS.to [] rfl))))))))
 cases h
 exact .skip (.seq (.region (.q rfl (.q rfl (.nil (.ret (fin_ret (vs := [_]) () (rt rfl rn) rfl (hS.to [] rfl))))))))
theorem spec_l91Word_ok {a0 : L6Rd} {v_0_b : Hd} {g_0 : Nat} {S : Nat → Prop} {w : World} {r : Int × Int} (h : spec_l91Word a0 = some r) (q_0_b : RV w (Old S w) (sv v_0_b) 5 1 (D.int .u8) a0.b) (hO : Owns w [.box g_0 50 [(sv v_0_b), .int .i64 a0.p]] S) (hlt : ∀ b, S b → b < w.heap.size) : Calls Tryz.prog 76 #[.pointer (some ⟨g_0, 0, none⟩)] w (Ret S w (fun s : Unit => .int .i64 r.1) (fun s => [.box g_0 50 [(sv v_0_b), .int .i64 r.2]])) := by
 unfold spec_l91Word at h
 refine enter Tryz.func76 rfl rfl ?_
 have hS := Sep.startM hO hlt
 refine .seq (.region (.q rfl (.nil (.seq (.seq (.region (.q rfl ?_)))))))
 have ⟨y1, hy1, h⟩ := bnd h
 refine .c (.callS2 (L0 := [.box g_0 50 [(sv v_0_b), .int .i64 a0.p]]) hS Tryz.func15 (fun S h1 h2 h3 => (spec_l6Rd_pick_ok hy1 (hS.keepS q_0_b h1) h2 (fun b hb => (h1 b hb).2))) rfl rfl ?_ rfl (by kernel_rfl) rfl rfl)
 rintro ⟨⟩ W hS
 refine .nil (.block (.seq (.region (.q rfl (.q rfl (.nil (.cond rfl (fun hb => ?_) (fun hb => ?_))))))))
 ·have h := sel_t hb h
  refine .seq (.region (.c (.liv [(-2147483648), 2147483647, (-1), 0, 1, (-2147483647), 65536, (-65536)] (D.int .i64) T.u31 T.t3 hS rfl rfl rfl rfl ?_ rfl (fun _ => rfl) rfl rfl rfl rfl)))
  intro v1 W hS
  refine .q rfl ?_
  have ⟨y2, hy2, h⟩ := bnd h
  have hS := hS.p1
  refine .c (.callS2 (L0 := [.box g_0 50 [(sv v_0_b), .int .i64 y1.2]]) hS Tryz.func15 (fun S h1 h2 h3 => (spec_l6Rd_pick_ok hy2 (hS.keepS q_0_b h1) h2 (fun b hb => (h1 b hb).2))) rfl rfl ?_ rfl (by kernel_rfl) rfl rfl)
  rintro ⟨⟩ W hS
  have ⟨x1, hx1, h⟩ := bnd h
  cases h
  exact .s (ixv hS.p1.lendv hx1 T.u31 T.t3 rfl rfl rfl) rfl (.s (lde (RV.flat hS.p1.lendv hx1 rfl) T.t3 rfl rfl rfl rfl rfl) rfl (.q rfl (.nil (.ret (fin_ret (vs := [_]) () (rt rfl rn) rfl (hS.to [0] rfl))))))
 have h := sel_f hb h
 refine .seq (.region (.q rfl (.q rfl (.nil (.cond rfl (fun hb => ?_) (fun hb => ?_))))))
 ·have h := sel_t hb h
  refine .seq (.region (.q rfl ?_))
  have ⟨y3, hy3, h⟩ := bnd h
  refine .c (.callS2 (L0 := [.box g_0 50 [(sv v_0_b), .int .i64 y1.2]]) hS Tryz.func15 (fun S h1 h2 h3 => (spec_l6Rd_pick_ok hy3 (hS.keepS q_0_b h1) h2 (fun b hb => (h1 b hb).2))) rfl rfl ?_ rfl (by kernel_rfl) rfl rfl)
  rintro ⟨⟩ W hS
  refine .q rfl (.q rfl ?_)
  have ⟨y4, hy4, h⟩ := bnd h
  refine .c (.callS2 (L0 := [.box g_0 50 [(sv v_0_b), .int .i64 y3.2]]) hS Tryz.func15 (fun S h1 h2 h3 => (spec_l6Rd_pick_ok hy4 (hS.keepS q_0_b h1) h2 (fun b hb => (h1 b hb).2))) rfl rfl ?_ rfl (by kernel_rfl) rfl rfl)
  rintro ⟨⟩ W hS
  refine .q rfl (.q rfl (.q rfl ?_))
  have ⟨y5, hy5, h⟩ := bnd h
  refine .c (.callS2 (L0 := [.box g_0 50 [(sv v_0_b), .int .i64 y4.2]]) hS Tryz.func15 (fun S h1 h2 h3 => (spec_l6Rd_pick_ok hy5 (hS.keepS q_0_b h1) h2 (fun b hb => (h1 b hb).2))) rfl rfl ?_ rfl (by kernel_rfl) rfl rfl)
  rintro ⟨⟩ W hS
  refine .q rfl (.q rfl ?_)
  have ⟨y6, hy6, h⟩ := bnd h
  refine .c (.callS2 (L0 := [.box g_0 50 [(sv v_0_b), .int .i64 y5.2]]) hS Tryz.func15 (fun S h1 h2 h3 => (spec_l6Rd_pick_ok hy6 (hS.keepS q_0_b h1) h2 (fun b hb => (h1 b hb).2))) rfl rfl ?_ rfl (by kernel_rfl) rfl rfl)
  rintro ⟨⟩ W hS
  refine .q rfl (.q rfl ?_)
  have ⟨y7, hy7, h⟩ := bnd h
  refine .c (.call0 hS Tryz.func73 (spec_Wrap_ok hy7) rfl rfl ?_ rfl (by kernel_rfl) rfl rfl)
  intro W hS
  cases h
  exact .q rfl (.nil (.ret (fin_ret (vs := [_]) () (rt rfl rn) rfl (hS.to [0] rfl))))
 have h := sel_f hb h
 refine .seq (.region (.q rfl (.q rfl (.nil (.cond rfl (fun hb => ?_) (fun hb => ?_))))))
 ·have h := sel_t hb h
  refine .seq (.region (.q rfl ?_))
  have ⟨y8, hy8, h⟩ := bnd h
  refine .c (.callS2 (L0 := [.box g_0 50 [(sv v_0_b), .int .i64 y1.2]]) hS Tryz.func15 (fun S h1 h2 h3 => (spec_l6Rd_pick_ok hy8 (hS.keepS q_0_b h1) h2 (fun b hb => (h1 b hb).2))) rfl rfl ?_ rfl (by kernel_rfl) rfl rfl)
  rintro ⟨⟩ W hS
  cases h
  exact .q rfl (.q rfl (.nil (.ret (fin_ret (vs := [_]) () (rt rfl rn) rfl (hS.to [0] rfl)))))
 have h := sel_f hb h
 refine .skip (.seq (.region (.q rfl ?_)))
 have ⟨y9, hy9, h⟩ := bnd h
 refine .c (.callS2 (L0 := [.box g_0 50 [(sv v_0_b), .int .i64 y1.2]]) hS Tryz.func15 (fun S h1 h2 h3 => (spec_l6Rd_pick_ok hy9 (hS.keepS q_0_b h1) h2 (fun b hb => (h1 b hb).2))) rfl rfl ?_ rfl (by kernel_rfl) rfl rfl)
 rintro ⟨⟩ W hS
 cases h
 exact .q rfl (.nil (.ret (fin_ret (vs := [_]) () (rt rfl rn) rfl (hS.to [0] rfl))))
theorem spec_l91Op_ok {a0 : L6Rd} {v_0_b : Hd} {g_0 : Nat} {S : Nat → Prop} {w : World} {r : Int × Int} (h : spec_l91Op a0 = some r) (q_0_b : RV w (Old S w) (sv v_0_b) 5 1 (D.int .u8) a0.b) (hO : Owns w [.box g_0 50 [(sv v_0_b), .int .i64 a0.p]] S) (hlt : ∀ b, S b → b < w.heap.size) : Calls Tryz.prog 77 #[.pointer (some ⟨g_0, 0, none⟩)] w (Ret S w (fun s : Unit => .int .i64 r.1) (fun s => [.box g_0 50 [(sv v_0_b), .int .i64 r.2]])) := by
 unfold spec_l91Op at h
 refine enter Tryz.func77 rfl rfl ?_
 have hS := Sep.startM hO hlt
 refine .seq (.region (.q rfl (.nil (.seq (.region (.q rfl ?_))))))
 have ⟨y1, hy1, h⟩ := bnd h
 refine .c (.callS2 (L0 := [.box g_0 50 [(sv v_0_b), .int .i64 a0.p]]) hS Tryz.func15 (fun S h1 h2 h3 => (spec_l6Rd_pick_ok hy1 (hS.keepS q_0_b h1) h2 (fun b hb => (h1 b hb).2))) rfl rfl ?_ rfl (by kernel_rfl) rfl rfl)
 rintro ⟨⟩ W hS
 cases h
 exact .q rfl (.q rfl (.nil (.ret (fin_ret (vs := [_]) () (rt rfl rn) rfl (hS.to [0] rfl)))))
theorem spec_l93Quad_ok {a0 : L6Rd} {a1 : Int} {v_0_b : Hd} {g_0 : Nat} {S : Nat → Prop} {w : World} {r : Quad × Int} (h : spec_l93Quad a0 a1 = some r) (q_0_b : RV w (Old S w) (sv v_0_b) 5 1 (D.int .u8) a0.b) (hO : Owns w [.box g_0 50 [(sv v_0_b), .int .i64 a0.p]] S) (hlt : ∀ b, S b → b < w.heap.size) : Calls Tryz.prog 62 #[.pointer (some ⟨g_0, 0, none⟩), .int .i64 a1] w (Ret S w (fun s : Unit => .agg #[.int .i64 r.1.Op, .int .i64 r.1.Dst, .int .i64 r.1.A, .int .i64 r.1.B, .int .i64 r.1.N]) (fun s => [.box g_0 50 [(sv v_0_b), .int .i64 r.2]])) := by
 unfold spec_l93Quad at h
 refine enter Tryz.func62 rfl rfl ?_
 have hS := Sep.startM hO hlt
 refine .seq (.region (.c (.alloc T.t34 hS ?_ rfl rfl rfl)))
 intro g1 W hS
 refine .nil (.seq (.seq (.region (.q rfl ?_))))
 have ⟨y1, hy1, h⟩ := bnd h
 have hS := hS.p1
 refine .c (.callS2 (L0 := [.box g_0 50 [(sv v_0_b), .int .i64 a0.p]]) hS Tryz.func15 (fun S h1 h2 h3 => (spec_l6Rd_pick_ok hy1 (hS.keepS q_0_b h1) h2 (fun b hb => (h1 b hb).2))) rfl rfl ?_ rfl (by kernel_rfl) rfl rfl)
 rintro ⟨⟩ W hS
 refine .nil (.block ?_)
 have ⟨y2, hy2, h⟩ := bnd h
 refine .seq (CW.via (R' := fun x E' W' => x = .normal ∧ SubL E' [(0, .pointer (some ⟨g_0, 0, none⟩)), (1, .int .i64 a1), (4, .pointer (some ⟨g1, 0, none⟩)), (13, .int .i64 y1.1), (14, .bool y2)] ∧ Sep S w W' [.box g_0 50 [(sv v_0_b), .int .i64 y1.2], .box g1 34 [.int .i64 0, .int .i64 0, .int .i64 0, .int .i64 0, .int .i64 0]]) ?_ ?_)
 ·have h := hy2
  refine .seq (.region (.q rfl (.q rfl (.nil ?_))))
  refine .cs rfl h ?_ ?_ <;> intro h
  ·refine .skip ?_
   cases h
   exact ⟨rfl, sb rfl, hS.to [0, 0] rfl⟩
  refine .region (.q rfl (.q rfl (.nil ?_)))
  cases h
  exact ⟨rfl, sb rfl, hS.to [0, 0] rfl⟩
 intro x E W hJ
 obtain ⟨rfl, hE, hS⟩ := hJ
 refine ⟨_, hE.sub, ?_⟩
 refine .cond rfl (fun hb => ?_) (fun hb => ?_)
 ·have h := sel_t hb h
  refine .seq (.region (.q rfl ?_))
  have ⟨y3, hy3, h⟩ := bnd h
  refine .c (.callS2 (L0 := [.box g_0 50 [(sv v_0_b), .int .i64 y1.2]]) hS Tryz.func75 (fun S h1 h2 h3 => (spec_l93Reg_ok hy3 (hS.keepS q_0_b h1) h2 (fun b hb => (h1 b hb).2))) rfl rfl ?_ rfl (by kernel_rfl) rfl rfl)
  rintro ⟨⟩ W hS
  refine .q rfl ?_
  have ⟨y4, hy4, h⟩ := bnd h
  refine .c (.callS2 (L0 := [.box g_0 50 [(sv v_0_b), .int .i64 y3.2]]) hS Tryz.func76 (fun S h1 h2 h3 => (spec_l91Word_ok hy4 (hS.keepS q_0_b h1) h2 (fun b hb => (h1 b hb).2))) rfl rfl ?_ rfl (by kernel_rfl) rfl rfl)
  rintro ⟨⟩ W hS
  refine .c (.liv [0, 1, 2, y4.1] (D.int .i64) T.u31 T.t3 hS rfl rfl rfl rfl ?_ rfl (fun _ => rfl) rfl rfl rfl rfl)
  intro v1 W hS
  refine .q rfl ?_
  have ⟨y5, hy5, h⟩ := bnd h
  have hS := hS.p1
  refine .c (.callS2 (L0 := [.box g_0 50 [(sv v_0_b), .int .i64 y4.2]]) hS Tryz.func15 (fun S h1 h2 h3 => (spec_l6Rd_pick_ok hy5 (hS.keepS q_0_b h1) h2 (fun b hb => (h1 b hb).2))) rfl rfl ?_ rfl (by kernel_rfl) rfl rfl)
  rintro ⟨⟩ W hS
  have ⟨x1, hx1, h⟩ := bnd h
  refine .s (ixv hS.p1.lendv hx1 T.u31 T.t3 rfl rfl rfl) rfl (.s (lde (RV.flat hS.p1.lendv hx1 rfl) T.t3 rfl rfl rfl rfl rfl) rfl (.s (bs T.s34 rfl rfl) rfl (.c (.st T.t34 hS.p2 rfl rfl rfl ?_ rfl rfl rfl rfl rfl))))
  intro W hS
  cases h
  exact .nil (.ret (fin_ret (vs := [_]) () (rc hS T.t34 rfl rn rfl rfl) rfl (hS.to [1] rfl)))
 have h := sel_f hb h
 have ⟨y6, hy6, h⟩ := bnd h
 refine .seq (CW.via (R' := fun x E' W' => x = .normal ∧ SubL E' [(0, .pointer (some ⟨g_0, 0, none⟩)), (1, .int .i64 a1), (4, .pointer (some ⟨g1, 0, none⟩)), (13, .int .i64 y1.1), (27, .bool y6)] ∧ Sep S w W' [.box g_0 50 [(sv v_0_b), .int .i64 y1.2], .box g1 34 [.int .i64 0, .int .i64 0, .int .i64 0, .int .i64 0, .int .i64 0]]) ?_ ?_)
 ·have h := hy6
  refine .seq (.region (.q rfl (.q rfl (.nil ?_))))
  refine .cs rfl h ?_ ?_ <;> intro h
  ·refine .skip ?_
   cases h
   exact ⟨rfl, sb rfl, hS.to [0, 0] rfl⟩
  refine .region (.q rfl (.q rfl (.nil ?_)))
  cases h
  exact ⟨rfl, sb rfl, hS.to [0, 0] rfl⟩
 intro x E W hJ
 obtain ⟨rfl, hE, hS⟩ := hJ
 refine ⟨_, hE.sub, ?_⟩
 refine .cond rfl (fun hb => ?_) (fun hb => ?_)
 ·have h := sel_t hb h
  refine .seq (.region (.q rfl ?_))
  have ⟨y7, hy7, h⟩ := bnd h
  refine .c (.callS2 (L0 := [.box g_0 50 [(sv v_0_b), .int .i64 y1.2]]) hS Tryz.func75 (fun S h1 h2 h3 => (spec_l93Reg_ok hy7 (hS.keepS q_0_b h1) h2 (fun b hb => (h1 b hb).2))) rfl rfl ?_ rfl (by kernel_rfl) rfl rfl)
  rintro ⟨⟩ W hS
  refine .q rfl (.nil (.seq (.region (.q rfl (.q rfl ?_)))))
  have ⟨y8, hy8, h⟩ := bnd h
  refine .c (.callS2 (L0 := [.box g_0 50 [(sv v_0_b), .int .i64 y7.2]]) hS Tryz.func75 (fun S h1 h2 h3 => (spec_l93Reg_ok hy8 (hS.keepS q_0_b h1) h2 (fun b hb => (h1 b hb).2))) rfl rfl ?_ rfl (by kernel_rfl) rfl rfl)
  rintro ⟨⟩ W hS
  refine .s (bs T.s34 rfl rfl) rfl (.c (.st T.t34 hS.p1 rfl rfl rfl ?_ rfl rfl rfl rfl rfl))
  intro W hS
  cases h
  exact .nil (.ret (fin_ret (vs := [_]) () (rc hS T.t34 rfl rn rfl rfl) rfl (hS.to [1] rfl)))
 have h := sel_f hb h
 have ⟨y9, hy9, h⟩ := bnd h
 refine .seq (CW.via (R' := fun x E' W' => x = .normal ∧ SubL E' [(0, .pointer (some ⟨g_0, 0, none⟩)), (1, .int .i64 a1), (4, .pointer (some ⟨g1, 0, none⟩)), (13, .int .i64 y1.1), (36, .bool y9)] ∧ Sep S w W' [.box g_0 50 [(sv v_0_b), .int .i64 y1.2], .box g1 34 [.int .i64 0, .int .i64 0, .int .i64 0, .int .i64 0, .int .i64 0]]) ?_ ?_)
 ·have h := hy9
  refine .seq (.region (.q rfl (.q rfl (.nil ?_))))
  refine .cs rfl h ?_ ?_ <;> intro h
  ·refine .skip ?_
   cases h
   exact ⟨rfl, sb rfl, hS.to [0, 0] rfl⟩
  refine .seq (.region (.q rfl (.q rfl (.nil ?_))))
  refine .cs rfl h ?_ ?_ <;> intro h
  ·refine .skip ?_
   cases h
   exact ⟨rfl, sb rfl, hS.to [0, 0] rfl⟩
  refine .region (.q rfl (.q rfl (.nil ?_)))
  cases h
  exact ⟨rfl, sb rfl, hS.to [0, 0] rfl⟩
 intro x E W hJ
 obtain ⟨rfl, hE, hS⟩ := hJ
 refine ⟨_, hE.sub, ?_⟩
 refine .cond rfl (fun hb => ?_) (fun hb => ?_)
 ·have h := sel_t hb h
  refine .seq (.region (.q rfl ?_))
  have ⟨y10, hy10, h⟩ := bnd h
  refine .c (.callS2 (L0 := [.box g_0 50 [(sv v_0_b), .int .i64 y1.2]]) hS Tryz.func75 (fun S h1 h2 h3 => (spec_l93Reg_ok hy10 (hS.keepS q_0_b h1) h2 (fun b hb => (h1 b hb).2))) rfl rfl ?_ rfl (by kernel_rfl) rfl rfl)
  rintro ⟨⟩ W hS
  refine .q rfl (.nil (.seq (.region (.q rfl ?_))))
  have ⟨y11, hy11, h⟩ := bnd h
  refine .c (.callS2 (L0 := [.box g_0 50 [(sv v_0_b), .int .i64 y10.2]]) hS Tryz.func75 (fun S h1 h2 h3 => (spec_l93Reg_ok hy11 (hS.keepS q_0_b h1) h2 (fun b hb => (h1 b hb).2))) rfl rfl ?_ rfl (by kernel_rfl) rfl rfl)
  rintro ⟨⟩ W hS
  refine .q rfl (.nil (.seq (.region (.q rfl ?_))))
  have ⟨y12, hy12, h⟩ := bnd h
  refine .c (.callS2 (L0 := [.box g_0 50 [(sv v_0_b), .int .i64 y11.2]]) hS Tryz.func75 (fun S h1 h2 h3 => (spec_l93Reg_ok hy12 (hS.keepS q_0_b h1) h2 (fun b hb => (h1 b hb).2))) rfl rfl ?_ rfl (by kernel_rfl) rfl rfl)
  rintro ⟨⟩ W hS
  refine .q rfl (.nil (.seq (.region (.q rfl (.q rfl (.q rfl (.q rfl ?_)))))))
  have ⟨y13, hy13, h⟩ := bnd h
  refine .c (.callS2 (L0 := [.box g_0 50 [(sv v_0_b), .int .i64 y12.2]]) hS Tryz.func77 (fun S h1 h2 h3 => (spec_l91Op_ok hy13 (hS.keepS q_0_b h1) h2 (fun b hb => (h1 b hb).2))) rfl rfl ?_ rfl (by kernel_rfl) rfl rfl)
  rintro ⟨⟩ W hS
  refine .s (bs T.s34 rfl rfl) rfl (.c (.st T.t34 hS.p1 rfl rfl rfl ?_ rfl rfl rfl rfl rfl))
  intro W hS
  cases h
  exact .nil (.ret (fin_ret (vs := [_]) () (rc hS T.t34 rfl rn rfl rfl) rfl (hS.to [1] rfl)))
 have h := sel_f hb h
 refine .seq (.region (.q rfl (.q rfl (.nil (.cond rfl (fun hb => ?_) (fun hb => ?_))))))
 ·have h := sel_t hb h
  refine .seq (.region (.q rfl (.q rfl ?_)))
  have ⟨y14, hy14, h⟩ := bnd h
  refine .c (.callS2 (L0 := [.box g_0 50 [(sv v_0_b), .int .i64 y1.2]]) hS Tryz.func15 (fun S h1 h2 h3 => (spec_l6Rd_pick_ok hy14 (hS.keepS q_0_b h1) h2 (fun b hb => (h1 b hb).2))) rfl rfl ?_ rfl (by kernel_rfl) rfl rfl)
  rintro ⟨⟩ W hS
  refine .s (bs T.s34 rfl rfl) rfl (.c (.st T.t34 hS.p1 rfl rfl rfl ?_ rfl rfl rfl rfl rfl))
  intro W hS
  cases h
  exact .nil (.ret (fin_ret (vs := [_]) () (rc hS T.t34 rfl rn rfl rfl) rfl (hS.to [1] rfl)))
 have h := sel_f hb h
 refine .seq (.region (.q rfl (.q rfl (.nil (.cond rfl (fun hb => ?_) (fun hb => ?_))))))
 ·have h := sel_t hb h
  refine .seq (.region (.q rfl ?_))
  have ⟨y15, hy15, h⟩ := bnd h
  refine .c (.callS2 (L0 := [.box g_0 50 [(sv v_0_b), .int .i64 y1.2]]) hS Tryz.func75 (fun S h1 h2 h3 => (spec_l93Reg_ok hy15 (hS.keepS q_0_b h1) h2 (fun b hb => (h1 b hb).2))) rfl rfl ?_ rfl (by kernel_rfl) rfl rfl)
  rintro ⟨⟩ W hS
  refine .q rfl (.nil (.seq (.region (.q rfl (.q rfl (.q rfl ?_))))))
  have ⟨y16, hy16, h⟩ := bnd h
  refine .c (.callS2 (L0 := [.box g_0 50 [(sv v_0_b), .int .i64 y15.2]]) hS Tryz.func15 (fun S h1 h2 h3 => (spec_l6Rd_pick_ok hy16 (hS.keepS q_0_b h1) h2 (fun b hb => (h1 b hb).2))) rfl rfl ?_ rfl (by kernel_rfl) rfl rfl)
  rintro ⟨⟩ W hS
  refine .s (bs T.s34 rfl rfl) rfl (.c (.st T.t34 hS.p1 rfl rfl rfl ?_ rfl rfl rfl rfl rfl))
  intro W hS
  cases h
  exact .nil (.ret (fin_ret (vs := [_]) () (rc hS T.t34 rfl rn rfl rfl) rfl (hS.to [1] rfl)))
 have h := sel_f hb h
 refine .seq (.region (.q rfl (.q rfl (.nil (.cond rfl (fun hb => ?_) (fun hb => ?_))))))
 ·have h := sel_t hb h
  refine .seq (.region (.q rfl ?_))
  have ⟨y17, hy17, h⟩ := bnd h
  refine .c (.callS2 (L0 := [.box g_0 50 [(sv v_0_b), .int .i64 y1.2]]) hS Tryz.func75 (fun S h1 h2 h3 => (spec_l93Reg_ok hy17 (hS.keepS q_0_b h1) h2 (fun b hb => (h1 b hb).2))) rfl rfl ?_ rfl (by kernel_rfl) rfl rfl)
  rintro ⟨⟩ W hS
  refine .q rfl (.nil (.seq (.region (.q rfl (.q rfl ?_)))))
  have ⟨y18, hy18, h⟩ := bnd h
  refine .c (.callS2 (L0 := [.box g_0 50 [(sv v_0_b), .int .i64 y17.2]]) hS Tryz.func15 (fun S h1 h2 h3 => (spec_l6Rd_pick_ok hy18 (hS.keepS q_0_b h1) h2 (fun b hb => (h1 b hb).2))) rfl rfl ?_ rfl (by kernel_rfl) rfl rfl)
  rintro ⟨⟩ W hS
  refine .s (bs T.s34 rfl rfl) rfl (.c (.st T.t34 hS.p1 rfl rfl rfl ?_ rfl rfl rfl rfl rfl))
  intro W hS
  cases h
  exact .nil (.ret (fin_ret (vs := [_]) () (rc hS T.t34 rfl rn rfl rfl) rfl (hS.to [1] rfl)))
 have h := sel_f hb h
 refine .seq (.region (.q rfl (.q rfl (.nil (.cond rfl (fun hb => ?_) (fun hb => ?_))))))
 ·have h := sel_t hb h
  refine .seq (.region (.q rfl ?_))
  have ⟨y19, hy19, h⟩ := bnd h
  refine .c (.callS2 (L0 := [.box g_0 50 [(sv v_0_b), .int .i64 y1.2]]) hS Tryz.func75 (fun S h1 h2 h3 => (spec_l93Reg_ok hy19 (hS.keepS q_0_b h1) h2 (fun b hb => (h1 b hb).2))) rfl rfl ?_ rfl (by kernel_rfl) rfl rfl)
  rintro ⟨⟩ W hS
  refine .q rfl (.nil (.seq (.region (.q rfl (.q rfl ?_)))))
  have ⟨y20, hy20, h⟩ := bnd h
  refine .c (.callS2 (L0 := [.box g_0 50 [(sv v_0_b), .int .i64 y19.2]]) hS Tryz.func15 (fun S h1 h2 h3 => (spec_l6Rd_pick_ok hy20 (hS.keepS q_0_b h1) h2 (fun b hb => (h1 b hb).2))) rfl rfl ?_ rfl (by kernel_rfl) rfl rfl)
  rintro ⟨⟩ W hS
  refine .s (bs T.s34 rfl rfl) rfl (.c (.st T.t34 hS.p1 rfl rfl rfl ?_ rfl rfl rfl rfl rfl))
  intro W hS
  cases h
  exact .nil (.ret (fin_ret (vs := [_]) () (rc hS T.t34 rfl rn rfl rfl) rfl (hS.to [1] rfl)))
 have h := sel_f hb h
 refine .skip (.seq (.seq (.region (.q rfl ?_))))
 have ⟨y21, hy21, h⟩ := bnd h
 refine .c (.callS2 (L0 := [.box g_0 50 [(sv v_0_b), .int .i64 y1.2]]) hS Tryz.func15 (fun S h1 h2 h3 => (spec_l6Rd_pick_ok hy21 (hS.keepS q_0_b h1) h2 (fun b hb => (h1 b hb).2))) rfl rfl ?_ rfl (by kernel_rfl) rfl rfl)
 rintro ⟨⟩ W hS
 refine .q rfl (.nil (.cond rfl (fun hb => ?_) (fun hb => ?_)))
 ·have h := sel_t hb h
  refine .seq (.region (.s (bs T.s34 rfl rfl) rfl (.c (.st T.t34 hS.p1 rfl rfl rfl ?_ rfl rfl rfl rfl rfl))))
  intro W hS
  cases h
  exact .nil (.ret (fin_ret (vs := [_]) () (rc hS T.t34 rfl rn rfl rfl) rfl (hS.to [1] rfl)))
 have h := sel_f hb h
 refine .skip (.seq (.region (.q rfl ?_)))
 have ⟨y22, hy22, h⟩ := bnd h
 refine .c (.callS2 (L0 := [.box g_0 50 [(sv v_0_b), .int .i64 y21.2]]) hS Tryz.func75 (fun S h1 h2 h3 => (spec_l93Reg_ok hy22 (hS.keepS q_0_b h1) h2 (fun b hb => (h1 b hb).2))) rfl rfl ?_ rfl (by kernel_rfl) rfl rfl)
 rintro ⟨⟩ W hS
 refine .s (bs T.s34 rfl rfl) rfl (.c (.st T.t34 hS.p1 rfl rfl rfl ?_ rfl rfl rfl rfl rfl))
 intro W hS
 cases h
 exact .nil (.ret (fin_ret (vs := [_]) () (rc hS T.t34 rfl rn rfl rfl) rfl (hS.to [1] rfl)))
theorem spec_l93Random_ok {a0 : L6Rd} {v_0_b : Hd} {g_0 : Nat} {S : Nat → Prop} {w : World} {r : (List Quad) × Int} (h : spec_l93Random a0 = some r) (q_0_b : RV w (Old S w) (sv v_0_b) 5 1 (D.int .u8) a0.b) (hO : Owns w [.box g_0 50 [(sv v_0_b), .int .i64 a0.p]] S) (hlt : ∀ b, S b → b < w.heap.size) : Calls Tryz.prog 41 #[.pointer (some ⟨g_0, 0, none⟩)] w (Ret S w (fun s : Hd => (sv s)) (fun s => [.box g_0 50 [(sv v_0_b), .int .i64 r.2], rowV (sv s) 34 5 dQuad r.1])) := by
 unfold spec_l93Random at h
 refine enter Tryz.func41 rfl rfl ?_
 have hS := Sep.startM hO hlt
 refine .seq (.region (.q rfl (.nil (.seq (.region (.q rfl ?_))))))
 have ⟨y1, hy1, h⟩ := bnd h
 refine .c (.callS2 (L0 := [.box g_0 50 [(sv v_0_b), .int .i64 a0.p]]) hS Tryz.func15 (fun S h1 h2 h3 => (spec_l6Rd_pick_ok hy1 (hS.keepS q_0_b h1) h2 (fun b hb => (h1 b hb).2))) rfl rfl ?_ rfl (by kernel_rfl) rfl rfl)
 rintro ⟨⟩ W hS
 refine .q rfl (.q rfl (.nil (.seq (.region (.c (.liv [] dQuad T.u23 T.t34 hS rfl rfl rfl rfl ?_ rfl (fun _ => rfl) rfl rfl rfl rfl))))))
 intro v1 W hS
 refine .q rfl (.nil (.seq (.seq (.region (.q rfl (.nil (.block ?_)))))))
 have ⟨y2, hy2, h⟩ := bnd h
 refine .via (.iter (fun s1 E' W' => ∃ (v4 : Hd), SubL E' [(0, .pointer (some ⟨g_0, 0, none⟩)), (3, .int .i64 (w64 (1 + y1.1))), (4, (sv v4)), (5, .int .i64 s1.2.1)] ∧ Sep S w W' [.box g_0 50 [(sv v_0_b), .int .i64 s1.2.2], rowV (sv v4) 34 5 dQuad s1.1]) (fun y3 x E' W' => x = .exit 0 ∧ ∃ (v5 : Hd), SubL E' [(0, .pointer (some ⟨g_0, 0, none⟩)), (3, .int .i64 (w64 (1 + y1.1))), (4, (sv v5))] ∧ Sep S w W' [.box g_0 50 [(sv v_0_b), .int .i64 y3.2], rowV (sv v5) 34 5 dQuad y3.1]) hy2 ⟨v1, sb rfl, hS.to [1, 0] rfl⟩ ?_) ?_
 ·intro s1 y4 E W h hI
  obtain ⟨v3, hE, hS⟩ := hI
  refine CW.sub hE ?_
  unfold spec_l93Random_b1 at h
  refine .seq (.seq (.region (.q rfl (.q rfl (.q rfl (.q rfl (.nil (.cond rfl (fun hb => ?_) (fun hb => ?_)))))))))
  ·have h := sel_t hb h
   refine .skip (.seq (.block (.region (.q rfl (.q rfl (.q rfl ?_))))))
   have ⟨y5, hy5, h⟩ := bnd h
   refine .c (.callS2 (L0 := [.box g_0 50 [(sv v_0_b), .int .i64 s1.2.2]]) hS Tryz.func62 (fun S h1 h2 h3 => (spec_l93Quad_ok hy5 (hS.keepS q_0_b h1) h2 (fun b hb => (h1 b hb).2))) rfl rfl ?_ rfl (by kernel_rfl) rfl rfl)
   rintro ⟨⟩ W hS
   refine .c (.liv [y5.1] dQuad T.u23 T.t34 hS rfl rfl rfl rfl ?_ rfl (fun _ => rfl) rfl rfl rfl rfl)
   intro v6 W hS
   have ⟨r1, hr1, h⟩ := bnd h
   have hT0 := hS.p2
   refine .c (.apprv hr1 hT0 hT0.p1.lendv (fun _ => rfl) T.u23 T.t34 rfl rfl rfl ?_ rfl rfl rfl rfl rfl)
   intro v7 W hS
   refine .q rfl (.nil (.region (.q rfl (.q rfl (.q rfl (.nil ?_))))))
   cases h
   exact ⟨rfl, v7, sb rfl, hS.to [2, 0] rfl⟩
  have h := sel_f hb h
  refine .exit ?_
  cases h
  exact ⟨by simp, rfl, v3, sb rfl, hS.to [0, 0] rfl⟩
 intro x E W hJ
 obtain ⟨rfl, v8, hE, hS⟩ := hJ
 refine ⟨_, hE.sub, ?_⟩
 refine .seq (.seq (.region (.q rfl ?_)))
 have ⟨y6, hy6, h⟩ := bnd h
 refine .c (.callS2 (L0 := [.box g_0 50 [(sv v_0_b), .int .i64 y2.2]]) hS Tryz.func15 (fun S h1 h2 h3 => (spec_l6Rd_pick_ok hy6 (hS.keepS q_0_b h1) h2 (fun b hb => (h1 b hb).2))) rfl rfl ?_ rfl (by kernel_rfl) rfl rfl)
 rintro ⟨⟩ W hS
 refine .q rfl (.nil (.cond rfl (fun hb => ?_) (fun hb => ?_)))
 ·have h := sel_t hb h
  refine .seq (.region (.q rfl (.q rfl (.q rfl ?_))))
  have ⟨y7, hy7, h⟩ := bnd h
  refine .c (.callS2 (L0 := [.box g_0 50 [(sv v_0_b), .int .i64 y6.2]]) hS Tryz.func15 (fun S h1 h2 h3 => (spec_l6Rd_pick_ok hy7 (hS.keepS q_0_b h1) h2 (fun b hb => (h1 b hb).2))) rfl rfl ?_ rfl (by kernel_rfl) rfl rfl)
  rintro ⟨⟩ W hS
  refine .s (bs T.s34 rfl rfl) rfl (.c (.liv [(Quad.mk 4 0 0 0 y7.1)] dQuad T.u23 T.t34 hS rfl rfl rfl rfl ?_ rfl (fun _ => rfl) rfl rfl rfl rfl))
  intro v9 W hS
  have ⟨r2, hr2, h⟩ := bnd h
  have hT0 := hS.p2
  refine .c (.apprv hr2 hT0 hT0.p1.lendv (fun _ => rfl) T.u23 T.t34 rfl rfl rfl ?_ rfl rfl rfl rfl rfl)
  intro v10 W hS
  cases h
  exact .q rfl (.nil (.ret (fin_ret (vs := [_]) v10 (rt rfl rn) rfl (hS.to [2, 0] rfl))))
 have h := sel_f hb h
 refine .skip (.seq (.region (.q rfl (.s (bs T.s34 rfl rfl) rfl (.c (.liv [(Quad.mk 10 0 0 0 0)] dQuad T.u23 T.t34 hS rfl rfl rfl rfl ?_ rfl (fun _ => rfl) rfl rfl rfl rfl))))))
 intro v11 W hS
 have ⟨r3, hr3, h⟩ := bnd h
 have hT0 := hS.p2
 refine .c (.apprv hr3 hT0 hT0.p1.lendv (fun _ => rfl) T.u23 T.t34 rfl rfl rfl ?_ rfl rfl rfl rfl rfl)
 intro v12 W hS
 cases h
 exact .q rfl (.nil (.ret (fin_ret (vs := [_]) v12 (rt rfl rn) rfl (hS.to [2, 0] rfl))))
def spec_l11Count_C (F : List Stmt → Option (Int)) : Prop := ∀ {a0 : List Stmt} {v_0 : Hd} {w : World} {r : Int} (h : F a0 = some r) (q_0 : RV w (Old No w) (sv v_0) 92 8 dStmt a0) , Calls Tryz.prog 66 #[(sv v_0)] w (Ret No w (fun s : Unit => .int .i64 r) (fun s => []))
theorem spec_l11Count_s {k : Nat} {F_spec_l11Count : List Stmt → Option (Int)} (ih_spec_l11Count : spec_l11Count_C F_spec_l11Count) : spec_l11Count_C (spec_l11Count_R k F_spec_l11Count) := by
 intro a0 v_0 w r h q_0
 unfold spec_l11Count_R at h
 refine enter Tryz.func66 rfl rfl ?_
 have hS := Sep.start w
 refine .seq (.region (.q rfl (.nil (.seq (.region (.q rfl (.nil (.seq (.seq (.region (.q rfl (.nil (.block ?_)))))))))))))
 have ⟨y1, hy1, h⟩ := bnd h
 refine .via (.iter (fun s1 E' W' => SubL E' [(0, (sv v_0)), (3, .int .i64 s1.1), (4, .int .i64 s1.2)] ∧ Sep No w W' []) (fun y2 x E' W' => x = .exit 0 ∧ SubL E' [(3, .int .i64 y2)] ∧ Sep No w W' []) hy1 ⟨sb rfl, hS.to [] rfl⟩ ?_) ?_
 ·intro s1 y3 E W h hI
  obtain ⟨hE, hS⟩ := hI
  refine CW.sub hE ?_
  unfold spec_l11Count_b1 at h
  refine .seq (.seq (.region (.q rfl (.q rfl (.s (lenv (hS.keep q_0) T.u65 rfl rfl) rfl (.q rfl (.nil ?_)))))))
  refine .cs rfl h ?_ ?_ <;> intro h
  ·refine .skip (.seq (.block (.rk 17 hS [] T.mix ?_)))
   intro W hS
   have hT := hS.to [] rfl
   refine .tp 0 rfl rfl hT (by kernel_rfl) (.tp 1 rfl rfl hT (by kernel_rfl) (.tp 2 rfl rfl hT (by kernel_rfl) (.tp 3 rfl rfl hT (by kernel_rfl) ?_)))
   have ⟨x1, hx1, h⟩ := bnd h
   obtain ⟨k1, hd, hck1⟩ := RV.el2 q_0 hx1
   have hd1 := raggE (eStmt _) hd
   obtain ⟨k1, rfl, hd2⟩ := rflat q_0 rfl hd1
   obtain ⟨k1, rfl, hd3⟩ := rflat q_0 rfl hd2
   obtain ⟨k1, rfl, hd4⟩ := rflat q_0 rfl hd3
   have hd5 := raggE (eExpr _) hd4
   obtain ⟨k1, rfl, hd6⟩ := rflat q_0 rfl hd5
   obtain ⟨k1, rfl, hd7⟩ := rflat q_0 rfl hd6
   obtain ⟨v1, k1, rfl, q1, hd8⟩ := rrowv q_0 hd7
   obtain ⟨v2, k1, rfl, q2, hd9⟩ := rrowv q_0 hd8
   obtain ⟨v3, k1, rfl, q3, hd10⟩ := rrowv q_0 hd9
   obtain rfl := rnil q_0 hd10
   refine .ts 4 rfl (fun W hT => ixv (hS.keep q_0) hx1 T.u65 T.t92 rfl rfl rfl) hT rfl (by kernel_rfl) (.ts 5 rfl (fun W hT => fe T.f92_4 rfl rfl rfl) hT rfl (by kernel_rfl) (.ts 6 rfl (fun W hT => lde (hck1 _ hT.agree) T.t65 rfl rfl rfl rfl rfl) hT rfl (by kernel_rfl) (.tp 9 rfl rfl hT (by kernel_rfl) (.tp 10 rfl rfl hT (by kernel_rfl) ?_))))
   have ⟨x2, hx2, h⟩ := bnd h
   obtain ⟨k2, hd, hck2⟩ := RV.el2 q_0 hx2
   have hd1 := raggE (eStmt _) hd
   obtain ⟨k2, rfl, hd2⟩ := rflat q_0 rfl hd1
   obtain ⟨k2, rfl, hd3⟩ := rflat q_0 rfl hd2
   obtain ⟨k2, rfl, hd4⟩ := rflat q_0 rfl hd3
   have hd5 := raggE (eExpr _) hd4
   obtain ⟨k2, rfl, hd6⟩ := rflat q_0 rfl hd5
   obtain ⟨k2, rfl, hd7⟩ := rflat q_0 rfl hd6
   obtain ⟨v4, k2, rfl, q4, hd8⟩ := rrowv q_0 hd7
   obtain ⟨v5, k2, rfl, q5, hd9⟩ := rrowv q_0 hd8
   obtain ⟨v6, k2, rfl, q6, hd10⟩ := rrowv q_0 hd9
   obtain rfl := rnil q_0 hd10
   refine .ts 11 rfl (fun W hT => ixv (hS.keep q_0) hx2 T.u65 T.t92 rfl rfl rfl) hT rfl (by kernel_rfl) (.ts 12 rfl (fun W hT => fe T.f92_5 rfl rfl rfl) hT rfl (by kernel_rfl) (.ts 13 rfl (fun W hT => lde (hck2 _ hT.agree) T.t65 rfl rfl rfl rfl rfl) hT rfl (by kernel_rfl) ?_))
   have ⟨y4, hy4, h⟩ := bnd h
   refine .by1 7 rfl (.call0 hS Tryz.func66 (ih_spec_l11Count hy4 (hS.keep (q2 _ q_0))) rfl rfl ?_ rfl (by kernel_rfl) rfl rfl) (by kernel_rfl)
   intro W hS
   have hT := hS.to [] rfl
   refine ⟨fun _ => hT, ?_⟩
   refine .tp 8 rfl rfl hT (by kernel_rfl) ?_
   have ⟨y5, hy5, h⟩ := bnd h
   refine .by1 14 rfl (.call0 hS Tryz.func66 (ih_spec_l11Count hy5 (hS.keep (q6 _ q_0))) rfl rfl ?_ rfl (by kernel_rfl) rfl rfl) (by kernel_rfl)
   intro W hS
   have hT := hS.to [] rfl
   refine ⟨fun _ => hT, ?_⟩
   refine .tp 15 rfl rfl hT (by kernel_rfl) (.tp 16 rfl rfl hT (by kernel_rfl) (.done (.region (.q rfl (.q rfl (.q rfl (.nil ?_))))) (by kernel_rfl)))
   cases h
   exact ⟨rfl, sb rfl, hS.to [] rfl⟩
  refine .exit ?_
  cases h
  exact ⟨by simp, rfl, sb rfl, hS.to [] rfl⟩
 intro x E W hJ
 obtain ⟨rfl, hE, hS⟩ := hJ
 refine ⟨_, hE.sub, ?_⟩
 obtain rfl := Option.some.inj h
 exact .seq (.region (.q rfl (.q rfl (.nil (.ret (fin_ret (vs := [_]) () (rt rfl rn) rfl (hS.to [] rfl)))))))
theorem scc_spec_l11Count_ok (k : Nat) : spec_l11Count_C (spec_l11Count k) := by
  induction k with
  | zero => exact by intro a0 v_0 w r h q_0; exact no h
  | succ k ih => exact spec_l11Count_s (k := k) ih
theorem spec_l11Count_ok {k : Nat} : spec_l11Count_C (spec_l11Count k) := (scc_spec_l11Count_ok k)
theorem spec_l6In_ok {a0 : Int} {a1 : Int} {a2 : Int} {w : World} {r : Bool} (h : spec_l6In a0 a1 a2 = some r) : Calls Tryz.prog 19 #[.int .i64 a0, .int .i64 a1, .int .i64 a2] w (Ret No w (fun s : Unit => .bool r) (fun s => [])) := by
 unfold spec_l6In at h
 refine enter Tryz.func19 rfl rfl ?_
 have hS := Sep.start w
 refine .seq (.region (.q rfl (.nil (.seq (.region (.q rfl (.q rfl (.q rfl (.q rfl (.chunk 4 14 ((decide (a0 ≥ a1)) && (decide (a0 ≤ a2))) hS ?_ ?_))))))))))
 ·refine .both (decide (a0 ≥ a1)) (fun hb => ?_) (fun hb => ?_)
  ·have hg1 := hb
   exact .g hg1 (.q rfl (.g hg1 (.q rfl (.g hg1 (.q rfl (.s (pkt hg1 rfl rfl rfl) rfl (.nil (ck 4 hS rfl (and_t hg1) rfl rfl)))) rfl)) rfl)) rfl
  exact .xx hb rfl (.xx hb rfl (.xx hb rfl (.s (pkf hb rfl rfl rfl) rfl (.nil (ck 4 hS rfl (and_f hb) rfl rfl)))))
 intro W hS
 cases h
 exact .q rfl (.nil (.ret (fin_ret (vs := [_]) () (rt rfl rn) rfl (hS.to [] rfl))))
theorem spec_l11Var_ok {a0 : Stmt} {a1 : Bool} {v_0_Expr_Args : Hd} {v_0_Body : Hd} {v_0_Else : Hd} {w : World} {r : Bool} (h : spec_l11Var a0 a1 = some r) (q_0_Expr_Args : RV w (Old No w) (sv v_0_Expr_Args) 90 3 dExpr a0.Expr.Args) (q_0_Body : RV w (Old No w) (sv v_0_Body) 92 8 dStmt a0.Body) (q_0_Else : RV w (Old No w) (sv v_0_Else) 92 8 dStmt a0.Else) : Calls Tryz.prog 108 #[.agg #[.int .i64 a0.Kind, .int .i64 a0.Var, .int .i64 a0.Box, .int .i64 a0.Expr.Op, .int .i64 a0.Expr.N, (sv v_0_Expr_Args), (sv v_0_Body), (sv v_0_Else)], .bool a1] w (Ret No w (fun s : Unit => .bool r) (fun s => [])) := by
 unfold spec_l11Var at h
 refine enter Tryz.func108 rfl rfl ?_
 have hS := Sep.start w
 refine .seq (.region (.c (.box hS rfl rfl ?_ rfl rfl)))
 intro g1 W hS
 refine .q rfl (.nil (.seq (.seq (.region (.q rfl (.nil ?_))))))
 refine .cs rfl h ?_ ?_ <;> intro h
 ·refine .seq (.region (.s (fa T.f92_1 rfl rfl rfl) rfl (.s (ld T.t3 hS rfl rfl rfl rfl rfl) rfl ?_)))
  have ⟨y1, hy1, h⟩ := bnd h
  refine .c (.call0 hS Tryz.func19 (spec_l6In_ok hy1) rfl rfl ?_ rfl (by kernel_rfl) rfl rfl)
  intro W hS
  obtain rfl := Option.some.inj h
  exact .q rfl (.nil (.ret (fin_ret (vs := [_]) () (rt rfl rn) rfl (hS.to [] rfl))))
 cases h
 exact .skip (.seq (.region (.s (fa T.f92_1 rfl rfl rfl) rfl (.s (ld T.t3 hS rfl rfl rfl rfl rfl) rfl (.q rfl (.q rfl (.nil (.ret (fin_ret (vs := [_]) () (rt rfl rn) rfl (hS.to [] rfl))))))))))
theorem spec_l11Box_ok {a0 : Stmt} {a1 : Bool} {v_0_Expr_Args : Hd} {v_0_Body : Hd} {v_0_Else : Hd} {w : World} {r : Bool} (h : spec_l11Box a0 a1 = some r) (q_0_Expr_Args : RV w (Old No w) (sv v_0_Expr_Args) 90 3 dExpr a0.Expr.Args) (q_0_Body : RV w (Old No w) (sv v_0_Body) 92 8 dStmt a0.Body) (q_0_Else : RV w (Old No w) (sv v_0_Else) 92 8 dStmt a0.Else) : Calls Tryz.prog 109 #[.agg #[.int .i64 a0.Kind, .int .i64 a0.Var, .int .i64 a0.Box, .int .i64 a0.Expr.Op, .int .i64 a0.Expr.N, (sv v_0_Expr_Args), (sv v_0_Body), (sv v_0_Else)], .bool a1] w (Ret No w (fun s : Unit => .bool r) (fun s => [])) := by
 unfold spec_l11Box at h
 refine enter Tryz.func109 rfl rfl ?_
 have hS := Sep.start w
 refine .seq (.region (.c (.box hS rfl rfl ?_ rfl rfl)))
 intro g1 W hS
 refine .q rfl (.nil (.seq (.seq (.region (.q rfl (.nil ?_))))))
 refine .cs rfl h ?_ ?_ <;> intro h
 ·refine .seq (.region (.s (fa T.f92_2 rfl rfl rfl) rfl (.s (ld T.t3 hS rfl rfl rfl rfl rfl) rfl ?_)))
  have ⟨y1, hy1, h⟩ := bnd h
  refine .c (.call0 hS Tryz.func19 (spec_l6In_ok hy1) rfl rfl ?_ rfl (by kernel_rfl) rfl rfl)
  intro W hS
  obtain rfl := Option.some.inj h
  exact .q rfl (.nil (.ret (fin_ret (vs := [_]) () (rt rfl rn) rfl (hS.to [] rfl))))
 cases h
 exact .skip (.seq (.region (.s (fa T.f92_2 rfl rfl rfl) rfl (.s (ld T.t3 hS rfl rfl rfl rfl rfl) rfl (.q rfl (.q rfl (.nil (.ret (fin_ret (vs := [_]) () (rt rfl rn) rfl (hS.to [] rfl))))))))))
theorem spec_OpValid_ok {a0 : Int} {w : World} {r : Bool} (h : spec_OpValid a0 = some r) : Calls Tryz.prog 51 #[.int .i64 a0] w (Ret No w (fun s : Unit => .bool r) (fun s => [])) := by
 unfold spec_OpValid at h
 refine enter Tryz.func51 rfl rfl ?_
 have hS := Sep.start w
 refine .seq (.region (.q rfl (.nil (.seq (.region (.q rfl ?_))))))
 have ⟨y1, hy1, h⟩ := bnd h
 refine .c (.call0 hS Tryz.func19 (spec_l6In_ok hy1) rfl rfl ?_ rfl (by kernel_rfl) rfl rfl)
 intro W hS
 obtain rfl := Option.some.inj h
 exact .q rfl (.nil (.ret (fin_ret (vs := [_]) () (rt rfl rn) rfl (hS.to [] rfl))))
def spec_l4Ok_C (F : Expr → Int → Option (Bool)) : Prop := ∀ {a0 : Expr} {a1 : Int} {v_0_Args : Hd} {w : World} {r : Bool} (h : F a0 a1 = some r) (q_0_Args : RV w (Old No w) (sv v_0_Args) 90 3 dExpr a0.Args) , Calls Tryz.prog 123 #[.agg #[.int .i64 a0.Op, .int .i64 a0.N, (sv v_0_Args)], .int .i64 a1] w (Ret No w (fun s : Unit => .bool r) (fun s => []))
theorem spec_l4Ok_s {k : Nat} {F_spec_l4Ok : Expr → Int → Option (Bool)} (ih_spec_l4Ok : spec_l4Ok_C F_spec_l4Ok) : spec_l4Ok_C (spec_l4Ok_R k F_spec_l4Ok) := by
 intro a0 a1 v_0_Args w r h q_0_Args
 unfold spec_l4Ok_R at h
 refine enter Tryz.func123 rfl rfl ?_
 have hS := Sep.start w
 refine .seq (.region (.c (.box hS rfl rfl ?_ rfl rfl)))
 intro g1 W hS
 refine .q rfl (.nil (.seq (.seq (.region (.q rfl (.q rfl (.nil ?_)))))))
 refine .cs rfl h ?_ ?_ <;> intro h
 ·obtain rfl := Option.some.inj h
  exact .seq (.region (.q rfl (.nil (.ret (fin_ret (vs := [_]) () (rt rfl rn) rfl (hS.to [] rfl))))))
 refine .skip (.seq (.seq (.region (.s (fa T.f90_0 rfl rfl rfl) rfl (.s (ld T.t3 hS rfl rfl rfl rfl rfl) rfl (.q rfl (.nil ?_)))))))
 refine .cs rfl h ?_ ?_ <;> intro h
 ·refine .seq (.region (.s (fa T.f90_1 rfl rfl rfl) rfl (.s (ld T.t3 hS rfl rfl rfl rfl rfl) rfl ?_)))
  have ⟨y1, hy1, h⟩ := bnd h
  refine .c (.call0 hS Tryz.func19 (spec_l6In_ok hy1) rfl rfl ?_ rfl (by kernel_rfl) rfl rfl)
  intro W hS
  refine .q rfl (.chunk 5 18 (y1 && ((a0.Args.length : Int) == 0)) hS ?_ ?_)
  ·refine .both (y1) (fun hb => ?_) (fun hb => ?_)
   ·have hg1 := hb
    exact .g hg1 (.s (fa T.f90_2 rfl rfl rfl) rfl (.g hg1 (.s (ld T.t88 hS rfl rfl rfl rfl rfl) rfl (.g hg1 (.s (lenv (hS.keep q_0_Args) T.u88 rfl rfl) rfl (.g hg1 (.q rfl (.s (pkt hg1 rfl rfl rfl) rfl (.nil (ck 5 hS rfl (and_t hg1) rfl rfl)))) rfl)) rfl)) rfl)) rfl
   exact .xx hb rfl (.xx hb rfl (.xx hb rfl (.xx hb rfl (.s (pkf hb rfl rfl rfl) rfl (.nil (ck 5 hS rfl (and_f hb) rfl rfl))))))
  intro W hS
  cases h
  exact .q rfl (.nil (.ret (fin_ret (vs := [_]) () (rt rfl rn) rfl (hS.to [] rfl))))
 refine .skip (.seq (.seq (.region (.s (fa T.f90_0 rfl rfl rfl) rfl (.s (ld T.t3 hS rfl rfl rfl rfl rfl) rfl (.q rfl (.nil ?_)))))))
 refine .cs rfl h ?_ ?_ <;> intro h
 ·refine .seq (.region (.s (fa T.f90_1 rfl rfl rfl) rfl (.s (ld T.t3 hS rfl rfl rfl rfl rfl) rfl ?_)))
  have ⟨y2, hy2, h⟩ := bnd h
  refine .c (.call0 hS Tryz.func19 (spec_l6In_ok hy2) rfl rfl ?_ rfl (by kernel_rfl) rfl rfl)
  intro W hS
  refine .q rfl (.chunk 5 30 (y2 && ((a0.Args.length : Int) == 0)) hS ?_ ?_)
  ·refine .both (y2) (fun hb => ?_) (fun hb => ?_)
   ·have hg2 := hb
    exact .g hg2 (.s (fa T.f90_2 rfl rfl rfl) rfl (.g hg2 (.s (ld T.t88 hS rfl rfl rfl rfl rfl) rfl (.g hg2 (.s (lenv (hS.keep q_0_Args) T.u88 rfl rfl) rfl (.g hg2 (.q rfl (.s (pkt hg2 rfl rfl rfl) rfl (.nil (ck 5 hS rfl (and_t hg2) rfl rfl)))) rfl)) rfl)) rfl)) rfl
   exact .xx hb rfl (.xx hb rfl (.xx hb rfl (.xx hb rfl (.s (pkf hb rfl rfl rfl) rfl (.nil (ck 5 hS rfl (and_f hb) rfl rfl))))))
  intro W hS
  cases h
  exact .q rfl (.nil (.ret (fin_ret (vs := [_]) () (rt rfl rn) rfl (hS.to [] rfl))))
 refine .skip (.seq (.region (.s (fa T.f90_0 rfl rfl rfl) rfl (.s (ld T.t3 hS rfl rfl rfl rfl rfl) rfl ?_))))
 have ⟨y3, hy3, h⟩ := bnd h
 refine .c (.call0 hS Tryz.func51 (spec_OpValid_ok hy3) rfl rfl ?_ rfl (by kernel_rfl) rfl rfl)
 intro W hS
 refine .q rfl (.chunk 4 38 (y3 && (a0.N == 0)) hS ?_ ?_)
 ·refine .both (y3) (fun hb => ?_) (fun hb => ?_)
  ·have hg3 := hb
   exact .g hg3 (.s (fa T.f90_1 rfl rfl rfl) rfl (.g hg3 (.s (ld T.t3 hS rfl rfl rfl rfl rfl) rfl (.g hg3 (.q rfl (.s (pkt hg3 rfl rfl rfl) rfl (.nil (ck 4 hS rfl (and_t hg3) rfl rfl)))) rfl)) rfl)) rfl
  exact .xx hb rfl (.xx hb rfl (.xx hb rfl (.s (pkf hb rfl rfl rfl) rfl (.nil (ck 4 hS rfl (and_f hb) rfl rfl)))))
 intro W hS
 refine .q rfl (.chunk 5 44 ((y3 && (a0.N == 0)) && ((a0.Args.length : Int) == 2)) hS ?_ ?_)
 ·refine .both (y3 && (a0.N == 0)) (fun hb => ?_) (fun hb => ?_)
  ·have hg4 := hb
   exact .g hg4 (.s (fa T.f90_2 rfl rfl rfl) rfl (.g hg4 (.s (ld T.t88 hS rfl rfl rfl rfl rfl) rfl (.g hg4 (.s (lenv (hS.keep q_0_Args) T.u88 rfl rfl) rfl (.g hg4 (.q rfl (.s (pkt hg4 rfl rfl rfl) rfl (.nil (ck 5 hS rfl (and_t hg4) rfl rfl)))) rfl)) rfl)) rfl)) rfl
  exact .xx hb rfl (.xx hb rfl (.xx hb rfl (.xx hb rfl (.s (pkf hb rfl rfl rfl) rfl (.nil (ck 5 hS rfl (and_f hb) rfl rfl))))))
 intro W hS
 refine .q rfl ?_
 have ⟨b1, hb1, h⟩ := bnd h
 refine .chunk 8 53 (b1) hS ?_ ?_
 ·refine .both ((y3 && (a0.N == 0)) && ((a0.Args.length : Int) == 2)) (fun hb => ?_) (fun hb => ?_)
  ·have hg5 := hb
   have h := sel_t hb hb1
   refine .g hg5 (.s (fa T.f90_2 rfl rfl rfl) rfl (.g hg5 (.s (ld T.t88 hS rfl rfl rfl rfl rfl) rfl ?_) rfl)) rfl
   have ⟨x1, hx1, h⟩ := bnd h
   obtain ⟨k1, hd, hck1⟩ := RV.el2 q_0_Args hx1
   have hd1 := raggE (eExpr _) hd
   obtain ⟨k1, rfl, hd2⟩ := rflat q_0_Args rfl hd1
   obtain ⟨k1, rfl, hd3⟩ := rflat q_0_Args rfl hd2
   obtain ⟨v1, k1, rfl, q1, hd4⟩ := rrowv q_0_Args hd3
   obtain rfl := rnil q_0_Args hd4
   refine .g hg5 (.s (ixv (hS.keep q_0_Args) hx1 T.u88 T.t90 rfl rfl rfl) rfl (.g hg5 (.s (lde (hck1 _ hS.agree) T.t90 rfl rfl rfl rfl rfl) rfl (.g hg5 (.q rfl (.g hg5 (.q rfl ?_) rfl)) rfl)) rfl)) rfl
   have ⟨y4, hy4, h⟩ := bnd h
   refine .g hg5 (.c (.call0 hS Tryz.func123 (ih_spec_l4Ok hy4 (hS.keep (q1 _ q_0_Args))) rfl rfl ?_ rfl (by kernel_rfl) rfl rfl)) rfl
   intro W hS
   refine .s (pkt hg5 rfl rfl rfl) rfl ?_
   cases h
   exact .nil (ck 8 hS rfl rfl rfl rfl)
  refine .xx hb rfl (.xx hb rfl (.xx hb rfl (.xx hb rfl (.xx hb rfl (.xx hb rfl (.xx hb rfl ?_))))))
  cases sel_f hb hb1
  exact .s (pkf hb rfl rfl rfl) rfl (.nil (ck 8 hS rfl rfl rfl rfl))
 intro W hS
 refine .q rfl ?_
 have ⟨b2, hb2, h⟩ := bnd h
 refine .chunk 8 62 (b2) hS ?_ ?_
 ·refine .both (b1) (fun hb => ?_) (fun hb => ?_)
  ·have hg6 := hb
   have h := sel_t hb hb2
   refine .g hg6 (.s (fa T.f90_2 rfl rfl rfl) rfl (.g hg6 (.s (ld T.t88 hS rfl rfl rfl rfl rfl) rfl ?_) rfl)) rfl
   have ⟨x2, hx2, h⟩ := bnd h
   obtain ⟨k2, hd, hck2⟩ := RV.el2 q_0_Args hx2
   have hd1 := raggE (eExpr _) hd
   obtain ⟨k2, rfl, hd2⟩ := rflat q_0_Args rfl hd1
   obtain ⟨k2, rfl, hd3⟩ := rflat q_0_Args rfl hd2
   obtain ⟨v2, k2, rfl, q2, hd4⟩ := rrowv q_0_Args hd3
   obtain rfl := rnil q_0_Args hd4
   refine .g hg6 (.s (ixv (hS.keep q_0_Args) hx2 T.u88 T.t90 rfl rfl rfl) rfl (.g hg6 (.s (lde (hck2 _ hS.agree) T.t90 rfl rfl rfl rfl rfl) rfl (.g hg6 (.q rfl (.g hg6 (.q rfl ?_) rfl)) rfl)) rfl)) rfl
   have ⟨y5, hy5, h⟩ := bnd h
   refine .g hg6 (.c (.call0 hS Tryz.func123 (ih_spec_l4Ok hy5 (hS.keep (q2 _ q_0_Args))) rfl rfl ?_ rfl (by kernel_rfl) rfl rfl)) rfl
   intro W hS
   refine .s (pkt hg6 rfl rfl rfl) rfl ?_
   cases h
   exact .nil (ck 8 hS rfl rfl rfl rfl)
  refine .xx hb rfl (.xx hb rfl (.xx hb rfl (.xx hb rfl (.xx hb rfl (.xx hb rfl (.xx hb rfl ?_))))))
  cases sel_f hb hb2
  exact .s (pkf hb rfl rfl rfl) rfl (.nil (ck 8 hS rfl rfl rfl rfl))
 intro W hS
 obtain rfl := Option.some.inj h
 exact .q rfl (.nil (.ret (fin_ret (vs := [_]) () (rt rfl rn) rfl (hS.to [] rfl))))
theorem scc_spec_l4Ok_ok (k : Nat) : spec_l4Ok_C (spec_l4Ok k) := by
  induction k with
  | zero => exact by intro a0 a1 v_0_Args w r h q_0_Args; exact no h
  | succ k ih => exact spec_l4Ok_s (k := k) ih
theorem spec_l4Ok_ok {k : Nat} : spec_l4Ok_C (spec_l4Ok k) := (scc_spec_l4Ok_ok k)
theorem spec_ExprValid_ok {k : Nat} {a0 : Expr} {v_0_Args : Hd} {w : World} {r : Bool} (h : spec_ExprValid k a0 = some r) (q_0_Args : RV w (Old No w) (sv v_0_Args) 90 3 dExpr a0.Args) : Calls Tryz.prog 110 #[.agg #[.int .i64 a0.Op, .int .i64 a0.N, (sv v_0_Args)]] w (Ret No w (fun s : Unit => .bool r) (fun s => [])) := by
 unfold spec_ExprValid at h
 refine enter Tryz.func110 rfl rfl ?_
 have hS := Sep.start w
 refine .seq (.region (.c (.box hS rfl rfl ?_ rfl rfl)))
 intro g1 W hS
 refine .q rfl (.nil (.seq (.region (.s (ld T.t90 hS rfl rfl rfl rfl rfl) rfl ?_))))
 have ⟨y1, hy1, h⟩ := bnd h
 refine .c (.call0 hS Tryz.func123 (spec_l4Ok_ok hy1 (hS.keep q_0_Args)) rfl rfl ?_ rfl (by kernel_rfl) rfl rfl)
 intro W hS
 obtain rfl := Option.some.inj h
 exact .q rfl (.nil (.ret (fin_ret (vs := [_]) () (rt rfl rn) rfl (hS.to [] rfl))))
theorem spec_l11Plain_ok {a0 : Expr} {v_0_Args : Hd} {w : World} {r : Bool} (h : spec_l11Plain a0 = some r) (q_0_Args : RV w (Old No w) (sv v_0_Args) 90 3 dExpr a0.Args) : Calls Tryz.prog 122 #[.agg #[.int .i64 a0.Op, .int .i64 a0.N, (sv v_0_Args)]] w (Ret No w (fun s : Unit => .bool r) (fun s => [])) := by
 unfold spec_l11Plain at h
 refine enter Tryz.func122 rfl rfl ?_
 have hS := Sep.start w
 refine .seq (.region (.c (.box hS rfl rfl ?_ rfl rfl)))
 intro g1 W hS
 refine .q rfl (.nil (.seq (.region (.s (fa T.f90_0 rfl rfl rfl) rfl (.s (ld T.t3 hS rfl rfl rfl rfl rfl) rfl (.q rfl (.q rfl (.chunk 4 10 ((a0.Op == 0) && (a0.N == 0)) hS ?_ ?_))))))))
 ·refine .both (a0.Op == 0) (fun hb => ?_) (fun hb => ?_)
  ·have hg1 := hb
   exact .g hg1 (.s (fa T.f90_1 rfl rfl rfl) rfl (.g hg1 (.s (ld T.t3 hS rfl rfl rfl rfl rfl) rfl (.g hg1 (.q rfl (.s (pkt hg1 rfl rfl rfl) rfl (.nil (ck 4 hS rfl (and_t hg1) rfl rfl)))) rfl)) rfl)) rfl
  exact .xx hb rfl (.xx hb rfl (.xx hb rfl (.s (pkf hb rfl rfl rfl) rfl (.nil (ck 4 hS rfl (and_f hb) rfl rfl)))))
 intro W hS
 refine .q rfl (.chunk 5 16 (((a0.Op == 0) && (a0.N == 0)) && ((a0.Args.length : Int) == 0)) hS ?_ ?_)
 ·refine .both ((a0.Op == 0) && (a0.N == 0)) (fun hb => ?_) (fun hb => ?_)
  ·have hg2 := hb
   exact .g hg2 (.s (fa T.f90_2 rfl rfl rfl) rfl (.g hg2 (.s (ld T.t88 hS rfl rfl rfl rfl rfl) rfl (.g hg2 (.s (lenv (hS.keep q_0_Args) T.u88 rfl rfl) rfl (.g hg2 (.q rfl (.s (pkt hg2 rfl rfl rfl) rfl (.nil (ck 5 hS rfl (and_t hg2) rfl rfl)))) rfl)) rfl)) rfl)) rfl
  exact .xx hb rfl (.xx hb rfl (.xx hb rfl (.xx hb rfl (.s (pkf hb rfl rfl rfl) rfl (.nil (ck 5 hS rfl (and_f hb) rfl rfl))))))
 intro W hS
 cases h
 exact .q rfl (.nil (.ret (fin_ret (vs := [_]) () (rt rfl rn) rfl (hS.to [] rfl))))
theorem spec_l11Simple_ok {k : Nat} {a0 : Stmt} {v_0_Expr_Args : Hd} {v_0_Body : Hd} {v_0_Else : Hd} {w : World} {r : Bool} (h : spec_l11Simple k a0 = some r) (q_0_Expr_Args : RV w (Old No w) (sv v_0_Expr_Args) 90 3 dExpr a0.Expr.Args) (q_0_Body : RV w (Old No w) (sv v_0_Body) 92 8 dStmt a0.Body) (q_0_Else : RV w (Old No w) (sv v_0_Else) 92 8 dStmt a0.Else) : Calls Tryz.prog 107 #[.agg #[.int .i64 a0.Kind, .int .i64 a0.Var, .int .i64 a0.Box, .int .i64 a0.Expr.Op, .int .i64 a0.Expr.N, (sv v_0_Expr_Args), (sv v_0_Body), (sv v_0_Else)]] w (Ret No w (fun s : Unit => .bool r) (fun s => [])) := by
 unfold spec_l11Simple at h
 refine enter Tryz.func107 rfl rfl ?_
 have hS := Sep.start w
 refine .seq (.region (.c (.box hS rfl rfl ?_ rfl rfl)))
 intro g1 W hS
 refine .q rfl (.nil (.seq (.seq (.region (.s (fa T.f92_4 rfl rfl rfl) rfl (.s (ld T.t65 hS rfl rfl rfl rfl rfl) rfl (.s (lenv (hS.keep q_0_Body) T.u65 rfl rfl) rfl (.q rfl (.q rfl (.chunk 5 12 ((decide ((a0.Body.length : Int) > 0)) || (decide ((a0.Else.length : Int) > 0))) hS ?_ ?_))))))))))
 ·refine .both (decide ((a0.Body.length : Int) > 0)) (fun hb => ?_) (fun hb => ?_)
  ·exact .xx hb rfl (.xx hb rfl (.xx hb rfl (.xx hb rfl (.s (pkt hb rfl rfl rfl) rfl (.nil (ck 5 hS rfl (or_t hb) rfl rfl))))))
  have hg1 := hb
  exact .g hg1 (.s (fa T.f92_5 rfl rfl rfl) rfl (.g hg1 (.s (ld T.t65 hS rfl rfl rfl rfl rfl) rfl (.g hg1 (.s (lenv (hS.keep q_0_Else) T.u65 rfl rfl) rfl (.g hg1 (.q rfl (.s (pkf hg1 rfl rfl rfl) rfl (.nil (ck 5 hS rfl (or_f hg1) rfl rfl)))) rfl)) rfl)) rfl)) rfl
 intro W hS
 refine .nil ?_
 refine .cs rfl h ?_ ?_ <;> intro h
 ·obtain rfl := Option.some.inj h
  exact .seq (.region (.q rfl (.nil (.ret (fin_ret (vs := [_]) () (rt rfl rn) rfl (hS.to [] rfl))))))
 refine .skip (.seq (.seq (.region (.s (fa T.f92_0 rfl rfl rfl) rfl (.s (ld T.t3 hS rfl rfl rfl rfl rfl) rfl (.nil (.block (.seq (.region (.q rfl (.q rfl (.nil ?_))))))))))))
 refine .cs rfl h ?_ ?_ <;> intro h
 ·refine .seq (.region (.s (ld T.t92 hS rfl rfl rfl rfl rfl) rfl ?_))
  have ⟨y1, hy1, h⟩ := bnd h
  refine .c (.call0 hS Tryz.func108 (spec_l11Var_ok hy1 (hS.keep q_0_Expr_Args) (hS.keep q_0_Body) (hS.keep q_0_Else)) rfl rfl ?_ rfl (by kernel_rfl) rfl rfl)
  intro W hS
  refine .q rfl ?_
  have ⟨b1, hb1, h⟩ := bnd h
  refine .chunk 3 22 (b1) hS ?_ ?_
  ·refine .both (y1) (fun hb => ?_) (fun hb => ?_)
   ·have hg2 := hb
    have h := sel_t hb hb1
    refine .g hg2 (.s (ld T.t92 hS rfl rfl rfl rfl rfl) rfl ?_) rfl
    have ⟨y2, hy2, h⟩ := bnd h
    refine .g hg2 (.c (.call0 hS Tryz.func109 (spec_l11Box_ok hy2 (hS.keep q_0_Expr_Args) (hS.keep q_0_Body) (hS.keep q_0_Else)) rfl rfl ?_ rfl (by kernel_rfl) rfl rfl)) rfl
    intro W hS
    refine .s (pkt hg2 rfl rfl rfl) rfl ?_
    cases h
    exact .nil (ck 3 hS rfl rfl rfl rfl)
   refine .xx hb rfl (.xx hb rfl ?_)
   cases sel_f hb hb1
   exact .s (pkf hb rfl rfl rfl) rfl (.nil (ck 3 hS rfl rfl rfl rfl))
  intro W hS
  refine .q rfl ?_
  have ⟨b2, hb2, h⟩ := bnd h
  refine .chunk 4 27 (b2) hS ?_ ?_
  ·refine .both (b1) (fun hb => ?_) (fun hb => ?_)
   ·have hg3 := hb
    have h := sel_t hb hb2
    refine .g hg3 (.s (fa T.f92_3 rfl rfl rfl) rfl (.g hg3 (.s (ld T.t90 hS rfl rfl rfl rfl rfl) rfl ?_) rfl)) rfl
    have ⟨y3, hy3, h⟩ := bnd h
    refine .g hg3 (.c (.call0 hS Tryz.func110 (spec_ExprValid_ok hy3 (hS.keep q_0_Expr_Args)) rfl rfl ?_ rfl (by kernel_rfl) rfl rfl)) rfl
    intro W hS
    refine .s (pkt hg3 rfl rfl rfl) rfl ?_
    cases h
    exact .nil (ck 4 hS rfl rfl rfl rfl)
   refine .xx hb rfl (.xx hb rfl (.xx hb rfl ?_))
   cases sel_f hb hb2
   exact .s (pkf hb rfl rfl rfl) rfl (.nil (ck 4 hS rfl rfl rfl rfl))
  intro W hS
  obtain rfl := Option.some.inj h
  exact .q rfl (.nil (.ret (fin_ret (vs := [_]) () (rt rfl rn) rfl (hS.to [] rfl))))
 refine .seq (.region (.q rfl (.q rfl (.nil ?_))))
 refine .cs rfl h ?_ ?_ <;> intro h
 ·refine .seq (.region (.s (ld T.t92 hS rfl rfl rfl rfl rfl) rfl ?_))
  have ⟨y4, hy4, h⟩ := bnd h
  refine .c (.call0 hS Tryz.func108 (spec_l11Var_ok hy4 (hS.keep q_0_Expr_Args) (hS.keep q_0_Body) (hS.keep q_0_Else)) rfl rfl ?_ rfl (by kernel_rfl) rfl rfl)
  intro W hS
  refine .q rfl ?_
  have ⟨b3, hb3, h⟩ := bnd h
  refine .chunk 3 35 (b3) hS ?_ ?_
  ·refine .both (y4) (fun hb => ?_) (fun hb => ?_)
   ·have hg4 := hb
    have h := sel_t hb hb3
    refine .g hg4 (.s (ld T.t92 hS rfl rfl rfl rfl rfl) rfl ?_) rfl
    have ⟨y5, hy5, h⟩ := bnd h
    refine .g hg4 (.c (.call0 hS Tryz.func109 (spec_l11Box_ok hy5 (hS.keep q_0_Expr_Args) (hS.keep q_0_Body) (hS.keep q_0_Else)) rfl rfl ?_ rfl (by kernel_rfl) rfl rfl)) rfl
    intro W hS
    refine .s (pkt hg4 rfl rfl rfl) rfl ?_
    cases h
    exact .nil (ck 3 hS rfl rfl rfl rfl)
   refine .xx hb rfl (.xx hb rfl ?_)
   cases sel_f hb hb3
   exact .s (pkf hb rfl rfl rfl) rfl (.nil (ck 3 hS rfl rfl rfl rfl))
  intro W hS
  refine .q rfl ?_
  have ⟨b4, hb4, h⟩ := bnd h
  refine .chunk 4 40 (b4) hS ?_ ?_
  ·refine .both (b3) (fun hb => ?_) (fun hb => ?_)
   ·have hg5 := hb
    have h := sel_t hb hb4
    refine .g hg5 (.s (fa T.f92_3 rfl rfl rfl) rfl (.g hg5 (.s (ld T.t90 hS rfl rfl rfl rfl rfl) rfl ?_) rfl)) rfl
    have ⟨y6, hy6, h⟩ := bnd h
    refine .g hg5 (.c (.call0 hS Tryz.func110 (spec_ExprValid_ok hy6 (hS.keep q_0_Expr_Args)) rfl rfl ?_ rfl (by kernel_rfl) rfl rfl)) rfl
    intro W hS
    refine .s (pkt hg5 rfl rfl rfl) rfl ?_
    cases h
    exact .nil (ck 4 hS rfl rfl rfl rfl)
   refine .xx hb rfl (.xx hb rfl (.xx hb rfl ?_))
   cases sel_f hb hb4
   exact .s (pkf hb rfl rfl rfl) rfl (.nil (ck 4 hS rfl rfl rfl rfl))
  intro W hS
  obtain rfl := Option.some.inj h
  exact .q rfl (.nil (.ret (fin_ret (vs := [_]) () (rt rfl rn) rfl (hS.to [] rfl))))
 refine .seq (.region (.q rfl (.q rfl (.nil ?_))))
 refine .cs rfl h ?_ ?_ <;> intro h
 ·refine .seq (.region (.s (ld T.t92 hS rfl rfl rfl rfl rfl) rfl ?_))
  have ⟨y7, hy7, h⟩ := bnd h
  refine .c (.call0 hS Tryz.func108 (spec_l11Var_ok hy7 (hS.keep q_0_Expr_Args) (hS.keep q_0_Body) (hS.keep q_0_Else)) rfl rfl ?_ rfl (by kernel_rfl) rfl rfl)
  intro W hS
  refine .q rfl ?_
  have ⟨b5, hb5, h⟩ := bnd h
  refine .chunk 3 48 (b5) hS ?_ ?_
  ·refine .both (y7) (fun hb => ?_) (fun hb => ?_)
   ·have hg6 := hb
    have h := sel_t hb hb5
    refine .g hg6 (.s (ld T.t92 hS rfl rfl rfl rfl rfl) rfl ?_) rfl
    have ⟨y8, hy8, h⟩ := bnd h
    refine .g hg6 (.c (.call0 hS Tryz.func109 (spec_l11Box_ok hy8 (hS.keep q_0_Expr_Args) (hS.keep q_0_Body) (hS.keep q_0_Else)) rfl rfl ?_ rfl (by kernel_rfl) rfl rfl)) rfl
    intro W hS
    refine .s (pkt hg6 rfl rfl rfl) rfl ?_
    cases h
    exact .nil (ck 3 hS rfl rfl rfl rfl)
   refine .xx hb rfl (.xx hb rfl ?_)
   cases sel_f hb hb5
   exact .s (pkf hb rfl rfl rfl) rfl (.nil (ck 3 hS rfl rfl rfl rfl))
  intro W hS
  refine .q rfl ?_
  have ⟨b6, hb6, h⟩ := bnd h
  refine .chunk 4 53 (b6) hS ?_ ?_
  ·refine .both (b5) (fun hb => ?_) (fun hb => ?_)
   ·have hg7 := hb
    have h := sel_t hb hb6
    refine .g hg7 (.s (fa T.f92_3 rfl rfl rfl) rfl (.g hg7 (.s (ld T.t90 hS rfl rfl rfl rfl rfl) rfl ?_) rfl)) rfl
    have ⟨y9, hy9, h⟩ := bnd h
    refine .g hg7 (.c (.call0 hS Tryz.func122 (spec_l11Plain_ok hy9 (hS.keep q_0_Expr_Args)) rfl rfl ?_ rfl (by kernel_rfl) rfl rfl)) rfl
    intro W hS
    refine .s (pkt hg7 rfl rfl rfl) rfl ?_
    cases h
    exact .nil (ck 4 hS rfl rfl rfl rfl)
   refine .xx hb rfl (.xx hb rfl (.xx hb rfl ?_))
   cases sel_f hb hb6
   exact .s (pkf hb rfl rfl rfl) rfl (.nil (ck 4 hS rfl rfl rfl rfl))
  intro W hS
  obtain rfl := Option.some.inj h
  exact .q rfl (.nil (.ret (fin_ret (vs := [_]) () (rt rfl rn) rfl (hS.to [] rfl))))
 refine .seq (.region (.q rfl (.q rfl (.nil ?_))))
 refine .cs rfl h ?_ ?_ <;> intro h
 ·refine .seq (.region (.s (ld T.t92 hS rfl rfl rfl rfl rfl) rfl ?_))
  have ⟨y10, hy10, h⟩ := bnd h
  refine .c (.call0 hS Tryz.func108 (spec_l11Var_ok hy10 (hS.keep q_0_Expr_Args) (hS.keep q_0_Body) (hS.keep q_0_Else)) rfl rfl ?_ rfl (by kernel_rfl) rfl rfl)
  intro W hS
  refine .q rfl ?_
  have ⟨b7, hb7, h⟩ := bnd h
  refine .chunk 3 61 (b7) hS ?_ ?_
  ·refine .both (y10) (fun hb => ?_) (fun hb => ?_)
   ·have hg8 := hb
    have h := sel_t hb hb7
    refine .g hg8 (.s (ld T.t92 hS rfl rfl rfl rfl rfl) rfl ?_) rfl
    have ⟨y11, hy11, h⟩ := bnd h
    refine .g hg8 (.c (.call0 hS Tryz.func109 (spec_l11Box_ok hy11 (hS.keep q_0_Expr_Args) (hS.keep q_0_Body) (hS.keep q_0_Else)) rfl rfl ?_ rfl (by kernel_rfl) rfl rfl)) rfl
    intro W hS
    refine .s (pkt hg8 rfl rfl rfl) rfl ?_
    cases h
    exact .nil (ck 3 hS rfl rfl rfl rfl)
   refine .xx hb rfl (.xx hb rfl ?_)
   cases sel_f hb hb7
   exact .s (pkf hb rfl rfl rfl) rfl (.nil (ck 3 hS rfl rfl rfl rfl))
  intro W hS
  refine .q rfl ?_
  have ⟨b8, hb8, h⟩ := bnd h
  refine .chunk 4 66 (b8) hS ?_ ?_
  ·refine .both (b7) (fun hb => ?_) (fun hb => ?_)
   ·have hg9 := hb
    have h := sel_t hb hb8
    refine .g hg9 (.s (fa T.f92_3 rfl rfl rfl) rfl (.g hg9 (.s (ld T.t90 hS rfl rfl rfl rfl rfl) rfl ?_) rfl)) rfl
    have ⟨y12, hy12, h⟩ := bnd h
    refine .g hg9 (.c (.call0 hS Tryz.func122 (spec_l11Plain_ok hy12 (hS.keep q_0_Expr_Args)) rfl rfl ?_ rfl (by kernel_rfl) rfl rfl)) rfl
    intro W hS
    refine .s (pkt hg9 rfl rfl rfl) rfl ?_
    cases h
    exact .nil (ck 4 hS rfl rfl rfl rfl)
   refine .xx hb rfl (.xx hb rfl (.xx hb rfl ?_))
   cases sel_f hb hb8
   exact .s (pkf hb rfl rfl rfl) rfl (.nil (ck 4 hS rfl rfl rfl rfl))
  intro W hS
  obtain rfl := Option.some.inj h
  exact .q rfl (.nil (.ret (fin_ret (vs := [_]) () (rt rfl rn) rfl (hS.to [] rfl))))
 refine .seq (.region (.q rfl (.q rfl (.nil ?_))))
 refine .cs rfl h ?_ ?_ <;> intro h
 ·refine .seq (.region (.s (ld T.t92 hS rfl rfl rfl rfl rfl) rfl ?_))
  have ⟨y13, hy13, h⟩ := bnd h
  refine .c (.call0 hS Tryz.func108 (spec_l11Var_ok hy13 (hS.keep q_0_Expr_Args) (hS.keep q_0_Body) (hS.keep q_0_Else)) rfl rfl ?_ rfl (by kernel_rfl) rfl rfl)
  intro W hS
  refine .q rfl ?_
  have ⟨b9, hb9, h⟩ := bnd h
  refine .chunk 3 74 (b9) hS ?_ ?_
  ·refine .both (y13) (fun hb => ?_) (fun hb => ?_)
   ·have hg10 := hb
    have h := sel_t hb hb9
    refine .g hg10 (.s (ld T.t92 hS rfl rfl rfl rfl rfl) rfl ?_) rfl
    have ⟨y14, hy14, h⟩ := bnd h
    refine .g hg10 (.c (.call0 hS Tryz.func109 (spec_l11Box_ok hy14 (hS.keep q_0_Expr_Args) (hS.keep q_0_Body) (hS.keep q_0_Else)) rfl rfl ?_ rfl (by kernel_rfl) rfl rfl)) rfl
    intro W hS
    refine .s (pkt hg10 rfl rfl rfl) rfl ?_
    cases h
    exact .nil (ck 3 hS rfl rfl rfl rfl)
   refine .xx hb rfl (.xx hb rfl ?_)
   cases sel_f hb hb9
   exact .s (pkf hb rfl rfl rfl) rfl (.nil (ck 3 hS rfl rfl rfl rfl))
  intro W hS
  refine .q rfl ?_
  have ⟨b10, hb10, h⟩ := bnd h
  refine .chunk 4 79 (b10) hS ?_ ?_
  ·refine .both (b9) (fun hb => ?_) (fun hb => ?_)
   ·have hg11 := hb
    have h := sel_t hb hb10
    refine .g hg11 (.s (fa T.f92_3 rfl rfl rfl) rfl (.g hg11 (.s (ld T.t90 hS rfl rfl rfl rfl rfl) rfl ?_) rfl)) rfl
    have ⟨y15, hy15, h⟩ := bnd h
    refine .g hg11 (.c (.call0 hS Tryz.func110 (spec_ExprValid_ok hy15 (hS.keep q_0_Expr_Args)) rfl rfl ?_ rfl (by kernel_rfl) rfl rfl)) rfl
    intro W hS
    refine .s (pkt hg11 rfl rfl rfl) rfl ?_
    cases h
    exact .nil (ck 4 hS rfl rfl rfl rfl)
   refine .xx hb rfl (.xx hb rfl (.xx hb rfl ?_))
   cases sel_f hb hb10
   exact .s (pkf hb rfl rfl rfl) rfl (.nil (ck 4 hS rfl rfl rfl rfl))
  intro W hS
  obtain rfl := Option.some.inj h
  exact .q rfl (.nil (.ret (fin_ret (vs := [_]) () (rt rfl rn) rfl (hS.to [] rfl))))
 obtain rfl := Option.some.inj h
 exact .skip (.seq (.region (.q rfl (.nil (.ret (fin_ret (vs := [_]) () (rt rfl rn) rfl (hS.to [] rfl)))))))
def spec_l11Blocks_C (F : List Stmt → Int → Option (Bool)) : Prop := ∀ {a0 : List Stmt} {a1 : Int} {v_0 : Hd} {w : World} {r : Bool} (h : F a0 a1 = some r) (q_0 : RV w (Old No w) (sv v_0) 92 8 dStmt a0) , Calls Tryz.prog 78 #[(sv v_0), .int .i64 a1] w (Ret No w (fun s : Unit => .bool r) (fun s => []))
def spec_l11Ok_C (F : Stmt → Int → Option (Bool)) : Prop := ∀ {a0 : Stmt} {a1 : Int} {v_0_Expr_Args : Hd} {v_0_Body : Hd} {v_0_Else : Hd} {w : World} {r : Bool} (h : F a0 a1 = some r) (q_0_Expr_Args : RV w (Old No w) (sv v_0_Expr_Args) 90 3 dExpr a0.Expr.Args) (q_0_Body : RV w (Old No w) (sv v_0_Body) 92 8 dStmt a0.Body) (q_0_Else : RV w (Old No w) (sv v_0_Else) 92 8 dStmt a0.Else) , Calls Tryz.prog 87 #[.agg #[.int .i64 a0.Kind, .int .i64 a0.Var, .int .i64 a0.Box, .int .i64 a0.Expr.Op, .int .i64 a0.Expr.N, (sv v_0_Expr_Args), (sv v_0_Body), (sv v_0_Else)], .int .i64 a1] w (Ret No w (fun s : Unit => .bool r) (fun s => []))
def spec_l11Blocks_F (w : World) (r : Bool) : Env → World → Prop := Fin Tryz.prog Tryz.f78 No w (fun s : Unit => .bool r) (fun s => []) .ret
theorem spec_l11Blocks_s {k : Nat} {F_spec_l11Blocks : List Stmt → Int → Option (Bool)} {F_spec_l11Ok : Stmt → Int → Option (Bool)} (ih_spec_l11Blocks : spec_l11Blocks_C F_spec_l11Blocks) (ih_spec_l11Ok : spec_l11Ok_C F_spec_l11Ok) : spec_l11Blocks_C (spec_l11Blocks_R k F_spec_l11Blocks F_spec_l11Ok) := by
 intro a0 a1 v_0 w r h q_0
 unfold spec_l11Blocks_R at h
 refine enter Tryz.func78 rfl rfl ?_
 have hS := Sep.start w
 refine .seq (.region (.q rfl (.nil (.seq (.seq (.region (.q rfl (.nil (.block ?_)))))))))
 have ⟨y1, hy1, h⟩ := bnd h
 refine .via (.iter (fun s1 E' W' => SubL E' [(0, (sv v_0)), (1, .int .i64 a1), (5, .int .i64 s1)] ∧ Sep No w W' []) (fun y2 x E' W' => (match y2 with | .inl o1 => x = .ret ∧ spec_l11Blocks_F w o1 E' W' | .inr o2 => x = .exit 0 ∧ SubL E' [] ∧ Sep No w W' [])) hy1 ⟨sb rfl, hS.to [] rfl⟩ ?_) ?_
 ·intro s1 y3 E W h hI
  obtain ⟨hE, hS⟩ := hI
  refine CW.sub hE ?_
  unfold spec_l11Blocks_b1 at h
  refine .seq (.seq (.region (.q rfl (.q rfl (.s (lenv (hS.keep q_0) T.u65 rfl rfl) rfl (.q rfl (.nil ?_)))))))
  refine .cs rfl h ?_ ?_ <;> intro h
  ·refine .skip (.seq (.block (.seq (.region (.q rfl (.q rfl ?_))))))
   have ⟨x1, hx1, h⟩ := bnd h
   obtain ⟨k1, hd, hck1⟩ := RV.el2 q_0 hx1
   have hd1 := raggE (eStmt _) hd
   obtain ⟨k1, rfl, hd2⟩ := rflat q_0 rfl hd1
   obtain ⟨k1, rfl, hd3⟩ := rflat q_0 rfl hd2
   obtain ⟨k1, rfl, hd4⟩ := rflat q_0 rfl hd3
   have hd5 := raggE (eExpr _) hd4
   obtain ⟨k1, rfl, hd6⟩ := rflat q_0 rfl hd5
   obtain ⟨k1, rfl, hd7⟩ := rflat q_0 rfl hd6
   obtain ⟨v1, k1, rfl, q1, hd8⟩ := rrowv q_0 hd7
   obtain ⟨v2, k1, rfl, q2, hd9⟩ := rrowv q_0 hd8
   obtain ⟨v3, k1, rfl, q3, hd10⟩ := rrowv q_0 hd9
   obtain rfl := rnil q_0 hd10
   refine .s (ixv (hS.keep q_0) hx1 T.u65 T.t92 rfl rfl rfl) rfl (.s (lde (hck1 _ hS.agree) T.t92 rfl rfl rfl rfl rfl) rfl (.q rfl ?_))
   have ⟨y4, hy4, h⟩ := bnd h
   refine .c (.call0 hS Tryz.func87 (ih_spec_l11Ok hy4 (hS.keep (q1 _ q_0)) (hS.keep (q2 _ q_0)) (hS.keep (q3 _ q_0))) rfl rfl ?_ rfl (by kernel_rfl) rfl rfl)
   intro W hS
   refine .q rfl (.nil ?_)
   refine .cs rfl h ?_ ?_ <;> intro h
   ·refine .seq (.region (.q rfl (.nil (.ret ?_))))
    cases h
    exact ⟨by simp, rfl, fin_ret (vs := [_]) () (rt rfl rn) rfl (hS.to [] rfl)⟩
   refine .skip (.region (.q rfl (.q rfl (.q rfl (.nil ?_)))))
   cases h
   exact ⟨rfl, sb rfl, hS.to [] rfl⟩
  refine .exit ?_
  cases h
  exact ⟨by simp, rfl, sb rfl, hS.to [] rfl⟩
 intro x E W hJ
 rcases y1 with o3 | o4
 ·obtain ⟨rfl, hF⟩ := hJ
  refine ⟨_, fun _ _ h => h, ?_⟩
  cases h
  exact hF
 obtain ⟨rfl, hE, hS⟩ := hJ
 refine ⟨_, hE.sub, ?_⟩
 obtain rfl := Option.some.inj h
 exact .seq (.region (.q rfl (.nil (.ret (fin_ret (vs := [_]) () (rt rfl rn) rfl (hS.to [] rfl))))))
theorem spec_l11Ok_s {k : Nat} {F_spec_l11Blocks : List Stmt → Int → Option (Bool)} {F_spec_l11Ok : Stmt → Int → Option (Bool)} (ih_spec_l11Blocks : spec_l11Blocks_C F_spec_l11Blocks) (ih_spec_l11Ok : spec_l11Ok_C F_spec_l11Ok) : spec_l11Ok_C (spec_l11Ok_R k F_spec_l11Blocks F_spec_l11Ok) := by
 intro a0 a1 v_0_Expr_Args v_0_Body v_0_Else w r h q_0_Expr_Args q_0_Body q_0_Else
 unfold spec_l11Ok_R at h
 refine enter Tryz.func87 rfl rfl ?_
 have hS := Sep.start w
 refine .seq (.region (.c (.box hS rfl rfl ?_ rfl rfl)))
 intro g1 W hS
 refine .q rfl (.nil (.seq (.seq (.region (.s (fa T.f92_0 rfl rfl rfl) rfl (.s (ld T.t3 hS rfl rfl rfl rfl rfl) rfl (.q rfl (.q rfl (.chunk 4 12 ((a0.Kind != 2) && (a0.Kind != 3)) hS ?_ ?_)))))))))
 ·refine .both (a0.Kind != 2) (fun hb => ?_) (fun hb => ?_)
  ·have hg1 := hb
   exact .g hg1 (.s (fa T.f92_0 rfl rfl rfl) rfl (.g hg1 (.s (ld T.t3 hS rfl rfl rfl rfl rfl) rfl (.g hg1 (.q rfl (.s (pkt hg1 rfl rfl rfl) rfl (.nil (ck 4 hS rfl (and_t hg1) rfl rfl)))) rfl)) rfl)) rfl
  exact .xx hb rfl (.xx hb rfl (.xx hb rfl (.s (pkf hb rfl rfl rfl) rfl (.nil (ck 4 hS rfl (and_f hb) rfl rfl)))))
 intro W hS
 refine .nil ?_
 refine .cs rfl h ?_ ?_ <;> intro h
 ·refine .seq (.region (.s (ld T.t92 hS rfl rfl rfl rfl rfl) rfl ?_))
  have ⟨y1, hy1, h⟩ := bnd h
  refine .c (.call0 hS Tryz.func107 (spec_l11Simple_ok hy1 (hS.keep q_0_Expr_Args) (hS.keep q_0_Body) (hS.keep q_0_Else)) rfl rfl ?_ rfl (by kernel_rfl) rfl rfl)
  intro W hS
  obtain rfl := Option.some.inj h
  exact .q rfl (.nil (.ret (fin_ret (vs := [_]) () (rt rfl rn) rfl (hS.to [] rfl))))
 refine .skip (.seq (.seq (.region (.q rfl (.q rfl (.q rfl (.chunk 10 27 ((decide (a1 < 1)) || ((a0.Kind == 3) && (decide ((a0.Else.length : Int) > 0)))) hS ?_ ?_)))))))
 ·refine .both (decide (a1 < 1)) (fun hb => ?_) (fun hb => ?_)
  ·exact .xx hb rfl (.xx hb rfl (.xx hb rfl (.xx hb rfl (.xu (.xu (.xu (.xu (.xx hb rfl (.s (pkt hb rfl rfl rfl) rfl (.nil (ck 10 hS rfl (or_t hb) rfl rfl)))) rfl rfl) rfl rfl) rfl rfl) rfl rfl))))
  have hg2 := hb
  refine .g hg2 (.s (fa T.f92_0 rfl rfl rfl) rfl (.g hg2 (.s (ld T.t3 hS rfl rfl rfl rfl rfl) rfl (.g hg2 (.q rfl (.g hg2 (.q rfl (.chunk 5 26 ((a0.Kind == 3) && (decide ((a0.Else.length : Int) > 0))) hS ?_ ?_)) rfl)) rfl)) rfl)) rfl
  ·refine .both (a0.Kind == 3) (fun hb => ?_) (fun hb => ?_)
   ·have hg3 := hb
    exact .g hg3 (.s (fa T.f92_5 rfl rfl rfl) rfl (.g hg3 (.s (ld T.t65 hS rfl rfl rfl rfl rfl) rfl (.g hg3 (.s (lenv (hS.keep q_0_Else) T.u65 rfl rfl) rfl (.g hg3 (.q rfl (.g hg2 (.s (pkt hg3 rfl rfl rfl) rfl (.nil (ck 5 hS rfl (and_t hg3) rfl rfl))) rfl)) rfl)) rfl)) rfl)) rfl
   exact .xx hb rfl (.xx hb rfl (.xx hb rfl (.xx hb rfl (.g hg2 (.s (pkf hb rfl rfl rfl) rfl (.nil (ck 5 hS rfl (and_f hb) rfl rfl))) rfl))))
  intro W hS
  exact .s (pkf hg2 rfl rfl rfl) rfl (.nil (ck 6 hS rfl (or_f hg2) rfl rfl))
 intro W hS
 refine .nil ?_
 refine .cs rfl h ?_ ?_ <;> intro h
 ·obtain rfl := Option.some.inj h
  exact .seq (.region (.q rfl (.nil (.ret (fin_ret (vs := [_]) () (rt rfl rn) rfl (hS.to [] rfl))))))
 refine .skip (.seq (.region (.s (ld T.t92 hS rfl rfl rfl rfl rfl) rfl ?_)))
 have ⟨y2, hy2, h⟩ := bnd h
 refine .c (.call0 hS Tryz.func108 (spec_l11Var_ok hy2 (hS.keep q_0_Expr_Args) (hS.keep q_0_Body) (hS.keep q_0_Else)) rfl rfl ?_ rfl (by kernel_rfl) rfl rfl)
 intro W hS
 refine .q rfl ?_
 have ⟨b1, hb1, h⟩ := bnd h
 refine .chunk 3 33 (b1) hS ?_ ?_
 ·refine .both (y2) (fun hb => ?_) (fun hb => ?_)
  ·have hg4 := hb
   have h := sel_t hb hb1
   refine .g hg4 (.s (ld T.t92 hS rfl rfl rfl rfl rfl) rfl ?_) rfl
   have ⟨y3, hy3, h⟩ := bnd h
   refine .g hg4 (.c (.call0 hS Tryz.func109 (spec_l11Box_ok hy3 (hS.keep q_0_Expr_Args) (hS.keep q_0_Body) (hS.keep q_0_Else)) rfl rfl ?_ rfl (by kernel_rfl) rfl rfl)) rfl
   intro W hS
   refine .s (pkt hg4 rfl rfl rfl) rfl ?_
   cases h
   exact .nil (ck 3 hS rfl rfl rfl rfl)
  refine .xx hb rfl (.xx hb rfl ?_)
  cases sel_f hb hb1
  exact .s (pkf hb rfl rfl rfl) rfl (.nil (ck 3 hS rfl rfl rfl rfl))
 intro W hS
 refine .q rfl ?_
 have ⟨b2, hb2, h⟩ := bnd h
 refine .chunk 4 38 (b2) hS ?_ ?_
 ·refine .both (b1) (fun hb => ?_) (fun hb => ?_)
  ·have hg5 := hb
   have h := sel_t hb hb2
   refine .g hg5 (.s (fa T.f92_3 rfl rfl rfl) rfl (.g hg5 (.s (ld T.t90 hS rfl rfl rfl rfl rfl) rfl ?_) rfl)) rfl
   have ⟨y4, hy4, h⟩ := bnd h
   refine .g hg5 (.c (.call0 hS Tryz.func110 (spec_ExprValid_ok hy4 (hS.keep q_0_Expr_Args)) rfl rfl ?_ rfl (by kernel_rfl) rfl rfl)) rfl
   intro W hS
   refine .s (pkt hg5 rfl rfl rfl) rfl ?_
   cases h
   exact .nil (ck 4 hS rfl rfl rfl rfl)
  refine .xx hb rfl (.xx hb rfl (.xx hb rfl ?_))
  cases sel_f hb hb2
  exact .s (pkf hb rfl rfl rfl) rfl (.nil (ck 4 hS rfl rfl rfl rfl))
 intro W hS
 refine .q rfl ?_
 have ⟨b3, hb3, h⟩ := bnd h
 refine .chunk 6 45 (b3) hS ?_ ?_
 ·refine .both (b2) (fun hb => ?_) (fun hb => ?_)
  ·have hg6 := hb
   have h := sel_t hb hb3
   refine .g hg6 (.s (fa T.f92_4 rfl rfl rfl) rfl (.g hg6 (.s (ld T.t65 hS rfl rfl rfl rfl rfl) rfl (.g hg6 (.q rfl (.g hg6 (.q rfl ?_) rfl)) rfl)) rfl)) rfl
   have ⟨y5, hy5, h⟩ := bnd h
   refine .g hg6 (.c (.call0 hS Tryz.func78 (ih_spec_l11Blocks hy5 (hS.keep q_0_Body)) rfl rfl ?_ rfl (by kernel_rfl) rfl rfl)) rfl
   intro W hS
   refine .s (pkt hg6 rfl rfl rfl) rfl ?_
   cases h
   exact .nil (ck 6 hS rfl rfl rfl rfl)
  refine .xx hb rfl (.xx hb rfl (.xx hb rfl (.xx hb rfl (.xx hb rfl ?_))))
  cases sel_f hb hb3
  exact .s (pkf hb rfl rfl rfl) rfl (.nil (ck 6 hS rfl rfl rfl rfl))
 intro W hS
 refine .q rfl ?_
 have ⟨b4, hb4, h⟩ := bnd h
 refine .chunk 6 52 (b4) hS ?_ ?_
 ·refine .both (b3) (fun hb => ?_) (fun hb => ?_)
  ·have hg7 := hb
   have h := sel_t hb hb4
   refine .g hg7 (.s (fa T.f92_5 rfl rfl rfl) rfl (.g hg7 (.s (ld T.t65 hS rfl rfl rfl rfl rfl) rfl (.g hg7 (.q rfl (.g hg7 (.q rfl ?_) rfl)) rfl)) rfl)) rfl
   have ⟨y6, hy6, h⟩ := bnd h
   refine .g hg7 (.c (.call0 hS Tryz.func78 (ih_spec_l11Blocks hy6 (hS.keep q_0_Else)) rfl rfl ?_ rfl (by kernel_rfl) rfl rfl)) rfl
   intro W hS
   refine .s (pkt hg7 rfl rfl rfl) rfl ?_
   cases h
   exact .nil (ck 6 hS rfl rfl rfl rfl)
  refine .xx hb rfl (.xx hb rfl (.xx hb rfl (.xx hb rfl (.xx hb rfl ?_))))
  cases sel_f hb hb4
  exact .s (pkf hb rfl rfl rfl) rfl (.nil (ck 6 hS rfl rfl rfl rfl))
 intro W hS
 obtain rfl := Option.some.inj h
 exact .q rfl (.nil (.ret (fin_ret (vs := [_]) () (rt rfl rn) rfl (hS.to [] rfl))))
theorem scc_spec_l11Blocks_ok (k : Nat) : spec_l11Blocks_C (spec_l11Blocks k) ∧ spec_l11Ok_C (spec_l11Ok k) := by
  induction k with
  | zero => exact ⟨by intro a0 a1 v_0 w r h q_0; exact no h, by intro a0 a1 v_0_Expr_Args v_0_Body v_0_Else w r h q_0_Expr_Args q_0_Body q_0_Else; exact no h⟩
  | succ k ih => exact ⟨spec_l11Blocks_s (k := k) ih.1 ih.2, spec_l11Ok_s (k := k) ih.1 ih.2⟩
theorem spec_l11Blocks_ok {k : Nat} : spec_l11Blocks_C (spec_l11Blocks k) := (scc_spec_l11Blocks_ok k).1
theorem spec_l11Ok_ok {k : Nat} : spec_l11Ok_C (spec_l11Ok k) := (scc_spec_l11Blocks_ok k).2
theorem spec_StmtsValid_ok {k : Nat} {a0 : List Stmt} {v_0 : Hd} {w : World} {r : Bool} (h : spec_StmtsValid k a0 = some r) (q_0 : RV w (Old No w) (sv v_0) 92 8 dStmt a0) : Calls Tryz.prog 63 #[(sv v_0)] w (Ret No w (fun s : Unit => .bool r) (fun s => [])) := by
 unfold spec_StmtsValid at h
 refine enter Tryz.func63 rfl rfl ?_
 have hS := Sep.start w
 refine .seq (.region (.q rfl (.nil (.seq (.region (.q rfl ?_))))))
 have ⟨y1, hy1, h⟩ := bnd h
 refine .c (.call0 hS Tryz.func78 (spec_l11Blocks_ok hy1 (hS.keep q_0)) rfl rfl ?_ rfl (by kernel_rfl) rfl rfl)
 intro W hS
 refine .q rfl ?_
 have ⟨b1, hb1, h⟩ := bnd h
 refine .chunk 4 9 (b1) hS ?_ ?_
 ·refine .both (y1) (fun hb => ?_) (fun hb => ?_)
  ·have hg1 := hb
   have h := sel_t hb hb1
   refine .g hg1 (.q rfl ?_) rfl
   have ⟨y2, hy2, h⟩ := bnd h
   refine .g hg1 (.c (.call0 hS Tryz.func66 (spec_l11Count_ok hy2 (hS.keep q_0)) rfl rfl ?_ rfl (by kernel_rfl) rfl rfl)) rfl
   intro W hS
   refine .g hg1 (.q rfl (.s (pkt hg1 rfl rfl rfl) rfl ?_)) rfl
   cases h
   exact .nil (ck 4 hS rfl rfl rfl rfl)
  refine .xx hb rfl (.xx hb rfl (.xx hb rfl ?_))
  cases sel_f hb hb1
  exact .s (pkf hb rfl rfl rfl) rfl (.nil (ck 4 hS rfl rfl rfl rfl))
 intro W hS
 obtain rfl := Option.some.inj h
 exact .q rfl (.nil (.ret (fin_ret (vs := [_]) () (rt rfl rn) rfl (hS.to [] rfl))))
def spec_l22Expr_C (F : Expr → Int → Option ((List Quad))) : Prop := ∀ {a0 : Expr} {a1 : Int} {v_0_Args : Hd} {w : World} {r : (List Quad)} (h : F a0 a1 = some r) (q_0_Args : RV w (Old No w) (sv v_0_Args) 90 3 dExpr a0.Args) , Calls Tryz.prog 88 #[.agg #[.int .i64 a0.Op, .int .i64 a0.N, (sv v_0_Args)], .int .i64 a1] w (Ret No w (fun s : Hd => (sv s)) (fun s => [rowV (sv s) 34 5 dQuad r]))
theorem spec_l22Expr_s {k : Nat} {F_spec_l22Expr : Expr → Int → Option ((List Quad))} (ih_spec_l22Expr : spec_l22Expr_C F_spec_l22Expr) : spec_l22Expr_C (spec_l22Expr_R k F_spec_l22Expr) := by
 intro a0 a1 v_0_Args w r h q_0_Args
 unfold spec_l22Expr_R at h
 refine enter Tryz.func88 rfl rfl ?_
 have hS := Sep.start w
 refine .seq (.region (.c (.box hS rfl rfl ?_ rfl rfl)))
 intro g1 W hS
 refine .q rfl (.nil (.seq (.seq (.region (.s (fa T.f90_0 rfl rfl rfl) rfl (.s (ld T.t3 hS rfl rfl rfl rfl rfl) rfl (.q rfl (.nil ?_))))))))
 refine .cs rfl h ?_ ?_ <;> intro h
 ·refine .seq (.region (.q rfl (.s (fa T.f90_1 rfl rfl rfl) rfl (.s (ld T.t3 hS rfl rfl rfl rfl rfl) rfl (.s (bs T.s34 rfl rfl) rfl (.c (.liv [(Quad.mk 1 a1 0 0 a0.N)] dQuad T.u23 T.t34 hS rfl rfl rfl rfl ?_ rfl (fun _ => rfl) rfl rfl rfl rfl)))))))
  intro v1 W hS
  cases h
  exact .q rfl (.nil (.ret (fin_ret (vs := [_]) v1 (rt rfl rn) rfl (hS.to [0] rfl))))
 refine .skip (.seq (.seq (.region (.s (fa T.f90_0 rfl rfl rfl) rfl (.s (ld T.t3 hS rfl rfl rfl rfl rfl) rfl (.q rfl (.nil ?_)))))))
 refine .cs rfl h ?_ ?_ <;> intro h
 ·refine .seq (.region (.q rfl (.s (fa T.f90_1 rfl rfl rfl) rfl (.s (ld T.t3 hS rfl rfl rfl rfl rfl) rfl (.s (bs T.s34 rfl rfl) rfl (.c (.liv [(Quad.mk 2 a1 a0.N 0 0)] dQuad T.u23 T.t34 hS rfl rfl rfl rfl ?_ rfl (fun _ => rfl) rfl rfl rfl rfl)))))))
  intro v2 W hS
  cases h
  exact .q rfl (.nil (.ret (fin_ret (vs := [_]) v2 (rt rfl rn) rfl (hS.to [0] rfl))))
 refine .skip (.seq (.rk 15 hS [0] T.mix ?_))
 intro W hS
 have hT := hS.to [0] rfl
 refine .ts 0 rfl (fun W hT => fa T.f90_2 rfl rfl rfl) hT rfl (by kernel_rfl) (.ts 1 rfl (fun W hT => ld T.t88 hT rfl rfl rfl rfl rfl) hT rfl (by kernel_rfl) ?_)
 have ⟨x1, hx1, h⟩ := bnd h
 obtain ⟨k1, hd, hck1⟩ := RV.el2 q_0_Args hx1
 have hd1 := raggE (eExpr _) hd
 obtain ⟨k1, rfl, hd2⟩ := rflat q_0_Args rfl hd1
 obtain ⟨k1, rfl, hd3⟩ := rflat q_0_Args rfl hd2
 obtain ⟨v3, k1, rfl, q1, hd4⟩ := rrowv q_0_Args hd3
 obtain rfl := rnil q_0_Args hd4
 refine .ts 2 rfl (fun W hT => ixv (hS.keep q_0_Args) hx1 T.u88 T.t90 rfl rfl rfl) hT rfl (by kernel_rfl) (.ts 3 rfl (fun W hT => lde (hck1 _ hT.agree) T.t90 rfl rfl rfl rfl rfl) hT rfl (by kernel_rfl) (.tp 4 rfl rfl hT (by kernel_rfl) (.ts 6 rfl (fun W hT => fa T.f90_2 rfl rfl rfl) hT rfl (by kernel_rfl) (.ts 7 rfl (fun W hT => ld T.t88 hT rfl rfl rfl rfl rfl) hT rfl (by kernel_rfl) ?_))))
 have ⟨x2, hx2, h⟩ := bnd h
 obtain ⟨k2, hd, hck2⟩ := RV.el2 q_0_Args hx2
 have hd1 := raggE (eExpr _) hd
 obtain ⟨k2, rfl, hd2⟩ := rflat q_0_Args rfl hd1
 obtain ⟨k2, rfl, hd3⟩ := rflat q_0_Args rfl hd2
 obtain ⟨v4, k2, rfl, q2, hd4⟩ := rrowv q_0_Args hd3
 obtain rfl := rnil q_0_Args hd4
 refine .ts 8 rfl (fun W hT => ixv (hS.keep q_0_Args) hx2 T.u88 T.t90 rfl rfl rfl) hT rfl (by kernel_rfl) (.ts 9 rfl (fun W hT => lde (hck2 _ hT.agree) T.t90 rfl rfl rfl rfl rfl) hT rfl (by kernel_rfl) (.tp 10 rfl rfl hT (by kernel_rfl) (.tp 11 rfl rfl hT (by kernel_rfl) ?_)))
 have ⟨y1, hy1, h⟩ := bnd h
 refine .by1 5 rfl (.call1v hS Tryz.func88 (ih_spec_l22Expr hy1 (hS.keep (q1 _ q_0_Args))) rfl rfl ?_ rfl (by kernel_rfl) rfl rfl) (by kernel_rfl)
 intro v5 W hS
 have hT := hS.to [1] rfl
 refine ⟨fun _ => hT, ?_⟩
 have ⟨y2, hy2, h⟩ := bnd h
 refine .by1 12 rfl (.call1v hS Tryz.func88 (ih_spec_l22Expr hy2 (hS.keep (q2 _ q_0_Args))) rfl rfl ?_ rfl (by kernel_rfl) rfl rfl) (by kernel_rfl)
 intro v6 W hS
 have hT := hS.to [2] rfl
 refine ⟨fun _ => hT, ?_⟩
 have ⟨r1, hr1, h⟩ := bnd h
 have hT0 := hS.p1
 refine .by1 13 rfl (.apprv hr1 hT0 hT0.p1.lendv (fun _ => rfl) T.u23 T.t34 rfl rfl rfl ?_ rfl rfl rfl rfl rfl) (by kernel_rfl)
 intro v7 W hS
 have hT := hS.to [2] rfl
 refine ⟨fun _ => hT, ?_⟩
 refine .tp 14 rfl rfl hT (by kernel_rfl) (.done (.seq (.region (.q rfl (.q rfl (.q rfl (.q rfl (.q rfl (.s (fa T.f90_0 rfl rfl rfl) rfl (.s (ld T.t3 hS.p2 rfl rfl rfl rfl rfl) rfl (.s (bs T.s34 rfl rfl) rfl (.c (.liv [(Quad.mk 3 a1 a1 (w64 (a1 + 1)) a0.Op)] dQuad T.u23 T.t34 hS rfl rfl rfl rfl ?_ rfl (fun _ => rfl) rfl rfl rfl rfl)))))))))))) (by kernel_rfl))
 intro v8 W hS
 have ⟨r2, hr2, h⟩ := bnd h
 have hT0 := hS.p1
 refine .c (.apprv hr2 hT0 hT0.p1.lendv (fun _ => rfl) T.u23 T.t34 rfl rfl rfl ?_ rfl rfl rfl rfl rfl)
 intro v9 W hS
 obtain rfl := Option.some.inj h
 exact .q rfl (.nil (.ret (fin_ret (vs := [_]) v9 (rt rfl rn) rfl (hS.to [0] rfl))))
theorem scc_spec_l22Expr_ok (k : Nat) : spec_l22Expr_C (spec_l22Expr k) := by
  induction k with
  | zero => exact by intro a0 a1 v_0_Args w r h q_0_Args; exact no h
  | succ k ih => exact spec_l22Expr_s (k := k) ih
theorem spec_l22Expr_ok {k : Nat} : spec_l22Expr_C (spec_l22Expr k) := (scc_spec_l22Expr_ok k)
def spec_l22List_C (F : List Stmt → Int → Option ((List Quad))) : Prop := ∀ {a0 : List Stmt} {a1 : Int} {v_0 : Hd} {w : World} {r : (List Quad)} (h : F a0 a1 = some r) (q_0 : RV w (Old No w) (sv v_0) 92 8 dStmt a0) , Calls Tryz.prog 64 #[(sv v_0), .int .i64 a1] w (Ret No w (fun s : Hd => (sv s)) (fun s => [rowV (sv s) 34 5 dQuad r]))
def spec_l22Stmt_C (F : Stmt → Int → Option ((List Quad))) : Prop := ∀ {a0 : Stmt} {a1 : Int} {v_0_Expr_Args : Hd} {v_0_Body : Hd} {v_0_Else : Hd} {w : World} {r : (List Quad)} (h : F a0 a1 = some r) (q_0_Expr_Args : RV w (Old No w) (sv v_0_Expr_Args) 90 3 dExpr a0.Expr.Args) (q_0_Body : RV w (Old No w) (sv v_0_Body) 92 8 dStmt a0.Body) (q_0_Else : RV w (Old No w) (sv v_0_Else) 92 8 dStmt a0.Else) , Calls Tryz.prog 79 #[.agg #[.int .i64 a0.Kind, .int .i64 a0.Var, .int .i64 a0.Box, .int .i64 a0.Expr.Op, .int .i64 a0.Expr.N, (sv v_0_Expr_Args), (sv v_0_Body), (sv v_0_Else)], .int .i64 a1] w (Ret No w (fun s : Hd => (sv s)) (fun s => [rowV (sv s) 34 5 dQuad r]))
def spec_l22If_C (F : Stmt → Int → Option ((List Quad))) : Prop := ∀ {a0 : Stmt} {a1 : Int} {v_0_Expr_Args : Hd} {v_0_Body : Hd} {v_0_Else : Hd} {w : World} {r : (List Quad)} (h : F a0 a1 = some r) (q_0_Expr_Args : RV w (Old No w) (sv v_0_Expr_Args) 90 3 dExpr a0.Expr.Args) (q_0_Body : RV w (Old No w) (sv v_0_Body) 92 8 dStmt a0.Body) (q_0_Else : RV w (Old No w) (sv v_0_Else) 92 8 dStmt a0.Else) , Calls Tryz.prog 89 #[.agg #[.int .i64 a0.Kind, .int .i64 a0.Var, .int .i64 a0.Box, .int .i64 a0.Expr.Op, .int .i64 a0.Expr.N, (sv v_0_Expr_Args), (sv v_0_Body), (sv v_0_Else)], .int .i64 a1] w (Ret No w (fun s : Hd => (sv s)) (fun s => [rowV (sv s) 34 5 dQuad r]))
def spec_l22While_C (F : Stmt → Int → Option ((List Quad))) : Prop := ∀ {a0 : Stmt} {a1 : Int} {v_0_Expr_Args : Hd} {v_0_Body : Hd} {v_0_Else : Hd} {w : World} {r : (List Quad)} (h : F a0 a1 = some r) (q_0_Expr_Args : RV w (Old No w) (sv v_0_Expr_Args) 90 3 dExpr a0.Expr.Args) (q_0_Body : RV w (Old No w) (sv v_0_Body) 92 8 dStmt a0.Body) (q_0_Else : RV w (Old No w) (sv v_0_Else) 92 8 dStmt a0.Else) , Calls Tryz.prog 90 #[.agg #[.int .i64 a0.Kind, .int .i64 a0.Var, .int .i64 a0.Box, .int .i64 a0.Expr.Op, .int .i64 a0.Expr.N, (sv v_0_Expr_Args), (sv v_0_Body), (sv v_0_Else)], .int .i64 a1] w (Ret No w (fun s : Hd => (sv s)) (fun s => [rowV (sv s) 34 5 dQuad r]))
theorem spec_l22List_s {k : Nat} {F_spec_l22List : List Stmt → Int → Option ((List Quad))} {F_spec_l22Stmt : Stmt → Int → Option ((List Quad))} {F_spec_l22If : Stmt → Int → Option ((List Quad))} {F_spec_l22While : Stmt → Int → Option ((List Quad))} (ih_spec_l22List : spec_l22List_C F_spec_l22List) (ih_spec_l22Stmt : spec_l22Stmt_C F_spec_l22Stmt) (ih_spec_l22If : spec_l22If_C F_spec_l22If) (ih_spec_l22While : spec_l22While_C F_spec_l22While) : spec_l22List_C (spec_l22List_R k F_spec_l22List F_spec_l22Stmt F_spec_l22If F_spec_l22While) := by
 intro a0 a1 v_0 w r h q_0
 unfold spec_l22List_R at h
 refine enter Tryz.func64 rfl rfl ?_
 have hS := Sep.start w
 refine .seq (.region (.q rfl (.nil (.seq (.region (.c (.liv [] dQuad T.u23 T.t34 hS rfl rfl rfl rfl ?_ rfl (fun _ => rfl) rfl rfl rfl rfl)))))))
 intro v1 W hS
 refine .q rfl (.nil (.seq (.seq (.region (.q rfl (.nil (.block ?_)))))))
 have ⟨y1, hy1, h⟩ := bnd h
 refine .via (.iter (fun s1 E' W' => ∃ (v4 : Hd), SubL E' [(0, (sv v_0)), (1, .int .i64 a1), (5, (sv v4)), (6, .int .i64 s1.2)] ∧ Sep No w W' [rowV (sv v4) 34 5 dQuad s1.1]) (fun y2 x E' W' => x = .exit 0 ∧ ∃ (v5 : Hd), SubL E' [(5, (sv v5))] ∧ Sep No w W' [rowV (sv v5) 34 5 dQuad y2]) hy1 ⟨v1, sb rfl, hS.to [0] rfl⟩ ?_) ?_
 ·intro s1 y3 E W h hI
  obtain ⟨v3, hE, hS⟩ := hI
  refine CW.sub hE ?_
  unfold spec_l22List_b1 at h
  refine .seq (.seq (.region (.q rfl (.q rfl (.s (lenv (hS.keep q_0) T.u65 rfl rfl) rfl (.q rfl (.nil ?_)))))))
  refine .cs rfl h ?_ ?_ <;> intro h
  ·refine .skip (.seq (.block (.region (.q rfl (.q rfl (.q rfl ?_))))))
   have ⟨x1, hx1, h⟩ := bnd h
   obtain ⟨k1, hd, hck1⟩ := RV.el2 q_0 hx1
   have hd1 := raggE (eStmt _) hd
   obtain ⟨k1, rfl, hd2⟩ := rflat q_0 rfl hd1
   obtain ⟨k1, rfl, hd3⟩ := rflat q_0 rfl hd2
   obtain ⟨k1, rfl, hd4⟩ := rflat q_0 rfl hd3
   have hd5 := raggE (eExpr _) hd4
   obtain ⟨k1, rfl, hd6⟩ := rflat q_0 rfl hd5
   obtain ⟨k1, rfl, hd7⟩ := rflat q_0 rfl hd6
   obtain ⟨v6, k1, rfl, q5, hd8⟩ := rrowv q_0 hd7
   obtain ⟨v7, k1, rfl, q6, hd9⟩ := rrowv q_0 hd8
   obtain ⟨v8, k1, rfl, q7, hd10⟩ := rrowv q_0 hd9
   obtain rfl := rnil q_0 hd10
   refine .s (ixv (hS.keep q_0) hx1 T.u65 T.t92 rfl rfl rfl) rfl (.s (lde (hck1 _ hS.agree) T.t92 rfl rfl rfl rfl rfl) rfl (.q rfl (.q rfl (.s (lenv hS.lendv T.u23 rfl rfl) rfl (.q rfl ?_)))))
   have ⟨y4, hy4, h⟩ := bnd h
   refine .c (.call1v hS Tryz.func79 (ih_spec_l22Stmt hy4 (hS.keep (q5 _ q_0)) (hS.keep (q6 _ q_0)) (hS.keep (q7 _ q_0))) rfl rfl ?_ rfl (by kernel_rfl) rfl rfl)
   intro v9 W hS
   have ⟨r1, hr1, h⟩ := bnd h
   have hT0 := hS.p1
   refine .c (.apprv hr1 hT0 hT0.p1.lendv (fun _ => rfl) T.u23 T.t34 rfl rfl rfl ?_ rfl rfl rfl rfl rfl)
   intro v10 W hS
   refine .q rfl (.nil (.region (.q rfl (.q rfl (.q rfl (.nil ?_))))))
   cases h
   exact ⟨rfl, v10, sb rfl, hS.to [0] rfl⟩
  refine .exit ?_
  cases h
  exact ⟨by simp, rfl, v3, sb rfl, hS.to [0] rfl⟩
 intro x E W hJ
 obtain ⟨rfl, v11, hE, hS⟩ := hJ
 refine ⟨_, hE.sub, ?_⟩
 obtain rfl := Option.some.inj h
 exact .seq (.region (.q rfl (.q rfl (.nil (.ret (fin_ret (vs := [_]) v11 (rt rfl rn) rfl (hS.to [0] rfl)))))))
theorem spec_l22Stmt_s {k : Nat} {F_spec_l22List : List Stmt → Int → Option ((List Quad))} {F_spec_l22Stmt : Stmt → Int → Option ((List Quad))} {F_spec_l22If : Stmt → Int → Option ((List Quad))} {F_spec_l22While : Stmt → Int → Option ((List Quad))} (ih_spec_l22List : spec_l22List_C F_spec_l22List) (ih_spec_l22Stmt : spec_l22Stmt_C F_spec_l22Stmt) (ih_spec_l22If : spec_l22If_C F_spec_l22If) (ih_spec_l22While : spec_l22While_C F_spec_l22While) : spec_l22Stmt_C (spec_l22Stmt_R k F_spec_l22List F_spec_l22Stmt F_spec_l22If F_spec_l22While) := by
 intro a0 a1 v_0_Expr_Args v_0_Body v_0_Else w r h q_0_Expr_Args q_0_Body q_0_Else
 unfold spec_l22Stmt_R at h
 refine enter Tryz.func79 rfl rfl ?_
 have hS := Sep.start w
 refine .seq (.region (.c (.box hS rfl rfl ?_ rfl rfl)))
 intro g1 W hS
 refine .q rfl (.nil (.seq (.region (.s (fa T.f92_3 rfl rfl rfl) rfl (.s (ld T.t90 hS rfl rfl rfl rfl rfl) rfl ?_)))))
 have ⟨y1, hy1, h⟩ := bnd h
 refine .c (.call1v hS Tryz.func88 (spec_l22Expr_ok hy1 (hS.keep q_0_Expr_Args)) rfl rfl ?_ rfl (by kernel_rfl) rfl rfl)
 intro v1 W hS
 refine .q rfl (.nil (.seq (.seq (.region (.s (fa T.f92_0 rfl rfl rfl) rfl (.s (ld T.t3 hS.p1 rfl rfl rfl rfl rfl) rfl (.nil (.block (.seq (.region (.q rfl (.q rfl (.nil ?_)))))))))))))
 refine .cs rfl h ?_ ?_ <;> intro h
 ·refine .seq (.region (.s (ld T.t92 hS.p1 rfl rfl rfl rfl rfl) rfl (.q rfl ?_)))
  have ⟨y2, hy2, h⟩ := bnd h
  refine .c (.call1v hS Tryz.func89 (ih_spec_l22If hy2 (hS.keep q_0_Expr_Args) (hS.keep q_0_Body) (hS.keep q_0_Else)) rfl rfl ?_ rfl (by kernel_rfl) rfl rfl)
  intro v2 W hS
  obtain rfl := Option.some.inj h
  exact .q rfl (.nil (.ret (fin_ret (vs := [_]) v2 (rt rfl rn) rfl (hS.to [0] rfl))))
 refine .seq (.region (.q rfl (.q rfl (.nil ?_))))
 refine .cs rfl h ?_ ?_ <;> intro h
 ·refine .seq (.region (.s (ld T.t92 hS.p1 rfl rfl rfl rfl rfl) rfl (.q rfl ?_)))
  have ⟨y3, hy3, h⟩ := bnd h
  refine .c (.call1v hS Tryz.func90 (ih_spec_l22While hy3 (hS.keep q_0_Expr_Args) (hS.keep q_0_Body) (hS.keep q_0_Else)) rfl rfl ?_ rfl (by kernel_rfl) rfl rfl)
  intro v3 W hS
  obtain rfl := Option.some.inj h
  exact .q rfl (.nil (.ret (fin_ret (vs := [_]) v3 (rt rfl rn) rfl (hS.to [0] rfl))))
 refine .seq (.region (.q rfl (.q rfl (.nil ?_))))
 refine .cs rfl h ?_ ?_ <;> intro h
 ·refine .seq (.region (.q rfl (.s (fa T.f92_1 rfl rfl rfl) rfl (.s (ld T.t3 hS.p1 rfl rfl rfl rfl rfl) rfl (.s (bs T.s34 rfl rfl) rfl (.c (.liv [(Quad.mk 2 a0.Var 4 0 0)] dQuad T.u23 T.t34 hS rfl rfl rfl rfl ?_ rfl (fun _ => rfl) rfl rfl rfl rfl)))))))
  intro v4 W hS
  have ⟨r1, hr1, h⟩ := bnd h
  have hT0 := hS.p1
  refine .c (.apprv hr1 hT0 hT0.p1.lendv (fun _ => rfl) T.u23 T.t34 rfl rfl rfl ?_ rfl rfl rfl rfl rfl)
  intro v5 W hS
  obtain rfl := Option.some.inj h
  exact .q rfl (.nil (.ret (fin_ret (vs := [_]) v5 (rt rfl rn) rfl (hS.to [0] rfl))))
 refine .seq (.region (.q rfl (.q rfl (.nil ?_))))
 refine .cs rfl h ?_ ?_ <;> intro h
 ·refine .seq (.region (.q rfl (.s (fa T.f92_2 rfl rfl rfl) rfl (.s (ld T.t3 hS.p1 rfl rfl rfl rfl rfl) rfl (.s (bs T.s34 rfl rfl) rfl (.c (.liv [(Quad.mk 6 0 4 0 a0.Box)] dQuad T.u23 T.t34 hS rfl rfl rfl rfl ?_ rfl (fun _ => rfl) rfl rfl rfl rfl)))))))
  intro v6 W hS
  have ⟨r2, hr2, h⟩ := bnd h
  have hT0 := hS.p1
  refine .c (.apprv hr2 hT0 hT0.p1.lendv (fun _ => rfl) T.u23 T.t34 rfl rfl rfl ?_ rfl rfl rfl rfl rfl)
  intro v7 W hS
  obtain rfl := Option.some.inj h
  exact .q rfl (.nil (.ret (fin_ret (vs := [_]) v7 (rt rfl rn) rfl (hS.to [0] rfl))))
 refine .seq (.region (.q rfl (.q rfl (.nil ?_))))
 refine .cs rfl h ?_ ?_ <;> intro h
 ·refine .seq (.region (.q rfl (.s (bs T.s34 rfl rfl) rfl (.c (.liv [(Quad.mk 9 0 4 0 0)] dQuad T.u23 T.t34 hS rfl rfl rfl rfl ?_ rfl (fun _ => rfl) rfl rfl rfl rfl)))))
  intro v8 W hS
  have ⟨r3, hr3, h⟩ := bnd h
  have hT0 := hS.p1
  refine .c (.apprv hr3 hT0 hT0.p1.lendv (fun _ => rfl) T.u23 T.t34 rfl rfl rfl ?_ rfl rfl rfl rfl rfl)
  intro v9 W hS
  obtain rfl := Option.some.inj h
  exact .q rfl (.nil (.ret (fin_ret (vs := [_]) v9 (rt rfl rn) rfl (hS.to [0] rfl))))
 refine .seq (.region (.q rfl (.q rfl (.nil ?_))))
 refine .cs rfl h ?_ ?_ <;> intro h
 ·refine .seq (.region (.s (fa T.f92_1 rfl rfl rfl) rfl (.s (ld T.t3 hS.p1 rfl rfl rfl rfl rfl) rfl (.s (fa T.f92_2 rfl rfl rfl) rfl (.s (ld T.t3 hS.p1 rfl rfl rfl rfl rfl) rfl (.s (bs T.s34 rfl rfl) rfl (.c (.liv [(Quad.mk 7 a0.Var 0 0 a0.Box)] dQuad T.u23 T.t34 hS rfl rfl rfl rfl ?_ rfl (fun _ => rfl) rfl rfl rfl rfl))))))))
  intro v10 W hS
  cases h
  exact .q rfl (.nil (.ret (fin_ret (vs := [_]) v10 (rt rfl rn) rfl (hS.to [0] rfl))))
 refine .skip (.seq (.region (.s (bs T.s34 rfl rfl) rfl (.c (.liv [(Quad.mk 8 0 0 0 0)] dQuad T.u23 T.t34 hS rfl rfl rfl rfl ?_ rfl (fun _ => rfl) rfl rfl rfl rfl)))))
 intro v11 W hS
 cases h
 exact .q rfl (.nil (.ret (fin_ret (vs := [_]) v11 (rt rfl rn) rfl (hS.to [0] rfl))))
theorem spec_l22If_s {k : Nat} {F_spec_l22List : List Stmt → Int → Option ((List Quad))} {F_spec_l22Stmt : Stmt → Int → Option ((List Quad))} {F_spec_l22If : Stmt → Int → Option ((List Quad))} {F_spec_l22While : Stmt → Int → Option ((List Quad))} (ih_spec_l22List : spec_l22List_C F_spec_l22List) (ih_spec_l22Stmt : spec_l22Stmt_C F_spec_l22Stmt) (ih_spec_l22If : spec_l22If_C F_spec_l22If) (ih_spec_l22While : spec_l22While_C F_spec_l22While) : spec_l22If_C (spec_l22If_R k F_spec_l22List F_spec_l22Stmt F_spec_l22If F_spec_l22While) := by
 intro a0 a1 v_0_Expr_Args v_0_Body v_0_Else w r h q_0_Expr_Args q_0_Body q_0_Else
 unfold spec_l22If_R at h
 refine enter Tryz.func89 rfl rfl ?_
 have hS := Sep.start w
 refine .seq (.region (.c (.box hS rfl rfl ?_ rfl rfl)))
 intro g1 W hS
 refine .q rfl (.nil (.seq (.region (.s (fa T.f92_3 rfl rfl rfl) rfl (.s (ld T.t90 hS rfl rfl rfl rfl rfl) rfl ?_)))))
 have ⟨y1, hy1, h⟩ := bnd h
 refine .c (.call1v hS Tryz.func88 (spec_l22Expr_ok hy1 (hS.keep q_0_Expr_Args)) rfl rfl ?_ rfl (by kernel_rfl) rfl rfl)
 intro v1 W hS
 refine .q rfl (.nil (.seq (.region (.s (fa T.f92_4 rfl rfl rfl) rfl (.s (ld T.t65 hS.p1 rfl rfl rfl rfl rfl) rfl (.q rfl (.q rfl (.s (lenv hS.lendv T.u23 rfl rfl) rfl (.q rfl (.q rfl ?_))))))))))
 have ⟨y2, hy2, h⟩ := bnd h
 refine .c (.call1v hS Tryz.func64 (ih_spec_l22List hy2 (hS.keep q_0_Body)) rfl rfl ?_ rfl (by kernel_rfl) rfl rfl)
 intro v2 W hS
 refine .q rfl (.nil (.seq (.region (.q rfl (.q rfl (.s (lenv hS.p1.lendv T.u23 rfl rfl) rfl (.q rfl (.q rfl (.q rfl (.s (lenv hS.lendv T.u23 rfl rfl) rfl (.q rfl (.q rfl (.nil (.seq (.seq (.region (.s (fa T.f92_5 rfl rfl rfl) rfl (.s (ld T.t65 hS.p2 rfl rfl rfl rfl rfl) rfl (.s (lenv (hS.keep q_0_Else) T.u65 rfl rfl) rfl (.q rfl (.nil ?_)))))))))))))))))))))
 refine .cs rfl h ?_ ?_ <;> intro h
 ·refine .seq (.region (.q rfl (.q rfl (.s (bs T.s34 rfl rfl) rfl (.c (.liv [(Quad.mk 5 0 4 0 (w64 ((w64 ((w64 (a1 + (y1.length : Int))) + 1)) + (y2.length : Int))))] dQuad T.u23 T.t34 hS rfl rfl rfl rfl ?_ rfl (fun _ => rfl) rfl rfl rfl rfl))))))
  intro v3 W hS
  have ⟨r1, hr1, h⟩ := bnd h
  have hT0 := hS.p2
  refine .c (.apprv hr1 hT0 hT0.p1.lendv (fun _ => rfl) T.u23 T.t34 rfl rfl rfl ?_ rfl rfl rfl rfl rfl)
  intro v4 W hS
  refine .q rfl (.nil (.seq (.region (.q rfl (.q rfl ?_)))))
  have ⟨r2, hr2, h⟩ := bnd h
  have hT0 := hS
  refine .c (.apprv hr2 hT0 hT0.p2.lendv (fun _ => rfl) T.u23 T.t34 rfl rfl rfl ?_ rfl rfl rfl rfl rfl)
  intro v5 W hS
  obtain rfl := Option.some.inj h
  exact .q rfl (.nil (.ret (fin_ret (vs := [_]) v5 (rt rfl rn) rfl (hS.to [0] rfl))))
 refine .skip (.seq (.region (.s (fa T.f92_5 rfl rfl rfl) rfl (.s (ld T.t65 hS.p2 rfl rfl rfl rfl rfl) rfl (.q rfl (.q rfl ?_))))))
 have ⟨y3, hy3, h⟩ := bnd h
 refine .c (.call1v hS Tryz.func64 (ih_spec_l22List hy3 (hS.keep q_0_Else)) rfl rfl ?_ rfl (by kernel_rfl) rfl rfl)
 intro v6 W hS
 refine .q rfl (.nil (.seq (.region (.q rfl (.q rfl (.q rfl (.s (bs T.s34 rfl rfl) rfl (.c (.liv [(Quad.mk 5 0 4 0 (w64 ((w64 ((w64 ((w64 (a1 + (y1.length : Int))) + 1)) + (y2.length : Int))) + 1)))] dQuad T.u23 T.t34 hS rfl rfl rfl rfl ?_ rfl (fun _ => rfl) rfl rfl rfl rfl)))))))))
 intro v7 W hS
 have ⟨r3, hr3, h⟩ := bnd h
 have hT0 := hS.p3
 refine .c (.apprv hr3 hT0 hT0.p1.lendv (fun _ => rfl) T.u23 T.t34 rfl rfl rfl ?_ rfl rfl rfl rfl rfl)
 intro v8 W hS
 refine .q rfl (.nil (.seq (.region (.q rfl (.q rfl ?_)))))
 have ⟨r4, hr4, h⟩ := bnd h
 have hT0 := hS
 refine .c (.apprv hr4 hT0 hT0.p3.lendv (fun _ => rfl) T.u23 T.t34 rfl rfl rfl ?_ rfl rfl rfl rfl rfl)
 intro v9 W hS
 refine .q rfl (.nil (.seq (.region (.q rfl (.q rfl (.q rfl (.q rfl (.s (lenv hS.p2.lendv T.u23 rfl rfl) rfl (.q rfl (.s (bs T.s34 rfl rfl) rfl (.c (.liv [(Quad.mk 4 0 0 0 (w64 ((w64 ((w64 ((w64 ((w64 (a1 + (y1.length : Int))) + 1)) + (y2.length : Int))) + 1)) + (y3.length : Int))))] dQuad T.u23 T.t34 hS rfl rfl rfl rfl ?_ rfl (fun _ => rfl) rfl rfl rfl rfl))))))))))))
 intro v10 W hS
 have ⟨r5, hr5, h⟩ := bnd h
 have hT0 := hS.p1
 refine .c (.apprv hr5 hT0 hT0.p1.lendv (fun _ => rfl) T.u23 T.t34 rfl rfl rfl ?_ rfl rfl rfl rfl rfl)
 intro v11 W hS
 refine .q rfl (.nil (.seq (.region (.q rfl (.q rfl ?_)))))
 have ⟨r6, hr6, h⟩ := bnd h
 have hT0 := hS
 refine .c (.apprv hr6 hT0 hT0.p3.lendv (fun _ => rfl) T.u23 T.t34 rfl rfl rfl ?_ rfl rfl rfl rfl rfl)
 intro v12 W hS
 obtain rfl := Option.some.inj h
 exact .q rfl (.nil (.ret (fin_ret (vs := [_]) v12 (rt rfl rn) rfl (hS.to [0] rfl))))
theorem spec_l22While_s {k : Nat} {F_spec_l22List : List Stmt → Int → Option ((List Quad))} {F_spec_l22Stmt : Stmt → Int → Option ((List Quad))} {F_spec_l22If : Stmt → Int → Option ((List Quad))} {F_spec_l22While : Stmt → Int → Option ((List Quad))} (ih_spec_l22List : spec_l22List_C F_spec_l22List) (ih_spec_l22Stmt : spec_l22Stmt_C F_spec_l22Stmt) (ih_spec_l22If : spec_l22If_C F_spec_l22If) (ih_spec_l22While : spec_l22While_C F_spec_l22While) : spec_l22While_C (spec_l22While_R k F_spec_l22List F_spec_l22Stmt F_spec_l22If F_spec_l22While) := by
 intro a0 a1 v_0_Expr_Args v_0_Body v_0_Else w r h q_0_Expr_Args q_0_Body q_0_Else
 unfold spec_l22While_R at h
 refine enter Tryz.func90 rfl rfl ?_
 have hS := Sep.start w
 refine .seq (.region (.c (.box hS rfl rfl ?_ rfl rfl)))
 intro g1 W hS
 refine .q rfl (.nil (.seq (.region (.s (fa T.f92_3 rfl rfl rfl) rfl (.s (ld T.t90 hS rfl rfl rfl rfl rfl) rfl ?_)))))
 have ⟨y1, hy1, h⟩ := bnd h
 refine .c (.call1v hS Tryz.func88 (spec_l22Expr_ok hy1 (hS.keep q_0_Expr_Args)) rfl rfl ?_ rfl (by kernel_rfl) rfl rfl)
 intro v1 W hS
 refine .q rfl (.nil (.seq (.region (.s (fa T.f92_4 rfl rfl rfl) rfl (.s (ld T.t65 hS.p1 rfl rfl rfl rfl rfl) rfl (.q rfl (.q rfl (.s (lenv hS.lendv T.u23 rfl rfl) rfl (.q rfl (.q rfl ?_))))))))))
 have ⟨y2, hy2, h⟩ := bnd h
 refine .c (.call1v hS Tryz.func64 (ih_spec_l22List hy2 (hS.keep q_0_Body)) rfl rfl ?_ rfl (by kernel_rfl) rfl rfl)
 intro v2 W hS
 refine .q rfl (.nil (.seq (.region (.q rfl (.q rfl (.q rfl (.s (lenv hS.p1.lendv T.u23 rfl rfl) rfl (.q rfl (.q rfl (.q rfl (.s (lenv hS.lendv T.u23 rfl rfl) rfl (.q rfl (.q rfl (.s (bs T.s34 rfl rfl) rfl (.c (.liv [(Quad.mk 5 0 4 0 (w64 ((w64 ((w64 ((w64 (a1 + (y1.length : Int))) + 1)) + (y2.length : Int))) + 1)))] dQuad T.u23 T.t34 hS rfl rfl rfl rfl ?_ rfl (fun _ => rfl) rfl rfl rfl rfl))))))))))))))))
 intro v3 W hS
 have ⟨r1, hr1, h⟩ := bnd h
 have hT0 := hS.p2
 refine .c (.apprv hr1 hT0 hT0.p1.lendv (fun _ => rfl) T.u23 T.t34 rfl rfl rfl ?_ rfl rfl rfl rfl rfl)
 intro v4 W hS
 refine .q rfl (.nil (.seq (.region (.q rfl (.q rfl ?_)))))
 have ⟨r2, hr2, h⟩ := bnd h
 have hT0 := hS
 refine .c (.apprv hr2 hT0 hT0.p2.lendv (fun _ => rfl) T.u23 T.t34 rfl rfl rfl ?_ rfl rfl rfl rfl rfl)
 intro v5 W hS
 refine .q rfl (.nil (.seq (.region (.q rfl (.q rfl (.s (bs T.s34 rfl rfl) rfl (.c (.liv [(Quad.mk 4 0 0 0 a1)] dQuad T.u23 T.t34 hS rfl rfl rfl rfl ?_ rfl (fun _ => rfl) rfl rfl rfl rfl))))))))
 intro v6 W hS
 have ⟨r3, hr3, h⟩ := bnd h
 have hT0 := hS.p1
 refine .c (.apprv hr3 hT0 hT0.p1.lendv (fun _ => rfl) T.u23 T.t34 rfl rfl rfl ?_ rfl rfl rfl rfl rfl)
 intro v7 W hS
 obtain rfl := Option.some.inj h
 exact .q rfl (.nil (.ret (fin_ret (vs := [_]) v7 (rt rfl rn) rfl (hS.to [0] rfl))))
theorem scc_spec_l22List_ok (k : Nat) : spec_l22List_C (spec_l22List k) ∧ spec_l22Stmt_C (spec_l22Stmt k) ∧ spec_l22If_C (spec_l22If k) ∧ spec_l22While_C (spec_l22While k) := by
  induction k with
  | zero => exact ⟨by intro a0 a1 v_0 w r h q_0; exact no h, by intro a0 a1 v_0_Expr_Args v_0_Body v_0_Else w r h q_0_Expr_Args q_0_Body q_0_Else; exact no h, by intro a0 a1 v_0_Expr_Args v_0_Body v_0_Else w r h q_0_Expr_Args q_0_Body q_0_Else; exact no h, by intro a0 a1 v_0_Expr_Args v_0_Body v_0_Else w r h q_0_Expr_Args q_0_Body q_0_Else; exact no h⟩
  | succ k ih => exact ⟨spec_l22List_s (k := k) ih.1 ih.2.1 ih.2.2.1 ih.2.2.2, spec_l22Stmt_s (k := k) ih.1 ih.2.1 ih.2.2.1 ih.2.2.2, spec_l22If_s (k := k) ih.1 ih.2.1 ih.2.2.1 ih.2.2.2, spec_l22While_s (k := k) ih.1 ih.2.1 ih.2.2.1 ih.2.2.2⟩
theorem spec_l22List_ok {k : Nat} : spec_l22List_C (spec_l22List k) := (scc_spec_l22List_ok k).1
theorem spec_l22Stmt_ok {k : Nat} : spec_l22Stmt_C (spec_l22Stmt k) := (scc_spec_l22List_ok k).2.1
theorem spec_l22If_ok {k : Nat} : spec_l22If_C (spec_l22If k) := (scc_spec_l22List_ok k).2.2.1
theorem spec_l22While_ok {k : Nat} : spec_l22While_C (spec_l22While k) := (scc_spec_l22List_ok k).2.2.2
theorem spec_CompileTask_ok {k : Nat} {a0 : List Stmt} {v_0 : Hd} {w : World} {r : (List Quad) × Bool} (h : spec_CompileTask k a0 = some r) (q_0 : RV w (Old No w) (sv v_0) 92 8 dStmt a0) : Calls Tryz.prog 42 #[(sv v_0)] w (Ret No w (fun s : Hd => .tuple #[(sv s), .bool r.2]) (fun s => [rowV (sv s) 34 5 dQuad r.1])) := by
 unfold spec_CompileTask at h
 refine enter Tryz.func42 rfl rfl ?_
 have hS := Sep.start w
 refine .seq (.region (.q rfl (.q rfl (.nil (.seq (.seq (.region (.q rfl ?_))))))))
 have ⟨y1, hy1, h⟩ := bnd h
 refine .c (.call0 hS Tryz.func63 (spec_StmtsValid_ok hy1 (hS.keep q_0)) rfl rfl ?_ rfl (by kernel_rfl) rfl rfl)
 intro W hS
 refine .q rfl (.nil ?_)
 refine .cs rfl h ?_ ?_ <;> intro h
 ·refine .seq (.region (.c (.liv [] dQuad T.u23 T.t34 hS rfl rfl rfl rfl ?_ rfl (fun _ => rfl) rfl rfl rfl rfl)))
  intro v1 W hS
  cases h
  exact .q rfl (.q rfl (.nil (.ret (fin_ret (vs := [_, _]) v1 (rt rfl (rt rfl rn)) rfl (hS.to [0] rfl)))))
 refine .skip (.seq (.region (.q rfl ?_)))
 have ⟨y2, hy2, h⟩ := bnd h
 refine .c (.call1v hS Tryz.func64 (spec_l22List_ok hy2 (hS.keep q_0)) rfl rfl ?_ rfl (by kernel_rfl) rfl rfl)
 intro v2 W hS
 refine .s (bs T.s34 rfl rfl) rfl (.c (.liv [(Quad.mk 10 0 0 0 0)] dQuad T.u23 T.t34 hS rfl rfl rfl rfl ?_ rfl (fun _ => rfl) rfl rfl rfl rfl))
 intro v3 W hS
 have ⟨r1, hr1, h⟩ := bnd h
 have hT0 := hS.p1
 refine .c (.apprv hr1 hT0 hT0.p1.lendv (fun _ => rfl) T.u23 T.t34 rfl rfl rfl ?_ rfl rfl rfl rfl rfl)
 intro v4 W hS
 cases h
 exact .q rfl (.q rfl (.nil (.ret (fin_ret (vs := [_, _]) v4 (rt rfl (rt rfl rn)) rfl (hS.to [0] rfl)))))
theorem spec_l4Both_ok {a0 : Int} {a1 : Expr} {a2 : Expr} {v_1_Args : Hd} {v_2_Args : Hd} {S : Nat → Prop} {w : World} {r : Expr} (h : spec_l4Both a0 a1 a2 = some r) (hO : Owns w [rowV (sv v_1_Args) 90 3 dExpr a1.Args, rowV (sv v_2_Args) 90 3 dExpr a2.Args] S) (hlt : ∀ b, S b → b < w.heap.size) : Calls Tryz.prog 111 #[.int .i64 a0, .agg #[.int .i64 a1.Op, .int .i64 a1.N, (sv v_1_Args)], .agg #[.int .i64 a2.Op, .int .i64 a2.N, (sv v_2_Args)]] w (Ret S w (fun s : Hd => .agg #[.int .i64 r.Op, .int .i64 r.N, (sv s)]) (fun s => [rowV (sv s) 90 3 dExpr r.Args])) := by
 unfold spec_l4Both at h
 refine enter Tryz.func111 rfl rfl ?_
 have hS := Sep.startM hO hlt
 refine .seq (.region (.c (.box hS rfl rfl ?_ rfl rfl)))
 intro g1 W hS
 refine .c (.box hS rfl rfl ?_ rfl rfl)
 intro g2 W hS
 refine .c (.alloc T.t90 hS ?_ rfl rfl rfl)
 intro g3 W hS
 refine .nil (.seq (.region (.q rfl (.s (ld T.t90 hS.p2 rfl rfl rfl rfl rfl) rfl (.s (ld T.t90 hS.p1 rfl rfl rfl rfl rfl) rfl (.c (.ligv (L1 := [rowV (sv v_1_Args) 90 3 dExpr a1.Args, rowV (sv v_2_Args) 90 3 dExpr a2.Args]) [(Expr.mk a1.Op a1.N a1.Args), (Expr.mk a2.Op a2.N a2.Args)] dExpr T.u88 T.t90 (hS.to [3, 3, 0, 0, 0] rfl) rfl rfl rfl (.aggE (eExpr _) (.flat (c1 := [.int .i64 a1.Op]) rfl (.flat (c1 := [.int .i64 a1.N]) rfl (.row (.aggE (eExpr _) (.flat (c1 := [.int .i64 a2.Op]) rfl (.flat (c1 := [.int .i64 a2.N]) rfl (.row .nil)))))))) ?_ rfl zExpr rfl rfl rfl rfl rfl)))))))
 intro v1 W hS
 refine .s (bs T.s90 rfl rfl) rfl (.c (.st T.t90 hS.p1 rfl rfl rfl ?_ rfl rfl rfl rfl rfl))
 intro W hS
 cases h
 exact .nil (.ret (fin_ret (vs := [_]) v1 (rc hS T.t90 rfl rn rfl rfl) rfl (hS.to [1] rfl)))
theorem spec_l4Leaf_ok {a0 : Int} {a1 : Int} {w : World} {r : Expr} (h : spec_l4Leaf a0 a1 = some r) : Calls Tryz.prog 112 #[.int .i64 a0, .int .i64 a1] w (Ret No w (fun s : Hd => .agg #[.int .i64 r.Op, .int .i64 r.N, (sv s)]) (fun s => [rowV (sv s) 90 3 dExpr r.Args])) := by
 unfold spec_l4Leaf at h
 refine enter Tryz.func112 rfl rfl ?_
 have hS := Sep.start w
 refine .seq (.region (.c (.alloc T.t90 hS ?_ rfl rfl rfl)))
 intro g1 W hS
 refine .nil (.seq (.region (.q rfl (.q rfl (.c (.ligv (L1 := []) [] dExpr T.u88 T.t90 (hS.to [0] rfl) rfl rfl rfl (.nil) ?_ rfl zExpr rfl rfl rfl rfl rfl))))))
 intro v1 W hS
 refine .s (bs T.s90 rfl rfl) rfl (.c (.st T.t90 hS.p1 rfl rfl rfl ?_ rfl rfl rfl rfl rfl))
 intro W hS
 cases h
 exact .nil (.ret (fin_ret (vs := [_]) v1 (rc hS T.t90 rfl rn rfl rfl) rfl (hS.to [1] rfl)))
theorem spec_l91Leaf_ok {a0 : L6Rd} {v_0_b : Hd} {g_0 : Nat} {S : Nat → Prop} {w : World} {r : Expr × Int} (h : spec_l91Leaf a0 = some r) (q_0_b : RV w (Old S w) (sv v_0_b) 5 1 (D.int .u8) a0.b) (hO : Owns w [.box g_0 50 [(sv v_0_b), .int .i64 a0.p]] S) (hlt : ∀ b, S b → b < w.heap.size) : Calls Tryz.prog 113 #[.pointer (some ⟨g_0, 0, none⟩)] w (Ret S w (fun s : Hd => .agg #[.int .i64 r.1.Op, .int .i64 r.1.N, (sv s)]) (fun s => [.box g_0 50 [(sv v_0_b), .int .i64 r.2], rowV (sv s) 90 3 dExpr r.1.Args])) := by
 unfold spec_l91Leaf at h
 refine enter Tryz.func113 rfl rfl ?_
 have hS := Sep.startM hO hlt
 refine .seq (.region (.c (.alloc T.t90 hS ?_ rfl rfl rfl)))
 intro g1 W hS
 refine .nil (.seq (.seq (.region (.q rfl ?_))))
 have ⟨y1, hy1, h⟩ := bnd h
 have hS := hS.p1
 refine .c (.callS2 (L0 := [.box g_0 50 [(sv v_0_b), .int .i64 a0.p]]) hS Tryz.func15 (fun S h1 h2 h3 => (spec_l6Rd_pick_ok hy1 (hS.keepS q_0_b h1) h2 (fun b hb => (h1 b hb).2))) rfl rfl ?_ rfl (by kernel_rfl) rfl rfl)
 rintro ⟨⟩ W hS
 refine .nil (.block (.seq (.region (.q rfl (.q rfl (.nil (.cond rfl (fun hb => ?_) (fun hb => ?_))))))))
 ·have h := sel_t hb h
  refine .seq (.region (.q rfl ?_))
  have ⟨y2, hy2, h⟩ := bnd h
  refine .c (.callS2 (L0 := [.box g_0 50 [(sv v_0_b), .int .i64 y1.2]]) hS Tryz.func15 (fun S h1 h2 h3 => (spec_l6Rd_pick_ok hy2 (hS.keepS q_0_b h1) h2 (fun b hb => (h1 b hb).2))) rfl rfl ?_ rfl (by kernel_rfl) rfl rfl)
  rintro ⟨⟩ W hS
  have ⟨y3, hy3, h⟩ := bnd h
  refine .c (.call1v hS Tryz.func112 (spec_l4Leaf_ok hy3) rfl rfl ?_ rfl (by kernel_rfl) rfl rfl)
  intro v1 W hS
  refine .c (.st T.t90 hS.p2 rfl rfl rfl ?_ rfl rfl rfl rfl rfl)
  intro W hS
  cases h
  exact .nil (.ret (fin_ret (vs := [_]) v1 (rc hS T.t90 rfl rn rfl rfl) rfl (hS.to [2, 1] rfl)))
 have h := sel_f hb h
 refine .seq (.region (.q rfl (.q rfl (.nil (.cond rfl (fun hb => ?_) (fun hb => ?_))))))
 ·have h := sel_t hb h
  refine .seq (.region (.c (.liv [5, 31, 32, 100, 2047, 2048, 65536, 99999] (D.int .i64) T.u31 T.t3 hS rfl rfl rfl rfl ?_ rfl (fun _ => rfl) rfl rfl rfl rfl)))
  intro v2 W hS
  refine .q rfl ?_
  have ⟨y4, hy4, h⟩ := bnd h
  have hS := hS.p1
  refine .c (.callS2 (L0 := [.box g_0 50 [(sv v_0_b), .int .i64 y1.2]]) hS Tryz.func15 (fun S h1 h2 h3 => (spec_l6Rd_pick_ok hy4 (hS.keepS q_0_b h1) h2 (fun b hb => (h1 b hb).2))) rfl rfl ?_ rfl (by kernel_rfl) rfl rfl)
  rintro ⟨⟩ W hS
  have ⟨x1, hx1, h⟩ := bnd h
  refine .s (ixv hS.p1.lendv hx1 T.u31 T.t3 rfl rfl rfl) rfl (.s (lde (RV.flat hS.p1.lendv hx1 rfl) T.t3 rfl rfl rfl rfl rfl) rfl ?_)
  have ⟨y5, hy5, h⟩ := bnd h
  refine .c (.call1v hS Tryz.func112 (spec_l4Leaf_ok hy5) rfl rfl ?_ rfl (by kernel_rfl) rfl rfl)
  intro v3 W hS
  refine .c (.st T.t90 hS.p3 rfl rfl rfl ?_ rfl rfl rfl rfl rfl)
  intro W hS
  cases h
  exact .nil (.ret (fin_ret (vs := [_]) v3 (rc hS T.t90 rfl rn rfl rfl) rfl (hS.to [2, 1] rfl)))
 have h := sel_f hb h
 refine .skip (.seq (.region (.q rfl ?_)))
 have ⟨y6, hy6, h⟩ := bnd h
 refine .c (.callS2 (L0 := [.box g_0 50 [(sv v_0_b), .int .i64 y1.2]]) hS Tryz.func15 (fun S h1 h2 h3 => (spec_l6Rd_pick_ok hy6 (hS.keepS q_0_b h1) h2 (fun b hb => (h1 b hb).2))) rfl rfl ?_ rfl (by kernel_rfl) rfl rfl)
 rintro ⟨⟩ W hS
 have ⟨y7, hy7, h⟩ := bnd h
 refine .c (.call1v hS Tryz.func112 (spec_l4Leaf_ok hy7) rfl rfl ?_ rfl (by kernel_rfl) rfl rfl)
 intro v4 W hS
 refine .c (.st T.t90 hS.p2 rfl rfl rfl ?_ rfl rfl rfl rfl rfl)
 intro W hS
 cases h
 exact .nil (.ret (fin_ret (vs := [_]) v4 (rc hS T.t90 rfl rn rfl rfl) rfl (hS.to [2, 1] rfl)))
def spec_l91Expr_C (F : L6Rd → Int → Option (Expr × Int)) : Prop := ∀ {a0 : L6Rd} {a1 : Int} {v_0_b : Hd} {g_0 : Nat} {S : Nat → Prop} {w : World} {r : Expr × Int} (h : F a0 a1 = some r) (q_0_b : RV w (Old S w) (sv v_0_b) 5 1 (D.int .u8) a0.b) (hO : Owns w [.box g_0 50 [(sv v_0_b), .int .i64 a0.p]] S) (hlt : ∀ b, S b → b < w.heap.size) , Calls Tryz.prog 95 #[.pointer (some ⟨g_0, 0, none⟩), .int .i64 a1] w (Ret S w (fun s : Hd => .agg #[.int .i64 r.1.Op, .int .i64 r.1.N, (sv s)]) (fun s => [.box g_0 50 [(sv v_0_b), .int .i64 r.2], rowV (sv s) 90 3 dExpr r.1.Args]))
end Go.Proofs.YtjpbdpfkhdekpaaGreatDoor.N
