/- Printed by a program of mine: that the program's functions compute it. -/
import Derived.Test.YtjpbdpfkhdekpaaGreatDoorT11
import Derived.Test.YtjpbdpfkhdekpaaGreatDoorT11a
import Derived.Test.YtjpbdpfkhdekpaaGreatDoorT11c
import Derived.Test.YtjpbdpfkhdekpaaGreatDoorT11e
set_option linter.unusedVariables false
set_option maxRecDepth 100000
set_option maxHeartbeats 4000000
namespace Go.Proofs.YtjpbdpfkhdekpaaGreatDoor.N
open Go.Proofs.YtjpbdpfkhdekpaaGreatDoor.X
theorem impl_Bits_ok {a0 : Int} {a1 : Int} {a2 : Int} {w : World} {r : Int} (h : impl_Bits a0 a1 a2 = some r) : Calls Tryz.prog 46 #[.int .i64 a0, .int .i64 a1, .int .i64 a2] w (Ret No w (fun s : Unit => .int .i64 r) (fun s => [])) := by
 unfold impl_Bits at h
 refine enter Tryz.func46 rfl rfl ?_
 have hS := Sep.start w
 refine .seq (.region (.q rfl (.nil (.seq (.seq (.region (.q rfl ?_)))))))
 have ⟨y1, hy1, h⟩ := bnd h
 refine .c (.call0 hS Tryz.func68 (impl_isUnsigned_ok hy1) rfl rfl ?_ rfl (by kernel_rfl) rfl rfl)
 intro W hS
 refine .q rfl (.q rfl (.chunk 3 13 ((!y1) || (decide (a1 < 0))) hS ?_ ?_))
 ·refine .both (!y1) (fun hb => ?_) (fun hb => ?_)
  ·exact .xx hb rfl (.xx hb rfl (.s (pkt hb rfl rfl rfl) rfl (.nil (ck 3 hS rfl (or_t hb) rfl rfl))))
  have hg1 := hb
  exact .g hg1 (.q rfl (.g hg1 (.q rfl (.s (pkf hg1 rfl rfl rfl) rfl (.nil (ck 3 hS rfl (or_f hg1) rfl rfl)))) rfl)) rfl
 intro W hS
 refine .q rfl (.chunk 3 17 (((!y1) || (decide (a1 < 0))) || (decide (a1 > 31))) hS ?_ ?_)
 ·refine .both ((!y1) || (decide (a1 < 0))) (fun hb => ?_) (fun hb => ?_)
  ·exact .xx hb rfl (.xx hb rfl (.s (pkt hb rfl rfl rfl) rfl (.nil (ck 3 hS rfl (or_t hb) rfl rfl))))
  have hg2 := hb
  exact .g hg2 (.q rfl (.g hg2 (.q rfl (.s (pkf hg2 rfl rfl rfl) rfl (.nil (ck 3 hS rfl (or_f hg2) rfl rfl)))) rfl)) rfl
 intro W hS
 refine .q rfl (.chunk 3 21 ((((!y1) || (decide (a1 < 0))) || (decide (a1 > 31))) || (decide (a2 < 1))) hS ?_ ?_)
 ·refine .both (((!y1) || (decide (a1 < 0))) || (decide (a1 > 31))) (fun hb => ?_) (fun hb => ?_)
  ·exact .xx hb rfl (.xx hb rfl (.s (pkt hb rfl rfl rfl) rfl (.nil (ck 3 hS rfl (or_t hb) rfl rfl))))
  have hg3 := hb
  exact .g hg3 (.q rfl (.g hg3 (.q rfl (.s (pkf hg3 rfl rfl rfl) rfl (.nil (ck 3 hS rfl (or_f hg3) rfl rfl)))) rfl)) rfl
 intro W hS
 refine .q rfl (.chunk 5 27 (((((!y1) || (decide (a1 < 0))) || (decide (a1 > 31))) || (decide (a2 < 1))) || (decide (a2 > (w64 (32 - a1))))) hS ?_ ?_)
 ·refine .both ((((!y1) || (decide (a1 < 0))) || (decide (a1 > 31))) || (decide (a2 < 1))) (fun hb => ?_) (fun hb => ?_)
  ·exact .xx hb rfl (.xx hb rfl (.xx hb rfl (.xx hb rfl (.s (pkt hb rfl rfl rfl) rfl (.nil (ck 5 hS rfl (or_t hb) rfl rfl))))))
  have hg4 := hb
  exact .g hg4 (.q rfl (.g hg4 (.q rfl (.g hg4 (.q rfl (.g hg4 (.q rfl (.s (pkf hg4 rfl rfl rfl) rfl (.nil (ck 5 hS rfl (or_f hg4) rfl rfl)))) rfl)) rfl)) rfl)) rfl
 intro W hS
 refine .nil ?_
 refine .cs rfl h ?_ ?_ <;> intro h
 ·cases h
  exact .seq (.region (.q rfl (.nil (.ret (fin_ret (vs := [_]) () (rt rfl rn) rfl (hS.to [] rfl))))))
 refine .skip (.seq (.rk 8 hS [] T.mix ?_))
 intro W hS
 have hT := hS.to [] rfl
 refine .tp 0 rfl rfl hT (by kernel_rfl) (.tp 1 rfl rfl hT (by kernel_rfl) ?_)
 have ⟨d1, hd1, h⟩ := bnd h
 refine .ts 2 rfl (fun W hT => shr_run hd1 rfl rfl rfl) hT rfl (by kernel_rfl) (.tp 3 rfl rfl hT (by kernel_rfl) ?_)
 have ⟨d2, hd2, h⟩ := bnd h
 cases h
 exact .ts 4 rfl (fun W hT => shr_run hd2 rfl rfl rfl) hT rfl (by kernel_rfl) (.tp 5 rfl rfl hT (by kernel_rfl) (.tp 6 rfl rfl hT (by kernel_rfl) (.tp 7 rfl rfl hT (by kernel_rfl) (.done (.ret (fin_ret (vs := [_]) () (rt rfl rn) rfl (hS.to [] rfl))) (by kernel_rfl)))))
theorem impl_WordValid_ok {a0 : Int} {w : World} {r : Bool} (h : impl_WordValid a0 = some r) : Calls Tryz.prog 39 #[.int .i64 a0] w (Ret No w (fun s : Unit => .bool r) (fun s => [])) := by
 unfold impl_WordValid at h
 refine enter Tryz.func39 rfl rfl ?_
 have hS := Sep.start w
 refine .seq (.region (.q rfl (.nil (.seq (.region (.q rfl (.q rfl (.q rfl (.chunk 3 8 ((decide (a0 ≥ (-2147483648))) && (decide (a0 ≤ 2147483647))) hS ?_ ?_)))))))))
 ·refine .both (decide (a0 ≥ (-2147483648))) (fun hb => ?_) (fun hb => ?_)
  ·have hg1 := hb
   exact .g hg1 (.q rfl (.g hg1 (.q rfl (.s (pkt hg1 rfl rfl rfl) rfl (.nil (ck 3 hS rfl (and_t hg1) rfl rfl)))) rfl)) rfl
  exact .xx hb rfl (.xx hb rfl (.s (pkf hb rfl rfl rfl) rfl (.nil (ck 3 hS rfl (and_f hb) rfl rfl))))
 intro W hS
 cases h
 exact .q rfl (.nil (.ret (fin_ret (vs := [_]) () (rt rfl rn) rfl (hS.to [] rfl))))
theorem impl_Unsigned_ok {a0 : Int} {w : World} {r : Int} (h : impl_Unsigned a0 = some r) : Calls Tryz.prog 47 #[.int .i64 a0] w (Ret No w (fun s : Unit => .int .i64 r) (fun s => [])) := by
 unfold impl_Unsigned at h
 refine enter Tryz.func47 rfl rfl ?_
 have hS := Sep.start w
 refine .seq (.region (.q rfl (.nil (.seq (.seq (.region (.q rfl ?_)))))))
 have ⟨y1, hy1, h⟩ := bnd h
 refine .c (.call0 hS Tryz.func39 (impl_WordValid_ok hy1) rfl rfl ?_ rfl (by kernel_rfl) rfl rfl)
 intro W hS
 refine .q rfl (.nil ?_)
 refine .cs rfl h ?_ ?_ <;> intro h
 ·cases h
  exact .seq (.region (.q rfl (.nil (.ret (fin_ret (vs := [_]) () (rt rfl rn) rfl (hS.to [] rfl))))))
 cases h
 exact .skip (.seq (.region (.q rfl (.s (cv T.u3 T.u83 rfl rfl) rfl (.s (cv T.u83 T.u3 rfl rfl) rfl (.q rfl (.nil (.ret (fin_ret (vs := [_]) () (rt rfl rn) rfl (hS.to [] rfl))))))))))
theorem impl_Wrap_ok {a0 : Int} {w : World} {r : Int} (h : impl_Wrap a0 = some r) : Calls Tryz.prog 48 #[.int .i64 a0] w (Ret No w (fun s : Unit => .int .i64 r) (fun s => [])) := by
 unfold impl_Wrap at h
 refine enter Tryz.func48 rfl rfl ?_
 have hS := Sep.start w
 cases h
 exact .seq (.region (.q rfl (.nil (.seq (.region (.q rfl (.s (cv T.u3 T.u21 rfl rfl) rfl (.s (cv T.u21 T.u3 rfl rfl) rfl (.q rfl (.nil (.ret (fin_ret (vs := [_]) () (rt rfl rn) rfl (hS.to [] rfl)))))))))))))
theorem impl_constInstrs_ok {a0 : Int} {a1 : Int} {w : World} {r : (List Instr)} (h : impl_constInstrs a0 a1 = some r) : Calls Tryz.prog 26 #[.int .i64 a0, .int .i64 a1] w (Ret No w (fun s : Hd => (sv s)) (fun s => [rowV (sv s) 37 5 dInstr r])) := by
 unfold impl_constInstrs at h
 refine enter Tryz.func26 rfl rfl ?_
 have hS := Sep.start w
 refine .seq (.region (.q rfl (.nil (.seq (.seq (.region (.q rfl (.q rfl (.q rfl (.chunk 3 12 ((decide (a1 ≥ (-2048))) && (decide (a1 ≤ 2047))) hS ?_ ?_))))))))))
 ·refine .both (decide (a1 ≥ (-2048))) (fun hb => ?_) (fun hb => ?_)
  ·have hg1 := hb
   exact .g hg1 (.q rfl (.g hg1 (.q rfl (.s (pkt hg1 rfl rfl rfl) rfl (.nil (ck 3 hS rfl (and_t hg1) rfl rfl)))) rfl)) rfl
  exact .xx hb rfl (.xx hb rfl (.s (pkf hb rfl rfl rfl) rfl (.nil (ck 3 hS rfl (and_f hb) rfl rfl))))
 intro W hS
 refine .nil ?_
 refine .cs rfl h ?_ ?_ <;> intro h
 ·refine .seq (.region (.q rfl (.q rfl ?_)))
  have ⟨y1, hy1, h⟩ := bnd h
  refine .c (.call0 hS Tryz.func29 (impl_addi_ok hy1) rfl rfl ?_ rfl (by kernel_rfl) rfl rfl)
  intro W hS
  refine .c (.liv [y1] dInstr T.u26 T.t37 hS rfl rfl rfl rfl ?_ rfl (fun _ => rfl) rfl rfl rfl rfl)
  intro v1 W hS
  cases h
  exact .q rfl (.nil (.ret (fin_ret (vs := [_]) v1 (rt rfl rn) rfl (hS.to [0] rfl))))
 refine .skip (.seq (.region (.q rfl ?_)))
 have ⟨y2, hy2, h⟩ := bnd h
 refine .c (.call0 hS Tryz.func47 (impl_Unsigned_ok hy2) rfl rfl ?_ rfl (by kernel_rfl) rfl rfl)
 intro W hS
 have ⟨y3, hy3, h⟩ := bnd h
 refine .c (.call0 hS Tryz.func46 (impl_Bits_ok hy3) rfl rfl ?_ rfl (by kernel_rfl) rfl rfl)
 intro W hS
 have ⟨y4, hy4, h⟩ := bnd h
 refine .c (.call0 hS Tryz.func45 (impl_SignExtend_ok hy4) rfl rfl ?_ rfl (by kernel_rfl) rfl rfl)
 intro W hS
 refine .q rfl (.nil (.seq (.region (.q rfl (.q rfl (.q rfl ?_))))))
 have ⟨y5, hy5, h⟩ := bnd h
 refine .c (.call0 hS Tryz.func48 (impl_Wrap_ok hy5) rfl rfl ?_ rfl (by kernel_rfl) rfl rfl)
 intro W hS
 have ⟨y6, hy6, h⟩ := bnd h
 refine .c (.call0 hS Tryz.func47 (impl_Unsigned_ok hy6) rfl rfl ?_ rfl (by kernel_rfl) rfl rfl)
 intro W hS
 have ⟨y7, hy7, h⟩ := bnd h
 refine .c (.call0 hS Tryz.func46 (impl_Bits_ok hy7) rfl rfl ?_ rfl (by kernel_rfl) rfl rfl)
 intro W hS
 refine .q rfl (.nil (.seq (.region (.q rfl (.q rfl (.s (bs T.s37 rfl rfl) rfl (.q rfl (.q rfl (.q rfl ?_)))))))))
 have ⟨y8, hy8, h⟩ := bnd h
 refine .c (.call0 hS Tryz.func29 (impl_addi_ok hy8) rfl rfl ?_ rfl (by kernel_rfl) rfl rfl)
 intro W hS
 refine .c (.liv [(Instr.mk 19 a0 0 0 y7), y8] dInstr T.u26 T.t37 hS rfl rfl rfl rfl ?_ rfl (fun _ => rfl) rfl rfl rfl rfl)
 intro v2 W hS
 cases h
 exact .q rfl (.nil (.ret (fin_ret (vs := [_]) v2 (rt rfl rn) rfl (hS.to [0] rfl))))
theorem impl_quadInstrs_1_ok {a0 : Int} {a1 : Quad} {g_1 : Nat} {w : World} {r : (List Instr)} (h : impl_quadInstrs_1 a0 a1 = some r) (b_1 : BR w (Old No w) g_1 34 [.int .i64 a1.Op, .int .i64 a1.Dst, .int .i64 a1.A, .int .i64 a1.B, .int .i64 a1.N]) : Calls Tryz.prog 25 #[.int .i64 a0, .pointer (some ⟨g_1, 0, none⟩)] w (Ret No w (fun s : Hd => (sv s)) (fun s => [rowV (sv s) 37 5 dInstr r])) := by
 unfold impl_quadInstrs_1 at h
 refine enter Tryz.func25 rfl rfl ?_
 have hS := Sep.start w
 refine .seq (.region (.q rfl (.nil (.seq (.region (.q rfl (.s (fa T.f34_4 rfl rfl rfl) rfl (.s (ldb T.t3 (hS.keepB b_1) rfl rfl rfl rfl rfl) rfl ?_))))))))
 have ⟨y1, hy1, h⟩ := bnd h
 refine .c (.call1v hS Tryz.func26 (impl_constInstrs_ok hy1) rfl rfl ?_ rfl (by kernel_rfl) rfl rfl)
 intro v1 W hS
 obtain rfl := Option.some.inj h
 exact .q rfl (.nil (.ret (fin_ret (vs := [_]) v1 (rt rfl rn) rfl (hS.to [0] rfl))))
theorem impl_quadInstrs_2_ok {a0 : Int} {a1 : Int} {g_1 : Nat} {w : World} {r : (List Instr)} (h : impl_quadInstrs_2 a0 a1 = some r) (b_1 : BR w (Old No w) g_1 3 [.int .i64 a1]) : Calls Tryz.prog 28 #[.int .i64 a0, .pointer (some ⟨g_1, 0, none⟩)] w (Ret No w (fun s : Hd => (sv s)) (fun s => [rowV (sv s) 37 5 dInstr r])) := by
 unfold impl_quadInstrs_2 at h
 refine enter Tryz.func28 rfl rfl ?_
 have hS := Sep.start w
 refine .seq (.region (.q rfl (.nil (.seq (.region (.q rfl (.s (ldb T.t3 (hS.keepB b_1) rfl rfl rfl rfl rfl) rfl ?_)))))))
 have ⟨y1, hy1, h⟩ := bnd h
 refine .c (.call0 hS Tryz.func29 (impl_addi_ok hy1) rfl rfl ?_ rfl (by kernel_rfl) rfl rfl)
 intro W hS
 refine .c (.liv [y1] dInstr T.u26 T.t37 hS rfl rfl rfl rfl ?_ rfl (fun _ => rfl) rfl rfl rfl rfl)
 intro v1 W hS
 cases h
 exact .q rfl (.nil (.ret (fin_ret (vs := [_]) v1 (rt rfl rn) rfl (hS.to [0] rfl))))
theorem impl_quadInstrs_3_ok {a0 : Int} {a1 : Quad} {a2 : Int} {a3 : Int} {g_1 : Nat} {g_2 : Nat} {g_3 : Nat} {w : World} {r : (List Instr)} (h : impl_quadInstrs_3 a0 a1 a2 a3 = some r) (b_1 : BR w (Old No w) g_1 34 [.int .i64 a1.Op, .int .i64 a1.Dst, .int .i64 a1.A, .int .i64 a1.B, .int .i64 a1.N]) (b_2 : BR w (Old No w) g_2 3 [.int .i64 a2]) (b_3 : BR w (Old No w) g_3 3 [.int .i64 a3]) (hG : Gl w) : Calls Tryz.prog 30 #[.int .i64 a0, .pointer (some ⟨g_1, 0, none⟩), .pointer (some ⟨g_2, 0, none⟩), .pointer (some ⟨g_3, 0, none⟩)] w (Ret No w (fun s : Hd => (sv s)) (fun s => [rowV (sv s) 37 5 dInstr r])) := by
 unfold impl_quadInstrs_3 at h
 refine enter Tryz.func30 rfl rfl ?_
 have hS := Sep.start w
 refine .seq (.region (.q rfl (.nil (.seq (.rk 11 hS [] T.mix ?_)))))
 intro W hS
 have hT := hS.to [] rfl
 refine .ts 0 rfl (fun W hT => fa T.f34_4 rfl rfl rfl) hT rfl (by kernel_rfl) (.ts 1 rfl (fun W hT => ldb T.t3 (hT.keepB b_1) rfl rfl rfl rfl rfl) hT rfl (by kernel_rfl) (.tp 2 rfl rfl hT (by kernel_rfl) ?_))
 have ⟨x1, hx1, h⟩ := bnd h
 refine .ts 3 rfl (fun W hT => ixt hx1 rfl T.u59 T.t3 rfl rfl rfl) hT rfl (by kernel_rfl) (.ts 4 rfl (fun W hT => ldt (hG.at hT (fun _ _ h => h)).1 hx1 T.t3 rfl rfl rfl rfl rfl) hT rfl (by kernel_rfl) (.tp 5 rfl rfl hT (by kernel_rfl) (.ts 6 rfl (fun W hT => ldb T.t3 (hT.keepB b_2) rfl rfl rfl rfl rfl) hT rfl (by kernel_rfl) (.ts 7 rfl (fun W hT => ldb T.t3 (hT.keepB b_3) rfl rfl rfl rfl rfl) hT rfl (by kernel_rfl) (.ts 8 rfl (fun W hT => bs T.s37 rfl rfl) hT rfl (by kernel_rfl) (.by1 9 rfl (.liv [(Instr.mk x1 a0 a2 a3 0)] dInstr T.u26 T.t37 hS rfl rfl rfl rfl ?_ rfl (fun _ => rfl) rfl rfl rfl rfl) (by kernel_rfl)))))))
 intro v1 W hS
 have hT := hS.to [] rfl
 refine ⟨fun _ => hT, ?_⟩
 refine .tp 10 rfl rfl hT (by kernel_rfl) (.done (.seq (.seq (.region (.s (fa T.f34_4 rfl rfl rfl) rfl (.s (ldb T.t3 (hS.keepB b_1) rfl rfl rfl rfl rfl) rfl (.q rfl (.nil ?_))))))) (by kernel_rfl))
 refine .cs rfl h ?_ ?_ <;> intro h
 ·refine .region (.q rfl (.q rfl (.q rfl (.s (bs T.s37 rfl rfl) rfl (.c (.liv [(Instr.mk 13 a0 a0 0 1)] dInstr T.u26 T.t37 hS rfl rfl rfl rfl ?_ rfl (fun _ => rfl) rfl rfl rfl rfl))))))
  intro v2 W hS
  have ⟨r1, hr1, h⟩ := bnd h
  have hT0 := hS.p1
  refine .c (.apprv hr1 hT0 hT0.p1.lendv (fun _ => rfl) T.u26 T.t37 rfl rfl rfl ?_ rfl rfl rfl rfl rfl)
  intro v3 W hS
  obtain rfl := Option.some.inj h
  exact .q rfl (.nil (.seq (.region (.q rfl (.q rfl (.nil (.ret (fin_ret (vs := [_]) v3 (rt rfl rn) rfl (hS.to [0] rfl)))))))))
 cases h
 exact .skip (.seq (.region (.q rfl (.q rfl (.nil (.ret (fin_ret (vs := [_]) v1 (rt rfl rn) rfl (hS.to [0] rfl))))))))
theorem impl_quadInstrs_4_ok {a0 : Int} {w : World} {r : (List Instr)} (h : impl_quadInstrs_4 a0 = some r) : Calls Tryz.prog 34 #[.int .i64 a0] w (Ret No w (fun s : Hd => (sv s)) (fun s => [rowV (sv s) 37 5 dInstr r])) := by
 unfold impl_quadInstrs_4 at h
 refine enter Tryz.func34 rfl rfl ?_
 have hS := Sep.start w
 refine .seq (.region (.q rfl (.nil (.seq (.region (.q rfl ?_))))))
 have ⟨y1, hy1, h⟩ := bnd h
 refine .c (.call0 hS Tryz.func29 (impl_addi_ok hy1) rfl rfl ?_ rfl (by kernel_rfl) rfl rfl)
 intro W hS
 refine .c (.liv [y1] dInstr T.u26 T.t37 hS rfl rfl rfl rfl ?_ rfl (fun _ => rfl) rfl rfl rfl rfl)
 intro v1 W hS
 cases h
 exact .q rfl (.nil (.ret (fin_ret (vs := [_]) v1 (rt rfl rn) rfl (hS.to [0] rfl))))
theorem impl_quadInstrs_ok {a0 : Quad} {a1 : Int} {a2 : Int} {w : World} {r : (List Instr)} (h : impl_quadInstrs a0 a1 a2 = some r) (hG : Gl w) : Calls Tryz.prog 17 #[.agg #[.int .i64 a0.Op, .int .i64 a0.Dst, .int .i64 a0.A, .int .i64 a0.B, .int .i64 a0.N], .int .i64 a1, .int .i64 a2] w (Ret No w (fun s : Hd => (sv s)) (fun s => [rowV (sv s) 37 5 dInstr r])) := by
 unfold impl_quadInstrs at h
 refine enter Tryz.func17 rfl rfl ?_
 have hS := Sep.start w
 refine .seq (.region (.c (.box hS rfl rfl ?_ rfl rfl)))
 intro g1 W hS
 refine .q rfl (.nil (.seq (.region (.q rfl (.s (bs T.s53 rfl rfl) rfl (.c (.box hS rfl rfl ?_ rfl rfl)))))))
 intro g2 W hS
 refine .q rfl (.nil ?_)
 have ⟨y1, hy1, h⟩ := bnd h
 refine .seq (CW.via (R' := fun x E' W' => x = .normal ∧ ∃ (v1 : Hd), SubL E' [(7, .pointer (some ⟨g2, 0, none⟩))] ∧ Sep No w W' [.box g2 53 [.int .i64 a1, (sv v1)], .box g1 34 [.int .i64 a0.Op, .int .i64 a0.Dst, .int .i64 a0.A, .int .i64 a0.B, .int .i64 a0.N], rowV (sv v1) 37 5 dInstr y1]) ?_ ?_)
 ·have h := hy1
  refine .seq (.region (.s (fa T.f34_0 rfl rfl rfl) rfl (.s (ld T.t3 hS.p1 rfl rfl rfl rfl rfl) rfl (.nil (.block (.seq (.region (.q rfl (.q rfl (.nil (.cond rfl (fun hb => ?_) (fun hb => ?_))))))))))))
  ·have h := sel_t hb h
   refine .region (.q rfl (.s (fa T.f34_1 rfl rfl rfl) rfl (.s (ld T.t3 hS.p1 rfl rfl rfl rfl rfl) rfl (.s (mf rfl rfl) rfl ?_))))
   have hS := hS.nilv 37 5 dInstr
   have ⟨y2, hy2, h⟩ := bnd h
   have hS := hS.p1
   have hS := hS.p1
   refine .c (.callS2 (L0 := [rowV (sv nilH) 37 5 dInstr [], .box g2 53 [.int .i64 a1, (sv nilH)]]) hS Tryz.func24 (fun S h1 h2 h3 => (impl_emitter_write_ok hy2 ⟨_, Tryz.func25, rfl, by kernel_rfl⟩ (fun hA hg h => impl_quadInstrs_1_ok h ((h3.boxS (k := 0) rfl).agree hA)) h2 (fun b hb => (h1 b hb).2) (hG.at hS (fun _ _ h => h)) (hG.noS (fun _ _ h => h) h1))) rfl rfl ?_ rfl (by kernel_rfl) rfl rfl)
   rintro v2 W hS
   refine .nil ?_
   obtain rfl := Option.some.inj h
   exact ⟨rfl, v2, sb rfl, hS.to [0, 1, 0] rfl⟩
  have h := sel_f hb h
  refine .seq (.region (.q rfl (.q rfl (.nil (.cond rfl (fun hb => ?_) (fun hb => ?_))))))
  ·have h := sel_t hb h
   refine .seq (.region (.q rfl (.s (fa T.f34_2 rfl rfl rfl) rfl (.s (ld T.t3 hS.p1 rfl rfl rfl rfl rfl) rfl ?_))))
   have hS := hS.nilv 37 5 dInstr
   have ⟨y3, hy3, h⟩ := bnd h
   have hS := hS.p1
   have hS := hS.p1
   refine .c (.callS2 (L0 := [rowV (sv nilH) 37 5 dInstr [], .box g2 53 [.int .i64 a1, (sv nilH)]]) hS Tryz.func27 (fun S h1 h2 h3 => (impl_emitter_read_ok hy3 h2 (fun b hb => (h1 b hb).2) (hG.at hS (fun _ _ h => h)) (hG.noS (fun _ _ h => h) h1))) rfl rfl ?_ rfl (by kernel_rfl) rfl rfl)
   rintro v3 W hS
   refine .c (.alloc T.t3 hS ?_ rfl rfl rfl)
   intro g3 W hS
   refine .c (.st T.t3 hS rfl rfl rfl ?_ rfl rfl rfl rfl rfl)
   intro W hS
   refine .nil (.region (.q rfl (.s (fa T.f34_1 rfl rfl rfl) rfl (.s (ld T.t3 hS.p3 rfl rfl rfl rfl rfl) rfl (.s (mf rfl rfl) rfl ?_)))))
   have ⟨y4, hy4, h⟩ := bnd h
   have hS := hS.p1
   have hS := hS.p2
   refine .c (.callS2 (L0 := [rowV (sv v3) 37 5 dInstr y3.2, .box g2 53 [.int .i64 a1, (sv v3)]]) hS Tryz.func24 (fun S h1 h2 h3 => (impl_emitter_write_ok hy4 ⟨_, Tryz.func28, rfl, by kernel_rfl⟩ (fun hA hg h => impl_quadInstrs_2_ok h ((h3.boxS (k := 0) rfl).agree hA)) h2 (fun b hb => (h1 b hb).2) (hG.at hS (fun _ _ h => h)) (hG.noS (fun _ _ h => h) h1))) rfl rfl ?_ rfl (by kernel_rfl) rfl rfl)
   rintro v4 W hS
   refine .nil ?_
   obtain rfl := Option.some.inj h
   exact ⟨rfl, v4, sb rfl, hS.to [0, 2, 0] rfl⟩
  have h := sel_f hb h
  refine .seq (.region (.q rfl (.q rfl (.nil (.cond rfl (fun hb => ?_) (fun hb => ?_))))))
  ·have h := sel_t hb h
   refine .seq (.region (.q rfl (.s (fa T.f34_2 rfl rfl rfl) rfl (.s (ld T.t3 hS.p1 rfl rfl rfl rfl rfl) rfl ?_))))
   have hS := hS.nilv 37 5 dInstr
   have ⟨y5, hy5, h⟩ := bnd h
   have hS := hS.p1
   have hS := hS.p1
   refine .c (.callS2 (L0 := [rowV (sv nilH) 37 5 dInstr [], .box g2 53 [.int .i64 a1, (sv nilH)]]) hS Tryz.func27 (fun S h1 h2 h3 => (impl_emitter_read_ok hy5 h2 (fun b hb => (h1 b hb).2) (hG.at hS (fun _ _ h => h)) (hG.noS (fun _ _ h => h) h1))) rfl rfl ?_ rfl (by kernel_rfl) rfl rfl)
   rintro v5 W hS
   refine .c (.alloc T.t3 hS ?_ rfl rfl rfl)
   intro g4 W hS
   refine .c (.st T.t3 hS rfl rfl rfl ?_ rfl rfl rfl rfl rfl)
   intro W hS
   refine .nil (.seq (.region (.q rfl (.s (fa T.f34_3 rfl rfl rfl) rfl (.s (ld T.t3 hS.p3 rfl rfl rfl rfl rfl) rfl ?_)))))
   have ⟨y6, hy6, h⟩ := bnd h
   have hS := hS.p1
   have hS := hS.p2
   refine .c (.callS2 (L0 := [rowV (sv v5) 37 5 dInstr y5.2, .box g2 53 [.int .i64 a1, (sv v5)]]) hS Tryz.func27 (fun S h1 h2 h3 => (impl_emitter_read_ok hy6 h2 (fun b hb => (h1 b hb).2) (hG.at hS (fun _ _ h => h)) (hG.noS (fun _ _ h => h) h1))) rfl rfl ?_ rfl (by kernel_rfl) rfl rfl)
   rintro v6 W hS
   refine .c (.alloc T.t3 hS ?_ rfl rfl rfl)
   intro g5 W hS
   refine .c (.st T.t3 hS rfl rfl rfl ?_ rfl rfl rfl rfl rfl)
   intro W hS
   refine .nil (.region (.q rfl (.s (fa T.f34_1 rfl rfl rfl) rfl (.s (ld T.t3 hS.p4 rfl rfl rfl rfl rfl) rfl (.s (mf rfl rfl) rfl ?_)))))
   have ⟨y7, hy7, h⟩ := bnd h
   have hS := hS.p1
   have hS := hS.p2
   refine .c (.callS2 (L0 := [rowV (sv v6) 37 5 dInstr y6.2, .box g2 53 [.int .i64 a1, (sv v6)]]) hS Tryz.func24 (fun S h1 h2 h3 => (impl_emitter_write_ok hy7 ⟨_, Tryz.func30, rfl, by kernel_rfl⟩ (fun hA hg h => impl_quadInstrs_3_ok h ((h3.boxS (k := 2) rfl).agree hA) ((h3.boxS (k := 1) rfl).agree hA) ((h3.boxS (k := 0) rfl).agree hA) hg) h2 (fun b hb => (h1 b hb).2) (hG.at hS (fun _ _ h => h)) (hG.noS (fun _ _ h => h) h1))) rfl rfl ?_ rfl (by kernel_rfl) rfl rfl)
   rintro v7 W hS
   refine .nil ?_
   obtain rfl := Option.some.inj h
   exact ⟨rfl, v7, sb rfl, hS.to [0, 3, 0] rfl⟩
  have h := sel_f hb h
  refine .seq (.region (.q rfl (.q rfl (.nil (.cond rfl (fun hb => ?_) (fun hb => ?_))))))
  ·have h := sel_t hb h
   refine .region (.q rfl (.q rfl ?_))
   have hS := hS.nilv 37 5 dInstr
   have ⟨y8, hy8, h⟩ := bnd h
   have hS := hS.p1
   have hS := hS.p1
   refine .c (.callS2 (L0 := [rowV (sv nilH) 37 5 dInstr [], .box g2 53 [.int .i64 a1, (sv nilH)]]) hS Tryz.func31 (fun S h1 h2 h3 => (impl_emitter_jump_ok hy8 h2 (fun b hb => (h1 b hb).2))) rfl rfl ?_ rfl (by kernel_rfl) rfl rfl)
   rintro v8 W hS
   refine .nil ?_
   obtain rfl := Option.some.inj h
   exact ⟨rfl, v8, sb rfl, hS.to [0, 1, 0] rfl⟩
  have h := sel_f hb h
  refine .seq (.region (.q rfl (.q rfl (.nil (.cond rfl (fun hb => ?_) (fun hb => ?_))))))
  ·have h := sel_t hb h
   refine .seq (.region (.q rfl (.q rfl (.s (fa T.f34_2 rfl rfl rfl) rfl (.s (ld T.t3 hS.p1 rfl rfl rfl rfl rfl) rfl ?_)))))
   have hS := hS.nilv 37 5 dInstr
   have ⟨y9, hy9, h⟩ := bnd h
   have hS := hS.p1
   have hS := hS.p1
   refine .c (.callS2 (L0 := [rowV (sv nilH) 37 5 dInstr [], .box g2 53 [.int .i64 a1, (sv nilH)]]) hS Tryz.func27 (fun S h1 h2 h3 => (impl_emitter_read_ok hy9 h2 (fun b hb => (h1 b hb).2) (hG.at hS (fun _ _ h => h)) (hG.noS (fun _ _ h => h) h1))) rfl rfl ?_ rfl (by kernel_rfl) rfl rfl)
   rintro v9 W hS
   refine .s (bs T.s37 rfl rfl) rfl (.c (.liv [(Instr.mk 18 0 y9.1 0 8)] dInstr T.u26 T.t37 hS rfl rfl rfl rfl ?_ rfl (fun _ => rfl) rfl rfl rfl rfl))
   intro v10 W hS
   have ⟨y10, hy10, h⟩ := bnd h
   have hS := hS.p1
   have hS := hS.p2
   refine .c (.callS2 (L0 := [rowV (sv v9) 37 5 dInstr y9.2, .box g2 53 [.int .i64 a1, (sv v9)]]) hS Tryz.func32 (fun S h1 h2 h3 => (impl_emitter_emit_ok hy10 (h3.rdv (k := 0) rfl) h2 (fun b hb => (h1 b hb).2))) rfl rfl ?_ rfl (by kernel_rfl) rfl rfl)
   rintro v11 W hS
   refine .nil (.region (.q rfl (.q rfl ?_)))
   have ⟨y11, hy11, h⟩ := bnd h
   have hS := hS.p1
   refine .c (.callS2 (L0 := [rowV (sv v11) 37 5 dInstr y10, .box g2 53 [.int .i64 a1, (sv v11)]]) hS Tryz.func31 (fun S h1 h2 h3 => (impl_emitter_jump_ok hy11 h2 (fun b hb => (h1 b hb).2))) rfl rfl ?_ rfl (by kernel_rfl) rfl rfl)
   rintro v12 W hS
   refine .nil ?_
   obtain rfl := Option.some.inj h
   exact ⟨rfl, v12, sb rfl, hS.to [0, 2, 0] rfl⟩
  have h := sel_f hb h
  refine .seq (.region (.q rfl (.q rfl (.nil (.cond rfl (fun hb => ?_) (fun hb => ?_))))))
  ·have h := sel_t hb h
   refine .seq (.rk 11 hS [1] T.mix ?_)
   intro W hS
   have hT := hS.to [1] rfl
   refine .tp 0 rfl rfl hT (by kernel_rfl) (.tp 1 rfl rfl hT (by kernel_rfl) (.ts 2 rfl (fun W hT => fa T.f34_2 rfl rfl rfl) hT rfl (by kernel_rfl) (.ts 3 rfl (fun W hT => ld T.t3 hT rfl rfl rfl rfl rfl) hT rfl (by kernel_rfl) (.ts 6 rfl (fun W hT => fa T.f34_4 rfl rfl rfl) hT rfl (by kernel_rfl) (.ts 7 rfl (fun W hT => ld T.t3 hT rfl rfl rfl rfl rfl) hT rfl (by kernel_rfl) ?_)))))
   have hS := hS.nilv 37 5 dInstr
   have ⟨y12, hy12, h⟩ := bnd h
   have hS := hS.p1
   have hS := hS.p1
   refine .by1 4 rfl (.callS2 (L0 := [rowV (sv nilH) 37 5 dInstr [], .box g2 53 [.int .i64 a1, (sv nilH)]]) hS Tryz.func27 (fun S h1 h2 h3 => (impl_emitter_read_ok hy12 h2 (fun b hb => (h1 b hb).2) (hG.at hS (fun _ _ h => h)) (hG.noS (fun _ _ h => h) h1))) rfl rfl ?_ rfl (by kernel_rfl) rfl rfl) (by kernel_rfl)
   rintro v13 W hS
   have hT := hS.to [2] rfl
   refine ⟨fun _ => hT, ?_⟩
   have ⟨y13, hy13, h⟩ := bnd h
   refine .by1 5 rfl (.call0 hS Tryz.func29 (impl_addi_ok hy13) rfl rfl ?_ rfl (by kernel_rfl) rfl rfl) (by kernel_rfl)
   intro W hS
   have hT := hS.to [2] rfl
   refine ⟨fun _ => hT, ?_⟩
   have ⟨y14, hy14, h⟩ := bnd h
   refine .by1 8 rfl (.call0 hS Tryz.func29 (impl_addi_ok hy14) rfl rfl ?_ rfl (by kernel_rfl) rfl rfl) (by kernel_rfl)
   intro W hS
   have hT := hS.to [2] rfl
   refine ⟨fun _ => hT, ?_⟩
   refine .by1 9 rfl (.liv [y13, y14] dInstr T.u26 T.t37 hS rfl rfl rfl rfl ?_ rfl (fun _ => rfl) rfl rfl rfl rfl) (by kernel_rfl)
   intro v14 W hS
   have hT := hS.to [3] rfl
   refine ⟨fun _ => hT, ?_⟩
   have ⟨y15, hy15, h⟩ := bnd h
   have hS := hS.p1
   have hS := hS.p2
   refine .by1 10 rfl (.callS2 (L0 := [rowV (sv v13) 37 5 dInstr y12.2, .box g2 53 [.int .i64 a1, (sv v13)]]) hS Tryz.func32 (fun S h1 h2 h3 => (impl_emitter_emit_ok hy15 (h3.rdv (k := 0) rfl) h2 (fun b hb => (h1 b hb).2))) rfl rfl ?_ rfl (by kernel_rfl) rfl rfl) (by kernel_rfl)
   rintro v15 W hS
   have hT := hS.to [3] rfl
   refine ⟨fun _ => hT, ?_⟩
   refine .done (.region (.q rfl ?_)) (by kernel_rfl)
   have ⟨y16, hy16, h⟩ := bnd h
   have hS := hS.p1
   refine .c (.callS2 (L0 := [rowV (sv v15) 37 5 dInstr y15, .box g2 53 [.int .i64 a1, (sv v15)]]) hS Tryz.func33 (fun S h1 h2 h3 => (impl_emitter_call_ok hy16 h2 (fun b hb => (h1 b hb).2))) rfl rfl ?_ rfl (by kernel_rfl) rfl rfl)
   rintro v16 W hS
   refine .nil ?_
   obtain rfl := Option.some.inj h
   exact ⟨rfl, v16, sb rfl, hS.to [0, 2, 0] rfl⟩
  have h := sel_f hb h
  refine .seq (.region (.q rfl (.q rfl (.nil (.cond rfl (fun hb => ?_) (fun hb => ?_))))))
  ·have h := sel_t hb h
   refine .seq (.region (.q rfl (.s (fa T.f34_4 rfl rfl rfl) rfl (.s (ld T.t3 hS.p1 rfl rfl rfl rfl rfl) rfl ?_))))
   have ⟨y17, hy17, h⟩ := bnd h
   refine .c (.call0 hS Tryz.func29 (impl_addi_ok hy17) rfl rfl ?_ rfl (by kernel_rfl) rfl rfl)
   intro W hS
   refine .c (.liv [y17] dInstr T.u26 T.t37 hS rfl rfl rfl rfl ?_ rfl (fun _ => rfl) rfl rfl rfl rfl)
   intro v17 W hS
   have hS := hS.nilv 37 5 dInstr
   have ⟨y18, hy18, h⟩ := bnd h
   have hS := hS.p2
   have hS := hS.p1
   refine .c (.callS2 (L0 := [rowV (sv nilH) 37 5 dInstr [], .box g2 53 [.int .i64 a1, (sv nilH)]]) hS Tryz.func32 (fun S h1 h2 h3 => (impl_emitter_emit_ok hy18 (h3.rdv (k := 0) rfl) h2 (fun b hb => (h1 b hb).2))) rfl rfl ?_ rfl (by kernel_rfl) rfl rfl)
   rintro v18 W hS
   refine .nil (.seq (.region (.q rfl ?_)))
   have ⟨y19, hy19, h⟩ := bnd h
   have hS := hS.p1
   refine .c (.callS2 (L0 := [rowV (sv v18) 37 5 dInstr y18, .box g2 53 [.int .i64 a1, (sv v18)]]) hS Tryz.func33 (fun S h1 h2 h3 => (impl_emitter_call_ok hy19 h2 (fun b hb => (h1 b hb).2))) rfl rfl ?_ rfl (by kernel_rfl) rfl rfl)
   rintro v19 W hS
   refine .nil (.region (.q rfl (.s (fa T.f34_1 rfl rfl rfl) rfl (.s (ld T.t3 hS.p3 rfl rfl rfl rfl rfl) rfl ?_))))
   have ⟨y20, hy20, h⟩ := bnd h
   have hS := hS.p1
   refine .c (.callS2 (L0 := [rowV (sv v19) 37 5 dInstr y19, .box g2 53 [.int .i64 a1, (sv v19)]]) hS Tryz.func24 (fun S h1 h2 h3 => (impl_emitter_write_ok hy20 ⟨_, Tryz.func34, rfl, by kernel_rfl⟩ (fun hA hg h => impl_quadInstrs_4_ok h) h2 (fun b hb => (h1 b hb).2) (hG.at hS (fun _ _ h => h)) (hG.noS (fun _ _ h => h) h1))) rfl rfl ?_ rfl (by kernel_rfl) rfl rfl)
   rintro v20 W hS
   refine .nil ?_
   obtain rfl := Option.some.inj h
   exact ⟨rfl, v20, sb rfl, hS.to [0, 2, 0] rfl⟩
  have h := sel_f hb h
  refine .seq (.region (.q rfl (.q rfl (.nil (.cond rfl (fun hb => ?_) (fun hb => ?_))))))
  ·have h := sel_t hb h
   refine .region (.q rfl ?_)
   have hS := hS.nilv 37 5 dInstr
   have ⟨y21, hy21, h⟩ := bnd h
   have hS := hS.p1
   have hS := hS.p1
   refine .c (.callS2 (L0 := [rowV (sv nilH) 37 5 dInstr [], .box g2 53 [.int .i64 a1, (sv nilH)]]) hS Tryz.func33 (fun S h1 h2 h3 => (impl_emitter_call_ok hy21 h2 (fun b hb => (h1 b hb).2))) rfl rfl ?_ rfl (by kernel_rfl) rfl rfl)
   rintro v21 W hS
   refine .nil ?_
   obtain rfl := Option.some.inj h
   exact ⟨rfl, v21, sb rfl, hS.to [0, 1, 0] rfl⟩
  have h := sel_f hb h
  refine .seq (.region (.q rfl (.q rfl (.nil (.cond rfl (fun hb => ?_) (fun hb => ?_))))))
  ·have h := sel_t hb h
   refine .seq (.region (.q rfl (.q rfl (.s (fa T.f34_2 rfl rfl rfl) rfl (.s (ld T.t3 hS.p1 rfl rfl rfl rfl rfl) rfl ?_)))))
   have hS := hS.nilv 37 5 dInstr
   have ⟨y22, hy22, h⟩ := bnd h
   have hS := hS.p1
   have hS := hS.p1
   refine .c (.callS2 (L0 := [rowV (sv nilH) 37 5 dInstr [], .box g2 53 [.int .i64 a1, (sv nilH)]]) hS Tryz.func27 (fun S h1 h2 h3 => (impl_emitter_read_ok hy22 h2 (fun b hb => (h1 b hb).2) (hG.at hS (fun _ _ h => h)) (hG.noS (fun _ _ h => h) h1))) rfl rfl ?_ rfl (by kernel_rfl) rfl rfl)
   rintro v22 W hS
   have ⟨y23, hy23, h⟩ := bnd h
   refine .c (.call0 hS Tryz.func29 (impl_addi_ok hy23) rfl rfl ?_ rfl (by kernel_rfl) rfl rfl)
   intro W hS
   refine .c (.liv [y23] dInstr T.u26 T.t37 hS rfl rfl rfl rfl ?_ rfl (fun _ => rfl) rfl rfl rfl rfl)
   intro v23 W hS
   have ⟨y24, hy24, h⟩ := bnd h
   have hS := hS.p1
   have hS := hS.p2
   refine .c (.callS2 (L0 := [rowV (sv v22) 37 5 dInstr y22.2, .box g2 53 [.int .i64 a1, (sv v22)]]) hS Tryz.func32 (fun S h1 h2 h3 => (impl_emitter_emit_ok hy24 (h3.rdv (k := 0) rfl) h2 (fun b hb => (h1 b hb).2))) rfl rfl ?_ rfl (by kernel_rfl) rfl rfl)
   rintro v24 W hS
   refine .nil (.region (.q rfl ?_))
   have ⟨y25, hy25, h⟩ := bnd h
   have hS := hS.p1
   refine .c (.callS2 (L0 := [rowV (sv v24) 37 5 dInstr y24, .box g2 53 [.int .i64 a1, (sv v24)]]) hS Tryz.func33 (fun S h1 h2 h3 => (impl_emitter_call_ok hy25 h2 (fun b hb => (h1 b hb).2))) rfl rfl ?_ rfl (by kernel_rfl) rfl rfl)
   rintro v25 W hS
   refine .nil ?_
   obtain rfl := Option.some.inj h
   exact ⟨rfl, v25, sb rfl, hS.to [0, 2, 0] rfl⟩
  have h := sel_f hb h
  refine .seq (.region (.q rfl (.q rfl (.nil (.cond rfl (fun hb => ?_) (fun hb => ?_))))))
  ·have h := sel_t hb h
   refine .region (.q rfl ?_)
   have hS := hS.nilv 37 5 dInstr
   have ⟨y26, hy26, h⟩ := bnd h
   have hS := hS.p1
   have hS := hS.p1
   refine .c (.callS2 (L0 := [rowV (sv nilH) 37 5 dInstr [], .box g2 53 [.int .i64 a1, (sv nilH)]]) hS Tryz.func33 (fun S h1 h2 h3 => (impl_emitter_call_ok hy26 h2 (fun b hb => (h1 b hb).2))) rfl rfl ?_ rfl (by kernel_rfl) rfl rfl)
   rintro v26 W hS
   refine .nil ?_
   obtain rfl := Option.some.inj h
   exact ⟨rfl, v26, sb rfl, hS.to [0, 1, 0] rfl⟩
  have h := sel_f hb h
  refine .skip ?_
  have hS := hS.nilv 37 5 dInstr
  cases h
  exact ⟨rfl, nilH, sb rfl, hS.to [1, 1, 0] rfl⟩
 intro x E W hJ
 obtain ⟨rfl, v27, hE, hS⟩ := hJ
 refine ⟨_, hE.sub, ?_⟩
 obtain rfl := Option.some.inj h
 exact .seq (.region (.q rfl (.q rfl (.s (fa T.f53_1 rfl rfl rfl) rfl (.s (ld T.t26 hS rfl rfl rfl rfl rfl) rfl (.q rfl (.nil (.ret (fin_ret (vs := [_]) v27 (rt rfl rn) rfl (hS.to [2] rfl))))))))))
theorem impl_isReg_ok {a0 : Int} {w : World} {r : Bool} (h : impl_isReg a0 = some r) : Calls Tryz.prog 38 #[.int .i64 a0] w (Ret No w (fun s : Unit => .bool r) (fun s => [])) := by
 unfold impl_isReg at h
 refine enter Tryz.func38 rfl rfl ?_
 have hS := Sep.start w
 refine .seq (.region (.q rfl (.nil (.seq (.region (.q rfl (.q rfl (.q rfl (.chunk 3 8 ((decide (a0 ≥ 0)) && (decide (a0 < 12))) hS ?_ ?_)))))))))
 ·refine .both (decide (a0 ≥ 0)) (fun hb => ?_) (fun hb => ?_)
  ·have hg1 := hb
   exact .g hg1 (.q rfl (.g hg1 (.q rfl (.s (pkt hg1 rfl rfl rfl) rfl (.nil (ck 3 hS rfl (and_t hg1) rfl rfl)))) rfl)) rfl
  exact .xx hb rfl (.xx hb rfl (.s (pkf hb rfl rfl rfl) rfl (.nil (ck 3 hS rfl (and_f hb) rfl rfl))))
 intro W hS
 cases h
 exact .q rfl (.nil (.ret (fin_ret (vs := [_]) () (rt rfl rn) rfl (hS.to [] rfl))))
theorem impl_OpValid_ok {a0 : Int} {w : World} {r : Bool} (h : impl_OpValid a0 = some r) : Calls Tryz.prog 40 #[.int .i64 a0] w (Ret No w (fun s : Unit => .bool r) (fun s => [])) := by
 unfold impl_OpValid at h
 refine enter Tryz.func40 rfl rfl ?_
 have hS := Sep.start w
 refine .seq (.region (.q rfl (.nil (.seq (.region (.q rfl (.q rfl (.q rfl (.chunk 3 8 ((decide (a0 ≥ 1)) && (decide (a0 ≤ 12))) hS ?_ ?_)))))))))
 ·refine .both (decide (a0 ≥ 1)) (fun hb => ?_) (fun hb => ?_)
  ·have hg1 := hb
   exact .g hg1 (.q rfl (.g hg1 (.q rfl (.s (pkt hg1 rfl rfl rfl) rfl (.nil (ck 3 hS rfl (and_t hg1) rfl rfl)))) rfl)) rfl
  exact .xx hb rfl (.xx hb rfl (.s (pkf hb rfl rfl rfl) rfl (.nil (ck 3 hS rfl (and_f hb) rfl rfl))))
 intro W hS
 cases h
 exact .q rfl (.nil (.ret (fin_ret (vs := [_]) () (rt rfl rn) rfl (hS.to [] rfl))))
theorem impl_QuadValid_ok {a0 : Quad} {a1 : Int} {w : World} {r : Bool} (h : impl_QuadValid a0 a1 = some r) : Calls Tryz.prog 22 #[.agg #[.int .i64 a0.Op, .int .i64 a0.Dst, .int .i64 a0.A, .int .i64 a0.B, .int .i64 a0.N], .int .i64 a1] w (Ret No w (fun s : Unit => .bool r) (fun s => [])) := by
 unfold impl_QuadValid at h
 refine enter Tryz.func22 rfl rfl ?_
 have hS := Sep.start w
 refine .seq (.region (.c (.box hS rfl rfl ?_ rfl rfl)))
 intro g1 W hS
 refine .q rfl (.nil (.seq (.rk 15 hS [0] T.mix ?_)))
 intro W hS
 have hT := hS.to [0] rfl
 refine .ts 0 rfl (fun W hT => fa T.f34_1 rfl rfl rfl) hT rfl (by kernel_rfl) (.ts 1 rfl (fun W hT => ld T.t3 hT rfl rfl rfl rfl rfl) hT rfl (by kernel_rfl) (.ts 3 rfl (fun W hT => fa T.f34_2 rfl rfl rfl) hT rfl (by kernel_rfl) (.ts 4 rfl (fun W hT => ld T.t3 hT rfl rfl rfl rfl rfl) hT rfl (by kernel_rfl) (.ts 6 rfl (fun W hT => fa T.f34_3 rfl rfl rfl) hT rfl (by kernel_rfl) (.ts 7 rfl (fun W hT => ld T.t3 hT rfl rfl rfl rfl rfl) hT rfl (by kernel_rfl) (.ts 9 rfl (fun W hT => fa T.f34_4 rfl rfl rfl) hT rfl (by kernel_rfl) (.ts 10 rfl (fun W hT => ld T.t3 hT rfl rfl rfl rfl rfl) hT rfl (by kernel_rfl) ?_)))))))
 have ⟨y1, hy1, h⟩ := bnd h
 refine .by1 2 rfl (.call0 hS Tryz.func38 (impl_isReg_ok hy1) rfl rfl ?_ rfl (by kernel_rfl) rfl rfl) (by kernel_rfl)
 intro W hS
 have hT := hS.to [0] rfl
 refine ⟨fun _ => hT, ?_⟩
 have ⟨y2, hy2, h⟩ := bnd h
 refine .by1 5 rfl (.call0 hS Tryz.func38 (impl_isReg_ok hy2) rfl rfl ?_ rfl (by kernel_rfl) rfl rfl) (by kernel_rfl)
 intro W hS
 have hT := hS.to [0] rfl
 refine ⟨fun _ => hT, ?_⟩
 have ⟨y3, hy3, h⟩ := bnd h
 refine .by1 8 rfl (.call0 hS Tryz.func38 (impl_isReg_ok hy3) rfl rfl ?_ rfl (by kernel_rfl) rfl rfl) (by kernel_rfl)
 intro W hS
 have hT := hS.to [0] rfl
 refine ⟨fun _ => hT, ?_⟩
 refine .tp 11 rfl rfl hT (by kernel_rfl) (.tp 12 rfl rfl hT (by kernel_rfl) (.tp 13 rfl rfl hT (by kernel_rfl) (.tp 14 rfl rfl hT (by kernel_rfl) (.done (.seq (.seq (.region (.s (fa T.f34_0 rfl rfl rfl) rfl (.s (ld T.t3 hS rfl rfl rfl rfl rfl) rfl (.nil (.block (.seq (.region (.q rfl (.q rfl (.nil ?_)))))))))))) (by kernel_rfl)))))
 refine .cs rfl h ?_ ?_ <;> intro h
 ·refine .seq (.region (.s (ld T.t34 hS rfl rfl rfl rfl rfl) rfl (.s (fa T.f34_1 rfl rfl rfl) rfl (.s (ld T.t3 hS rfl rfl rfl rfl rfl) rfl (.q rfl (.s (bs T.s34 rfl rfl) rfl (.s (eqs T.e34 rfl rfl rfl rfl) rfl (.q rfl (.chunk 2 32 (((a0.Op == 1) && ((a0.Dst == a0.Dst) && ((a0.A == 0) && ((a0.B == 0) && ((a0.N == a0.N) && true))))) && y1) hS ?_ ?_)))))))))
  ·refine .both (((a0.Op == 1) && ((a0.Dst == a0.Dst) && ((a0.A == 0) && ((a0.B == 0) && ((a0.N == a0.N) && true)))))) (fun hb => ?_) (fun hb => ?_)
   ·have hg1 := hb
    exact .g hg1 (.q rfl (.s (pkt hg1 rfl rfl rfl) rfl (.nil (ck 2 hS rfl (and_t hg1) rfl rfl)))) rfl
   exact .xx hb rfl (.s (pkf hb rfl rfl rfl) rfl (.nil (ck 2 hS rfl (and_f hb) rfl rfl)))
  intro W hS
  refine .q rfl ?_
  have ⟨b1, hb1, h⟩ := bnd h
  refine .chunk 3 36 (b1) hS ?_ ?_
  ·refine .both (((a0.Op == 1) && ((a0.Dst == a0.Dst) && ((a0.A == 0) && ((a0.B == 0) && ((a0.N == a0.N) && true))))) && y1) (fun hb => ?_) (fun hb => ?_)
   ·have hg2 := hb
    have h := sel_t hb hb1
    refine .g hg2 (.q rfl ?_) rfl
    have ⟨y4, hy4, h⟩ := bnd h
    refine .g hg2 (.c (.call0 hS Tryz.func39 (impl_WordValid_ok hy4) rfl rfl ?_ rfl (by kernel_rfl) rfl rfl)) rfl
    intro W hS
    refine .s (pkt hg2 rfl rfl rfl) rfl ?_
    cases h
    exact .nil (ck 3 hS rfl rfl rfl rfl)
   refine .xx hb rfl (.xx hb rfl ?_)
   cases sel_f hb hb1
   exact .s (pkf hb rfl rfl rfl) rfl (.nil (ck 3 hS rfl rfl rfl rfl))
  intro W hS
  obtain rfl := Option.some.inj h
  exact .q rfl (.nil (.ret (fin_ret (vs := [_]) () (rt rfl rn) rfl (hS.to [] rfl))))
 refine .seq (.region (.q rfl (.q rfl (.nil ?_))))
 refine .cs rfl h ?_ ?_ <;> intro h
 ·refine .seq (.region (.s (ld T.t34 hS rfl rfl rfl rfl rfl) rfl (.s (fa T.f34_1 rfl rfl rfl) rfl (.s (ld T.t3 hS rfl rfl rfl rfl rfl) rfl (.s (fa T.f34_2 rfl rfl rfl) rfl (.s (ld T.t3 hS rfl rfl rfl rfl rfl) rfl (.s (bs T.s34 rfl rfl) rfl (.s (eqs T.e34 rfl rfl rfl rfl) rfl (.q rfl (.chunk 2 48 (((a0.Op == 2) && ((a0.Dst == a0.Dst) && ((a0.A == a0.A) && ((a0.B == 0) && ((a0.N == 0) && true))))) && y1) hS ?_ ?_))))))))))
  ·refine .both (((a0.Op == 2) && ((a0.Dst == a0.Dst) && ((a0.A == a0.A) && ((a0.B == 0) && ((a0.N == 0) && true)))))) (fun hb => ?_) (fun hb => ?_)
   ·have hg3 := hb
    exact .g hg3 (.q rfl (.s (pkt hg3 rfl rfl rfl) rfl (.nil (ck 2 hS rfl (and_t hg3) rfl rfl)))) rfl
   exact .xx hb rfl (.s (pkf hb rfl rfl rfl) rfl (.nil (ck 2 hS rfl (and_f hb) rfl rfl)))
  intro W hS
  refine .q rfl (.chunk 2 51 ((((a0.Op == 2) && ((a0.Dst == a0.Dst) && ((a0.A == a0.A) && ((a0.B == 0) && ((a0.N == 0) && true))))) && y1) && y2) hS ?_ ?_)
  ·refine .both (((a0.Op == 2) && ((a0.Dst == a0.Dst) && ((a0.A == a0.A) && ((a0.B == 0) && ((a0.N == 0) && true))))) && y1) (fun hb => ?_) (fun hb => ?_)
   ·have hg4 := hb
    exact .g hg4 (.q rfl (.s (pkt hg4 rfl rfl rfl) rfl (.nil (ck 2 hS rfl (and_t hg4) rfl rfl)))) rfl
   exact .xx hb rfl (.s (pkf hb rfl rfl rfl) rfl (.nil (ck 2 hS rfl (and_f hb) rfl rfl)))
  intro W hS
  cases h
  exact .q rfl (.nil (.ret (fin_ret (vs := [_]) () (rt rfl rn) rfl (hS.to [] rfl))))
 refine .seq (.region (.q rfl (.q rfl (.nil ?_))))
 refine .cs rfl h ?_ ?_ <;> intro h
 ·refine .seq (.region (.q rfl (.q rfl (.chunk 2 57 (y1 && y2) hS ?_ ?_))))
  ·refine .both (y1) (fun hb => ?_) (fun hb => ?_)
   ·have hg5 := hb
    exact .g hg5 (.q rfl (.s (pkt hg5 rfl rfl rfl) rfl (.nil (ck 2 hS rfl (and_t hg5) rfl rfl)))) rfl
   exact .xx hb rfl (.s (pkf hb rfl rfl rfl) rfl (.nil (ck 2 hS rfl (and_f hb) rfl rfl)))
  intro W hS
  refine .q rfl (.chunk 2 60 ((y1 && y2) && y3) hS ?_ ?_)
  ·refine .both (y1 && y2) (fun hb => ?_) (fun hb => ?_)
   ·have hg6 := hb
    exact .g hg6 (.q rfl (.s (pkt hg6 rfl rfl rfl) rfl (.nil (ck 2 hS rfl (and_t hg6) rfl rfl)))) rfl
   exact .xx hb rfl (.s (pkf hb rfl rfl rfl) rfl (.nil (ck 2 hS rfl (and_f hb) rfl rfl)))
  intro W hS
  refine .q rfl ?_
  have ⟨b2, hb2, h⟩ := bnd h
  refine .chunk 3 64 (b2) hS ?_ ?_
  ·refine .both ((y1 && y2) && y3) (fun hb => ?_) (fun hb => ?_)
   ·have hg7 := hb
    have h := sel_t hb hb2
    refine .g hg7 (.q rfl ?_) rfl
    have ⟨y5, hy5, h⟩ := bnd h
    refine .g hg7 (.c (.call0 hS Tryz.func40 (impl_OpValid_ok hy5) rfl rfl ?_ rfl (by kernel_rfl) rfl rfl)) rfl
    intro W hS
    refine .s (pkt hg7 rfl rfl rfl) rfl ?_
    cases h
    exact .nil (ck 3 hS rfl rfl rfl rfl)
   refine .xx hb rfl (.xx hb rfl ?_)
   cases sel_f hb hb2
   exact .s (pkf hb rfl rfl rfl) rfl (.nil (ck 3 hS rfl rfl rfl rfl))
  intro W hS
  obtain rfl := Option.some.inj h
  exact .q rfl (.nil (.ret (fin_ret (vs := [_]) () (rt rfl rn) rfl (hS.to [] rfl))))
 refine .seq (.region (.q rfl (.q rfl (.nil ?_))))
 refine .cs rfl h ?_ ?_ <;> intro h
 ·refine .seq (.region (.s (ld T.t34 hS rfl rfl rfl rfl rfl) rfl (.q rfl (.s (bs T.s34 rfl rfl) rfl (.s (eqs T.e34 rfl rfl rfl rfl) rfl (.q rfl (.chunk 3 74 (((a0.Op == 4) && ((a0.Dst == 0) && ((a0.A == 0) && ((a0.B == 0) && ((a0.N == a0.N) && true))))) && (decide (a0.N ≥ 0))) hS ?_ ?_)))))))
  ·refine .both (((a0.Op == 4) && ((a0.Dst == 0) && ((a0.A == 0) && ((a0.B == 0) && ((a0.N == a0.N) && true)))))) (fun hb => ?_) (fun hb => ?_)
   ·have hg8 := hb
    exact .g hg8 (.q rfl (.g hg8 (.q rfl (.s (pkt hg8 rfl rfl rfl) rfl (.nil (ck 3 hS rfl (and_t hg8) rfl rfl)))) rfl)) rfl
   exact .xx hb rfl (.xx hb rfl (.s (pkf hb rfl rfl rfl) rfl (.nil (ck 3 hS rfl (and_f hb) rfl rfl))))
  intro W hS
  refine .q rfl (.chunk 4 79 ((((a0.Op == 4) && ((a0.Dst == 0) && ((a0.A == 0) && ((a0.B == 0) && ((a0.N == a0.N) && true))))) && (decide (a0.N ≥ 0))) && (decide (a0.N < a1))) hS ?_ ?_)
  ·refine .both (((a0.Op == 4) && ((a0.Dst == 0) && ((a0.A == 0) && ((a0.B == 0) && ((a0.N == a0.N) && true))))) && (decide (a0.N ≥ 0))) (fun hb => ?_) (fun hb => ?_)
   ·have hg9 := hb
    exact .g hg9 (.q rfl (.g hg9 (.q rfl (.g hg9 (.q rfl (.s (pkt hg9 rfl rfl rfl) rfl (.nil (ck 4 hS rfl (and_t hg9) rfl rfl)))) rfl)) rfl)) rfl
   exact .xx hb rfl (.xx hb rfl (.xx hb rfl (.s (pkf hb rfl rfl rfl) rfl (.nil (ck 4 hS rfl (and_f hb) rfl rfl)))))
  intro W hS
  cases h
  exact .q rfl (.nil (.ret (fin_ret (vs := [_]) () (rt rfl rn) rfl (hS.to [] rfl))))
 refine .seq (.region (.q rfl (.q rfl (.nil ?_))))
 refine .cs rfl h ?_ ?_ <;> intro h
 ·refine .seq (.region (.s (ld T.t34 hS rfl rfl rfl rfl rfl) rfl (.s (fa T.f34_2 rfl rfl rfl) rfl (.s (ld T.t3 hS rfl rfl rfl rfl rfl) rfl (.q rfl (.s (bs T.s34 rfl rfl) rfl (.s (eqs T.e34 rfl rfl rfl rfl) rfl (.q rfl (.chunk 2 90 (((a0.Op == 5) && ((a0.Dst == 0) && ((a0.A == a0.A) && ((a0.B == 0) && ((a0.N == a0.N) && true))))) && y2) hS ?_ ?_)))))))))
  ·refine .both (((a0.Op == 5) && ((a0.Dst == 0) && ((a0.A == a0.A) && ((a0.B == 0) && ((a0.N == a0.N) && true)))))) (fun hb => ?_) (fun hb => ?_)
   ·have hg10 := hb
    exact .g hg10 (.q rfl (.s (pkt hg10 rfl rfl rfl) rfl (.nil (ck 2 hS rfl (and_t hg10) rfl rfl)))) rfl
   exact .xx hb rfl (.s (pkf hb rfl rfl rfl) rfl (.nil (ck 2 hS rfl (and_f hb) rfl rfl)))
  intro W hS
  refine .q rfl (.chunk 3 94 ((((a0.Op == 5) && ((a0.Dst == 0) && ((a0.A == a0.A) && ((a0.B == 0) && ((a0.N == a0.N) && true))))) && y2) && (decide (a0.N ≥ 0))) hS ?_ ?_)
  ·refine .both (((a0.Op == 5) && ((a0.Dst == 0) && ((a0.A == a0.A) && ((a0.B == 0) && ((a0.N == a0.N) && true))))) && y2) (fun hb => ?_) (fun hb => ?_)
   ·have hg11 := hb
    exact .g hg11 (.q rfl (.g hg11 (.q rfl (.s (pkt hg11 rfl rfl rfl) rfl (.nil (ck 3 hS rfl (and_t hg11) rfl rfl)))) rfl)) rfl
   exact .xx hb rfl (.xx hb rfl (.s (pkf hb rfl rfl rfl) rfl (.nil (ck 3 hS rfl (and_f hb) rfl rfl))))
  intro W hS
  refine .q rfl (.chunk 4 99 (((((a0.Op == 5) && ((a0.Dst == 0) && ((a0.A == a0.A) && ((a0.B == 0) && ((a0.N == a0.N) && true))))) && y2) && (decide (a0.N ≥ 0))) && (decide (a0.N < a1))) hS ?_ ?_)
  ·refine .both ((((a0.Op == 5) && ((a0.Dst == 0) && ((a0.A == a0.A) && ((a0.B == 0) && ((a0.N == a0.N) && true))))) && y2) && (decide (a0.N ≥ 0))) (fun hb => ?_) (fun hb => ?_)
   ·have hg12 := hb
    exact .g hg12 (.q rfl (.g hg12 (.q rfl (.g hg12 (.q rfl (.s (pkt hg12 rfl rfl rfl) rfl (.nil (ck 4 hS rfl (and_t hg12) rfl rfl)))) rfl)) rfl)) rfl
   exact .xx hb rfl (.xx hb rfl (.xx hb rfl (.s (pkf hb rfl rfl rfl) rfl (.nil (ck 4 hS rfl (and_f hb) rfl rfl)))))
  intro W hS
  cases h
  exact .q rfl (.nil (.ret (fin_ret (vs := [_]) () (rt rfl rn) rfl (hS.to [] rfl))))
 refine .seq (.region (.q rfl (.q rfl (.nil ?_))))
 refine .cs rfl h ?_ ?_ <;> intro h
 ·refine .seq (.region (.s (ld T.t34 hS rfl rfl rfl rfl rfl) rfl (.s (fa T.f34_2 rfl rfl rfl) rfl (.s (ld T.t3 hS rfl rfl rfl rfl rfl) rfl (.q rfl (.s (bs T.s34 rfl rfl) rfl (.s (eqs T.e34 rfl rfl rfl rfl) rfl (.q rfl (.chunk 2 110 (((a0.Op == 6) && ((a0.Dst == 0) && ((a0.A == a0.A) && ((a0.B == 0) && ((a0.N == a0.N) && true))))) && y2) hS ?_ ?_)))))))))
  ·refine .both (((a0.Op == 6) && ((a0.Dst == 0) && ((a0.A == a0.A) && ((a0.B == 0) && ((a0.N == a0.N) && true)))))) (fun hb => ?_) (fun hb => ?_)
   ·have hg13 := hb
    exact .g hg13 (.q rfl (.s (pkt hg13 rfl rfl rfl) rfl (.nil (ck 2 hS rfl (and_t hg13) rfl rfl)))) rfl
   exact .xx hb rfl (.s (pkf hb rfl rfl rfl) rfl (.nil (ck 2 hS rfl (and_f hb) rfl rfl)))
  intro W hS
  refine .q rfl (.chunk 3 114 ((((a0.Op == 6) && ((a0.Dst == 0) && ((a0.A == a0.A) && ((a0.B == 0) && ((a0.N == a0.N) && true))))) && y2) && (decide (a0.N ≥ 0))) hS ?_ ?_)
  ·refine .both (((a0.Op == 6) && ((a0.Dst == 0) && ((a0.A == a0.A) && ((a0.B == 0) && ((a0.N == a0.N) && true))))) && y2) (fun hb => ?_) (fun hb => ?_)
   ·have hg14 := hb
    exact .g hg14 (.q rfl (.g hg14 (.q rfl (.s (pkt hg14 rfl rfl rfl) rfl (.nil (ck 3 hS rfl (and_t hg14) rfl rfl)))) rfl)) rfl
   exact .xx hb rfl (.xx hb rfl (.s (pkf hb rfl rfl rfl) rfl (.nil (ck 3 hS rfl (and_f hb) rfl rfl))))
  intro W hS
  refine .q rfl (.chunk 3 118 (((((a0.Op == 6) && ((a0.Dst == 0) && ((a0.A == a0.A) && ((a0.B == 0) && ((a0.N == a0.N) && true))))) && y2) && (decide (a0.N ≥ 0))) && (decide (a0.N < 3))) hS ?_ ?_)
  ·refine .both ((((a0.Op == 6) && ((a0.Dst == 0) && ((a0.A == a0.A) && ((a0.B == 0) && ((a0.N == a0.N) && true))))) && y2) && (decide (a0.N ≥ 0))) (fun hb => ?_) (fun hb => ?_)
   ·have hg15 := hb
    exact .g hg15 (.q rfl (.g hg15 (.q rfl (.s (pkt hg15 rfl rfl rfl) rfl (.nil (ck 3 hS rfl (and_t hg15) rfl rfl)))) rfl)) rfl
   exact .xx hb rfl (.xx hb rfl (.s (pkf hb rfl rfl rfl) rfl (.nil (ck 3 hS rfl (and_f hb) rfl rfl))))
  intro W hS
  cases h
  exact .q rfl (.nil (.ret (fin_ret (vs := [_]) () (rt rfl rn) rfl (hS.to [] rfl))))
 refine .seq (.region (.q rfl (.q rfl (.nil ?_))))
 refine .cs rfl h ?_ ?_ <;> intro h
 ·refine .seq (.region (.s (ld T.t34 hS rfl rfl rfl rfl rfl) rfl (.s (fa T.f34_1 rfl rfl rfl) rfl (.s (ld T.t3 hS rfl rfl rfl rfl rfl) rfl (.q rfl (.s (bs T.s34 rfl rfl) rfl (.s (eqs T.e34 rfl rfl rfl rfl) rfl (.q rfl (.chunk 2 129 (((a0.Op == 7) && ((a0.Dst == a0.Dst) && ((a0.A == 0) && ((a0.B == 0) && ((a0.N == a0.N) && true))))) && y1) hS ?_ ?_)))))))))
  ·refine .both (((a0.Op == 7) && ((a0.Dst == a0.Dst) && ((a0.A == 0) && ((a0.B == 0) && ((a0.N == a0.N) && true)))))) (fun hb => ?_) (fun hb => ?_)
   ·have hg16 := hb
    exact .g hg16 (.q rfl (.s (pkt hg16 rfl rfl rfl) rfl (.nil (ck 2 hS rfl (and_t hg16) rfl rfl)))) rfl
   exact .xx hb rfl (.s (pkf hb rfl rfl rfl) rfl (.nil (ck 2 hS rfl (and_f hb) rfl rfl)))
  intro W hS
  refine .q rfl (.chunk 3 133 ((((a0.Op == 7) && ((a0.Dst == a0.Dst) && ((a0.A == 0) && ((a0.B == 0) && ((a0.N == a0.N) && true))))) && y1) && (decide (a0.N ≥ 0))) hS ?_ ?_)
  ·refine .both (((a0.Op == 7) && ((a0.Dst == a0.Dst) && ((a0.A == 0) && ((a0.B == 0) && ((a0.N == a0.N) && true))))) && y1) (fun hb => ?_) (fun hb => ?_)
   ·have hg17 := hb
    exact .g hg17 (.q rfl (.g hg17 (.q rfl (.s (pkt hg17 rfl rfl rfl) rfl (.nil (ck 3 hS rfl (and_t hg17) rfl rfl)))) rfl)) rfl
   exact .xx hb rfl (.xx hb rfl (.s (pkf hb rfl rfl rfl) rfl (.nil (ck 3 hS rfl (and_f hb) rfl rfl))))
  intro W hS
  refine .q rfl (.chunk 3 137 (((((a0.Op == 7) && ((a0.Dst == a0.Dst) && ((a0.A == 0) && ((a0.B == 0) && ((a0.N == a0.N) && true))))) && y1) && (decide (a0.N ≥ 0))) && (decide (a0.N < 3))) hS ?_ ?_)
  ·refine .both ((((a0.Op == 7) && ((a0.Dst == a0.Dst) && ((a0.A == 0) && ((a0.B == 0) && ((a0.N == a0.N) && true))))) && y1) && (decide (a0.N ≥ 0))) (fun hb => ?_) (fun hb => ?_)
   ·have hg18 := hb
    exact .g hg18 (.q rfl (.g hg18 (.q rfl (.s (pkt hg18 rfl rfl rfl) rfl (.nil (ck 3 hS rfl (and_t hg18) rfl rfl)))) rfl)) rfl
   exact .xx hb rfl (.xx hb rfl (.s (pkf hb rfl rfl rfl) rfl (.nil (ck 3 hS rfl (and_f hb) rfl rfl))))
  intro W hS
  cases h
  exact .q rfl (.nil (.ret (fin_ret (vs := [_]) () (rt rfl rn) rfl (hS.to [] rfl))))
 refine .seq (.region (.q rfl (.q rfl (.nil ?_))))
 refine .cs rfl h ?_ ?_ <;> intro h
 ·refine .seq (.region (.s (ld T.t34 hS rfl rfl rfl rfl rfl) rfl (.s (fa T.f34_2 rfl rfl rfl) rfl (.s (ld T.t3 hS rfl rfl rfl rfl rfl) rfl (.s (bs T.s34 rfl rfl) rfl (.s (eqs T.e34 rfl rfl rfl rfl) rfl (.q rfl (.chunk 2 147 (((a0.Op == 9) && ((a0.Dst == 0) && ((a0.A == a0.A) && ((a0.B == 0) && ((a0.N == 0) && true))))) && y2) hS ?_ ?_))))))))
  ·refine .both (((a0.Op == 9) && ((a0.Dst == 0) && ((a0.A == a0.A) && ((a0.B == 0) && ((a0.N == 0) && true)))))) (fun hb => ?_) (fun hb => ?_)
   ·have hg19 := hb
    exact .g hg19 (.q rfl (.s (pkt hg19 rfl rfl rfl) rfl (.nil (ck 2 hS rfl (and_t hg19) rfl rfl)))) rfl
   exact .xx hb rfl (.s (pkf hb rfl rfl rfl) rfl (.nil (ck 2 hS rfl (and_f hb) rfl rfl)))
  intro W hS
  cases h
  exact .q rfl (.nil (.ret (fin_ret (vs := [_]) () (rt rfl rn) rfl (hS.to [] rfl))))
 have ⟨y6, hy6, h⟩ := bnd h
 refine .seq (CW.via (R' := fun x E' W' => x = .normal ∧ SubL E' [(2, .pointer (some ⟨g1, 0, none⟩)), (148, .bool y6)] ∧ Sep No w W' [.box g1 34 [.int .i64 a0.Op, .int .i64 a0.Dst, .int .i64 a0.A, .int .i64 a0.B, .int .i64 a0.N]]) ?_ ?_)
 ·have h := hy6
  refine .seq (.region (.q rfl (.q rfl (.nil ?_))))
  refine .cs rfl h ?_ ?_ <;> intro h
  ·refine .skip ?_
   cases h
   exact ⟨rfl, sb rfl, hS.to [0] rfl⟩
  refine .region (.q rfl (.q rfl (.nil ?_)))
  cases h
  exact ⟨rfl, sb rfl, hS.to [0] rfl⟩
 intro x E W hJ
 obtain ⟨rfl, hE, hS⟩ := hJ
 refine ⟨_, hE.sub, ?_⟩
 refine .cs rfl h ?_ ?_ <;> intro h
 ·cases h
  exact .seq (.region (.s (ld T.t34 hS rfl rfl rfl rfl rfl) rfl (.s (fa T.f34_0 rfl rfl rfl) rfl (.s (ld T.t3 hS rfl rfl rfl rfl rfl) rfl (.s (bs T.s34 rfl rfl) rfl (.s (eqs T.e34 rfl rfl rfl rfl) rfl (.q rfl (.nil (.ret (fin_ret (vs := [_]) () (rt rfl rn) rfl (hS.to [] rfl)))))))))))
 obtain rfl := Option.some.inj h
 exact .skip (.seq (.region (.q rfl (.nil (.ret (fin_ret (vs := [_]) () (rt rfl rn) rfl (hS.to [] rfl)))))))
def impl_CodeValid_F (w : World) (r : Bool) : Env → World → Prop := Fin Tryz.prog Tryz.f21 No w (fun s : Unit => .bool r) (fun s => []) .ret
theorem impl_CodeValid_ok {a0 : List Quad} {v_0 : Hd} {w : World} {r : Bool} (h : impl_CodeValid a0 = some r) (q_0 : RV w (Old No w) (sv v_0) 34 5 dQuad a0) : Calls Tryz.prog 21 #[(sv v_0)] w (Ret No w (fun s : Unit => .bool r) (fun s => [])) := by
 unfold impl_CodeValid at h
 refine enter Tryz.func21 rfl rfl ?_
 have hS := Sep.start w
 refine .seq (.region (.q rfl (.nil (.seq (.seq (.region (.q rfl (.s (lenv (hS.keep q_0) T.u23 rfl rfl) rfl (.q rfl (.q rfl (.chunk 4 13 ((decide ((a0.length : Int) < 1)) || (decide ((a0.length : Int) > 600))) hS ?_ ?_)))))))))))
 ·refine .both (decide ((a0.length : Int) < 1)) (fun hb => ?_) (fun hb => ?_)
  ·exact .xx hb rfl (.xx hb rfl (.xx hb rfl (.s (pkt hb rfl rfl rfl) rfl (.nil (ck 4 hS rfl (or_t hb) rfl rfl)))))
  have hg1 := hb
  exact .g hg1 (.q rfl (.g hg1 (.s (lenv (hS.keep q_0) T.u23 rfl rfl) rfl (.g hg1 (.q rfl (.s (pkf hg1 rfl rfl rfl) rfl (.nil (ck 4 hS rfl (or_f hg1) rfl rfl)))) rfl)) rfl)) rfl
 intro W hS
 refine .nil ?_
 refine .cs rfl h ?_ ?_ <;> intro h
 ·obtain rfl := Option.some.inj h
  exact .seq (.region (.q rfl (.nil (.ret (fin_ret (vs := [_]) () (rt rfl rn) rfl (hS.to [] rfl))))))
 refine .skip (.seq (.seq (.region (.q rfl (.s (lenv (hS.keep q_0) T.u23 rfl rfl) rfl (.q rfl (.nil (.block ?_))))))))
 have ⟨y1, hy1, h⟩ := bnd h
 refine .via (.iter (fun s1 E' W' => SubL E' [(0, (sv v_0)), (14, (sv v_0)), (15, .int .i64 (a0.length : Int)), (16, .int .i64 s1)] ∧ Sep No w W' []) (fun y2 x E' W' => (match y2 with | .inl o1 => x = .ret ∧ impl_CodeValid_F w o1 E' W' | .inr o2 => x = .exit 0 ∧ SubL E' [(0, (sv v_0))] ∧ Sep No w W' [])) hy1 ⟨sb rfl, hS.to [] rfl⟩ ?_) ?_
 ·intro s1 y3 E W h hI
  obtain ⟨hE, hS⟩ := hI
  refine CW.sub hE ?_
  unfold impl_CodeValid_b1 at h
  refine .seq (.region (.q rfl (.nil (.seq ?_))))
  refine .cs rfl h ?_ ?_ <;> intro h
  ·refine .skip (.seq (.block (.seq (.region ?_))))
   have ⟨x1, hx1, h⟩ := bnd h
   refine .s (ixv (hS.keep q_0) hx1 T.u23 T.t34 rfl rfl rfl) rfl (.s (lde (RV.flat (hS.keep q_0) hx1 rfl) T.t34 rfl rfl rfl rfl rfl) rfl (.c (.alloc T.t34 hS ?_ rfl rfl rfl)))
   intro g1 W hS
   refine .c (.st T.t34 hS rfl rfl rfl ?_ rfl rfl rfl rfl rfl)
   intro W hS
   refine .nil (.seq (.region (.s (ld T.t34 hS rfl rfl rfl rfl rfl) rfl (.q rfl (.s (lenv (hS.keep q_0) T.u23 rfl rfl) rfl ?_)))))
   have ⟨y4, hy4, h⟩ := bnd h
   refine .c (.call0 hS Tryz.func22 (impl_QuadValid_ok hy4) rfl rfl ?_ rfl (by kernel_rfl) rfl rfl)
   intro W hS
   refine .q rfl (.nil ?_)
   refine .cs rfl h ?_ ?_ <;> intro h
   ·refine .seq (.region (.q rfl (.nil (.ret ?_))))
    cases h
    exact ⟨by simp, rfl, fin_ret (vs := [_]) () (rt rfl rn) rfl (hS.to [] rfl)⟩
   refine .skip (.region (.q rfl (.q rfl (.nil ?_))))
   cases h
   exact ⟨rfl, sb rfl, hS.to [] rfl⟩
  refine .exit ?_
  cases h
  exact ⟨by simp, rfl, sb rfl, hS.to [] rfl⟩
 intro x E W hJ
 rcases y1 with o3 | o4
 ·obtain ⟨rfl, hF⟩ := hJ
  refine ⟨_, fun _ _ h => h, ?_⟩
  cases h
  exact hF
 obtain ⟨rfl, hE, hS⟩ := hJ
 refine ⟨_, hE.sub, ?_⟩
 refine .seq (.region (.q rfl (.q rfl (.s (lenv (hS.keep q_0) T.u23 rfl rfl) rfl (.q rfl ?_)))))
 have ⟨x2, hx2, h⟩ := bnd h
 refine .s (ixv (hS.keep q_0) hx2 T.u23 T.t34 rfl rfl rfl) rfl (.s (fe T.f34_0 rfl rfl rfl) rfl (.s (lde (RV.flat (hS.keep q_0) hx2 rfl) T.t3 rfl rfl rfl rfl rfl) rfl (.q rfl (.nil (.seq (.region (.q rfl (.q rfl (.q rfl (.chunk 3 38 ((x2.Op == 10) || (x2.Op == 4)) hS ?_ ?_))))))))))
 ·refine .both (x2.Op == 10) (fun hb => ?_) (fun hb => ?_)
  ·exact .xx hb rfl (.xx hb rfl (.s (pkt hb rfl rfl rfl) rfl (.nil (ck 3 hS rfl (or_t hb) rfl rfl))))
  have hg2 := hb
  exact .g hg2 (.q rfl (.g hg2 (.q rfl (.s (pkf hg2 rfl rfl rfl) rfl (.nil (ck 3 hS rfl (or_f hg2) rfl rfl)))) rfl)) rfl
 intro W hS
 cases h
 exact .q rfl (.nil (.ret (fin_ret (vs := [_]) () (rt rfl rn) rfl (hS.to [] rfl))))
theorem impl_TaskPlaces_ok {a0 : List Quad} {a1 : Int} {v_0 : Hd} {w : World} {r : (List Int)} (h : impl_TaskPlaces a0 a1 = some r) (q_0 : RV w (Old No w) (sv v_0) 34 5 dQuad a0) (hG : Gl w) : Calls Tryz.prog 10 #[(sv v_0), .int .i64 a1] w (Ret No w (fun s : {x : Hd // nilV x = List.isEmpty r} => (sv s.1)) (fun s => [rowV (sv s.1) 3 1 (D.int .i64) r])) := by
 unfold impl_TaskPlaces at h
 refine enter Tryz.func10 rfl rfl ?_
 have hS := Sep.start w
 refine .seq (.region (.q rfl (.nil (.seq (.seq (.region (.q rfl ?_)))))))
 have ⟨y1, hy1, h⟩ := bnd h
 refine .c (.call0 hS Tryz.func21 (impl_CodeValid_ok hy1 (hS.keep q_0)) rfl rfl ?_ rfl (by kernel_rfl) rfl rfl)
 intro W hS
 refine .q rfl (.q rfl (.chunk 3 15 ((!y1) || (decide (a1 < 1))) hS ?_ ?_))
 ·refine .both (!y1) (fun hb => ?_) (fun hb => ?_)
  ·exact .xx hb rfl (.xx hb rfl (.s (pkt hb rfl rfl rfl) rfl (.nil (ck 3 hS rfl (or_t hb) rfl rfl))))
  have hg1 := hb
  exact .g hg1 (.q rfl (.g hg1 (.q rfl (.s (pkf hg1 rfl rfl rfl) rfl (.nil (ck 3 hS rfl (or_f hg1) rfl rfl)))) rfl)) rfl
 intro W hS
 refine .q rfl (.chunk 3 19 (((!y1) || (decide (a1 < 1))) || (decide (a1 > 8))) hS ?_ ?_)
 ·refine .both ((!y1) || (decide (a1 < 1))) (fun hb => ?_) (fun hb => ?_)
  ·exact .xx hb rfl (.xx hb rfl (.s (pkt hb rfl rfl rfl) rfl (.nil (ck 3 hS rfl (or_t hb) rfl rfl))))
  have hg2 := hb
  exact .g hg2 (.q rfl (.g hg2 (.q rfl (.s (pkf hg2 rfl rfl rfl) rfl (.nil (ck 3 hS rfl (or_f hg2) rfl rfl)))) rfl)) rfl
 intro W hS
 refine .nil ?_
 refine .cs rfl h ?_ ?_ <;> intro h
 ·refine .seq (.region (.q rfl (.nil (.ret ?_))))
  have hS := hS.nilv 3 1 (D.int .i64)
  cases h
  exact fin_ret (vs := [_]) ⟨nilH, rfl⟩ (rt rfl rn) rfl (hS.to [0] rfl)
 refine .skip (.seq (.region (.q rfl (.nil (.seq (.region (.q rfl (.nil (.seq (.seq (.region (.q rfl (.s (lenv (hS.keep q_0) T.u23 rfl rfl) rfl (.q rfl (.nil (.block ?_))))))))))))))))
 have hS := hS.nilv 3 1 (D.int .i64)
 have ⟨y2, hy2, h⟩ := bnd h
 refine .via (.iter (fun s1 E' W' => ∃ (v3 : Hd), (nilV v3 = List.isEmpty s1.1) ∧ SubL E' [(1, .int .i64 a1), (5, (sv v3)), (6, .int .i64 s1.2.1), (20, (sv v_0)), (21, .int .i64 (a0.length : Int)), (22, .int .i64 s1.2.2)] ∧ Sep No w W' [rowV (sv v3) 3 1 (D.int .i64) s1.1]) (fun y3 x E' W' => x = .exit 0 ∧ ∃ (v4 : Hd), (nilV v4 = List.isEmpty y3) ∧ SubL E' [(5, (sv v4))] ∧ Sep No w W' [rowV (sv v4) 3 1 (D.int .i64) y3]) hy2 ⟨nilH, rfl, sb rfl, hS.to [0] rfl⟩ ?_) ?_
 ·intro s1 y4 E W h hI
  obtain ⟨v2, q2, hE, hS⟩ := hI
  refine CW.sub hE ?_
  unfold impl_TaskPlaces_b1 at h
  refine .seq (.region (.q rfl (.nil (.seq ?_))))
  refine .cs rfl h ?_ ?_ <;> intro h
  ·refine .skip (.seq (.block (.seq (.region ?_))))
   have ⟨x1, hx1, h⟩ := bnd h
   refine .s (ixv (hS.keep q_0) hx1 T.u23 T.t34 rfl rfl rfl) rfl (.s (lde (RV.flat (hS.keep q_0) hx1 rfl) T.t34 rfl rfl rfl rfl rfl) rfl (.c (.alloc T.t34 hS ?_ rfl rfl rfl)))
   intro g1 W hS
   refine .c (.st T.t34 hS rfl rfl rfl ?_ rfl rfl rfl rfl rfl)
   intro W hS
   refine .nil (.seq (.region (.q rfl (.q rfl (.c (.liv [s1.2.1] (D.int .i64) T.u31 T.t3 hS rfl rfl rfl rfl ?_ rfl (fun _ => rfl) rfl rfl rfl rfl))))))
   intro v5 W hS
   have ⟨r1, hr1, h⟩ := bnd h
   have hT0 := hS.p2
   refine .c (.apprv hr1 hT0 hT0.p1.lendv (fun _ => rfl) T.u31 T.t3 rfl rfl rfl ?_ rfl rfl rfl rfl rfl)
   intro v6 W hS
   have hz1 := Sep.nz hS (app_ne hr1 (by simp))
   refine .q rfl (.nil (.region (.q rfl (.s (ld T.t34 hS.p2 rfl rfl rfl rfl rfl) rfl (.q rfl ?_)))))
   have ⟨y5, hy5, h⟩ := bnd h
   refine .c (.call1v hS Tryz.func17 (impl_quadInstrs_ok hy5 (hG.at hS (fun _ _ h => h))) rfl rfl ?_ rfl (by kernel_rfl) rfl rfl)
   intro v7 W hS
   refine .s (lenv hS.lendv T.u26 rfl rfl) rfl (.q rfl (.q rfl (.nil (.region (.q rfl (.q rfl (.nil ?_)))))))
   cases h
   exact ⟨rfl, v6, hz1, sb rfl, hS.to [1] rfl⟩
  refine .exit ?_
  cases h
  exact ⟨by simp, rfl, v2, q2, sb rfl, hS.to [0] rfl⟩
 intro x E W hJ
 obtain ⟨rfl, v8, q5, hE, hS⟩ := hJ
 refine ⟨_, hE.sub, ?_⟩
 obtain rfl := Option.some.inj h
 exact .seq (.region (.q rfl (.q rfl (.nil (.ret (fin_ret (vs := [_]) ⟨v8, q5⟩ (rt rfl rn) rfl (hS.to [0] rfl)))))))
theorem impl_hasTarget_ok {a0 : Quad} {w : World} {r : Bool} (h : impl_hasTarget a0 = some r) : Calls Tryz.prog 16 #[.agg #[.int .i64 a0.Op, .int .i64 a0.Dst, .int .i64 a0.A, .int .i64 a0.B, .int .i64 a0.N]] w (Ret No w (fun s : Unit => .bool r) (fun s => [])) := by
 unfold impl_hasTarget at h
 refine enter Tryz.func16 rfl rfl ?_
 have hS := Sep.start w
 refine .seq (.region (.c (.box hS rfl rfl ?_ rfl rfl)))
 intro g1 W hS
 refine .q rfl (.nil (.seq (.region (.s (fa T.f34_0 rfl rfl rfl) rfl (.s (ld T.t3 hS rfl rfl rfl rfl rfl) rfl (.q rfl (.q rfl (.chunk 4 10 ((a0.Op == 4) || (a0.Op == 5)) hS ?_ ?_))))))))
 ·refine .both (a0.Op == 4) (fun hb => ?_) (fun hb => ?_)
  ·exact .xx hb rfl (.xx hb rfl (.xx hb rfl (.s (pkt hb rfl rfl rfl) rfl (.nil (ck 4 hS rfl (or_t hb) rfl rfl)))))
  have hg1 := hb
  exact .g hg1 (.s (fa T.f34_0 rfl rfl rfl) rfl (.g hg1 (.s (ld T.t3 hS rfl rfl rfl rfl rfl) rfl (.g hg1 (.q rfl (.s (pkf hg1 rfl rfl rfl) rfl (.nil (ck 4 hS rfl (or_f hg1) rfl rfl)))) rfl)) rfl)) rfl
 intro W hS
 cases h
 exact .q rfl (.nil (.ret (fin_ret (vs := [_]) () (rt rfl rn) rfl (hS.to [] rfl))))
theorem impl_TaskInstrs_ok {a0 : List Quad} {a1 : Int} {v_0 : Hd} {w : World} {r : (List Instr) × Bool} (h : impl_TaskInstrs a0 a1 = some r) (q_0 : RV w (Old No w) (sv v_0) 34 5 dQuad a0) (hG : Gl w) : Calls Tryz.prog 7 #[(sv v_0), .int .i64 a1] w (Ret No w (fun s : Hd => .tuple #[(sv s), .bool r.2]) (fun s => [rowV (sv s) 37 5 dInstr r.1])) := by
 unfold impl_TaskInstrs at h
 refine enter Tryz.func7 rfl rfl ?_
 have hS := Sep.start w
 refine .seq (.region (.q rfl (.q rfl (.nil (.seq (.region (.q rfl (.q rfl ?_))))))))
 have ⟨y1, hy1, h⟩ := bnd h
 refine .c (.call hS Tryz.func10 (impl_TaskPlaces_ok hy1 (hS.keep q_0) (hG.at hS (fun _ _ h => h))) rfl rfl ?_ rfl (by kernel_rfl) rfl rfl)
 rintro ⟨v1, q1⟩ W hS
 refine .q rfl (.nil (.seq (.seq (.region (.q rfl (.s (nilq T.u31 rfl rfl) rfl (.nil (.cond rfl (fun hb => ?_) (fun hb => ?_)))))))))
 ·have h := sel_t (q1.symm.trans hb) h
  refine .seq (.region (.q rfl (.q rfl (.nil (.ret ?_)))))
  have hS := hS.nilv 37 5 dInstr
  cases h
  exact fin_ret (vs := [_, _]) nilH (rt rfl (rt rfl rn)) rfl (hS.to [0] rfl)
 have h := sel_f (q1.symm.trans hb) h
 refine .skip (.seq (.region (.q rfl (.nil (.seq (.seq (.region (.q rfl (.s (lenv (hS.keep q_0) T.u23 rfl rfl) rfl (.q rfl (.nil (.block ?_))))))))))))
 have hS := hS.nilv 37 5 dInstr
 have ⟨y2, hy2, h⟩ := bnd h
 refine .via (.iter (fun s1 E' W' => ∃ (v4 : Hd), SubL E' [(1, .int .i64 a1), (6, (sv v1)), (7, (sv v4)), (16, (sv v_0)), (17, .int .i64 (a0.length : Int)), (18, .int .i64 s1.2)] ∧ Sep No w W' [rowV (sv v1) 3 1 (D.int .i64) y1, rowV (sv v4) 37 5 dInstr s1.1]) (fun y3 x E' W' => x = .exit 0 ∧ ∃ (v5 : Hd), SubL E' [(7, (sv v5))] ∧ Sep No w W' [rowV (sv v1) 3 1 (D.int .i64) y1, rowV (sv v5) 37 5 dInstr y3]) hy2 ⟨nilH, sb rfl, hS.to [1, 0] rfl⟩ ?_) ?_
 ·intro s1 y4 E W h hI
  obtain ⟨v3, hE, hS⟩ := hI
  refine CW.sub hE ?_
  unfold impl_TaskInstrs_b1 at h
  refine .seq (.region (.q rfl (.nil (.seq ?_))))
  refine .cs rfl h ?_ ?_ <;> intro h
  ·refine .skip (.seq (.block (.seq (.region (.q rfl ?_)))))
   have ⟨x1, hx1, h⟩ := bnd h
   refine .s (ixv (hS.keep q_0) hx1 T.u23 T.t34 rfl rfl rfl) rfl (.s (lde (RV.flat (hS.keep q_0) hx1 rfl) T.t34 rfl rfl rfl rfl rfl) rfl (.c (.alloc T.t34 hS ?_ rfl rfl rfl)))
   intro g1 W hS
   refine .q rfl (.c (.st T.t34 hS rfl rfl rfl ?_ rfl rfl rfl rfl rfl))
   intro W hS
   refine .nil (.seq (.region (.q rfl (.nil ?_))))
   have ⟨y5, hy5, h⟩ := bnd h
   refine .seq (CW.via (R' := fun x E' W' => x = .normal ∧ SubL E' [(1, .int .i64 a1), (6, (sv v1)), (7, (sv v3)), (9, .pointer (some ⟨g1, 0, none⟩)), (10, .int .i64 y5), (16, (sv v_0)), (17, .int .i64 (a0.length : Int)), (18, .int .i64 s1.2)] ∧ Sep No w W' [.box g1 34 [.int .i64 x1.Op, .int .i64 x1.Dst, .int .i64 x1.A, .int .i64 x1.B, .int .i64 x1.N], rowV (sv v1) 3 1 (D.int .i64) y1, rowV (sv v3) 37 5 dInstr s1.1]) ?_ ?_)
   ·have h := hy5
    refine .seq (.region (.s (ld T.t34 hS rfl rfl rfl rfl rfl) rfl ?_))
    have ⟨y6, hy6, h⟩ := bnd h
    refine .c (.call0 hS Tryz.func16 (impl_hasTarget_ok hy6) rfl rfl ?_ rfl (by kernel_rfl) rfl rfl)
    intro W hS
    refine .nil ?_
    refine .cs rfl h ?_ ?_ <;> intro h
    ·refine .rk 12 hS [0, 0, 0] T.mix ?_
     intro W hS
     have hT := hS.to [0, 0, 0] rfl
     refine .tp 0 rfl rfl hT (by kernel_rfl) (.ts 1 rfl (fun W hT => fa T.f34_4 rfl rfl rfl) hT rfl (by kernel_rfl) (.ts 2 rfl (fun W hT => ld T.t3 hT rfl rfl rfl rfl rfl) hT rfl (by kernel_rfl) ?_))
     have ⟨x2, hx2, h⟩ := bnd h
     refine .ts 3 rfl (fun W hT => ixv hS.p1.lendv hx2 T.u31 T.t3 rfl rfl rfl) hT rfl (by kernel_rfl) (.ts 4 rfl (fun W hT => lde (RV.flat hT.p1.lendv hx2 rfl) T.t3 rfl rfl rfl rfl rfl) hT rfl (by kernel_rfl) (.tp 5 rfl rfl hT (by kernel_rfl) (.tp 6 rfl rfl hT (by kernel_rfl) ?_)))
     have ⟨x3, hx3, h⟩ := bnd h
     refine .ts 7 rfl (fun W hT => ixv hS.p1.lendv hx3 T.u31 T.t3 rfl rfl rfl) hT rfl (by kernel_rfl) (.ts 8 rfl (fun W hT => lde (RV.flat hT.p1.lendv hx3 rfl) T.t3 rfl rfl rfl rfl rfl) hT rfl (by kernel_rfl) (.tp 9 rfl rfl hT (by kernel_rfl) (.tp 10 rfl rfl hT (by kernel_rfl) (.tp 11 rfl rfl hT (by kernel_rfl) (.done ?_ (by kernel_rfl))))))
     cases h
     exact ⟨rfl, sb rfl, hS.to [0, 0, 0] rfl⟩
    refine .skip ?_
    cases h
    exact ⟨rfl, sb rfl, hS.to [0, 0, 0] rfl⟩
   intro x E W hJ
   obtain ⟨rfl, hE, hS⟩ := hJ
   refine ⟨_, hE.sub, ?_⟩
   refine .region (.q rfl (.s (ld T.t34 hS rfl rfl rfl rfl rfl) rfl (.q rfl (.q rfl ?_))))
   have ⟨y7, hy7, h⟩ := bnd h
   refine .c (.call1v hS Tryz.func17 (impl_quadInstrs_ok hy7 (hG.at hS (fun _ _ h => h))) rfl rfl ?_ rfl (by kernel_rfl) rfl rfl)
   intro v6 W hS
   have ⟨r1, hr1, h⟩ := bnd h
   have hT0 := hS.p3
   refine .c (.apprv hr1 hT0 hT0.p1.lendv (fun _ => rfl) T.u26 T.t37 rfl rfl rfl ?_ rfl rfl rfl rfl rfl)
   intro v7 W hS
   refine .q rfl (.nil (.region (.q rfl (.q rfl (.nil ?_)))))
   cases h
   exact ⟨rfl, v7, sb rfl, hS.to [3, 0] rfl⟩
  refine .exit ?_
  cases h
  exact ⟨by simp, rfl, v3, sb rfl, hS.to [0, 0] rfl⟩
 intro x E W hJ
 obtain ⟨rfl, v8, hE, hS⟩ := hJ
 refine ⟨_, hE.sub, ?_⟩
 cases h
 exact .seq (.region (.q rfl (.q rfl (.q rfl (.nil (.ret (fin_ret (vs := [_, _]) v8 (rt rfl (rt rfl rn)) rfl (hS.to [1] rfl))))))))
theorem spec_l43Reg_ok {a0 : Int} {a1 : Int} {a2 : Int} {w : World} {r : Int} (h : spec_l43Reg a0 a1 a2 = some r) : Calls Tryz.prog 52 #[.int .i64 a0, .int .i64 a1, .int .i64 a2] w (Ret No w (fun s : Unit => .int .i64 r) (fun s => [])) := by
 unfold spec_l43Reg at h
 refine enter Tryz.func52 rfl rfl ?_
 have hS := Sep.start w
 refine .seq (.region (.q rfl (.nil (.seq (.seq (.region (.q rfl (.q rfl (.q rfl (.nil ?_))))))))))
 refine .cs rfl h ?_ ?_ <;> intro h
 ·obtain rfl := Option.some.inj h
  exact .seq (.region (.q rfl (.q rfl (.nil (.ret (fin_ret (vs := [_]) () (rt rfl rn) rfl (hS.to [] rfl)))))))
 refine .skip (.seq (.region (.c (.liv [8, 9, 18, 19, 20, 21, 22, 23] (D.int .i64) T.u31 T.t3 hS rfl rfl rfl rfl ?_ rfl (fun _ => rfl) rfl rfl rfl rfl))))
 intro v1 W hS
 refine .q rfl ?_
 have ⟨x1, hx1, h⟩ := bnd h
 obtain rfl := Option.some.inj h
 exact .s (ixv hS.lendv hx1 T.u31 T.t3 rfl rfl rfl) rfl (.s (lde (RV.flat hS.lendv hx1 rfl) T.t3 rfl rfl rfl rfl rfl) rfl (.q rfl (.nil (.ret (fin_ret (vs := [_]) () (rt rfl rn) rfl (hS.to [] rfl))))))
theorem spec_l43Write_ok {a0 : List Instr} {a1 : Int} {a2 : Int} {v_0 : Hd} {S : Nat → Prop} {w : World} {r : (List Instr)} (h : spec_l43Write a0 a1 a2 = some r) (hO : Owns w [rowV (sv v_0) 37 5 dInstr a0] S) (hlt : ∀ b, S b → b < w.heap.size) : Calls Tryz.prog 53 #[(sv v_0), .int .i64 a1, .int .i64 a2] w (Ret S w (fun s : Hd => (sv s)) (fun s => [rowV (sv s) 37 5 dInstr r])) := by
 unfold spec_l43Write at h
 refine enter Tryz.func53 rfl rfl ?_
 have hS := Sep.startM hO hlt
 refine .seq (.region (.q rfl (.nil (.seq (.seq (.region (.q rfl (.q rfl (.q rfl (.nil ?_))))))))))
 refine .cs rfl h ?_ ?_ <;> intro h
 ·obtain rfl := Option.some.inj h
  exact .seq (.region (.q rfl (.q rfl (.nil (.ret (fin_ret (vs := [_]) v_0 (rt rfl rn) rfl (hS.to [0] rfl)))))))
 refine .skip (.seq (.region (.q rfl (.q rfl (.q rfl (.q rfl (.q rfl (.s (bs T.s37 rfl rfl) rfl (.c (.liv [(Instr.mk 16 0 2 7 (w64 (4 * (w64 (a1 - a2)))))] dInstr T.u26 T.t37 hS rfl rfl rfl rfl ?_ rfl (fun _ => rfl) rfl rfl rfl rfl))))))))))
 intro v1 W hS
 have ⟨r1, hr1, h⟩ := bnd h
 have hT0 := hS.p1
 refine .c (.apprv hr1 hT0 hT0.p1.lendv (fun _ => rfl) T.u26 T.t37 rfl rfl rfl ?_ rfl rfl rfl rfl rfl)
 intro v2 W hS
 obtain rfl := Option.some.inj h
 exact .q rfl (.nil (.ret (fin_ret (vs := [_]) v2 (rt rfl rn) rfl (hS.to [0] rfl))))
theorem spec_l1Power_ok {a0 : Int} {w : World} {r : Int} (h : spec_l1Power a0 = some r) : Calls Tryz.prog 86 #[.int .i64 a0] w (Ret No w (fun s : Unit => .int .i64 r) (fun s => [])) := by
 unfold spec_l1Power at h
 refine enter Tryz.func86 rfl rfl ?_
 have hS := Sep.start w
 refine .seq (.region (.q rfl (.nil (.seq (.region (.q rfl (.nil (.seq (.seq (.region (.q rfl (.nil (.block ?_)))))))))))))
 have ⟨y1, hy1, h⟩ := bnd h
 refine .via (.iter (fun s1 E' W' => SubL E' [(0, .int .i64 a0), (3, .int .i64 s1.1), (4, .int .i64 s1.2)] ∧ Sep No w W' []) (fun y2 x E' W' => x = .exit 0 ∧ SubL E' [(3, .int .i64 y2)] ∧ Sep No w W' []) hy1 ⟨sb rfl, hS.to [] rfl⟩ ?_) ?_
 ·intro s1 y3 E W h hI
  obtain ⟨hE, hS⟩ := hI
  refine CW.sub hE ?_
  unfold spec_l1Power_b1 at h
  refine .seq (.seq (.region (.q rfl (.q rfl (.q rfl (.nil ?_))))))
  refine .cs rfl h ?_ ?_ <;> intro h
  ·refine .skip (.seq (.block (.region (.q rfl (.q rfl (.q rfl (.nil (.region (.q rfl (.q rfl (.q rfl (.nil ?_))))))))))))
   cases h
   exact ⟨rfl, sb rfl, hS.to [] rfl⟩
  refine .exit ?_
  cases h
  exact ⟨by simp, rfl, sb rfl, hS.to [] rfl⟩
 intro x E W hJ
 obtain ⟨rfl, hE, hS⟩ := hJ
 refine ⟨_, hE.sub, ?_⟩
 obtain rfl := Option.some.inj h
 exact .seq (.region (.q rfl (.q rfl (.nil (.ret (fin_ret (vs := [_]) () (rt rfl rn) rfl (hS.to [] rfl)))))))
theorem spec_SignExtend_ok {a0 : Int} {a1 : Int} {w : World} {r : Int} (h : spec_SignExtend a0 a1 = some r) : Calls Tryz.prog 70 #[.int .i64 a0, .int .i64 a1] w (Ret No w (fun s : Unit => .int .i64 r) (fun s => [])) := by
 unfold spec_SignExtend at h
 refine enter Tryz.func70 rfl rfl ?_
 have hS := Sep.start w
 refine .seq (.region (.q rfl (.nil (.seq (.seq (.region (.q rfl ?_)))))))
 have ⟨y1, hy1, h⟩ := bnd h
 refine .c (.call0 hS Tryz.func19 (spec_l6In_ok hy1) rfl rfl ?_ rfl (by kernel_rfl) rfl rfl)
 intro W hS
 refine .q rfl (.q rfl ?_)
 have ⟨b1, hb1, h⟩ := bnd h
 refine .chunk 7 15 (b1) hS ?_ ?_
 ·refine .both (!y1) (fun hb => ?_) (fun hb => ?_)
  ·refine .xx hb rfl (.xx hb rfl (.xx hb rfl (.xx hb rfl (.xx hb rfl (.xx hb rfl ?_)))))
   cases sel_t hb hb1
   exact .s (pkt hb rfl rfl rfl) rfl (.nil (ck 7 hS rfl rfl rfl rfl))
  have hg1 := hb
  have h := sel_f hb hb1
  refine .g hg1 (.q rfl (.g hg1 (.q rfl ?_) rfl)) rfl
  have ⟨y2, hy2, h⟩ := bnd h
  refine .g hg1 (.c (.call0 hS Tryz.func86 (spec_l1Power_ok hy2) rfl rfl ?_ rfl (by kernel_rfl) rfl rfl)) rfl
  intro W hS
  refine .g hg1 (.q rfl ?_) rfl
  have ⟨y3, hy3, h⟩ := bnd h
  refine .g hg1 (.c (.call0 hS Tryz.func19 (spec_l6In_ok hy3) rfl rfl ?_ rfl (by kernel_rfl) rfl rfl)) rfl
  intro W hS
  refine .g hg1 (.q rfl (.s (pkf hg1 rfl rfl rfl) rfl ?_)) rfl
  cases h
  exact .nil (ck 7 hS rfl rfl rfl rfl)
 intro W hS
 refine .nil ?_
 refine .cs rfl h ?_ ?_ <;> intro h
 ·cases h
  exact .seq (.region (.q rfl (.nil (.ret (fin_ret (vs := [_]) () (rt rfl rn) rfl (hS.to [] rfl))))))
 refine .skip (.seq (.seq (.region (.q rfl (.q rfl (.q rfl ?_))))))
 have ⟨y4, hy4, h⟩ := bnd h
 refine .c (.call0 hS Tryz.func86 (spec_l1Power_ok hy4) rfl rfl ?_ rfl (by kernel_rfl) rfl rfl)
 intro W hS
 refine .q rfl (.nil ?_)
 refine .cs rfl h ?_ ?_ <;> intro h
 ·refine .seq (.region (.q rfl (.q rfl ?_)))
  have ⟨y5, hy5, h⟩ := bnd h
  refine .c (.call0 hS Tryz.func86 (spec_l1Power_ok hy5) rfl rfl ?_ rfl (by kernel_rfl) rfl rfl)
  intro W hS
  cases h
  exact .q rfl (.q rfl (.nil (.ret (fin_ret (vs := [_]) () (rt rfl rn) rfl (hS.to [] rfl)))))
 obtain rfl := Option.some.inj h
 exact .skip (.seq (.region (.q rfl (.q rfl (.nil (.ret (fin_ret (vs := [_]) () (rt rfl rn) rfl (hS.to [] rfl))))))))
theorem spec_Bits_ok {a0 : Int} {a1 : Int} {a2 : Int} {w : World} {r : Int} (h : spec_Bits a0 a1 a2 = some r) : Calls Tryz.prog 71 #[.int .i64 a0, .int .i64 a1, .int .i64 a2] w (Ret No w (fun s : Unit => .int .i64 r) (fun s => [])) := by
 unfold spec_Bits at h
 refine enter Tryz.func71 rfl rfl ?_
 have hS := Sep.start w
 refine .seq (.region (.q rfl (.nil (.seq (.seq (.region (.q rfl ?_)))))))
 have ⟨y1, hy1, h⟩ := bnd h
 refine .c (.call0 hS Tryz.func19 (spec_l6In_ok hy1) rfl rfl ?_ rfl (by kernel_rfl) rfl rfl)
 intro W hS
 refine .q rfl (.q rfl ?_)
 have ⟨b1, hb1, h⟩ := bnd h
 refine .chunk 4 14 (b1) hS ?_ ?_
 ·refine .both (!y1) (fun hb => ?_) (fun hb => ?_)
  ·refine .xx hb rfl (.xx hb rfl (.xx hb rfl ?_))
   cases sel_t hb hb1
   exact .s (pkt hb rfl rfl rfl) rfl (.nil (ck 4 hS rfl rfl rfl rfl))
  have hg1 := hb
  have h := sel_f hb hb1
  refine .g hg1 (.q rfl ?_) rfl
  have ⟨y2, hy2, h⟩ := bnd h
  refine .g hg1 (.c (.call0 hS Tryz.func19 (spec_l6In_ok hy2) rfl rfl ?_ rfl (by kernel_rfl) rfl rfl)) rfl
  intro W hS
  refine .g hg1 (.q rfl (.s (pkf hg1 rfl rfl rfl) rfl ?_)) rfl
  cases h
  exact .nil (ck 4 hS rfl rfl rfl rfl)
 intro W hS
 refine .q rfl ?_
 have ⟨b2, hb2, h⟩ := bnd h
 refine .chunk 6 21 (b2) hS ?_ ?_
 ·refine .both (b1) (fun hb => ?_) (fun hb => ?_)
  ·refine .xx hb rfl (.xx hb rfl (.xx hb rfl (.xx hb rfl (.xx hb rfl ?_))))
   cases sel_t hb hb2
   exact .s (pkt hb rfl rfl rfl) rfl (.nil (ck 6 hS rfl rfl rfl rfl))
  have hg2 := hb
  have h := sel_f hb hb2
  refine .g hg2 (.q rfl (.g hg2 (.q rfl (.g hg2 (.q rfl ?_) rfl)) rfl)) rfl
  have ⟨y3, hy3, h⟩ := bnd h
  refine .g hg2 (.c (.call0 hS Tryz.func19 (spec_l6In_ok hy3) rfl rfl ?_ rfl (by kernel_rfl) rfl rfl)) rfl
  intro W hS
  refine .g hg2 (.q rfl (.s (pkf hg2 rfl rfl rfl) rfl ?_)) rfl
  cases h
  exact .nil (ck 6 hS rfl rfl rfl rfl)
 intro W hS
 refine .nil ?_
 refine .cs rfl h ?_ ?_ <;> intro h
 ·cases h
  exact .seq (.region (.q rfl (.nil (.ret (fin_ret (vs := [_]) () (rt rfl rn) rfl (hS.to [] rfl))))))
 refine .skip (.seq (.rk 8 hS [] T.mix ?_))
 intro W hS
 have hT := hS.to [] rfl
 refine .tp 0 rfl rfl hT (by kernel_rfl) (.tp 1 rfl rfl hT (by kernel_rfl) (.tp 4 rfl rfl hT (by kernel_rfl) ?_))
 have ⟨y4, hy4, h⟩ := bnd h
 refine .by1 2 rfl (.call0 hS Tryz.func86 (spec_l1Power_ok hy4) rfl rfl ?_ rfl (by kernel_rfl) rfl rfl) (by kernel_rfl)
 intro W hS
 have hT := hS.to [] rfl
 refine ⟨fun _ => hT, ?_⟩
 have ⟨d1, hd1, h⟩ := bnd h
 refine .ts 3 rfl (fun W hT => dq hd1 rfl rfl rfl) hT rfl (by kernel_rfl) ?_
 have ⟨y5, hy5, h⟩ := bnd h
 refine .by1 5 rfl (.call0 hS Tryz.func86 (spec_l1Power_ok hy5) rfl rfl ?_ rfl (by kernel_rfl) rfl rfl) (by kernel_rfl)
 intro W hS
 have hT := hS.to [] rfl
 refine ⟨fun _ => hT, ?_⟩
 have ⟨d2, hd2, h⟩ := bnd h
 obtain rfl := Option.some.inj h
 exact .ts 6 rfl (fun W hT => dr hd2 rfl rfl rfl) hT rfl (by kernel_rfl) (.tp 7 rfl rfl hT (by kernel_rfl) (.done (.ret (fin_ret (vs := [_]) () (rt rfl rn) rfl (hS.to [] rfl))) (by kernel_rfl)))
theorem spec_Unsigned_ok {a0 : Int} {w : World} {r : Int} (h : spec_Unsigned a0 = some r) : Calls Tryz.prog 72 #[.int .i64 a0] w (Ret No w (fun s : Unit => .int .i64 r) (fun s => [])) := by
 unfold spec_Unsigned at h
 refine enter Tryz.func72 rfl rfl ?_
 have hS := Sep.start w
 refine .seq (.region (.q rfl (.nil (.seq (.seq (.region (.q rfl ?_)))))))
 have ⟨y1, hy1, h⟩ := bnd h
 refine .c (.call0 hS Tryz.func50 (spec_WordValid_ok hy1) rfl rfl ?_ rfl (by kernel_rfl) rfl rfl)
 intro W hS
 refine .q rfl (.nil ?_)
 refine .cs rfl h ?_ ?_ <;> intro h
 ·cases h
  exact .seq (.region (.q rfl (.nil (.ret (fin_ret (vs := [_]) () (rt rfl rn) rfl (hS.to [] rfl))))))
 refine .skip (.seq (.seq (.region (.q rfl (.q rfl (.nil ?_))))))
 refine .cs rfl h ?_ ?_ <;> intro h
 ·cases h
  exact .seq (.region (.q rfl (.q rfl (.q rfl (.nil (.ret (fin_ret (vs := [_]) () (rt rfl rn) rfl (hS.to [] rfl))))))))
 obtain rfl := Option.some.inj h
 exact .skip (.seq (.region (.q rfl (.q rfl (.nil (.ret (fin_ret (vs := [_]) () (rt rfl rn) rfl (hS.to [] rfl))))))))
theorem spec_l43Const_ok {a0 : Int} {a1 : Int} {w : World} {r : (List Instr)} (h : spec_l43Const a0 a1 = some r) : Calls Tryz.prog 54 #[.int .i64 a0, .int .i64 a1] w (Ret No w (fun s : Hd => (sv s)) (fun s => [rowV (sv s) 37 5 dInstr r])) := by
 unfold spec_l43Const at h
 refine enter Tryz.func54 rfl rfl ?_
 have hS := Sep.start w
 refine .seq (.region (.q rfl (.nil (.seq (.seq (.region (.q rfl ?_)))))))
 have ⟨y1, hy1, h⟩ := bnd h
 refine .c (.call0 hS Tryz.func19 (spec_l6In_ok hy1) rfl rfl ?_ rfl (by kernel_rfl) rfl rfl)
 intro W hS
 refine .nil ?_
 refine .cs rfl h ?_ ?_ <;> intro h
 ·refine .seq (.region (.q rfl (.q rfl (.s (bs T.s37 rfl rfl) rfl (.c (.liv [(Instr.mk 12 a0 0 0 a1)] dInstr T.u26 T.t37 hS rfl rfl rfl rfl ?_ rfl (fun _ => rfl) rfl rfl rfl rfl))))))
  intro v1 W hS
  cases h
  exact .q rfl (.nil (.ret (fin_ret (vs := [_]) v1 (rt rfl rn) rfl (hS.to [0] rfl))))
 refine .skip (.seq (.region (.q rfl ?_)))
 have ⟨y2, hy2, h⟩ := bnd h
 refine .c (.call0 hS Tryz.func72 (spec_Unsigned_ok hy2) rfl rfl ?_ rfl (by kernel_rfl) rfl rfl)
 intro W hS
 have ⟨y3, hy3, h⟩ := bnd h
 refine .c (.call0 hS Tryz.func71 (spec_Bits_ok hy3) rfl rfl ?_ rfl (by kernel_rfl) rfl rfl)
 intro W hS
 have ⟨y4, hy4, h⟩ := bnd h
 refine .c (.call0 hS Tryz.func70 (spec_SignExtend_ok hy4) rfl rfl ?_ rfl (by kernel_rfl) rfl rfl)
 intro W hS
 refine .q rfl (.nil (.seq (.region (.q rfl (.q rfl (.q rfl ?_))))))
 have ⟨y5, hy5, h⟩ := bnd h
 refine .c (.call0 hS Tryz.func73 (spec_Wrap_ok hy5) rfl rfl ?_ rfl (by kernel_rfl) rfl rfl)
 intro W hS
 have ⟨y6, hy6, h⟩ := bnd h
 refine .c (.call0 hS Tryz.func72 (spec_Unsigned_ok hy6) rfl rfl ?_ rfl (by kernel_rfl) rfl rfl)
 intro W hS
 have ⟨y7, hy7, h⟩ := bnd h
 refine .c (.call0 hS Tryz.func71 (spec_Bits_ok hy7) rfl rfl ?_ rfl (by kernel_rfl) rfl rfl)
 intro W hS
 refine .q rfl (.nil (.seq (.region (.q rfl (.q rfl (.s (bs T.s37 rfl rfl) rfl (.c (.liv [(Instr.mk 19 a0 0 0 y7)] dInstr T.u26 T.t37 hS rfl rfl rfl rfl ?_ rfl (fun _ => rfl) rfl rfl rfl rfl))))))))
 intro v2 W hS
 refine .q rfl (.nil (.seq (.region (.q rfl (.q rfl (.q rfl (.q rfl (.s (bs T.s37 rfl rfl) rfl (.c (.liv [(Instr.mk 12 a0 a0 0 y4)] dInstr T.u26 T.t37 hS rfl rfl rfl rfl ?_ rfl (fun _ => rfl) rfl rfl rfl rfl))))))))))
 intro v3 W hS
 have ⟨r1, hr1, h⟩ := bnd h
 have hT0 := hS.p1
 refine .c (.apprv hr1 hT0 hT0.p1.lendv (fun _ => rfl) T.u26 T.t37 rfl rfl rfl ?_ rfl rfl rfl rfl rfl)
 intro v4 W hS
 obtain rfl := Option.some.inj h
 exact .q rfl (.nil (.ret (fin_ret (vs := [_]) v4 (rt rfl rn) rfl (hS.to [0] rfl))))
theorem spec_l43Read_ok {a0 : Int} {a1 : Int} {a2 : Int} {w : World} {r : (List Instr)} (h : spec_l43Read a0 a1 a2 = some r) : Calls Tryz.prog 55 #[.int .i64 a0, .int .i64 a1, .int .i64 a2] w (Ret No w (fun s : Hd => (sv s)) (fun s => [rowV (sv s) 37 5 dInstr r])) := by
 unfold spec_l43Read at h
 refine enter Tryz.func55 rfl rfl ?_
 have hS := Sep.start w
 refine .seq (.region (.q rfl (.nil (.seq (.seq (.region (.q rfl (.q rfl (.q rfl (.nil ?_))))))))))
 refine .cs rfl h ?_ ?_ <;> intro h
 ·refine .seq (.region (.c (.liv [] dInstr T.u26 T.t37 hS rfl rfl rfl rfl ?_ rfl (fun _ => rfl) rfl rfl rfl rfl)))
  intro v1 W hS
  cases h
  exact .q rfl (.nil (.ret (fin_ret (vs := [_]) v1 (rt rfl rn) rfl (hS.to [0] rfl))))
 refine .skip (.seq (.region (.q rfl (.q rfl (.q rfl (.q rfl (.q rfl (.s (bs T.s37 rfl rfl) rfl (.c (.liv [(Instr.mk 14 a2 2 0 (w64 (4 * (w64 (a0 - a1)))))] dInstr T.u26 T.t37 hS rfl rfl rfl rfl ?_ rfl (fun _ => rfl) rfl rfl rfl rfl))))))))))
 intro v2 W hS
 cases h
 exact .q rfl (.nil (.ret (fin_ret (vs := [_]) v2 (rt rfl rn) rfl (hS.to [0] rfl))))
theorem spec_l43Move_ok {a0 : Int} {a1 : Int} {w : World} {r : Instr} (h : spec_l43Move a0 a1 = some r) : Calls Tryz.prog 56 #[.int .i64 a0, .int .i64 a1] w (Ret No w (fun s : Unit => .agg #[.int .i64 r.Op, .int .i64 r.Rd, .int .i64 r.Rs, .int .i64 r.Rt, .int .i64 r.Imm]) (fun s => [])) := by
 unfold spec_l43Move at h
 refine enter Tryz.func56 rfl rfl ?_
 have hS := Sep.start w
 refine .seq (.region (.c (.alloc T.t37 hS ?_ rfl rfl rfl)))
 intro g1 W hS
 refine .nil (.seq (.region (.q rfl (.q rfl (.s (bs T.s37 rfl rfl) rfl (.c (.st T.t37 hS rfl rfl rfl ?_ rfl rfl rfl rfl rfl)))))))
 intro W hS
 cases h
 exact .nil (.ret (fin_ret (vs := [_]) () (rc hS T.t37 rfl rn rfl rfl) rfl (hS.to [] rfl)))
theorem spec_l43Op_ok {a0 : Int} {w : World} {r : Int} (h : spec_l43Op a0 = some r) : Calls Tryz.prog 74 #[.int .i64 a0] w (Ret No w (fun s : Unit => .int .i64 r) (fun s => [])) := by
 unfold spec_l43Op at h
 refine enter Tryz.func74 rfl rfl ?_
 have hS := Sep.start w
 refine .seq (.region (.q rfl (.nil (.seq (.region (.c (.liv [7, 8, 6, 8, 11, 9, 10, 1, 2, 3, 4, 5] (D.int .i64) T.u31 T.t3 hS rfl rfl rfl rfl ?_ rfl (fun _ => rfl) rfl rfl rfl rfl)))))))
 intro v1 W hS
 refine .q rfl (.nil (.seq (.region (.q rfl (.q rfl (.q rfl ?_))))))
 have ⟨x1, hx1, h⟩ := bnd h
 obtain rfl := Option.some.inj h
 exact .s (ixv hS.lendv hx1 T.u31 T.t3 rfl rfl rfl) rfl (.s (lde (RV.flat hS.lendv hx1 rfl) T.t3 rfl rfl rfl rfl rfl) rfl (.q rfl (.nil (.ret (fin_ret (vs := [_]) () (rt rfl rn) rfl (hS.to [] rfl))))))
theorem spec_l43Bin_ok {a0 : Quad} {a1 : Int} {w : World} {r : (List Instr)} (h : spec_l43Bin a0 a1 = some r) : Calls Tryz.prog 57 #[.agg #[.int .i64 a0.Op, .int .i64 a0.Dst, .int .i64 a0.A, .int .i64 a0.B, .int .i64 a0.N], .int .i64 a1] w (Ret No w (fun s : Hd => (sv s)) (fun s => [rowV (sv s) 37 5 dInstr r])) := by
 unfold spec_l43Bin at h
 refine enter Tryz.func57 rfl rfl ?_
 have hS := Sep.start w
 refine .seq (.region (.c (.box hS rfl rfl ?_ rfl rfl)))
 intro g1 W hS
 refine .q rfl (.nil (.seq (.rk 10 hS [0] T.mix ?_)))
 intro W hS
 have hT := hS.to [0] rfl
 refine .ts 0 rfl (fun W hT => fa T.f34_2 rfl rfl rfl) hT rfl (by kernel_rfl) (.ts 1 rfl (fun W hT => ld T.t3 hT rfl rfl rfl rfl rfl) hT rfl (by kernel_rfl) (.tp 2 rfl rfl hT (by kernel_rfl) (.ts 4 rfl (fun W hT => fa T.f34_3 rfl rfl rfl) hT rfl (by kernel_rfl) (.ts 5 rfl (fun W hT => ld T.t3 hT rfl rfl rfl rfl rfl) hT rfl (by kernel_rfl) (.tp 6 rfl rfl hT (by kernel_rfl) ?_)))))
 have ⟨y1, hy1, h⟩ := bnd h
 refine .by1 3 rfl (.call1v hS Tryz.func55 (spec_l43Read_ok hy1) rfl rfl ?_ rfl (by kernel_rfl) rfl rfl) (by kernel_rfl)
 intro v1 W hS
 have hT := hS.to [1] rfl
 refine ⟨fun _ => hT, ?_⟩
 have ⟨y2, hy2, h⟩ := bnd h
 refine .by1 7 rfl (.call1v hS Tryz.func55 (spec_l43Read_ok hy2) rfl rfl ?_ rfl (by kernel_rfl) rfl rfl) (by kernel_rfl)
 intro v2 W hS
 have hT := hS.to [2] rfl
 refine ⟨fun _ => hT, ?_⟩
 have ⟨r1, hr1, h⟩ := bnd h
 have hT0 := hS.p1
 refine .by1 8 rfl (.apprv hr1 hT0 hT0.p1.lendv (fun _ => rfl) T.u26 T.t37 rfl rfl rfl ?_ rfl rfl rfl rfl rfl) (by kernel_rfl)
 intro v3 W hS
 have hT := hS.to [2] rfl
 refine ⟨fun _ => hT, ?_⟩
 refine .tp 9 rfl rfl hT (by kernel_rfl) (.done (.seq (.region (.s (fa T.f34_1 rfl rfl rfl) rfl (.s (ld T.t3 hS.p2 rfl rfl rfl rfl rfl) rfl (.q rfl ?_))))) (by kernel_rfl))
 have ⟨y3, hy3, h⟩ := bnd h
 refine .c (.call0 hS Tryz.func52 (spec_l43Reg_ok hy3) rfl rfl ?_ rfl (by kernel_rfl) rfl rfl)
 intro W hS
 refine .q rfl (.nil (.seq (.rk 17 hS [1, 1] T.mix ?_)))
 intro W hS
 have hT := hS.to [1, 1] rfl
 refine .tp 0 rfl rfl hT (by kernel_rfl) (.ts 1 rfl (fun W hT => fa T.f34_4 rfl rfl rfl) hT rfl (by kernel_rfl) (.ts 2 rfl (fun W hT => ld T.t3 hT.p1 rfl rfl rfl rfl rfl) hT rfl (by kernel_rfl) (.tp 4 rfl rfl hT (by kernel_rfl) (.ts 5 rfl (fun W hT => fa T.f34_2 rfl rfl rfl) hT rfl (by kernel_rfl) (.ts 6 rfl (fun W hT => ld T.t3 hT.p1 rfl rfl rfl rfl rfl) hT rfl (by kernel_rfl) (.tp 7 rfl rfl hT (by kernel_rfl) (.ts 9 rfl (fun W hT => fa T.f34_3 rfl rfl rfl) hT rfl (by kernel_rfl) (.ts 10 rfl (fun W hT => ld T.t3 hT.p1 rfl rfl rfl rfl rfl) hT rfl (by kernel_rfl) (.tp 11 rfl rfl hT (by kernel_rfl) ?_)))))))))
 have ⟨y4, hy4, h⟩ := bnd h
 refine .by1 3 rfl (.call0 hS Tryz.func74 (spec_l43Op_ok hy4) rfl rfl ?_ rfl (by kernel_rfl) rfl rfl) (by kernel_rfl)
 intro W hS
 have hT := hS.to [1, 1] rfl
 refine ⟨fun _ => hT, ?_⟩
 have ⟨y5, hy5, h⟩ := bnd h
 refine .by1 8 rfl (.call0 hS Tryz.func52 (spec_l43Reg_ok hy5) rfl rfl ?_ rfl (by kernel_rfl) rfl rfl) (by kernel_rfl)
 intro W hS
 have hT := hS.to [1, 1] rfl
 refine ⟨fun _ => hT, ?_⟩
 have ⟨y6, hy6, h⟩ := bnd h
 refine .by1 12 rfl (.call0 hS Tryz.func52 (spec_l43Reg_ok hy6) rfl rfl ?_ rfl (by kernel_rfl) rfl rfl) (by kernel_rfl)
 intro W hS
 have hT := hS.to [1, 1] rfl
 refine ⟨fun _ => hT, ?_⟩
 refine .ts 13 rfl (fun W hT => bs T.s37 rfl rfl) hT rfl (by kernel_rfl) (.by1 14 rfl (.liv [(Instr.mk y4 y3 y5 y6 0)] dInstr T.u26 T.t37 hS rfl rfl rfl rfl ?_ rfl (fun _ => rfl) rfl rfl rfl rfl) (by kernel_rfl))
 intro v4 W hS
 have hT := hS.to [2, 2] rfl
 refine ⟨fun _ => hT, ?_⟩
 have ⟨r2, hr2, h⟩ := bnd h
 have hT0 := hS.p1
 refine .by1 15 rfl (.apprv hr2 hT0 hT0.p1.lendv (fun _ => rfl) T.u26 T.t37 rfl rfl rfl ?_ rfl rfl rfl rfl rfl) (by kernel_rfl)
 intro v5 W hS
 have hT := hS.to [2, 2] rfl
 refine ⟨fun _ => hT, ?_⟩
 refine .tp 16 rfl rfl hT (by kernel_rfl) (.done ?_ (by kernel_rfl))
 have ⟨y7, hy7, h⟩ := bnd h
 refine .seq (CW.via (R' := fun x E' W' => x = .normal ∧ ∃ (v6 : Hd), SubL E' [(1, .int .i64 a1), (2, .pointer (some ⟨g1, 0, none⟩)), (5, (sv v6))] ∧ Sep No w W' [rowV (sv v4) 37 5 dInstr [(Instr.mk y4 y3 y5 y6 0)], rowV (sv v2) 37 5 dInstr y2, .box g1 34 [.int .i64 a0.Op, .int .i64 a0.Dst, .int .i64 a0.A, .int .i64 a0.B, .int .i64 a0.N], rowV (sv v6) 37 5 dInstr y7]) ?_ ?_)
 ·have h := hy7
  refine .seq (.region (.s (fa T.f34_4 rfl rfl rfl) rfl (.s (ld T.t3 hS.p3 rfl rfl rfl rfl rfl) rfl (.q rfl (.nil ?_)))))
  refine .cs rfl h ?_ ?_ <;> intro h
  ·refine .region (.q rfl (.q rfl (.q rfl (.s (bs T.s37 rfl rfl) rfl (.c (.liv [(Instr.mk 13 y3 y3 0 1)] dInstr T.u26 T.t37 hS rfl rfl rfl rfl ?_ rfl (fun _ => rfl) rfl rfl rfl rfl))))))
   intro v7 W hS
   have ⟨r3, hr3, h⟩ := bnd h
   have hT0 := hS.p1
   refine .c (.apprv hr3 hT0 hT0.p1.lendv (fun _ => rfl) T.u26 T.t37 rfl rfl rfl ?_ rfl rfl rfl rfl rfl)
   intro v8 W hS
   refine .q rfl (.nil ?_)
   obtain rfl := Option.some.inj h
   exact ⟨rfl, v8, sb rfl, hS.to [2, 2, 2, 0] rfl⟩
  refine .skip ?_
  obtain rfl := Option.some.inj h
  exact ⟨rfl, v5, sb rfl, hS.to [1, 1, 1, 0] rfl⟩
 intro x E W hJ
 obtain ⟨rfl, v9, hE, hS⟩ := hJ
 refine ⟨_, hE.sub, ?_⟩
 refine .seq (.region (.q rfl (.s (fa T.f34_1 rfl rfl rfl) rfl (.s (ld T.t3 hS.p2 rfl rfl rfl rfl rfl) rfl (.q rfl ?_)))))
 have ⟨y8, hy8, h⟩ := bnd h
 have hS := hS.p3
 refine .c (.callS2 (L0 := [rowV (sv v9) 37 5 dInstr y7]) hS Tryz.func53 (fun S h1 h2 h3 => (spec_l43Write_ok hy8 h2 (fun b hb => (h1 b hb).2))) rfl rfl ?_ rfl (by kernel_rfl) rfl rfl)
 rintro v10 W hS
 obtain rfl := Option.some.inj h
 exact .q rfl (.nil (.ret (fin_ret (vs := [_]) v10 (rt rfl rn) rfl (hS.to [0] rfl))))
theorem spec_l43Zero_ok {a0 : Quad} {a1 : Int} {a2 : Int} {w : World} {r : (List Instr)} (h : spec_l43Zero a0 a1 a2 = some r) : Calls Tryz.prog 58 #[.agg #[.int .i64 a0.Op, .int .i64 a0.Dst, .int .i64 a0.A, .int .i64 a0.B, .int .i64 a0.N], .int .i64 a1, .int .i64 a2] w (Ret No w (fun s : Hd => (sv s)) (fun s => [rowV (sv s) 37 5 dInstr r])) := by
 unfold spec_l43Zero at h
 refine enter Tryz.func58 rfl rfl ?_
 have hS := Sep.start w
 refine .seq (.region (.c (.box hS rfl rfl ?_ rfl rfl)))
 intro g1 W hS
 refine .q rfl (.nil (.seq (.rk 12 hS [0] T.mix ?_)))
 intro W hS
 have hT := hS.to [0] rfl
 refine .ts 0 rfl (fun W hT => fa T.f34_2 rfl rfl rfl) hT rfl (by kernel_rfl) (.ts 1 rfl (fun W hT => ld T.t3 hT rfl rfl rfl rfl rfl) hT rfl (by kernel_rfl) (.tp 2 rfl rfl hT (by kernel_rfl) (.ts 4 rfl (fun W hT => fa T.f34_2 rfl rfl rfl) hT rfl (by kernel_rfl) (.ts 5 rfl (fun W hT => ld T.t3 hT rfl rfl rfl rfl rfl) hT rfl (by kernel_rfl) (.tp 6 rfl rfl hT (by kernel_rfl) ?_)))))
 have ⟨y1, hy1, h⟩ := bnd h
 refine .by1 3 rfl (.call1v hS Tryz.func55 (spec_l43Read_ok hy1) rfl rfl ?_ rfl (by kernel_rfl) rfl rfl) (by kernel_rfl)
 intro v1 W hS
 have hT := hS.to [1] rfl
 refine ⟨fun _ => hT, ?_⟩
 have ⟨y2, hy2, h⟩ := bnd h
 refine .by1 7 rfl (.call0 hS Tryz.func52 (spec_l43Reg_ok hy2) rfl rfl ?_ rfl (by kernel_rfl) rfl rfl) (by kernel_rfl)
 intro W hS
 have hT := hS.to [1] rfl
 refine ⟨fun _ => hT, ?_⟩
 refine .ts 8 rfl (fun W hT => bs T.s37 rfl rfl) hT rfl (by kernel_rfl) (.by1 9 rfl (.liv [(Instr.mk 18 0 y2 0 8)] dInstr T.u26 T.t37 hS rfl rfl rfl rfl ?_ rfl (fun _ => rfl) rfl rfl rfl rfl) (by kernel_rfl))
 intro v2 W hS
 have hT := hS.to [2] rfl
 refine ⟨fun _ => hT, ?_⟩
 have ⟨r1, hr1, h⟩ := bnd h
 have hT0 := hS.p1
 refine .by1 10 rfl (.apprv hr1 hT0 hT0.p1.lendv (fun _ => rfl) T.u26 T.t37 rfl rfl rfl ?_ rfl rfl rfl rfl rfl) (by kernel_rfl)
 intro v3 W hS
 have hT := hS.to [2] rfl
 refine ⟨fun _ => hT, ?_⟩
 refine .tp 11 rfl rfl hT (by kernel_rfl) (.done (.seq (.region (.q rfl (.q rfl (.q rfl (.s (lenv hS.lendv T.u26 rfl rfl) rfl (.q rfl (.q rfl (.s (bs T.s37 rfl rfl) rfl (.c (.liv [(Instr.mk 20 0 0 0 (w64 (a2 - (w64 (4 * (r1.length : Int))))))] dInstr T.u26 T.t37 hS rfl rfl rfl rfl ?_ rfl (fun _ => rfl) rfl rfl rfl rfl))))))))))) (by kernel_rfl))
 intro v4 W hS
 have ⟨r2, hr2, h⟩ := bnd h
 have hT0 := hS.p1
 refine .c (.apprv hr2 hT0 hT0.p1.lendv (fun _ => rfl) T.u26 T.t37 rfl rfl rfl ?_ rfl rfl rfl rfl rfl)
 intro v5 W hS
 obtain rfl := Option.some.inj h
 exact .q rfl (.nil (.ret (fin_ret (vs := [_]) v5 (rt rfl rn) rfl (hS.to [0] rfl))))
theorem spec_l43Call_ok {a0 : List Instr} {a1 : Int} {v_0 : Hd} {S : Nat → Prop} {w : World} {r : (List Instr)} (h : spec_l43Call a0 a1 = some r) (hO : Owns w [rowV (sv v_0) 37 5 dInstr a0] S) (hlt : ∀ b, S b → b < w.heap.size) : Calls Tryz.prog 59 #[(sv v_0), .int .i64 a1] w (Ret S w (fun s : Hd => (sv s)) (fun s => [rowV (sv s) 37 5 dInstr r])) := by
 unfold spec_l43Call at h
 refine enter Tryz.func59 rfl rfl ?_
 have hS := Sep.startM hO hlt
 refine .seq (.region (.q rfl (.nil (.seq (.region (.q rfl (.q rfl (.s (bs T.s37 rfl rfl) rfl (.c (.liv [(Instr.mk 12 17 0 0 a1)] dInstr T.u26 T.t37 hS rfl rfl rfl rfl ?_ rfl (fun _ => rfl) rfl rfl rfl rfl))))))))))
 intro v1 W hS
 have ⟨r1, hr1, h⟩ := bnd h
 have hT0 := hS.p1
 refine .c (.apprv hr1 hT0 hT0.p1.lendv (fun _ => rfl) T.u26 T.t37 rfl rfl rfl ?_ rfl rfl rfl rfl rfl)
 intro v2 W hS
 refine .q rfl (.nil (.seq (.region (.q rfl (.s (bs T.s37 rfl rfl) rfl (.c (.liv [(Instr.mk 15 1 0 0 0)] dInstr T.u26 T.t37 hS rfl rfl rfl rfl ?_ rfl (fun _ => rfl) rfl rfl rfl rfl)))))))
 intro v3 W hS
 have ⟨r2, hr2, h⟩ := bnd h
 have hT0 := hS.p1
 refine .c (.apprv hr2 hT0 hT0.p1.lendv (fun _ => rfl) T.u26 T.t37 rfl rfl rfl ?_ rfl rfl rfl rfl rfl)
 intro v4 W hS
 obtain rfl := Option.some.inj h
 exact .q rfl (.nil (.ret (fin_ret (vs := [_]) v4 (rt rfl rn) rfl (hS.to [0] rfl))))
theorem spec_l43Give_ok {a0 : Int} {a1 : Int} {w : World} {r : (List Instr)} (h : spec_l43Give a0 a1 = some r) : Calls Tryz.prog 60 #[.int .i64 a0, .int .i64 a1] w (Ret No w (fun s : Hd => (sv s)) (fun s => [rowV (sv s) 37 5 dInstr r])) := by
 unfold spec_l43Give at h
 refine enter Tryz.func60 rfl rfl ?_
 have hS := Sep.start w
 refine .seq (.region (.q rfl (.nil (.seq (.region (.q rfl (.q rfl ?_)))))))
 have ⟨y1, hy1, h⟩ := bnd h
 refine .c (.call1v hS Tryz.func55 (spec_l43Read_ok hy1) rfl rfl ?_ rfl (by kernel_rfl) rfl rfl)
 intro v1 W hS
 refine .q rfl (.q rfl ?_)
 have ⟨y2, hy2, h⟩ := bnd h
 refine .c (.call0 hS Tryz.func52 (spec_l43Reg_ok hy2) rfl rfl ?_ rfl (by kernel_rfl) rfl rfl)
 intro W hS
 have ⟨y3, hy3, h⟩ := bnd h
 refine .c (.call0 hS Tryz.func56 (spec_l43Move_ok hy3) rfl rfl ?_ rfl (by kernel_rfl) rfl rfl)
 intro W hS
 refine .c (.liv [y3] dInstr T.u26 T.t37 hS rfl rfl rfl rfl ?_ rfl (fun _ => rfl) rfl rfl rfl rfl)
 intro v2 W hS
 have ⟨r1, hr1, h⟩ := bnd h
 have hT0 := hS.p1
 refine .c (.apprv hr1 hT0 hT0.p1.lendv (fun _ => rfl) T.u26 T.t37 rfl rfl rfl ?_ rfl rfl rfl rfl rfl)
 intro v3 W hS
 obtain rfl := Option.some.inj h
 exact .q rfl (.nil (.ret (fin_ret (vs := [_]) v3 (rt rfl rn) rfl (hS.to [0] rfl))))
theorem spec_l43Box_ok {a0 : Int} {w : World} {r : Instr} (h : spec_l43Box a0 = some r) : Calls Tryz.prog 61 #[.int .i64 a0] w (Ret No w (fun s : Unit => .agg #[.int .i64 r.Op, .int .i64 r.Rd, .int .i64 r.Rs, .int .i64 r.Rt, .int .i64 r.Imm]) (fun s => [])) := by
 unfold spec_l43Box at h
 refine enter Tryz.func61 rfl rfl ?_
 have hS := Sep.start w
 refine .seq (.region (.c (.alloc T.t37 hS ?_ rfl rfl rfl)))
 intro g1 W hS
 refine .nil (.seq (.region (.q rfl (.s (bs T.s37 rfl rfl) rfl (.c (.st T.t37 hS rfl rfl rfl ?_ rfl rfl rfl rfl rfl))))))
 intro W hS
 cases h
 exact .nil (.ret (fin_ret (vs := [_]) () (rc hS T.t37 rfl rn rfl rfl) rfl (hS.to [] rfl)))
end Go.Proofs.YtjpbdpfkhdekpaaGreatDoor.N
