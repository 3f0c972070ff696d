/- Printed by a program of mine: that the program's functions compute it. -/
import Derived.Test.YtmpplggjpmmhlaaGreatDoorK6
import Derived.RowKit
import Derived.ChangeSlices
import Derived.ChangeArms
import Derived.WideShapes
import Derived.OpenShut
import Derived.LaidMore
import Derived.LaidLaws
import GoSem.ClaimJoined
section
set_option linter.unusedVariables false
set_option maxRecDepth 100000
set_option maxHeartbeats 4000000
namespace Go.Proofs.YtmpplggjpmmhlaaGreatDoor.N
open Go.Proofs.YtmpplggjpmmhlaaGreatDoor.X
theorem spec_l42Even_ok {a0 : Int} {a1 : Int} {a2 : Int} {w : World} {r : Bool} (h : spec_l42Even a0 a1 a2 = some r) : Calls Tryz.prog 134 #[.int .i64 a0, .int .i64 a1, .int .i64 a2] w (Ret No w (fun s : Unit => .bool r) (fun s => [])) := by
 unfold spec_l42Even at h
 refine enter Tryz.func134 z z ?_
 have hS := Sep.start w
 refine .seq (.region (.q z (.nil (.seq (.region (.q z (.q z (.q z ?_))))))))
 have ⟨y1, hy1, h⟩ := bnd h
 refine .c (.call0 hS Tryz.func48 (spec_l6In_ok hy1) z z ?_ z (by kernel_rfl) z z)
 intro W hS
 refine .q z (.chunk 4 15 (y1 && ((Int.tmod a0 2) == 0)) hS ?_ ?_)
 ·refine .both (y1) (fun hb => ?_) (fun hb => ?_)
  ·have hg1 := hb
   exact .g hg1 (.q z (.g hg1 (.q z (.g hg1 (.q z (.s (pkt hg1 z z z) z (.nil (ck 4 hS z (and_t hg1) z z)))) z)) z)) z
  exact .xx hb z (.xx hb z (.xx hb z (.s (pkf hb z z z) z (.nil (ck 4 hS z (and_f hb) z z)))))
 intro W hS
 cases h
 exact .q z (.nil (.ret (fin_ret (vs := [_]) () (rt z rn) z (hS.to [] z))))
theorem spec_InstrValid_ok {a0 : Instr} {w : World} {r : Bool} (h : spec_InstrValid a0 = some r) : Calls Tryz.prog 102 #[.agg #[.int .i64 a0.Op, .int .i64 a0.Rd, .int .i64 a0.Rs, .int .i64 a0.Rt, .int .i64 a0.Imm]] w (Ret No w (fun s : Unit => .bool r) (fun s => [])) := by
 unfold spec_InstrValid at h
 refine enter Tryz.func102 z z ?_
 have hS := Sep.start w
 refine .seq (.region (.c (.box hS z z ?_ z z)))
 intro g1 W hS
 refine .q z (.nil (.seq (.block (.seq (.region (.s (fa T.f32_0 z z z) z (.s (ld T.t3 hS z z z z z) z ?_)))))))
 have ⟨y1, hy1, h⟩ := bnd h
 refine .c (.call0 hS Tryz.func48 (spec_l6In_ok hy1) z z ?_ z (by kernel_rfl) z z)
 intro W hS
 refine .q z (.nil ?_)
 refine .cs z h ?_ ?_ <;> intro h
 ·refine .seq (.region (.s (ld T.t32 hS z z z z z) z ?_))
  have ⟨y2, hy2, h⟩ := bnd h
  refine .c (.call0 hS Tryz.func133 (spec_l42Regs_ok hy2) z z ?_ z (by kernel_rfl) z z)
  intro W hS
  refine .q z (.chunk 4 13 (y2 && (a0.Imm == 0)) hS ?_ ?_)
  ·refine .both (y2) (fun hb => ?_) (fun hb => ?_)
   ·have hg1 := hb
    exact .g hg1 (.s (fa T.f32_4 z z z) z (.g hg1 (.s (ld T.t3 hS z z z z z) z (.g hg1 (.q z (.s (pkt hg1 z z z) z (.nil (ck 4 hS z (and_t hg1) z z)))) z)) z)) z
   exact .xx hb z (.xx hb z (.xx hb z (.s (pkf hb z z z) z (.nil (ck 4 hS z (and_f hb) z z)))))
  intro W hS
  cases h
  exact .q z (.nil (.ret (fin_ret (vs := [_]) () (rt z rn) z (hS.to [] z))))
 refine .seq (.region (.s (fa T.f32_0 z z z) z (.s (ld T.t3 hS z z z z z) z ?_)))
 have ⟨y3, hy3, h⟩ := bnd h
 refine .c (.call0 hS Tryz.func48 (spec_l6In_ok hy3) z z ?_ z (by kernel_rfl) z z)
 intro W hS
 refine .q z (.nil ?_)
 refine .cs z h ?_ ?_ <;> intro h
 ·refine .seq (.region (.s (ld T.t32 hS z z z z z) z ?_))
  have ⟨y4, hy4, h⟩ := bnd h
  refine .c (.call0 hS Tryz.func133 (spec_l42Regs_ok hy4) z z ?_ z (by kernel_rfl) z z)
  intro W hS
  refine .q z ?_
  have ⟨b1, hb1, h⟩ := bnd h
  refine .chunk 4 24 (b1) hS ?_ ?_
  ·refine .both (y4) (fun hb => ?_) (fun hb => ?_)
   ·have hg2 := hb
    have h := sel_t hb hb1
    refine .g hg2 (.s (fa T.f32_4 z z z) z (.g hg2 (.s (ld T.t3 hS z z z z z) z ?_) z)) z
    have ⟨y5, hy5, h⟩ := bnd h
    refine .g hg2 (.c (.call0 hS Tryz.func48 (spec_l6In_ok hy5) z z ?_ z (by kernel_rfl) z z)) z
    intro W hS
    refine .s (pkt hg2 z z z) z ?_
    cases h
    exact .nil (ck 4 hS z z z z)
   refine .xx hb z (.xx hb z (.xx hb z ?_))
   cases sel_f hb hb1
   exact .s (pkf hb z z z) z (.nil (ck 4 hS z z z z))
  intro W hS
  obtain rfl := Option.some.inj h
  exact .q z (.nil (.ret (fin_ret (vs := [_]) () (rt z rn) z (hS.to [] z))))
 refine .seq (.region (.s (fa T.f32_0 z z z) z (.s (ld T.t3 hS z z z z z) z (.q z (.q z (.nil ?_))))))
 refine .cs z h ?_ ?_ <;> intro h
 ·refine .seq (.region (.s (ld T.t32 hS z z z z z) z ?_))
  have ⟨y6, hy6, h⟩ := bnd h
  refine .c (.call0 hS Tryz.func133 (spec_l42Regs_ok hy6) z z ?_ z (by kernel_rfl) z z)
  intro W hS
  refine .q z ?_
  have ⟨b2, hb2, h⟩ := bnd h
  refine .chunk 4 35 (b2) hS ?_ ?_
  ·refine .both (y6) (fun hb => ?_) (fun hb => ?_)
   ·have hg3 := hb
    have h := sel_t hb hb2
    refine .g hg3 (.s (fa T.f32_4 z z z) z (.g hg3 (.s (ld T.t3 hS z z z z z) z ?_) z)) z
    have ⟨y7, hy7, h⟩ := bnd h
    refine .g hg3 (.c (.call0 hS Tryz.func48 (spec_l6In_ok hy7) z z ?_ z (by kernel_rfl) z z)) z
    intro W hS
    refine .s (pkt hg3 z z z) z ?_
    cases h
    exact .nil (ck 4 hS z z z z)
   refine .xx hb z (.xx hb z (.xx hb z ?_))
   cases sel_f hb hb2
   exact .s (pkf hb z z z) z (.nil (ck 4 hS z z z z))
  intro W hS
  obtain rfl := Option.some.inj h
  exact .q z (.nil (.ret (fin_ret (vs := [_]) () (rt z rn) z (hS.to [] z))))
 refine .seq (.region (.s (fa T.f32_0 z z z) z (.s (ld T.t3 hS z z z z z) z (.q z (.q z (.chunk 4 44 ((a0.Op == 17) || (a0.Op == 18)) hS ?_ ?_))))))
 ·refine .both (a0.Op == 17) (fun hb => ?_) (fun hb => ?_)
  ·exact .xx hb z (.xx hb z (.xx hb z (.s (pkt hb z z z) z (.nil (ck 4 hS z (or_t hb) z z)))))
  have hg4 := hb
  exact .g hg4 (.s (fa T.f32_0 z z z) z (.g hg4 (.s (ld T.t3 hS z z z z z) z (.g hg4 (.q z (.s (pkf hg4 z z z) z (.nil (ck 4 hS z (or_f hg4) z z)))) z)) z)) z
 intro W hS
 refine .q z (.nil ?_)
 refine .cs z h ?_ ?_ <;> intro h
 ·refine .seq (.region (.s (ld T.t32 hS z z z z z) z ?_))
  have ⟨y8, hy8, h⟩ := bnd h
  refine .c (.call0 hS Tryz.func133 (spec_l42Regs_ok hy8) z z ?_ z (by kernel_rfl) z z)
  intro W hS
  refine .q z ?_
  have ⟨b3, hb3, h⟩ := bnd h
  refine .chunk 4 51 (b3) hS ?_ ?_
  ·refine .both (y8) (fun hb => ?_) (fun hb => ?_)
   ·have hg5 := hb
    have h := sel_t hb hb3
    refine .g hg5 (.s (fa T.f32_4 z z z) z (.g hg5 (.s (ld T.t3 hS z z z z z) z ?_) z)) z
    have ⟨y9, hy9, h⟩ := bnd h
    refine .g hg5 (.c (.call0 hS Tryz.func134 (spec_l42Even_ok hy9) z z ?_ z (by kernel_rfl) z z)) z
    intro W hS
    refine .s (pkt hg5 z z z) z ?_
    cases h
    exact .nil (ck 4 hS z z z z)
   refine .xx hb z (.xx hb z (.xx hb z ?_))
   cases sel_f hb hb3
   exact .s (pkf hb z z z) z (.nil (ck 4 hS z z z z))
  intro W hS
  obtain rfl := Option.some.inj h
  exact .q z (.nil (.ret (fin_ret (vs := [_]) () (rt z rn) z (hS.to [] z))))
 refine .seq (.region (.s (fa T.f32_0 z z z) z (.s (ld T.t3 hS z z z z z) z (.q z (.q z (.nil ?_))))))
 refine .cs z h ?_ ?_ <;> intro h
 ·refine .seq (.region (.s (ld T.t32 hS z z z z z) z ?_))
  have ⟨y10, hy10, h⟩ := bnd h
  refine .c (.call0 hS Tryz.func133 (spec_l42Regs_ok hy10) z z ?_ z (by kernel_rfl) z z)
  intro W hS
  refine .q z ?_
  have ⟨b4, hb4, h⟩ := bnd h
  refine .chunk 4 62 (b4) hS ?_ ?_
  ·refine .both (y10) (fun hb => ?_) (fun hb => ?_)
   ·have hg6 := hb
    have h := sel_t hb hb4
    refine .g hg6 (.s (fa T.f32_4 z z z) z (.g hg6 (.s (ld T.t3 hS z z z z z) z ?_) z)) z
    have ⟨y11, hy11, h⟩ := bnd h
    refine .g hg6 (.c (.call0 hS Tryz.func48 (spec_l6In_ok hy11) z z ?_ z (by kernel_rfl) z z)) z
    intro W hS
    refine .s (pkt hg6 z z z) z ?_
    cases h
    exact .nil (ck 4 hS z z z z)
   refine .xx hb z (.xx hb z (.xx hb z ?_))
   cases sel_f hb hb4
   exact .s (pkf hb z z z) z (.nil (ck 4 hS z z z z))
  intro W hS
  obtain rfl := Option.some.inj h
  exact .q z (.nil (.ret (fin_ret (vs := [_]) () (rt z rn) z (hS.to [] z))))
 refine .seq (.region (.s (fa T.f32_0 z z z) z (.s (ld T.t3 hS z z z z z) z (.q z (.q z (.nil ?_))))))
 refine .cs z h ?_ ?_ <;> intro h
 ·refine .seq (.region (.s (ld T.t32 hS z z z z z) z ?_))
  have ⟨y12, hy12, h⟩ := bnd h
  refine .c (.call0 hS Tryz.func133 (spec_l42Regs_ok hy12) z z ?_ z (by kernel_rfl) z z)
  intro W hS
  refine .q z ?_
  have ⟨b5, hb5, h⟩ := bnd h
  refine .chunk 4 73 (b5) hS ?_ ?_
  ·refine .both (y12) (fun hb => ?_) (fun hb => ?_)
   ·have hg7 := hb
    have h := sel_t hb hb5
    refine .g hg7 (.s (fa T.f32_4 z z z) z (.g hg7 (.s (ld T.t3 hS z z z z z) z ?_) z)) z
    have ⟨y13, hy13, h⟩ := bnd h
    refine .g hg7 (.c (.call0 hS Tryz.func134 (spec_l42Even_ok hy13) z z ?_ z (by kernel_rfl) z z)) z
    intro W hS
    refine .s (pkt hg7 z z z) z ?_
    cases h
    exact .nil (ck 4 hS z z z z)
   refine .xx hb z (.xx hb z (.xx hb z ?_))
   cases sel_f hb hb5
   exact .s (pkf hb z z z) z (.nil (ck 4 hS z z z z))
  intro W hS
  obtain rfl := Option.some.inj h
  exact .q z (.nil (.ret (fin_ret (vs := [_]) () (rt z rn) z (hS.to [] z))))
 refine .skip (.seq (.region (.s (fa T.f32_0 z z z) z (.s (ld T.t3 hS z z z z z) z (.q z (.q z ?_))))))
 have ⟨b6, hb6, h⟩ := bnd h
 refine .chunk 3 80 (b6) hS ?_ ?_
 ·refine .both (a0.Op == 21) (fun hb => ?_) (fun hb => ?_)
  ·have hg8 := hb
   have h := sel_t hb hb6
   refine .g hg8 (.s (ld T.t32 hS z z z z z) z ?_) z
   have ⟨y14, hy14, h⟩ := bnd h
   refine .g hg8 (.c (.call0 hS Tryz.func133 (spec_l42Regs_ok hy14) z z ?_ z (by kernel_rfl) z z)) z
   intro W hS
   refine .s (pkt hg8 z z z) z ?_
   cases h
   exact .nil (ck 3 hS z z z z)
  refine .xx hb z (.xx hb z ?_)
  cases sel_f hb hb6
  exact .s (pkf hb z z z) z (.nil (ck 3 hS z z z z))
 intro W hS
 refine .q z (.chunk 4 85 (b6 && (a0.Imm == 0)) hS ?_ ?_)
 ·refine .both (b6) (fun hb => ?_) (fun hb => ?_)
  ·have hg9 := hb
   exact .g hg9 (.s (fa T.f32_4 z z z) z (.g hg9 (.s (ld T.t3 hS z z z z z) z (.g hg9 (.q z (.s (pkt hg9 z z z) z (.nil (ck 4 hS z (and_t hg9) z z)))) z)) z)) z
  exact .xx hb z (.xx hb z (.xx hb z (.s (pkf hb z z z) z (.nil (ck 4 hS z (and_f hb) z z)))))
 intro W hS
 cases h
 exact .q z (.nil (.ret (fin_ret (vs := [_]) () (rt z rn) z (hS.to [] z))))
theorem spec_l42Mod_ok {a0 : Int} {a1 : Int} {w : World} {r : Int} (h : spec_l42Mod a0 a1 = some r) : Calls Tryz.prog 136 #[.int .i64 a0, .int .i64 a1] w (Ret No w (fun s : Unit => .int .i64 r) (fun s => [])) := by
 unfold spec_l42Mod at h
 refine enter Tryz.func136 z z ?_
 have hS := Sep.start w
 refine .seq (.region (.q z (.nil (.seq (.seq (.region (.q z (.q z (.nil ?_)))))))))
 refine .cs z h ?_ ?_ <;> intro h
 ·cases h
  exact .seq (.region (.q z (.q z (.q z (.q z (.nil (.ret (fin_ret (vs := [_]) () (rt z rn) z (hS.to [] z)))))))))
 obtain rfl := Option.some.inj h
 exact .skip (.seq (.region (.q z (.q z (.nil (.ret (fin_ret (vs := [_]) () (rt z rn) z (hS.to [] z))))))))
theorem spec_l42Put_ok {a0 : Int} {a1 : Int} {w : World} {r : Int} (h : spec_l42Put a0 a1 = some r) : Calls Tryz.prog 137 #[.int .i64 a0, .int .i64 a1] w (Ret No w (fun s : Unit => .int .i64 r) (fun s => [])) := by
 unfold spec_l42Put at h
 refine enter Tryz.func137 z z ?_
 have hS := Sep.start w
 refine .seq (.region (.q z (.nil (.seq (.region (.q z (.q z ?_)))))))
 have ⟨y1, hy1, h⟩ := bnd h
 refine .c (.call0 hS Tryz.func154 (spec_l1Power_ok hy1) z z ?_ z (by kernel_rfl) z z)
 intro W hS
 cases h
 exact .q z (.q z (.nil (.ret (fin_ret (vs := [_]) () (rt z rn) z (hS.to [] z)))))
theorem spec_l42Three_ok {a0 : Int} {w : World} {r : Int} (h : spec_l42Three a0 = some r) : Calls Tryz.prog 143 #[.int .i64 a0] w (Ret No w (fun s : Unit => .int .i64 r) (fun s => [])) := by
 unfold spec_l42Three at h
 refine enter Tryz.func143 z z ?_
 have hS := Sep.start w
 refine .seq (.region (.q z (.nil (.seq (.region (.c (.liv [0, 0, 0, 4, 6, 7, 6, 4, 1, 5, 2, 0, 3, 2, 0, 2, 0, 1, 0, 0, 0] (D.int .i64) T.u25 T.t3 hS z z z z ?_ z (fun _ => z) z z z z)))))))
 intro v1 W hS
 refine .q z (.q z ?_)
 have ⟨x1, hx1, h⟩ := bnd h
 obtain rfl := Option.some.inj h
 exact .s (ixv hS.lendv hx1 T.u25 T.t3 z z z) z (.s (lde (RV.flat hS.lendv hx1 z) T.t3 z z z z z) z (.q z (.nil (.ret (fin_ret (vs := [_]) () (rt z rn) z (hS.to [] z))))))
theorem spec_l42Mid_ok {a0 : Instr} {a1 : Int} {w : World} {r : Int} (h : spec_l42Mid a0 a1 = some r) : Calls Tryz.prog 139 #[.agg #[.int .i64 a0.Op, .int .i64 a0.Rd, .int .i64 a0.Rs, .int .i64 a0.Rt, .int .i64 a0.Imm], .int .i64 a1] w (Ret No w (fun s : Unit => .int .i64 r) (fun s => [])) := by
 unfold spec_l42Mid at h
 refine enter Tryz.func139 z z ?_
 have hS := Sep.start w
 refine .seq (.region (.c (.box hS z z ?_ z z)))
 intro g1 W hS
 refine .q z (.nil (.seq (.rk 11 hS [0] T.mix ?_)))
 intro W hS
 have hT := hS.to [0] z
 refine .ts 0 z (fun W hT => fa T.f32_2 z z z) hT z (by kernel_rfl) (.ts 1 z (fun W hT => ld T.t3 hT z z z z z) hT z (by kernel_rfl) (.ts 3 z (fun W hT => fa T.f32_0 z z z) hT z (by kernel_rfl) (.ts 4 z (fun W hT => ld T.t3 hT z z z z z) hT z (by kernel_rfl) (.tp 8 z z hT (by kernel_rfl) ?_))))
 have ⟨y1, hy1, h⟩ := bnd h
 refine .by1 2 z (.call0 hS Tryz.func137 (spec_l42Put_ok hy1) z z ?_ z (by kernel_rfl) z z) (by kernel_rfl)
 intro W hS
 have hT := hS.to [0] z
 refine ⟨fun _ => hT, ?_⟩
 have ⟨y2, hy2, h⟩ := bnd h
 refine .by1 5 z (.call0 hS Tryz.func143 (spec_l42Three_ok hy2) z z ?_ z (by kernel_rfl) z z) (by kernel_rfl)
 intro W hS
 have hT := hS.to [0] z
 refine ⟨fun _ => hT, ?_⟩
 have ⟨y3, hy3, h⟩ := bnd h
 refine .by1 6 z (.call0 hS Tryz.func137 (spec_l42Put_ok hy3) z z ?_ z (by kernel_rfl) z z) (by kernel_rfl)
 intro W hS
 have hT := hS.to [0] z
 refine ⟨fun _ => hT, ?_⟩
 cases h
 exact .tp 7 z z hT (by kernel_rfl) (.tp 9 z z hT (by kernel_rfl) (.tp 10 z z hT (by kernel_rfl) (.done (.ret (fin_ret (vs := [_]) () (rt z rn) z (hS.to [] z))) (by kernel_rfl))))
theorem spec_l42Imm_ok {a0 : Instr} {a1 : Int} {w : World} {r : Int} (h : spec_l42Imm a0 a1 = some r) : Calls Tryz.prog 135 #[.agg #[.int .i64 a0.Op, .int .i64 a0.Rd, .int .i64 a0.Rs, .int .i64 a0.Rt, .int .i64 a0.Imm], .int .i64 a1] w (Ret No w (fun s : Unit => .int .i64 r) (fun s => [])) := by
 unfold spec_l42Imm at h
 refine enter Tryz.func135 z z ?_
 have hS := Sep.start w
 refine .seq (.region (.c (.box hS z z ?_ z z)))
 intro g1 W hS
 refine .q z (.nil (.seq (.rk 13 hS [0] T.mix ?_)))
 intro W hS
 have hT := hS.to [0] z
 refine .ts 0 z (fun W hT => fa T.f32_4 z z z) hT z (by kernel_rfl) (.ts 1 z (fun W hT => ld T.t3 hT z z z z z) hT z (by kernel_rfl) (.ts 4 z (fun W hT => ld T.t32 hT z z z z z) hT z (by kernel_rfl) (.tp 5 z z hT (by kernel_rfl) (.ts 8 z (fun W hT => fa T.f32_1 z z z) hT z (by kernel_rfl) (.ts 9 z (fun W hT => ld T.t3 hT z z z z z) hT z (by kernel_rfl) ?_)))))
 have ⟨y1, hy1, h⟩ := bnd h
 refine .by1 2 z (.call0 hS Tryz.func136 (spec_l42Mod_ok hy1) z z ?_ z (by kernel_rfl) z z) (by kernel_rfl)
 intro W hS
 have hT := hS.to [0] z
 refine ⟨fun _ => hT, ?_⟩
 have ⟨y2, hy2, h⟩ := bnd h
 refine .by1 3 z (.call0 hS Tryz.func137 (spec_l42Put_ok hy2) z z ?_ z (by kernel_rfl) z z) (by kernel_rfl)
 intro W hS
 have hT := hS.to [0] z
 refine ⟨fun _ => hT, ?_⟩
 have ⟨y3, hy3, h⟩ := bnd h
 refine .by1 6 z (.call0 hS Tryz.func139 (spec_l42Mid_ok hy3) z z ?_ z (by kernel_rfl) z z) (by kernel_rfl)
 intro W hS
 have hT := hS.to [0] z
 refine ⟨fun _ => hT, ?_⟩
 refine .tp 7 z z hT (by kernel_rfl) ?_
 have ⟨y4, hy4, h⟩ := bnd h
 refine .by1 10 z (.call0 hS Tryz.func137 (spec_l42Put_ok hy4) z z ?_ z (by kernel_rfl) z z) (by kernel_rfl)
 intro W hS
 have hT := hS.to [0] z
 refine ⟨fun _ => hT, ?_⟩
 cases h
 exact .tp 11 z z hT (by kernel_rfl) (.tp 12 z z hT (by kernel_rfl) (.done (.ret (fin_ret (vs := [_]) () (rt z rn) z (hS.to [] z))) (by kernel_rfl)))
theorem spec_l42Branch_ok {a0 : Instr} {w : World} {r : Int} (h : spec_l42Branch a0 = some r) : Calls Tryz.prog 140 #[.agg #[.int .i64 a0.Op, .int .i64 a0.Rd, .int .i64 a0.Rs, .int .i64 a0.Rt, .int .i64 a0.Imm]] w (Ret No w (fun s : Unit => .int .i64 r) (fun s => [])) := by
 unfold spec_l42Branch at h
 refine enter Tryz.func140 z z ?_
 have hS := Sep.start w
 refine .seq (.region (.c (.box hS z z ?_ z z)))
 intro g1 W hS
 refine .q z (.nil (.seq (.region (.s (fa T.f32_4 z z z) z (.s (ld T.t3 hS z z z z z) z ?_)))))
 have ⟨y1, hy1, h⟩ := bnd h
 refine .c (.call0 hS Tryz.func136 (spec_l42Mod_ok hy1) z z ?_ z (by kernel_rfl) z z)
 intro W hS
 refine .q z (.nil (.seq (.rk 12 hS [0] T.mix ?_)))
 intro W hS
 have hT := hS.to [0] z
 refine .tp 0 z z hT (by kernel_rfl) (.tp 3 z z hT (by kernel_rfl) (.ts 7 z (fun W hT => fa T.f32_3 z z z) hT z (by kernel_rfl) (.ts 8 z (fun W hT => ld T.t3 hT z z z z z) hT z (by kernel_rfl) ?_)))
 have ⟨y2, hy2, h⟩ := bnd h
 refine .by1 1 z (.call0 hS Tryz.func138 (spec_Bits_ok hy2) z z ?_ z (by kernel_rfl) z z) (by kernel_rfl)
 intro W hS
 have hT := hS.to [0] z
 refine ⟨fun _ => hT, ?_⟩
 have ⟨y3, hy3, h⟩ := bnd h
 refine .by1 2 z (.call0 hS Tryz.func137 (spec_l42Put_ok hy3) z z ?_ z (by kernel_rfl) z z) (by kernel_rfl)
 intro W hS
 have hT := hS.to [0] z
 refine ⟨fun _ => hT, ?_⟩
 have ⟨y4, hy4, h⟩ := bnd h
 refine .by1 4 z (.call0 hS Tryz.func138 (spec_Bits_ok hy4) z z ?_ z (by kernel_rfl) z z) (by kernel_rfl)
 intro W hS
 have hT := hS.to [0] z
 refine ⟨fun _ => hT, ?_⟩
 have ⟨y5, hy5, h⟩ := bnd h
 refine .by1 5 z (.call0 hS Tryz.func137 (spec_l42Put_ok hy5) z z ?_ z (by kernel_rfl) z z) (by kernel_rfl)
 intro W hS
 have hT := hS.to [0] z
 refine ⟨fun _ => hT, ?_⟩
 refine .tp 6 z z hT (by kernel_rfl) ?_
 have ⟨y6, hy6, h⟩ := bnd h
 refine .by1 9 z (.call0 hS Tryz.func137 (spec_l42Put_ok hy6) z z ?_ z (by kernel_rfl) z z) (by kernel_rfl)
 intro W hS
 have hT := hS.to [0] z
 refine ⟨fun _ => hT, ?_⟩
 refine .tp 10 z z hT (by kernel_rfl) (.tp 11 z z hT (by kernel_rfl) (.done (.seq (.region (.q z (.s (ld T.t32 hS z z z z z) z ?_)))) (by kernel_rfl)))
 have ⟨y7, hy7, h⟩ := bnd h
 refine .c (.call0 hS Tryz.func139 (spec_l42Mid_ok hy7) z z ?_ z (by kernel_rfl) z z)
 intro W hS
 refine .q z (.q z ?_)
 have ⟨y8, hy8, h⟩ := bnd h
 refine .c (.call0 hS Tryz.func138 (spec_Bits_ok hy8) z z ?_ z (by kernel_rfl) z z)
 intro W hS
 have ⟨y9, hy9, h⟩ := bnd h
 refine .c (.call0 hS Tryz.func137 (spec_l42Put_ok hy9) z z ?_ z (by kernel_rfl) z z)
 intro W hS
 refine .q z (.q z ?_)
 have ⟨y10, hy10, h⟩ := bnd h
 refine .c (.call0 hS Tryz.func138 (spec_Bits_ok hy10) z z ?_ z (by kernel_rfl) z z)
 intro W hS
 have ⟨y11, hy11, h⟩ := bnd h
 refine .c (.call0 hS Tryz.func137 (spec_l42Put_ok hy11) z z ?_ z (by kernel_rfl) z z)
 intro W hS
 cases h
 exact .q z (.q z (.nil (.ret (fin_ret (vs := [_]) () (rt z rn) z (hS.to [] z)))))
theorem spec_l42Jump_ok {a0 : Instr} {w : World} {r : Int} (h : spec_l42Jump a0 = some r) : Calls Tryz.prog 141 #[.agg #[.int .i64 a0.Op, .int .i64 a0.Rd, .int .i64 a0.Rs, .int .i64 a0.Rt, .int .i64 a0.Imm]] w (Ret No w (fun s : Unit => .int .i64 r) (fun s => [])) := by
 unfold spec_l42Jump at h
 refine enter Tryz.func141 z z ?_
 have hS := Sep.start w
 refine .seq (.region (.c (.box hS z z ?_ z z)))
 intro g1 W hS
 refine .q z (.nil (.seq (.region (.s (fa T.f32_4 z z z) z (.s (ld T.t3 hS z z z z z) z ?_)))))
 have ⟨y1, hy1, h⟩ := bnd h
 refine .c (.call0 hS Tryz.func136 (spec_l42Mod_ok hy1) z z ?_ z (by kernel_rfl) z z)
 intro W hS
 refine .q z (.nil (.seq (.region (.q z ?_))))
 have ⟨y2, hy2, h⟩ := bnd h
 refine .c (.call0 hS Tryz.func138 (spec_Bits_ok hy2) z z ?_ z (by kernel_rfl) z z)
 intro W hS
 have ⟨y3, hy3, h⟩ := bnd h
 refine .c (.call0 hS Tryz.func137 (spec_l42Put_ok hy3) z z ?_ z (by kernel_rfl) z z)
 intro W hS
 refine .q z ?_
 have ⟨y4, hy4, h⟩ := bnd h
 refine .c (.call0 hS Tryz.func138 (spec_Bits_ok hy4) z z ?_ z (by kernel_rfl) z z)
 intro W hS
 have ⟨y5, hy5, h⟩ := bnd h
 refine .c (.call0 hS Tryz.func137 (spec_l42Put_ok hy5) z z ?_ z (by kernel_rfl) z z)
 intro W hS
 refine .q z (.q z ?_)
 have ⟨y6, hy6, h⟩ := bnd h
 refine .c (.call0 hS Tryz.func138 (spec_Bits_ok hy6) z z ?_ z (by kernel_rfl) z z)
 intro W hS
 have ⟨y7, hy7, h⟩ := bnd h
 refine .c (.call0 hS Tryz.func137 (spec_l42Put_ok hy7) z z ?_ z (by kernel_rfl) z z)
 intro W hS
 refine .q z (.q z (.nil (.seq (.rk 11 hS [0] T.mix ?_))))
 intro W hS
 have hT := hS.to [0] z
 refine .tp 0 z z hT (by kernel_rfl) (.tp 1 z z hT (by kernel_rfl) (.ts 5 z (fun W hT => fa T.f32_1 z z z) hT z (by kernel_rfl) (.ts 6 z (fun W hT => ld T.t3 hT z z z z z) hT z (by kernel_rfl) ?_)))
 have ⟨y8, hy8, h⟩ := bnd h
 refine .by1 2 z (.call0 hS Tryz.func138 (spec_Bits_ok hy8) z z ?_ z (by kernel_rfl) z z) (by kernel_rfl)
 intro W hS
 have hT := hS.to [0] z
 refine ⟨fun _ => hT, ?_⟩
 have ⟨y9, hy9, h⟩ := bnd h
 refine .by1 3 z (.call0 hS Tryz.func137 (spec_l42Put_ok hy9) z z ?_ z (by kernel_rfl) z z) (by kernel_rfl)
 intro W hS
 have hT := hS.to [0] z
 refine ⟨fun _ => hT, ?_⟩
 refine .tp 4 z z hT (by kernel_rfl) ?_
 have ⟨y10, hy10, h⟩ := bnd h
 refine .by1 7 z (.call0 hS Tryz.func137 (spec_l42Put_ok hy10) z z ?_ z (by kernel_rfl) z z) (by kernel_rfl)
 intro W hS
 have hT := hS.to [0] z
 refine ⟨fun _ => hT, ?_⟩
 cases h
 exact .tp 8 z z hT (by kernel_rfl) (.tp 9 z z hT (by kernel_rfl) (.tp 10 z z hT (by kernel_rfl) (.done (.ret (fin_ret (vs := [_]) () (rt z rn) z (hS.to [] z))) (by kernel_rfl))))
theorem spec_l42Seven_ok {a0 : Int} {w : World} {r : Int} (h : spec_l42Seven a0 = some r) : Calls Tryz.prog 142 #[.int .i64 a0] w (Ret No w (fun s : Unit => .int .i64 r) (fun s => [])) := by
 unfold spec_l42Seven at h
 refine enter Tryz.func142 z z ?_
 have hS := Sep.start w
 refine .seq (.region (.q z (.nil (.seq (.region (.c (.liv [0, 32, 1, 1, 1, 0, 0, 0, 0, 32, 0] (D.int .i64) T.u25 T.t3 hS z z z z ?_ z (fun _ => z) z z z z)))))))
 intro v1 W hS
 refine .q z (.q z ?_)
 have ⟨x1, hx1, h⟩ := bnd h
 obtain rfl := Option.some.inj h
 exact .s (ixv hS.lendv hx1 T.u25 T.t3 z z z) z (.s (lde (RV.flat hS.lendv hx1 z) T.t3 z z z z z) z (.q z (.nil (.ret (fin_ret (vs := [_]) () (rt z rn) z (hS.to [] z))))))
theorem spec_l42Encode_ok {a0 : Instr} {w : World} {r : Int} (h : spec_l42Encode a0 = some r) : Calls Tryz.prog 103 #[.agg #[.int .i64 a0.Op, .int .i64 a0.Rd, .int .i64 a0.Rs, .int .i64 a0.Rt, .int .i64 a0.Imm]] w (Ret No w (fun s : Unit => .int .i64 r) (fun s => [])) := by
 unfold spec_l42Encode at h
 refine enter Tryz.func103 z z ?_
 have hS := Sep.start w
 refine .seq (.region (.c (.box hS z z ?_ z z)))
 intro g1 W hS
 refine .q z (.nil (.seq (.seq (.region (.s (fa T.f32_0 z z z) z (.s (ld T.t3 hS z z z z z) z (.nil (.block ?_))))))))
 have ⟨y1, hy1, h⟩ := bnd h
 refine .seq (CW.via (R' := fun x E' W' => x = .normal ∧ SubL E' [(1, .pointer (some ⟨g1, 0, none⟩)), (5, .int .i64 a0.Op), (6, .bool y1)] ∧ Sep No w W' [.box g1 32 [.int .i64 a0.Op, .int .i64 a0.Rd, .int .i64 a0.Rs, .int .i64 a0.Rt, .int .i64 a0.Imm]]) ?_ ?_)
 ·have h := hy1
  refine .seq (.region (.q z (.q z (.nil ?_))))
  refine .cs z h ?_ ?_ <;> intro h
  ·refine .skip ?_
   cases h
   exact ⟨z, sb z, hS.to [0] z⟩
  refine .region (.q z (.q z (.nil ?_)))
  cases h
  exact ⟨z, sb z, hS.to [0] z⟩
 intro x E W hJ
 obtain ⟨rfl, hE, hS⟩ := hJ
 refine ⟨_, hE.sub, ?_⟩
 refine .cs z h ?_ ?_ <;> intro h
 ·refine .seq (.region (.s (ld T.t32 hS z z z z z) z ?_))
  have ⟨y2, hy2, h⟩ := bnd h
  refine .c (.call0 hS Tryz.func135 (spec_l42Imm_ok hy2) z z ?_ z (by kernel_rfl) z z)
  intro W hS
  obtain rfl := Option.some.inj h
  exact .q z (.nil (.ret (fin_ret (vs := [_]) () (rt z rn) z (hS.to [] z))))
 refine .seq (.region (.q z (.q z (.nil ?_))))
 refine .cs z h ?_ ?_ <;> intro h
 ·refine .seq (.region (.s (ld T.t32 hS z z z z z) z ?_))
  have ⟨y3, hy3, h⟩ := bnd h
  refine .c (.call0 hS Tryz.func135 (spec_l42Imm_ok hy3) z z ?_ z (by kernel_rfl) z z)
  intro W hS
  obtain rfl := Option.some.inj h
  exact .q z (.nil (.ret (fin_ret (vs := [_]) () (rt z rn) z (hS.to [] z))))
 refine .seq (.region (.q z (.q z (.nil ?_))))
 refine .cs z h ?_ ?_ <;> intro h
 ·refine .seq (.region (.s (ld T.t32 hS z z z z z) z ?_))
  have ⟨y4, hy4, h⟩ := bnd h
  refine .c (.call0 hS Tryz.func135 (spec_l42Imm_ok hy4) z z ?_ z (by kernel_rfl) z z)
  intro W hS
  obtain rfl := Option.some.inj h
  exact .q z (.nil (.ret (fin_ret (vs := [_]) () (rt z rn) z (hS.to [] z))))
 refine .seq (.region (.q z (.q z (.nil ?_))))
 refine .cs z h ?_ ?_ <;> intro h
 ·refine .seq (.region (.s (fa T.f32_4 z z z) z (.s (ld T.t3 hS z z z z z) z ?_)))
  have ⟨y5, hy5, h⟩ := bnd h
  refine .c (.call0 hS Tryz.func136 (spec_l42Mod_ok hy5) z z ?_ z (by kernel_rfl) z z)
  intro W hS
  refine .q z (.nil (.seq (.rk 15 hS [0] T.mix ?_)))
  intro W hS
  have hT := hS.to [0] z
  refine .tp 0 z z hT (by kernel_rfl) (.ts 3 z (fun W hT => fa T.f32_3 z z z) hT z (by kernel_rfl) (.ts 4 z (fun W hT => ld T.t3 hT z z z z z) hT z (by kernel_rfl) (.ts 7 z (fun W hT => ld T.t32 hT z z z z z) hT z (by kernel_rfl) (.tp 10 z z hT (by kernel_rfl) ?_))))
  have ⟨y6, hy6, h⟩ := bnd h
  refine .by1 1 z (.call0 hS Tryz.func138 (spec_Bits_ok hy6) z z ?_ z (by kernel_rfl) z z) (by kernel_rfl)
  intro W hS
  have hT := hS.to [0] z
  refine ⟨fun _ => hT, ?_⟩
  have ⟨y7, hy7, h⟩ := bnd h
  refine .by1 2 z (.call0 hS Tryz.func137 (spec_l42Put_ok hy7) z z ?_ z (by kernel_rfl) z z) (by kernel_rfl)
  intro W hS
  have hT := hS.to [0] z
  refine ⟨fun _ => hT, ?_⟩
  have ⟨y8, hy8, h⟩ := bnd h
  refine .by1 5 z (.call0 hS Tryz.func137 (spec_l42Put_ok hy8) z z ?_ z (by kernel_rfl) z z) (by kernel_rfl)
  intro W hS
  have hT := hS.to [0] z
  refine ⟨fun _ => hT, ?_⟩
  refine .tp 6 z z hT (by kernel_rfl) ?_
  have ⟨y9, hy9, h⟩ := bnd h
  refine .by1 8 z (.call0 hS Tryz.func139 (spec_l42Mid_ok hy9) z z ?_ z (by kernel_rfl) z z) (by kernel_rfl)
  intro W hS
  have hT := hS.to [0] z
  refine ⟨fun _ => hT, ?_⟩
  refine .tp 9 z z hT (by kernel_rfl) ?_
  have ⟨y10, hy10, h⟩ := bnd h
  refine .by1 11 z (.call0 hS Tryz.func138 (spec_Bits_ok hy10) z z ?_ z (by kernel_rfl) z z) (by kernel_rfl)
  intro W hS
  have hT := hS.to [0] z
  refine ⟨fun _ => hT, ?_⟩
  have ⟨y11, hy11, h⟩ := bnd h
  refine .by1 12 z (.call0 hS Tryz.func137 (spec_l42Put_ok hy11) z z ?_ z (by kernel_rfl) z z) (by kernel_rfl)
  intro W hS
  have hT := hS.to [0] z
  refine ⟨fun _ => hT, ?_⟩
  cases h
  exact .tp 13 z z hT (by kernel_rfl) (.tp 14 z z hT (by kernel_rfl) (.done (.ret (fin_ret (vs := [_]) () (rt z rn) z (hS.to [] z))) (by kernel_rfl)))
 have ⟨y12, hy12, h⟩ := bnd h
 refine .seq (CW.via (R' := fun x E' W' => x = .normal ∧ SubL E' [(1, .pointer (some ⟨g1, 0, none⟩)), (5, .int .i64 a0.Op), (38, .bool y12)] ∧ Sep No w W' [.box g1 32 [.int .i64 a0.Op, .int .i64 a0.Rd, .int .i64 a0.Rs, .int .i64 a0.Rt, .int .i64 a0.Imm]]) ?_ ?_)
 ·have h := hy12
  refine .seq (.region (.q z (.q z (.nil ?_))))
  refine .cs z h ?_ ?_ <;> intro h
  ·refine .skip ?_
   cases h
   exact ⟨z, sb z, hS.to [0] z⟩
  refine .region (.q z (.q z (.nil ?_)))
  cases h
  exact ⟨z, sb z, hS.to [0] z⟩
 intro x E W hJ
 obtain ⟨rfl, hE, hS⟩ := hJ
 refine ⟨_, hE.sub, ?_⟩
 refine .cs z h ?_ ?_ <;> intro h
 ·refine .seq (.region (.s (ld T.t32 hS z z z z z) z ?_))
  have ⟨y13, hy13, h⟩ := bnd h
  refine .c (.call0 hS Tryz.func140 (spec_l42Branch_ok hy13) z z ?_ z (by kernel_rfl) z z)
  intro W hS
  obtain rfl := Option.some.inj h
  exact .q z (.nil (.ret (fin_ret (vs := [_]) () (rt z rn) z (hS.to [] z))))
 refine .seq (.region (.q z (.q z (.nil ?_))))
 refine .cs z h ?_ ?_ <;> intro h
 ·refine .seq (.rk 9 hS [0] T.mix ?_)
  intro W hS
  have hT := hS.to [0] z
  refine .ts 0 z (fun W hT => fa T.f32_4 z z z) hT z (by kernel_rfl) (.ts 1 z (fun W hT => ld T.t3 hT z z z z z) hT z (by kernel_rfl) (.ts 3 z (fun W hT => fa T.f32_1 z z z) hT z (by kernel_rfl) (.ts 4 z (fun W hT => ld T.t3 hT z z z z z) hT z (by kernel_rfl) ?_)))
  have ⟨y14, hy14, h⟩ := bnd h
  refine .by1 2 z (.call0 hS Tryz.func137 (spec_l42Put_ok hy14) z z ?_ z (by kernel_rfl) z z) (by kernel_rfl)
  intro W hS
  have hT := hS.to [0] z
  refine ⟨fun _ => hT, ?_⟩
  have ⟨y15, hy15, h⟩ := bnd h
  refine .by1 5 z (.call0 hS Tryz.func137 (spec_l42Put_ok hy15) z z ?_ z (by kernel_rfl) z z) (by kernel_rfl)
  intro W hS
  have hT := hS.to [0] z
  refine ⟨fun _ => hT, ?_⟩
  cases h
  exact .tp 6 z z hT (by kernel_rfl) (.tp 7 z z hT (by kernel_rfl) (.tp 8 z z hT (by kernel_rfl) (.done (.ret (fin_ret (vs := [_]) () (rt z rn) z (hS.to [] z))) (by kernel_rfl))))
 refine .seq (.region (.q z (.q z (.nil ?_))))
 refine .cs z h ?_ ?_ <;> intro h
 ·refine .seq (.region (.s (ld T.t32 hS z z z z z) z ?_))
  have ⟨y16, hy16, h⟩ := bnd h
  refine .c (.call0 hS Tryz.func141 (spec_l42Jump_ok hy16) z z ?_ z (by kernel_rfl) z z)
  intro W hS
  obtain rfl := Option.some.inj h
  exact .q z (.nil (.ret (fin_ret (vs := [_]) () (rt z rn) z (hS.to [] z))))
 refine .seq (.region (.q z (.q z (.nil ?_))))
 refine .cs z h ?_ ?_ <;> intro h
 ·cases h
  exact .seq (.region (.q z (.nil (.ret (fin_ret (vs := [_]) () (rt z rn) z (hS.to [] z))))))
 refine .skip (.seq (.rk 16 hS [0] T.mix ?_))
 intro W hS
 have hT := hS.to [0] z
 refine .ts 0 z (fun W hT => fa T.f32_0 z z z) hT z (by kernel_rfl) (.ts 1 z (fun W hT => ld T.t3 hT z z z z z) hT z (by kernel_rfl) (.ts 4 z (fun W hT => fa T.f32_3 z z z) hT z (by kernel_rfl) (.ts 5 z (fun W hT => ld T.t3 hT z z z z z) hT z (by kernel_rfl) (.ts 8 z (fun W hT => ld T.t32 hT z z z z z) hT z (by kernel_rfl) (.ts 11 z (fun W hT => fa T.f32_1 z z z) hT z (by kernel_rfl) (.ts 12 z (fun W hT => ld T.t3 hT z z z z z) hT z (by kernel_rfl) ?_))))))
 have ⟨y17, hy17, h⟩ := bnd h
 refine .by1 2 z (.call0 hS Tryz.func142 (spec_l42Seven_ok hy17) z z ?_ z (by kernel_rfl) z z) (by kernel_rfl)
 intro W hS
 have hT := hS.to [0] z
 refine ⟨fun _ => hT, ?_⟩
 have ⟨y18, hy18, h⟩ := bnd h
 refine .by1 3 z (.call0 hS Tryz.func137 (spec_l42Put_ok hy18) z z ?_ z (by kernel_rfl) z z) (by kernel_rfl)
 intro W hS
 have hT := hS.to [0] z
 refine ⟨fun _ => hT, ?_⟩
 have ⟨y19, hy19, h⟩ := bnd h
 refine .by1 6 z (.call0 hS Tryz.func137 (spec_l42Put_ok hy19) z z ?_ z (by kernel_rfl) z z) (by kernel_rfl)
 intro W hS
 have hT := hS.to [0] z
 refine ⟨fun _ => hT, ?_⟩
 refine .tp 7 z z hT (by kernel_rfl) ?_
 have ⟨y20, hy20, h⟩ := bnd h
 refine .by1 9 z (.call0 hS Tryz.func139 (spec_l42Mid_ok hy20) z z ?_ z (by kernel_rfl) z z) (by kernel_rfl)
 intro W hS
 have hT := hS.to [0] z
 refine ⟨fun _ => hT, ?_⟩
 refine .tp 10 z z hT (by kernel_rfl) ?_
 have ⟨y21, hy21, h⟩ := bnd h
 refine .by1 13 z (.call0 hS Tryz.func137 (spec_l42Put_ok hy21) z z ?_ z (by kernel_rfl) z z) (by kernel_rfl)
 intro W hS
 have hT := hS.to [0] z
 refine ⟨fun _ => hT, ?_⟩
 cases h
 exact .tp 14 z z hT (by kernel_rfl) (.tp 15 z z hT (by kernel_rfl) (.done (.ret (fin_ret (vs := [_]) () (rt z rn) z (hS.to [] z))) (by kernel_rfl)))
theorem spec_InstrEncode_ok {a0 : Instr} {w : World} {r : Int × Bool} (h : spec_InstrEncode a0 = some r) : Calls Tryz.prog 67 #[.agg #[.int .i64 a0.Op, .int .i64 a0.Rd, .int .i64 a0.Rs, .int .i64 a0.Rt, .int .i64 a0.Imm]] w (Ret No w (fun s : Unit => .tuple #[.int .i64 r.1, .bool r.2]) (fun s => [])) := by
 unfold spec_InstrEncode at h
 refine enter Tryz.func67 z z ?_
 have hS := Sep.start w
 refine .seq (.region (.c (.box hS z z ?_ z z)))
 intro g1 W hS
 refine .q z (.q z (.nil (.seq (.seq (.region (.s (ld T.t32 hS z z z z z) z ?_))))))
 have ⟨y1, hy1, h⟩ := bnd h
 refine .c (.call0 hS Tryz.func102 (spec_InstrValid_ok hy1) z z ?_ z (by kernel_rfl) z z)
 intro W hS
 refine .q z (.nil ?_)
 refine .cs z h ?_ ?_ <;> intro h
 ·cases h
  exact .seq (.region (.q z (.q z (.nil (.ret (fin_ret (vs := [_, _]) () (rt z (rt z rn)) z (hS.to [] z)))))))
 refine .skip (.seq (.region (.s (ld T.t32 hS z z z z z) z ?_)))
 have ⟨y2, hy2, h⟩ := bnd h
 refine .c (.call0 hS Tryz.func103 (spec_l42Encode_ok hy2) z z ?_ z (by kernel_rfl) z z)
 intro W hS
 cases h
 exact .q z (.q z (.nil (.ret (fin_ret (vs := [_, _]) () (rt z (rt z rn)) z (hS.to [] z)))))
def spec_l45Code_F (w : World) (S : Nat → Prop) (v_0 : Hd) (v_1 : Hd) (a0 : List Int) (a1 : List Instr) (r : (List Int) × Bool) : Env → World → Prop := Fin Tryz.prog Tryz.f38 S w (fun s : Hd => .tuple #[(sv s), .bool r.2]) (fun s => [rowV (sv s) 3 1 (D.int .i64) r.1]) .ret
theorem spec_l45Code_ok {a0 : List Int} {a1 : List Instr} {v_0 : Hd} {v_1 : Hd} {S : Nat → Prop} {w : World} {r : (List Int) × Bool} (h : spec_l45Code a0 a1 = some r) (q_1 : RV w (Old S w) (sv v_1) 32 5 dInstr a1) (hO : Owns w [rowV (sv v_0) 3 1 (D.int .i64) a0] S) (hlt : ∀ b, S b → b < w.heap.size) : Calls Tryz.prog 38 #[(sv v_0), (sv v_1)] w (Ret S w (fun s : Hd => .tuple #[(sv s), .bool r.2]) (fun s => [rowV (sv s) 3 1 (D.int .i64) r.1])) := by
 unfold spec_l45Code at h
 refine enter Tryz.func38 z z ?_
 have hS := Sep.startM hO hlt
 refine .seq (.region (.q z (.q z (.nil (.seq (.seq (.region (.q z (.nil (.block ?_))))))))))
 have ⟨y1, hy1, h⟩ := bnd h
 refine .via (.iter (fun s1 E' W' => ∃ (v3 : Hd), SubL E' [(0, (sv v3)), (1, (sv v_1)), (6, .int .i64 s1.2)] ∧ Sep S w W' [rowV (sv v3) 3 1 (D.int .i64) s1.1]) (fun y2 x E' W' => (match y2 with | .inl o1 => x = .ret ∧ spec_l45Code_F w S v_0 v_1 a0 a1 o1 E' W' | .inr o2 => x = .exit 0 ∧ ∃ (v4 : Hd), SubL E' [(0, (sv v4))] ∧ Sep S w W' [rowV (sv v4) 3 1 (D.int .i64) o2])) hy1 ⟨v_0, sb rfl, hS.to [0] rfl⟩ ?_) ?_
 ·intro s1 y3 E W h hI
  obtain ⟨v2, hE, hS⟩ := hI
  refine CW.sub hE ?_
  unfold spec_l45Code_b1 at h
  refine .seq (.seq (.region (.q z (.q z (.s (lenv (hS.keep q_1) T.u23 z z) z (.q z (.nil ?_)))))))
  refine .cs z h ?_ ?_ <;> intro h
  ·refine .skip (.seq (.block (.seq (.region (.q z (.q z ?_))))))
   have ⟨x1, hx1, h⟩ := bnd h
   refine .s (ixv (hS.keep q_1) hx1 T.u23 T.t32 z z z) z (.s (lde (RV.flat (hS.keep q_1) hx1 z) T.t32 z z z z z) z ?_)
   have ⟨y4, hy4, h⟩ := bnd h
   refine .c (.call0 hS Tryz.func67 (spec_InstrEncode_ok hy4) z z ?_ z (by kernel_rfl) z z)
   intro W hS
   refine .q z (.q z (.q z (.q z (.q z (.nil (.seq (.seq (.region (.q z (.q z (.nil ?_)))))))))))
   refine .cs z h ?_ ?_ <;> intro h
   ·refine .seq (.region (.q z (.q z (.q z (.nil (.ret ?_))))))
    cases h
    exact ⟨by simp, z, fin_ret (vs := [_, _]) v2 (rt z (rt z rn)) z (hS.to [0] z)⟩
   refine .skip (.region (.q z (.q z ?_)))
   have ⟨y5, hy5, h⟩ := bnd h
   refine .c (.call0 hS Tryz.func68 (spec_Wrap_ok hy5) z z ?_ z (by kernel_rfl) z z)
   intro W hS
   refine .c (.liv [y5] (D.int .i64) T.u25 T.t3 hS z z z z ?_ z (fun _ => z) z z z z)
   intro v5 W hS
   have ⟨r1, hr1, h⟩ := bnd h
   have hT0 := hS.p1
   refine .c (.apprv hr1 hT0 hT0.p1.lendv (fun _ => z) T.u25 T.t3 z z z ?_ z z z z z)
   intro v6 W hS
   refine .q z (.nil (.region (.q z (.q z (.q z (.nil ?_))))))
   cases h
   exact ⟨z, v6, sb z, hS.to [0] z⟩
  refine .exit ?_
  cases h
  exact ⟨by simp, z, v2, sb z, hS.to [0] z⟩
 intro x E W hJ
 rcases y1 with o3 | o4
 ·obtain ⟨rfl, hF⟩ := hJ
  refine ⟨_, fun _ _ h => h, ?_⟩
  cases h
  exact hF
 obtain ⟨rfl, v7, hE, hS⟩ := hJ
 refine ⟨_, hE.sub, ?_⟩
 cases h
 exact .seq (.region (.q z (.q z (.q z (.nil (.ret (fin_ret (vs := [_, _]) v7 (rt z (rt z rn)) z (hS.to [0] z))))))))
theorem spec_HartNew_ok {a0 : List Instr} {v_0 : Hd} {w : World} {r : Machine × Bool} (h : spec_HartNew a0 = some r) (q_0 : RV w (Old No w) (sv v_0) 32 5 dInstr a0) : Calls Tryz.prog 13 #[(sv v_0)] w (Ret No w (fun s : Hd × Hd => .tuple #[.agg #[(sv s.1), .int .i64 r.1.Pc, (sv s.2)], .bool r.2]) (fun s => [rowV (sv s.1) 3 1 (D.int .i64) r.1.Regs, rowV (sv s.2) 3 1 (D.int .i64) r.1.Mem])) := by
 unfold spec_HartNew at h
 refine enter Tryz.func13 z z ?_
 have hS := Sep.start w
 refine .seq (.region (.c (.alloc T.t27 hS ?_ z z z)))
 intro g1 W hS
 refine .q z (.nil (.seq (.seq (.region (.q z (.s (lenv (hS.keep q_0) T.u23 z z) z (.q z (.nil (.cond z (fun hb => ?_) (fun hb => ?_))))))))))
 ·have h := sel_t hb h
  refine .seq (.region (.s (bs T.s27 z z) z (.c (.st T.t27 hS z z z ?_ z z z z z))))
  intro W hS
  refine .q z (.nil (.ret ?_))
  have hS := hS.nilv 3 1 (D.int .i64)
  have hS := hS.nilv 3 1 (D.int .i64)
  cases h
  exact fin_ret (vs := [_, _]) (nilH, nilH) (rc hS.p2 T.t27 z (rt z rn) z z) z (hS.to [1, 0] z)
 have h := sel_f hb h
 refine .skip (.seq (.region (.c (.liv [0] (D.int .i64) T.u25 T.t3 hS z z z z ?_ z (fun _ => z) z z z z))))
 intro v1 W hS
 refine .q z ?_
 have ⟨y1, hy1, h⟩ := bnd h
 refine .c (.callS2 (L0 := [rowV (sv v1) 3 1 (D.int .i64) [0]]) hS Tryz.func38 (fun S h1 h2 h3 => (spec_l45Code_ok hy1 (hS.keepS q_0 h1) h2 (fun b hb => (h1 b hb).2))) z z ?_ z (by kernel_rfl) z z)
 rintro v2 W hS
 refine .q z (.q z (.q z (.q z (.q z (.nil (.seq (.seq (.region (.q z (.q z (.nil ?_)))))))))))
 refine .cs z h ?_ ?_ <;> intro h
 ·refine .seq (.region (.s (bs T.s27 z z) z (.c (.st T.t27 hS.p1 z z z ?_ z z z z z))))
  intro W hS
  refine .q z (.nil (.ret ?_))
  have hS := hS.nilv 3 1 (D.int .i64)
  have hS := hS.nilv 3 1 (D.int .i64)
  cases h
  exact fin_ret (vs := [_, _]) (nilH, nilH) (rc hS.p2 T.t27 z (rt z rn) z z) z (hS.to [1, 0] z)
 refine .skip (.seq (.region ?_))
 have ⟨r1, hr1, h⟩ := bnd h
 refine .c (.mkv 0 (D.int .i64) hr1 T.u25 T.t3 hS z z z z z (fun _ => z) ?_ z z z)
 intro v3 W hS
 refine .s (bs T.s27 z z) z (.c (.alloc T.t27 hS ?_ z z z))
 intro g2 W hS
 refine .c (.st T.t27 hS z z z ?_ z z z z z)
 intro W hS
 refine .nil (.seq (.region (.s (fa T.f27_0 z z z) z (.s (ld T.t25 hS z z z z z) z (.q z (.s (lenv hS.p2.lendv T.u25 z z) z (.q z ?_)))))))
 have ⟨x1, hx1, h⟩ := bnd h
 refine .s (ixv hS.p1.lendv hx1 T.u25 T.t3 z z z) z ?_
 have ⟨r2, hr2, h⟩ := bnd h
 refine .c (.sev hr2 hx1 hS.p1 T.t3 z z z z z z ?_ z z z z z z)
 intro W hS
 refine .nil (.seq (.region (.q z ?_)))
 have ⟨r3, hr3, h⟩ := bnd h
 refine .c (.appz 0 hr3 hS.p2 T.u25 T.u3 T.t3 z z z z ?_ (fun _ => z) z z z z z z)
 intro v4 W hS
 refine .s (fa T.f27_2 z z z) z (.c (.st T.t25 hS.p2 z z z ?_ z z z z z))
 intro W hS
 refine .nil (.seq (.region (.s (ld T.t27 hS z z z z z) z (.c (.st T.t27 hS.p3 z z z ?_ z z z z z)))))
 intro W hS
 cases h
 exact .q z (.nil (.ret (fin_ret (vs := [_, _]) (v3, v4) (rc hS T.t27 z (rt z rn) z z) z (hS.to [3, 2] z))))
def laws_sameInts_F (w : World) (r : Bool) : Env → World → Prop := Fin Tryz.prog Tryz.f18 No w (fun s : Unit => .bool r) (fun s => []) .ret
theorem laws_sameInts_ok {a0 : List Int} {a1 : List Int} {v_0 : Hd} {v_1 : Hd} {w : World} {r : Bool} (h : laws_sameInts a0 a1 = some r) (q_0 : RV w (Old No w) (sv v_0) 3 1 (D.int .i64) a0) (q_1 : RV w (Old No w) (sv v_1) 3 1 (D.int .i64) a1) : Calls Tryz.prog 18 #[(sv v_0), (sv v_1)] w (Ret No w (fun s : Unit => .bool r) (fun s => [])) := by
 unfold laws_sameInts at h
 refine enter Tryz.func18 z z ?_
 have hS := Sep.start w
 refine .seq (.region (.q z (.nil (.seq (.seq (.region (.q z (.s (lenv (hS.keep q_0) T.u25 z z) z (.q z (.s (lenv (hS.keep q_1) T.u25 z z) z (.q z (.nil ?_))))))))))))
 refine .cs z h ?_ ?_ <;> intro h
 ·obtain rfl := Option.some.inj h
  exact .seq (.region (.q z (.nil (.ret (fin_ret (vs := [_]) () (rt z rn) z (hS.to [] z))))))
 refine .skip (.seq (.seq (.region (.q z (.nil (.block ?_))))))
 have ⟨y1, hy1, h⟩ := bnd h
 refine .via (.iter (fun s1 E' W' => SubL E' [(0, (sv v_0)), (1, (sv v_1)), (5, .int .i64 s1)] ∧ Sep No w W' []) (fun y2 x E' W' => (match y2 with | .inl o1 => x = .ret ∧ laws_sameInts_F w o1 E' W' | .inr o2 => x = .exit 0 ∧ SubL E' [] ∧ Sep No w W' [])) hy1 ⟨sb rfl, hS.to [] rfl⟩ ?_) ?_
 ·intro s1 y3 E W h hI
  obtain ⟨hE, hS⟩ := hI
  refine CW.sub hE ?_
  unfold laws_sameInts_b1 at h
  refine .seq (.seq (.region (.q z (.q z (.s (lenv (hS.keep q_0) T.u25 z z) z (.q z (.nil ?_)))))))
  refine .cs z h ?_ ?_ <;> intro h
  ·refine .skip (.seq (.block (.seq (.rk 9 hS [] T.mix ?_))))
   intro W hS
   have hT := hS.to [] z
   refine .tp 0 z z hT (by kernel_rfl) (.tp 1 z z hT (by kernel_rfl) ?_)
   have ⟨x1, hx1, h⟩ := bnd h
   refine .ts 2 z (fun W hT => ixv (hS.keep q_0) hx1 T.u25 T.t3 z z z) hT z (by kernel_rfl) (.ts 3 z (fun W hT => lde (RV.flat (hT.keep q_0) hx1 z) T.t3 z z z z z) hT z (by kernel_rfl) (.tp 4 z z hT (by kernel_rfl) (.tp 5 z z hT (by kernel_rfl) ?_)))
   have ⟨x2, hx2, h⟩ := bnd h
   refine .ts 6 z (fun W hT => ixv (hS.keep q_1) hx2 T.u25 T.t3 z z z) hT z (by kernel_rfl) (.ts 7 z (fun W hT => lde (RV.flat (hT.keep q_1) hx2 z) T.t3 z z z z z) hT z (by kernel_rfl) (.tp 8 z z hT (by kernel_rfl) (.done ?_ (by kernel_rfl))))
   refine .cs z h ?_ ?_ <;> intro h
   ·refine .seq (.region (.q z (.nil (.ret ?_))))
    cases h
    exact ⟨by simp, z, fin_ret (vs := [_]) () (rt z rn) z (hS.to [] z)⟩
   refine .skip (.region (.q z (.q z (.q z (.nil ?_)))))
   cases h
   exact ⟨z, sb z, hS.to [] z⟩
  refine .exit ?_
  cases h
  exact ⟨by simp, z, sb z, hS.to [] z⟩
 intro x E W hJ
 rcases y1 with o3 | o4
 ·obtain ⟨rfl, hF⟩ := hJ
  refine ⟨_, fun _ _ h => h, ?_⟩
  cases h
  exact hF
 obtain ⟨rfl, hE, hS⟩ := hJ
 refine ⟨_, hE.sub, ?_⟩
 obtain rfl := Option.some.inj h
 exact .seq (.region (.q z (.nil (.ret (fin_ret (vs := [_]) () (rt z rn) z (hS.to [] z))))))
theorem laws_sameMachine_ok {a0 : Machine} {a1 : Machine} {v_0_Regs : Hd} {v_0_Mem : Hd} {v_1_Regs : Hd} {v_1_Mem : Hd} {w : World} {r : Bool} (h : laws_sameMachine a0 a1 = some r) (q_0_Regs : RV w (Old No w) (sv v_0_Regs) 3 1 (D.int .i64) a0.Regs) (q_0_Mem : RV w (Old No w) (sv v_0_Mem) 3 1 (D.int .i64) a0.Mem) (q_1_Regs : RV w (Old No w) (sv v_1_Regs) 3 1 (D.int .i64) a1.Regs) (q_1_Mem : RV w (Old No w) (sv v_1_Mem) 3 1 (D.int .i64) a1.Mem) : Calls Tryz.prog 14 #[.agg #[(sv v_0_Regs), .int .i64 a0.Pc, (sv v_0_Mem)], .agg #[(sv v_1_Regs), .int .i64 a1.Pc, (sv v_1_Mem)]] w (Ret No w (fun s : Unit => .bool r) (fun s => [])) := by
 unfold laws_sameMachine at h
 refine enter Tryz.func14 z z ?_
 have hS := Sep.start w
 refine .seq (.region (.c (.box hS z z ?_ z z)))
 intro g1 W hS
 refine .c (.box hS z z ?_ z z)
 intro g2 W hS
 refine .q z (.nil (.seq (.region (.s (fa T.f27_1 z z z) z (.s (ld T.t3 hS.p1 z z z z z) z (.s (fa T.f27_1 z z z) z (.s (ld T.t3 hS z z z z z) z (.q z (.q z ?_)))))))))
 have ⟨b1, hb1, h⟩ := bnd h
 refine .chunk 6 16 (b1) hS ?_ ?_
 ·refine .both (a0.Pc == a1.Pc) (fun hb => ?_) (fun hb => ?_)
  ·have hg1 := hb
   have h := sel_t hb hb1
   refine .g hg1 (.s (fa T.f27_0 z z z) z (.g hg1 (.s (ld T.t25 hS.p1 z z z z z) z (.g hg1 (.s (fa T.f27_0 z z z) z (.g hg1 (.s (ld T.t25 hS z z z z z) z ?_) z)) z)) z)) z
   have ⟨y1, hy1, h⟩ := bnd h
   refine .g hg1 (.c (.call0 hS Tryz.func18 (laws_sameInts_ok hy1 (hS.keep q_0_Regs) (hS.keep q_1_Regs)) z z ?_ z (by kernel_rfl) z z)) z
   intro W hS
   refine .s (pkt hg1 z z z) z ?_
   cases h
   exact .nil (ck 6 hS z z z z)
  refine .xx hb z (.xx hb z (.xx hb z (.xx hb z (.xx hb z ?_))))
  cases sel_f hb hb1
  exact .s (pkf hb z z z) z (.nil (ck 6 hS z z z z))
 intro W hS
 refine .q z ?_
 have ⟨b2, hb2, h⟩ := bnd h
 refine .chunk 6 23 (b2) hS ?_ ?_
 ·refine .both (b1) (fun hb => ?_) (fun hb => ?_)
  ·have hg2 := hb
   have h := sel_t hb hb2
   refine .g hg2 (.s (fa T.f27_2 z z z) z (.g hg2 (.s (ld T.t25 hS.p1 z z z z z) z (.g hg2 (.s (fa T.f27_2 z z z) z (.g hg2 (.s (ld T.t25 hS z z z z z) z ?_) z)) z)) z)) z
   have ⟨y2, hy2, h⟩ := bnd h
   refine .g hg2 (.c (.call0 hS Tryz.func18 (laws_sameInts_ok hy2 (hS.keep q_0_Mem) (hS.keep q_1_Mem)) z z ?_ z (by kernel_rfl) z z)) z
   intro W hS
   refine .s (pkt hg2 z z z) z ?_
   cases h
   exact .nil (ck 6 hS z z z z)
  refine .xx hb z (.xx hb z (.xx hb z (.xx hb z (.xx hb z ?_))))
  cases sel_f hb hb2
  exact .s (pkf hb z z z) z (.nil (ck 6 hS z z z z))
 intro W hS
 obtain rfl := Option.some.inj h
 exact .q z (.nil (.ret (fin_ret (vs := [_]) () (rt z rn) z (hS.to [] z))))
theorem impl_instrRow_matches_ok {a0 : InstrRow} {a1 : Int} {a2 : Int} {w : World} {r : Bool} (h : impl_instrRow_matches a0 a1 a2 = some r) : Calls Tryz.prog 40 #[.agg #[.string a0.name, .int .i64 a0.opcode, .int .i64 a0.funct3, .int .i64 a0.funct7], .int .i64 a1, .int .i64 a2] w (Ret No w (fun s : Unit => .bool r) (fun s => [])) := by
 unfold impl_instrRow_matches at h
 refine enter Tryz.func40 z z ?_
 have hS := Sep.start w
 refine .seq (.region (.c (.box hS z z ?_ z z)))
 intro g1 W hS
 refine .q z (.nil (.seq (.seq (.region (.s (fa T.f75_1 z z z) z (.s (ld T.t3 hS z z z z z) z (.q z (.q z (.q z (.nil ?_))))))))))
 refine .cs z h ?_ ?_ <;> intro h
 ·obtain rfl := Option.some.inj h
  exact .seq (.region (.q z (.nil (.ret (fin_ret (vs := [_]) () (rt z rn) z (hS.to [] z))))))
 refine .skip (.seq (.seq (.region (.q z ?_))))
 have ⟨y1, hy1, h⟩ := bnd h
 refine .c (.call0 hS Tryz.func69 (impl_formatOf_ok hy1) z z ?_ z (by kernel_rfl) z z)
 intro W hS
 refine .nil (.block (.seq (.region (.q z (.q z (.nil ?_))))))
 refine .cs z h ?_ ?_ <;> intro h
 ·refine .seq ?_
  have ⟨y2, hy2, h⟩ := bnd h
  have ⟨b1, hb1, h⟩ := bnd h
  refine .via (R' := fun x E' W' => x = .normal ∧ SubL E' [(6, .bool b1)] ∧ Sep No w W' [.box g1 75 [.string a0.name, .int .i64 a0.opcode, .int .i64 a0.funct3, .int .i64 a0.funct7]]) ?_ ?_
  ·refine .rk 13 hS [0] T.mix ?_
   intro W hS
   have hT := hS.to [0] z
   refine .ts 0 z (fun W hT => fa T.f75_2 z z z) hT z (by kernel_rfl) (.ts 1 z (fun W hT => ld T.t3 hT z z z z z) hT z (by kernel_rfl) (.tp 2 z z hT (by kernel_rfl) (.by1 3 z (.call0 hS Tryz.func70 (impl_Bits_ok hy2) z z ?_ z (by kernel_rfl) z z) (by kernel_rfl))))
   intro W hS
   have hT := hS.to [0] z
   refine ⟨fun _ => hT, ?_⟩
   refine .tp 4 z z hT (by kernel_rfl) (.tp 5 z z hT (by kernel_rfl) (.both (a0.funct3 == y2) (fun hb => ?_) (fun hb => ?_)))
   ·have hg1 := hb
    have h_b1 := sel_t hb hb1
    refine .t1g 6 z hg1 (fun W hT => fa T.f75_3 z z z) hT (.t1g 7 z hg1 (fun W hT => ld T.t3 hT z z z z z) hT (.t1g 8 z hg1 (fun W hT => pr z) hT ?_ (by kernel_rfl) z z) (by kernel_rfl) z z) (by kernel_rfl) z z
    have ⟨y3, hy3, h_b1⟩ := bnd h_b1
    refine .by1 9 z (.gd hg1 (.call0 hS Tryz.func70 (impl_Bits_ok hy3) z z ?_ z (by kernel_rfl) z z) z) (by kernel_rfl)
    intro W hS
    have hT := hS.to [0] z
    refine ⟨fun _ => hT, ?_⟩
    exact .t1g 10 z hg1 (fun W hT => pr z) hT (.ts 11 z (fun W hT => pkt hg1 z z z) hT z (by kernel_rfl) (.eqv 27 z (bool_eq h_b1) (.tp 12 z z hT (by kernel_rfl) (.done (⟨z, sb z, hS.to [0] z⟩) (by kernel_rfl))))) (by kernel_rfl) z z
   exact .off 6 z hb hT (.off 7 z hb hT (.off 8 z hb hT (.off 9 z hb hT (.off 10 z hb hT (.ts 11 z (fun W hT => pkf hb z z z) hT z (by kernel_rfl) (.eqv 27 z (bool_eq (sel_f hb hb1)) (.tp 12 z z hT (by kernel_rfl) (.done (⟨z, sb z, hS.to [0] z⟩) (by kernel_rfl))))) (by kernel_rfl) z z) (by kernel_rfl) z z) (by kernel_rfl) z z) (by kernel_rfl) z z) (by kernel_rfl) z z
  intro x E W hJ
  obtain ⟨rfl, hE, hS⟩ := hJ
  refine ⟨_, hE.sub, ?_⟩
  obtain rfl := Option.some.inj h
  exact .ret (fin_ret (vs := [_]) () (rt z rn) z (hS.to [] z))
 have ⟨y4, hy4, h⟩ := bnd h
 refine .seq (CW.via (R' := fun x E' W' => x = .normal ∧ SubL E' [(2, .int .i64 a2), (3, .pointer (some ⟨g1, 0, none⟩)), (28, .bool y4)] ∧ Sep No w W' [.box g1 75 [.string a0.name, .int .i64 a0.opcode, .int .i64 a0.funct3, .int .i64 a0.funct7]]) ?_ ?_)
 ·have h := hy4
  refine .seq (.region (.q z (.q z (.nil ?_))))
  refine .cs z h ?_ ?_ <;> intro h
  ·refine .skip ?_
   cases h
   exact ⟨z, sb z, hS.to [0] z⟩
  refine .seq (.region (.q z (.q z (.nil ?_))))
  refine .cs z h ?_ ?_ <;> intro h
  ·refine .skip ?_
   cases h
   exact ⟨z, sb z, hS.to [0] z⟩
  refine .region (.q z (.q z (.nil ?_)))
  cases h
  exact ⟨z, sb z, hS.to [0] z⟩
 intro x E W hJ
 obtain ⟨rfl, hE, hS⟩ := hJ
 refine ⟨_, hE.sub, ?_⟩
 refine .cs z h ?_ ?_ <;> intro h
 ·refine .seq (.rk 6 hS [0] T.mix ?_)
  intro W hS
  have hT := hS.to [0] z
  refine .ts 0 z (fun W hT => fa T.f75_2 z z z) hT z (by kernel_rfl) (.ts 1 z (fun W hT => ld T.t3 hT z z z z z) hT z (by kernel_rfl) (.tp 2 z z hT (by kernel_rfl) ?_))
  have ⟨y5, hy5, h⟩ := bnd h
  refine .by1 3 z (.call0 hS Tryz.func70 (impl_Bits_ok hy5) z z ?_ z (by kernel_rfl) z z) (by kernel_rfl)
  intro W hS
  have hT := hS.to [0] z
  refine ⟨fun _ => hT, ?_⟩
  cases h
  exact .tp 4 z z hT (by kernel_rfl) (.tp 5 z z hT (by kernel_rfl) (.done (.ret (fin_ret (vs := [_]) () (rt z rn) z (hS.to [] z))) (by kernel_rfl)))
 obtain rfl := Option.some.inj h
 exact .skip (.seq (.region (.q z (.nil (.ret (fin_ret (vs := [_]) () (rt z rn) z (hS.to [] z)))))))
theorem impl_SignExtend_ok {a0 : Int} {a1 : Int} {w : World} {r : Int} (h : impl_SignExtend a0 a1 = some r) : Calls Tryz.prog 71 #[.int .i64 a0, .int .i64 a1] w (Ret No w (fun s : Unit => .int .i64 r) (fun s => [])) := by
 unfold impl_SignExtend at h
 refine enter Tryz.func71 z z ?_
 have hS := Sep.start w
 refine .seq (.region (.q z (.nil (.seq (.seq (.region (.q z (.q z (.q z (.chunk 3 10 ((decide (a1 < 1)) || (decide (a1 > 32))) hS ?_ ?_))))))))))
 ·refine .both (decide (a1 < 1)) (fun hb => ?_) (fun hb => ?_)
  ·exact .xx hb z (.xx hb z (.s (pkt hb z z z) z (.nil (ck 3 hS z (or_t hb) z z))))
  have hg1 := hb
  exact .g hg1 (.q z (.g hg1 (.q z (.s (pkf hg1 z z z) z (.nil (ck 3 hS z (or_f hg1) z z)))) z)) z
 intro W hS
 refine .q z (.chunk 3 14 (((decide (a1 < 1)) || (decide (a1 > 32))) || (decide (a0 < 0))) hS ?_ ?_)
 ·refine .both ((decide (a1 < 1)) || (decide (a1 > 32))) (fun hb => ?_) (fun hb => ?_)
  ·exact .xx hb z (.xx hb z (.s (pkt hb z z z) z (.nil (ck 3 hS z (or_t hb) z z))))
  have hg2 := hb
  exact .g hg2 (.q z (.g hg2 (.q z (.s (pkf hg2 z z z) z (.nil (ck 3 hS z (or_f hg2) z z)))) z)) z
 intro W hS
 refine .q z ?_
 have ⟨b1, hb1, h⟩ := bnd h
 refine .chunk 5 20 (b1) hS ?_ ?_
 ·refine .both (((decide (a1 < 1)) || (decide (a1 > 32))) || (decide (a0 < 0))) (fun hb => ?_) (fun hb => ?_)
  ·refine .xx hb z (.xx hb z (.xx hb z (.xx hb z ?_)))
   cases sel_t hb hb1
   exact .s (pkt hb z z z) z (.nil (ck 5 hS z z z z))
  have hg3 := hb
  have h := sel_f hb hb1
  refine .g hg3 (.q z (.g hg3 (.q z ?_) z)) z
  have ⟨d1, hd1, h⟩ := bnd h
  refine .g hg3 (.s (shr_run hd1 z z z) z (.g hg3 (.q z (.s (pkf hg3 z z z) z ?_)) z)) z
  cases h
  exact .nil (ck 5 hS z z z z)
 intro W hS
 refine .nil ?_
 refine .cs z h ?_ ?_ <;> intro h
 ·cases h
  exact .seq (.region (.q z (.nil (.ret (fin_ret (vs := [_]) () (rt z rn) z (hS.to [] z))))))
 refine .skip (.seq (.seq (.region (.q z (.q z (.q z ?_))))))
 have ⟨d2, hd2, h⟩ := bnd h
 refine .s (shr_run hd2 z z z) z (.q z (.nil ?_))
 refine .cs z h ?_ ?_ <;> intro h
 ·refine .seq (.region (.q z (.q z ?_)))
  have ⟨d3, hd3, h⟩ := bnd h
  cases h
  exact .s (shr_run hd3 z z z) z (.q z (.q z (.nil (.ret (fin_ret (vs := [_]) () (rt z rn) z (hS.to [] z))))))
 obtain rfl := Option.some.inj h
 exact .skip (.seq (.region (.q z (.q z (.nil (.ret (fin_ret (vs := [_]) () (rt z rn) z (hS.to [] z))))))))
theorem impl_decodeAs_ok {a0 : Int} {a1 : Int} {w : World} {r : Instr} (h : impl_decodeAs a0 a1 = some r) : Calls Tryz.prog 41 #[.int .i64 a0, .int .i64 a1] w (Ret No w (fun s : Unit => .agg #[.int .i64 r.Op, .int .i64 r.Rd, .int .i64 r.Rs, .int .i64 r.Rt, .int .i64 r.Imm]) (fun s => [])) := by
 unfold impl_decodeAs at h
 refine enter Tryz.func41 z z ?_
 have hS := Sep.start w
 refine .seq (.region (.c (.alloc T.t32 hS ?_ z z z)))
 intro g1 W hS
 refine .nil (.seq (.region (.q z ?_)))
 have ⟨y1, hy1, h⟩ := bnd h
 refine .c (.call0 hS Tryz.func70 (impl_Bits_ok hy1) z z ?_ z (by kernel_rfl) z z)
 intro W hS
 refine .q z ?_
 have ⟨y2, hy2, h⟩ := bnd h
 refine .c (.call0 hS Tryz.func70 (impl_Bits_ok hy2) z z ?_ z (by kernel_rfl) z z)
 intro W hS
 refine .q z ?_
 have ⟨y3, hy3, h⟩ := bnd h
 refine .c (.call0 hS Tryz.func70 (impl_Bits_ok hy3) z z ?_ z (by kernel_rfl) z z)
 intro W hS
 refine .q z (.q z (.q z (.nil (.seq (.seq (.region (.q z ?_)))))))
 have ⟨y4, hy4, h⟩ := bnd h
 refine .c (.call0 hS Tryz.func69 (impl_formatOf_ok hy4) z z ?_ z (by kernel_rfl) z z)
 intro W hS
 refine .nil (.block (.seq (.region (.q z (.q z (.nil ?_))))))
 refine .cs z h ?_ ?_ <;> intro h
 ·refine .seq (.region (.q z (.q z (.q z (.q z (.s (bs T.s32 z z) z (.c (.st T.t32 hS z z z ?_ z z z z z))))))))
  intro W hS
  cases h
  exact .nil (.ret (fin_ret (vs := [_]) () (rc hS T.t32 z rn z z) z (hS.to [] z)))
 refine .seq (.region (.q z (.q z (.nil ?_))))
 refine .cs z h ?_ ?_ <;> intro h
 ·refine .seq (.region (.q z (.q z (.q z (.q z ?_)))))
  have ⟨y5, hy5, h⟩ := bnd h
  refine .c (.call0 hS Tryz.func70 (impl_Bits_ok hy5) z z ?_ z (by kernel_rfl) z z)
  intro W hS
  have ⟨y6, hy6, h⟩ := bnd h
  refine .c (.call0 hS Tryz.func71 (impl_SignExtend_ok hy6) z z ?_ z (by kernel_rfl) z z)
  intro W hS
  refine .s (bs T.s32 z z) z (.c (.st T.t32 hS z z z ?_ z z z z z))
  intro W hS
  cases h
  exact .nil (.ret (fin_ret (vs := [_]) () (rc hS T.t32 z rn z z) z (hS.to [] z)))
 refine .seq (.region (.q z (.q z (.nil ?_))))
 refine .cs z h ?_ ?_ <;> intro h
 ·refine .seq (.region (.q z (.q z (.q z (.q z ?_)))))
  have ⟨y7, hy7, h⟩ := bnd h
  refine .c (.call0 hS Tryz.func70 (impl_Bits_ok hy7) z z ?_ z (by kernel_rfl) z z)
  intro W hS
  refine .q z (.q z (.q z ?_))
  have ⟨y8, hy8, h⟩ := bnd h
  refine .c (.call0 hS Tryz.func71 (impl_SignExtend_ok hy8) z z ?_ z (by kernel_rfl) z z)
  intro W hS
  refine .s (bs T.s32 z z) z (.c (.st T.t32 hS z z z ?_ z z z z z))
  intro W hS
  cases h
  exact .nil (.ret (fin_ret (vs := [_]) () (rc hS T.t32 z rn z z) z (hS.to [] z)))
 refine .seq (.region (.q z (.q z (.nil ?_))))
 refine .cs z h ?_ ?_ <;> intro h
 ·refine .seq (.region (.q z ?_))
  have ⟨y9, hy9, h⟩ := bnd h
  refine .c (.call0 hS Tryz.func70 (impl_Bits_ok hy9) z z ?_ z (by kernel_rfl) z z)
  intro W hS
  refine .q z (.q z ?_)
  have ⟨y10, hy10, h⟩ := bnd h
  refine .c (.call0 hS Tryz.func70 (impl_Bits_ok hy10) z z ?_ z (by kernel_rfl) z z)
  intro W hS
  refine .q z (.q z (.q z ?_))
  have ⟨y11, hy11, h⟩ := bnd h
  refine .c (.call0 hS Tryz.func70 (impl_Bits_ok hy11) z z ?_ z (by kernel_rfl) z z)
  intro W hS
  refine .q z (.q z (.q z ?_))
  have ⟨y12, hy12, h⟩ := bnd h
  refine .c (.call0 hS Tryz.func70 (impl_Bits_ok hy12) z z ?_ z (by kernel_rfl) z z)
  intro W hS
  refine .q z (.q z (.q z (.nil (.seq (.region (.q z (.q z (.q z (.q z ?_)))))))))
  have ⟨y13, hy13, h⟩ := bnd h
  refine .c (.call0 hS Tryz.func71 (impl_SignExtend_ok hy13) z z ?_ z (by kernel_rfl) z z)
  intro W hS
  refine .s (bs T.s32 z z) z (.c (.st T.t32 hS z z z ?_ z z z z z))
  intro W hS
  cases h
  exact .nil (.ret (fin_ret (vs := [_]) () (rc hS T.t32 z rn z z) z (hS.to [] z)))
 refine .seq (.region (.q z (.q z (.nil ?_))))
 refine .cs z h ?_ ?_ <;> intro h
 ·refine .seq (.region (.q z (.q z (.q z ?_))))
  have ⟨y14, hy14, h⟩ := bnd h
  refine .c (.call0 hS Tryz.func70 (impl_Bits_ok hy14) z z ?_ z (by kernel_rfl) z z)
  intro W hS
  refine .s (bs T.s32 z z) z (.c (.st T.t32 hS z z z ?_ z z z z z))
  intro W hS
  cases h
  exact .nil (.ret (fin_ret (vs := [_]) () (rc hS T.t32 z rn z z) z (hS.to [] z)))
 refine .seq (.region (.q z (.q z (.nil ?_))))
 refine .cs z h ?_ ?_ <;> intro h
 ·refine .seq (.region (.q z ?_))
  have ⟨y15, hy15, h⟩ := bnd h
  refine .c (.call0 hS Tryz.func70 (impl_Bits_ok hy15) z z ?_ z (by kernel_rfl) z z)
  intro W hS
  refine .q z (.q z ?_)
  have ⟨y16, hy16, h⟩ := bnd h
  refine .c (.call0 hS Tryz.func70 (impl_Bits_ok hy16) z z ?_ z (by kernel_rfl) z z)
  intro W hS
  refine .q z (.q z (.q z ?_))
  have ⟨y17, hy17, h⟩ := bnd h
  refine .c (.call0 hS Tryz.func70 (impl_Bits_ok hy17) z z ?_ z (by kernel_rfl) z z)
  intro W hS
  refine .q z (.q z (.q z ?_))
  have ⟨y18, hy18, h⟩ := bnd h
  refine .c (.call0 hS Tryz.func70 (impl_Bits_ok hy18) z z ?_ z (by kernel_rfl) z z)
  intro W hS
  refine .q z (.q z (.q z (.nil (.seq (.region (.q z (.q z (.q z ?_))))))))
  have ⟨y19, hy19, h⟩ := bnd h
  refine .c (.call0 hS Tryz.func71 (impl_SignExtend_ok hy19) z z ?_ z (by kernel_rfl) z z)
  intro W hS
  refine .s (bs T.s32 z z) z (.c (.st T.t32 hS z z z ?_ z z z z z))
  intro W hS
  cases h
  exact .nil (.ret (fin_ret (vs := [_]) () (rc hS T.t32 z rn z z) z (hS.to [] z)))
 refine .skip (.seq (.region (.q z (.s (bs T.s32 z z) z (.c (.st T.t32 hS z z z ?_ z z z z z))))))
 intro W hS
 cases h
 exact .nil (.ret (fin_ret (vs := [_]) () (rc hS T.t32 z rn z z) z (hS.to [] z)))
def impl_InstrDecode_F (w : World) (r : Instr × Bool) : Env → World → Prop := Fin Tryz.prog Tryz.f15 No w (fun s : Unit => .tuple #[.agg #[.int .i64 r.1.Op, .int .i64 r.1.Rd, .int .i64 r.1.Rs, .int .i64 r.1.Rt, .int .i64 r.1.Imm], .bool r.2]) (fun s => []) .ret
theorem impl_InstrDecode_ok {a0 : Int} {w : World} {r : Instr × Bool} (h : impl_InstrDecode a0 = some r) (hG : Gl w) : Calls Tryz.prog 15 #[.int .i64 a0] w (Ret No w (fun s : Unit => .tuple #[.agg #[.int .i64 r.1.Op, .int .i64 r.1.Rd, .int .i64 r.1.Rs, .int .i64 r.1.Rt, .int .i64 r.1.Imm], .bool r.2]) (fun s => [])) := by
 unfold impl_InstrDecode at h
 refine enter Tryz.func15 z z ?_
 have hS := Sep.start w
 refine .seq (.region (.c (.alloc T.t32 hS ?_ z z z)))
 intro g1 W hS
 refine .q z (.nil (.seq (.seq (.region (.q z ?_)))))
 have ⟨y1, hy1, h⟩ := bnd h
 refine .c (.call0 hS Tryz.func39 (impl_isUnsigned_ok hy1) z z ?_ z (by kernel_rfl) z z)
 intro W hS
 refine .q z (.nil ?_)
 refine .cs z h ?_ ?_ <;> intro h
 ·refine .seq (.region (.s (bs T.s32 z z) z (.c (.st T.t32 hS z z z ?_ z z z z z))))
  intro W hS
  cases h
  exact .q z (.nil (.ret (fin_ret (vs := [_, _]) () (rc hS T.t32 z (rt z rn) z z) z (hS.to [] z))))
 refine .skip (.seq (.seq (.region (.q z (.nil (.block ?_))))))
 have ⟨y2, hy2, h⟩ := bnd h
 refine .via (.iter (fun s1 E' W' => SubL E' [(0, .int .i64 a0), (2, .pointer (some ⟨g1, 0, none⟩)), (4, .int .i64 s1)] ∧ Sep No w W' [.box g1 32 [.int .i64 0, .int .i64 0, .int .i64 0, .int .i64 0, .int .i64 0]]) (fun y3 x E' W' => (match y3 with | .inl o1 => x = .ret ∧ impl_InstrDecode_F w o1 E' W' | .inr o2 => x = .exit 0 ∧ SubL E' [(2, .pointer (some ⟨g1, 0, none⟩))] ∧ Sep No w W' [.box g1 32 [.int .i64 0, .int .i64 0, .int .i64 0, .int .i64 0, .int .i64 0]])) hy2 ⟨sb rfl, hS.to [0] rfl⟩ ?_) ?_
 ·intro s1 y4 E W h hI
  obtain ⟨hE, hS⟩ := hI
  refine CW.sub hE ?_
  unfold impl_InstrDecode_b1 at h
  refine .seq (.seq (.region (.q z (.q z (.nil ?_)))))
  refine .cs z h ?_ ?_ <;> intro h
  ·refine .skip ?_
   have ⟨y5, hy5, h⟩ := bnd h
   refine .seq (CW.via (R' := fun x E' W' => (match y5 with | .inl o3 => x = .normal ∧ SubL E' [(0, .int .i64 a0), (2, .pointer (some ⟨g1, 0, none⟩)), (4, .int .i64 s1)] ∧ Sep No w W' [.box g1 32 [.int .i64 0, .int .i64 0, .int .i64 0, .int .i64 0, .int .i64 0]] | .inr o4 => x = .ret ∧ impl_InstrDecode_F w o4 E' W')) ?_ ?_)
   ·have h := hy5
    refine .block (.seq (.seq (.region (.q z (.q z ?_)))))
    have ⟨x1, hx1, h⟩ := bnd h
    refine .s (ixt hx1 z T.u76 T.t75 z z z) z (.s (ldt (hG.at hS (fun _ _ h => h)).1 hx1 T.t75 z z z z z) z (.q z (.q z ?_)))
    have ⟨y6, hy6, h⟩ := bnd h
    refine .c (.call0 hS Tryz.func40 (impl_instrRow_matches_ok hy6) z z ?_ z (by kernel_rfl) z z)
    intro W hS
    refine .q z (.nil ?_)
    refine .cs z h ?_ ?_ <;> intro h
    ·refine .exit ?_
     cases h
     exact ⟨z, sb z, hS.to [0] z⟩
    refine .skip (.seq (.region (.q z (.q z ?_))))
    have ⟨y7, hy7, h⟩ := bnd h
    refine .c (.call0 hS Tryz.func41 (impl_decodeAs_ok hy7) z z ?_ z (by kernel_rfl) z z)
    intro W hS
    refine .c (.alloc T.t32 hS ?_ z z z)
    intro g2 W hS
    refine .c (.st T.t32 hS z z z ?_ z z z z z)
    intro W hS
    refine .nil (.seq (.region (.s (ld T.t32 hS z z z z z) z ?_)))
    have ⟨y8, hy8, h⟩ := bnd h
    refine .c (.call0 hS Tryz.func42 (impl_InstrEncode_ok hy8 (hG.at hS (fun _ _ h => h))) z z ?_ z (by kernel_rfl) z z)
    intro W hS
    refine .q z (.q z (.q z (.q z (.q z (.nil (.seq (.region (.q z (.q z (.chunk 4 37 (y8.2 && (y8.1 == a0)) hS ?_ ?_))))))))))
    ·refine .both (y8.2) (fun hb => ?_) (fun hb => ?_)
     ·have hg1 := hb
      exact .g hg1 (.q z (.g hg1 (.q z (.g hg1 (.q z (.s (pkt hg1 z z z) z (.nil (ck 4 hS z (and_t hg1) z z)))) z)) z)) z
     exact .xx hb z (.xx hb z (.xx hb z (.s (pkf hb z z z) z (.nil (ck 4 hS z (and_f hb) z z)))))
    intro W hS
    refine .nil ?_
    refine .cs z h ?_ ?_ <;> intro h
    ·refine .seq (.region (.s (ld T.t32 hS z z z z z) z (.c (.st T.t32 hS.p1 z z z ?_ z z z z z))))
     intro W hS
     refine .q z (.nil (.ret ?_))
     cases h
     exact ⟨z, fin_ret (vs := [_, _]) () (rc hS T.t32 z (rt z rn) z z) z (hS.to [] z)⟩
    refine .skip ?_
    cases h
    exact ⟨z, sb z, hS.to [1] z⟩
   intro x E W hJ
   rcases y5 with o5 | o6
   ·obtain ⟨rfl, hE, hS⟩ := hJ
    refine ⟨_, hE.sub, ?_⟩
    refine .region (.q z (.q z (.q z (.nil ?_))))
    cases h
    exact ⟨z, sb z, hS.to [0] z⟩
   obtain ⟨rfl, hF⟩ := hJ
   refine ⟨_, fun _ _ h => h, ?_⟩
   cases h
   exact ⟨by simp, z, hF⟩
  refine .exit ?_
  cases h
  exact ⟨by simp, z, sb z, hS.to [0] z⟩
 intro x E W hJ
 rcases y2 with o7 | o8
 ·obtain ⟨rfl, hF⟩ := hJ
  refine ⟨_, fun _ _ h => h, ?_⟩
  cases h
  exact hF
 obtain ⟨rfl, hE, hS⟩ := hJ
 refine ⟨_, hE.sub, ?_⟩
 refine .seq (.region (.s (bs T.s32 z z) z (.c (.st T.t32 hS z z z ?_ z z z z z))))
 intro W hS
 cases h
 exact .q z (.nil (.ret (fin_ret (vs := [_, _]) () (rc hS T.t32 z (rt z rn) z z) z (hS.to [] z))))
def impl_areWords_F (w : World) (r : Bool) : Env → World → Prop := Fin Tryz.prog Tryz.f44 No w (fun s : Unit => .bool r) (fun s => []) .ret
theorem impl_areWords_ok {a0 : List Int} {v_0 : Hd} {w : World} {r : Bool} (h : impl_areWords a0 = some r) (q_0 : RV w (Old No w) (sv v_0) 3 1 (D.int .i64) a0) : Calls Tryz.prog 44 #[(sv v_0)] w (Ret No w (fun s : Unit => .bool r) (fun s => [])) := by
 unfold impl_areWords at h
 refine enter Tryz.func44 z z ?_
 have hS := Sep.start w
 refine .seq (.region (.q z (.nil (.seq (.seq (.region (.q z (.s (lenv (hS.keep q_0) T.u25 z z) z (.q z (.nil (.block ?_)))))))))))
 have ⟨y1, hy1, h⟩ := bnd h
 refine .via (.iter (fun s1 E' W' => SubL E' [(5, (sv v_0)), (6, .int .i64 (a0.length : Int)), (7, .int .i64 s1)] ∧ Sep No w W' []) (fun y2 x E' W' => (match y2 with | .inl o1 => x = .ret ∧ impl_areWords_F w o1 E' W' | .inr o2 => x = .exit 0 ∧ SubL E' [] ∧ Sep No w W' [])) hy1 ⟨sb rfl, hS.to [] rfl⟩ ?_) ?_
 ·intro s1 y3 E W h hI
  obtain ⟨hE, hS⟩ := hI
  refine CW.sub hE ?_
  unfold impl_areWords_b1 at h
  refine .seq (.region (.q z (.nil (.seq ?_))))
  refine .cs z h ?_ ?_ <;> intro h
  ·refine .skip (.seq (.block (.seq (.region ?_))))
   have ⟨x1, hx1, h⟩ := bnd h
   refine .s (ixv (hS.keep q_0) hx1 T.u25 T.t3 z z z) z (.s (lde (RV.flat (hS.keep q_0) hx1 z) T.t3 z z z z z) z (.q z (.nil (.seq (.region (.q z ?_))))))
   have ⟨y4, hy4, h⟩ := bnd h
   refine .c (.call0 hS Tryz.func43 (impl_WordValid_ok hy4) z z ?_ z (by kernel_rfl) z z)
   intro W hS
   refine .q z (.nil ?_)
   refine .cs z h ?_ ?_ <;> intro h
   ·refine .seq (.region (.q z (.nil (.ret ?_))))
    cases h
    exact ⟨by simp, z, fin_ret (vs := [_]) () (rt z rn) z (hS.to [] z)⟩
   refine .skip (.region (.q z (.q z (.nil ?_))))
   cases h
   exact ⟨z, sb z, hS.to [] z⟩
  refine .exit ?_
  cases h
  exact ⟨by simp, z, sb z, hS.to [] z⟩
 intro x E W hJ
 rcases y1 with o3 | o4
 ·obtain ⟨rfl, hF⟩ := hJ
  refine ⟨_, fun _ _ h => h, ?_⟩
  cases h
  exact hF
 obtain ⟨rfl, hE, hS⟩ := hJ
 refine ⟨_, hE.sub, ?_⟩
 obtain rfl := Option.some.inj h
 exact .seq (.region (.q z (.nil (.ret (fin_ret (vs := [_]) () (rt z rn) z (hS.to [] z))))))
theorem impl_MachineValid_ok {a0 : Machine} {v_0_Regs : Hd} {v_0_Mem : Hd} {w : World} {r : Bool} (h : impl_MachineValid a0 = some r) (q_0_Regs : RV w (Old No w) (sv v_0_Regs) 3 1 (D.int .i64) a0.Regs) (q_0_Mem : RV w (Old No w) (sv v_0_Mem) 3 1 (D.int .i64) a0.Mem) : Calls Tryz.prog 17 #[.agg #[(sv v_0_Regs), .int .i64 a0.Pc, (sv v_0_Mem)]] w (Ret No w (fun s : Unit => .bool r) (fun s => [])) := by
 unfold impl_MachineValid at h
 refine enter Tryz.func17 z z ?_
 have hS := Sep.start w
 refine .seq (.region (.c (.box hS z z ?_ z z)))
 intro g1 W hS
 refine .q z (.nil (.seq (.region (.s (fa T.f27_0 z z z) z (.s (ld T.t25 hS z z z z z) z (.s (lenv (hS.keep q_0_Regs) T.u25 z z) z (.q z (.q z ?_))))))))
 have ⟨b1, hb1, h⟩ := bnd h
 refine .chunk 4 11 (b1) hS ?_ ?_
 ·refine .both ((a0.Regs.length : Int) == 32) (fun hb => ?_) (fun hb => ?_)
  ·have hg1 := hb
   have h := sel_t hb hb1
   refine .g hg1 (.s (fa T.f27_0 z z z) z (.g hg1 (.s (ld T.t25 hS z z z z z) z ?_) z)) z
   have ⟨y1, hy1, h⟩ := bnd h
   refine .g hg1 (.c (.call0 hS Tryz.func44 (impl_areWords_ok hy1 (hS.keep q_0_Regs)) z z ?_ z (by kernel_rfl) z z)) z
   intro W hS
   refine .s (pkt hg1 z z z) z ?_
   cases h
   exact .nil (ck 4 hS z z z z)
  refine .xx hb z (.xx hb z (.xx hb z ?_))
  cases sel_f hb hb1
  exact .s (pkf hb z z z) z (.nil (ck 4 hS z z z z))
 intro W hS
 refine .q z ?_
 have ⟨b2, hb2, h⟩ := bnd h
 refine .chunk 6 18 (b2) hS ?_ ?_
 ·refine .both (b1) (fun hb => ?_) (fun hb => ?_)
  ·have hg2 := hb
   have h := sel_t hb hb2
   refine .g hg2 (.s (fa T.f27_0 z z z) z (.g hg2 (.s (ld T.t25 hS z z z z z) z ?_) z)) z
   have ⟨x1, hx1, h⟩ := bnd h
   refine .g hg2 (.s (ixv (hS.keep q_0_Regs) hx1 T.u25 T.t3 z z z) z (.g hg2 (.s (lde (RV.flat (hS.keep q_0_Regs) hx1 z) T.t3 z z z z z) z (.g hg2 (.q z (.s (pkt hg2 z z z) z ?_)) z)) z)) z
   cases h
   exact .nil (ck 6 hS z z z z)
  refine .xx hb z (.xx hb z (.xx hb z (.xx hb z (.xx hb z ?_))))
  cases sel_f hb hb2
  exact .s (pkf hb z z z) z (.nil (ck 6 hS z z z z))
 intro W hS
 refine .q z ?_
 have ⟨b3, hb3, h⟩ := bnd h
 refine .chunk 4 23 (b3) hS ?_ ?_
 ·refine .both (b2) (fun hb => ?_) (fun hb => ?_)
  ·have hg3 := hb
   have h := sel_t hb hb3
   refine .g hg3 (.s (fa T.f27_1 z z z) z (.g hg3 (.s (ld T.t3 hS z z z z z) z ?_) z)) z
   have ⟨y2, hy2, h⟩ := bnd h
   refine .g hg3 (.c (.call0 hS Tryz.func43 (impl_WordValid_ok hy2) z z ?_ z (by kernel_rfl) z z)) z
   intro W hS
   refine .s (pkt hg3 z z z) z ?_
   cases h
   exact .nil (ck 4 hS z z z z)
  refine .xx hb z (.xx hb z (.xx hb z ?_))
  cases sel_f hb hb3
  exact .s (pkf hb z z z) z (.nil (ck 4 hS z z z z))
 intro W hS
 refine .q z (.chunk 5 29 (b3 && (decide ((a0.Mem.length : Int) ≤ 10000))) hS ?_ ?_)
 ·refine .both (b3) (fun hb => ?_) (fun hb => ?_)
  ·have hg4 := hb
   exact .g hg4 (.s (fa T.f27_2 z z z) z (.g hg4 (.s (ld T.t25 hS z z z z z) z (.g hg4 (.s (lenv (hS.keep q_0_Mem) T.u25 z z) z (.g hg4 (.q z (.s (pkt hg4 z z z) z (.nil (ck 5 hS z (and_t hg4) z z)))) z)) z)) z)) z
  exact .xx hb z (.xx hb z (.xx hb z (.xx hb z (.s (pkf hb z z z) z (.nil (ck 5 hS z (and_f hb) z z))))))
 intro W hS
 refine .q z ?_
 have ⟨b4, hb4, h⟩ := bnd h
 refine .chunk 4 34 (b4) hS ?_ ?_
 ·refine .both (b3 && (decide ((a0.Mem.length : Int) ≤ 10000))) (fun hb => ?_) (fun hb => ?_)
  ·have hg5 := hb
   have h := sel_t hb hb4
   refine .g hg5 (.s (fa T.f27_2 z z z) z (.g hg5 (.s (ld T.t25 hS z z z z z) z ?_) z)) z
   have ⟨y3, hy3, h⟩ := bnd h
   refine .g hg5 (.c (.call0 hS Tryz.func44 (impl_areWords_ok hy3 (hS.keep q_0_Mem)) z z ?_ z (by kernel_rfl) z z)) z
   intro W hS
   refine .s (pkt hg5 z z z) z ?_
   cases h
   exact .nil (ck 4 hS z z z z)
  refine .xx hb z (.xx hb z (.xx hb z ?_))
  cases sel_f hb hb4
  exact .s (pkf hb z z z) z (.nil (ck 4 hS z z z z))
 intro W hS
 obtain rfl := Option.some.inj h
 exact .q z (.nil (.ret (fin_ret (vs := [_]) () (rt z rn) z (hS.to [] z))))
def laws_FnHartNew_F (w : World) (r : Bool) : Env → World → Prop := Fin Tryz.prog Tryz.f3 No w (fun s : Unit => .bool r) (fun s => []) .ret
end Go.Proofs.YtmpplggjpmmhlaaGreatDoor.N
end
section
/- Printed by a program of mine: that the program's functions compute it. -/
set_option linter.unusedVariables false
set_option maxRecDepth 100000
set_option maxHeartbeats 4000000
namespace Go.Proofs.YtmpplggjpmmhlaaGreatDoor.N
open Go.Proofs.YtmpplggjpmmhlaaGreatDoor.X
theorem laws_FnHartNew_ok {k : Nat} {a0 : List Int} {v_0 : Hd} {w : World} {r : Bool} (h : laws_FnHartNew k a0 = some r) (q_0 : RV w (Old No w) (sv v_0) 5 1 (D.int .u8) a0) (hG : Gl w) : Calls Tryz.prog 3 #[(sv v_0)] w (Ret No w (fun s : Unit => .bool r) (fun s => [])) := by
 unfold laws_FnHartNew at h
 refine enter Tryz.func3 z z ?_
 have hS := Sep.start w
 refine .seq (.region (.q z (.nil (.seq (.seq (.region (.q z (.s (lenv (hS.keep q_0) T.u22 z z) z (.q z (.nil ?_))))))))))
 refine .cs z h ?_ ?_ <;> intro h
 ·obtain rfl := Option.some.inj h
  exact .seq (.region (.q z (.nil (.ret (fin_ret (vs := [_]) () (rt z rn) z (hS.to [] z))))))
 refine .skip (.seq (.region (.q z ?_)))
 have ⟨y1, hy1, h⟩ := bnd h
 refine .c (.call1v hS Tryz.func11 (spec_DrawHartNew_ok hy1 (hS.keep q_0)) z z ?_ z (by kernel_rfl) z z)
 intro v1 W hS
 refine .q z (.nil (.seq (.region (.q z ?_))))
 have ⟨y2, hy2, h⟩ := bnd h
 refine .c (.call hS Tryz.func12 (impl_HartNew_ok hy2 hS.lendv (hG.at hS (fun _ _ h => h))) z z ?_ z (by kernel_rfl) z z)
 rintro ⟨v2, v3⟩ W hS
 refine .q z (.q z (.q z (.c (.alloc T.t27 hS ?_ z z z))))
 intro g1 W hS
 refine .c (.st T.t27 hS z z z ?_ z z z z z)
 intro W hS
 refine .q z (.nil (.seq (.region (.q z ?_))))
 have ⟨y3, hy3, h⟩ := bnd h
 refine .c (.call hS Tryz.func13 (spec_HartNew_ok hy3 hS.p3.lendv) z z ?_ z (by kernel_rfl) z z)
 rintro ⟨v4, v5⟩ W hS
 refine .q z (.q z (.q z (.c (.alloc T.t27 hS ?_ z z z))))
 intro g2 W hS
 refine .c (.st T.t27 hS z z z ?_ z z z z z)
 intro W hS
 refine .q z (.nil (.seq (.seq (.region (.q z (.q z (.s (neb T.u4 z z z) z (.q z ?_))))))))
 have ⟨b1, hb1, h⟩ := bnd h
 refine .chunk 5 35 (b1) hS ?_ ?_
 ·refine .both (y2.2 != y3.2) (fun hb => ?_) (fun hb => ?_)
  ·refine .xx hb z (.xx hb z (.xx hb z (.xx hb z ?_)))
   cases sel_t hb hb1
   exact .s (pkt hb z z z) z (.nil (ck 5 hS z z z z))
  have hg1 := hb
  have h := sel_f hb hb1
  refine .g hg1 (.s (ld T.t27 hS.p3 z z z z z) z (.g hg1 (.s (ld T.t27 hS z z z z z) z ?_) z)) z
  have ⟨y4, hy4, h⟩ := bnd h
  refine .g hg1 (.c (.call0 hS Tryz.func14 (laws_sameMachine_ok hy4 hS.p4.lendv hS.p5.lendv hS.p1.lendv hS.p2.lendv) z z ?_ z (by kernel_rfl) z z)) z
  intro W hS
  refine .g hg1 (.q z (.s (pkf hg1 z z z) z ?_)) z
  cases h
  exact .nil (ck 5 hS z z z z)
 intro W hS
 refine .q z (.chunk 3 39 (b1 || (!y2.2)) hS ?_ ?_)
 ·refine .both (b1) (fun hb => ?_) (fun hb => ?_)
  ·exact .xx hb z (.xx hb z (.s (pkt hb z z z) z (.nil (ck 3 hS z (or_t hb) z z))))
  have hg2 := hb
  exact .g hg2 (.q z (.g hg2 (.q z (.s (pkf hg2 z z z) z (.nil (ck 3 hS z (or_f hg2) z z)))) z)) z
 intro W hS
 refine .nil ?_
 refine .cs z h ?_ ?_ <;> intro h
 ·refine .seq (.region (.q z (.q z (.s (eqb T.u4 z z z) z (.q z ?_)))))
  have ⟨b2, hb2, h⟩ := bnd h
  refine .chunk 4 47 (b2) hS ?_ ?_
  ·refine .both (y2.2 == y3.2) (fun hb => ?_) (fun hb => ?_)
   ·have hg3 := hb
    have h := sel_t hb hb2
    refine .g hg3 (.s (ld T.t27 hS.p3 z z z z z) z (.g hg3 (.s (ld T.t27 hS z z z z z) z ?_) z)) z
    have ⟨y5, hy5, h⟩ := bnd h
    refine .g hg3 (.c (.call0 hS Tryz.func14 (laws_sameMachine_ok hy5 hS.p4.lendv hS.p5.lendv hS.p1.lendv hS.p2.lendv) z z ?_ z (by kernel_rfl) z z)) z
    intro W hS
    refine .s (pkt hg3 z z z) z ?_
    cases h
    exact .nil (ck 4 hS z z z z)
   refine .xx hb z (.xx hb z (.xx hb z ?_))
   cases sel_f hb hb2
   exact .s (pkf hb z z z) z (.nil (ck 4 hS z z z z))
  intro W hS
  obtain rfl := Option.some.inj h
  exact .q z (.nil (.ret (fin_ret (vs := [_]) () (rt z rn) z (hS.to [] z))))
 refine .skip (.seq (.seq (.region (.q z (.nil (.block ?_))))))
 have ⟨y6, hy6, h⟩ := bnd h
 refine .via (.iter (fun s1 E' W' => SubL E' [(3, (sv v1)), (4, .pointer (some ⟨g1, 0, none⟩)), (8, .int .i64 s1)] ∧ Sep No w W' [.box g2 27 [(sv v4), .int .i64 y3.1.Pc, (sv v5)], rowV (sv v4) 3 1 (D.int .i64) y3.1.Regs, rowV (sv v5) 3 1 (D.int .i64) y3.1.Mem, .box g1 27 [(sv v2), .int .i64 y2.1.Pc, (sv v3)], rowV (sv v2) 3 1 (D.int .i64) y2.1.Regs, rowV (sv v3) 3 1 (D.int .i64) y2.1.Mem, rowV (sv v1) 32 5 dInstr y1]) (fun y7 x E' W' => (match y7 with | .inl o1 => x = .ret ∧ laws_FnHartNew_F w o1 E' W' | .inr o2 => x = .exit 0 ∧ SubL E' [(3, (sv v1)), (4, .pointer (some ⟨g1, 0, none⟩))] ∧ Sep No w W' [.box g2 27 [(sv v4), .int .i64 y3.1.Pc, (sv v5)], rowV (sv v4) 3 1 (D.int .i64) y3.1.Regs, rowV (sv v5) 3 1 (D.int .i64) y3.1.Mem, .box g1 27 [(sv v2), .int .i64 y2.1.Pc, (sv v3)], rowV (sv v2) 3 1 (D.int .i64) y2.1.Regs, rowV (sv v3) 3 1 (D.int .i64) y2.1.Mem, rowV (sv v1) 32 5 dInstr y1])) hy6 ⟨sb rfl, hS.to [0, 0, 0, 0, 0, 0, 0] rfl⟩ ?_) ?_
 ·intro s1 y8 E W h hI
  obtain ⟨hE, hS⟩ := hI
  refine CW.sub hE ?_
  unfold laws_FnHartNew_b1 at h
  refine .seq (.seq (.region (.q z (.q z (.s (lenv hS.p6.lendv T.u23 z z) z (.q z (.nil ?_)))))))
  refine .cs z h ?_ ?_ <;> intro h
  ·refine .skip (.seq (.block (.seq (.region (.s (fa T.f27_2 z z z) z (.s (ld T.t25 hS.p3 z z z z z) z (.q z (.q z ?_))))))))
   have ⟨x1, hx1, h⟩ := bnd h
   refine .s (ixv hS.p5.lendv hx1 T.u25 T.t3 z z z) z (.s (lde (RV.flat hS.p5.lendv hx1 z) T.t3 z z z z z) z ?_)
   have ⟨y9, hy9, h⟩ := bnd h
   refine .c (.call0 hS Tryz.func16 (impl_Unsigned_ok hy9) z z ?_ z (by kernel_rfl) z z)
   intro W hS
   have ⟨y10, hy10, h⟩ := bnd h
   refine .c (.call0 hS Tryz.func15 (impl_InstrDecode_ok hy10 (hG.at hS (fun _ _ h => h))) z z ?_ z (by kernel_rfl) z z)
   intro W hS
   refine .q z (.q z (.q z (.c (.alloc T.t32 hS ?_ z z z))))
   intro g3 W hS
   refine .c (.st T.t32 hS z z z ?_ z z z z z)
   intro W hS
   refine .q z (.nil (.seq ?_))
   have ⟨b3, hb3, h⟩ := bnd h
   refine .via (R' := fun x E' W' => x = .normal ∧ SubL E' [(3, (sv v1)), (4, .pointer (some ⟨g1, 0, none⟩)), (8, .int .i64 s1), (74, .bool b3)] ∧ Sep No w W' [.box g3 32 [.int .i64 y10.1.Op, .int .i64 y10.1.Rd, .int .i64 y10.1.Rs, .int .i64 y10.1.Rt, .int .i64 y10.1.Imm], .box g2 27 [(sv v4), .int .i64 y3.1.Pc, (sv v5)], rowV (sv v4) 3 1 (D.int .i64) y3.1.Regs, rowV (sv v5) 3 1 (D.int .i64) y3.1.Mem, .box g1 27 [(sv v2), .int .i64 y2.1.Pc, (sv v3)], rowV (sv v2) 3 1 (D.int .i64) y2.1.Regs, rowV (sv v3) 3 1 (D.int .i64) y2.1.Mem, rowV (sv v1) 32 5 dInstr y1]) ?_ ?_
   ·refine .rk 10 hS [0, 0, 0, 0, 0, 0, 0, 0] T.mix ?_
    intro W hS
    have hT := hS.to [0, 0, 0, 0, 0, 0, 0, 0] z
    refine .tp 0 z z hT (by kernel_rfl) (.tp 1 z z hT (by kernel_rfl) (.tp 2 z z hT (by kernel_rfl) (.both (!y10.2) (fun hb => ?_) (fun hb => ?_))))
    ·exact .off 3 z hb hT (.off 4 z hb hT (.off 5 z hb hT (.off 6 z hb hT (.off 7 z hb hT (.off 8 z hb hT (.ts 9 z (fun W hT => pkt hb z z z) hT z (by kernel_rfl) (.eqv 74 z (bool_eq (sel_t hb hb3)) (.done (⟨z, sb z, hS.to [0, 0, 0, 0, 0, 0, 0, 0] z⟩) (by kernel_rfl)))) (by kernel_rfl) z z) (by kernel_rfl) z z) (by kernel_rfl) z z) (by kernel_rfl) z z) (by kernel_rfl) z z) (by kernel_rfl) z z
    have hg4 := hb
    have h_b3 := sel_f hb hb3
    refine .t1g 3 z hg4 (fun W hT => ld T.t32 hT z z z z z) hT (.t1g 4 z hg4 (fun W hT => pr z) hT (.t1g 5 z hg4 (fun W hT => pr z) hT ?_ (by kernel_rfl) z z) (by kernel_rfl) z z) (by kernel_rfl) z z
    have ⟨x2, hx2, h_b3⟩ := bnd h_b3
    exact .t1g 6 z hg4 (fun W hT => ixv hS.p7.lendv hx2 T.u23 T.t32 z z z) hT (.t1g 7 z hg4 (fun W hT => lde (RV.flat hT.p7.lendv hx2 z) T.t32 z z z z z) hT (.t1g 8 z hg4 (fun W hT => nes T.e32 z z z z) hT (.ts 9 z (fun W hT => pkf hg4 z z z) hT z (by kernel_rfl) (.eqv 74 z (bool_eq h_b3) (.done (⟨z, sb z, hS.to [0, 0, 0, 0, 0, 0, 0, 0] z⟩) (by kernel_rfl)))) (by kernel_rfl) z z) (by kernel_rfl) z z) (by kernel_rfl) z z
   intro x E W hJ
   obtain ⟨rfl, hE, hS⟩ := hJ
   refine ⟨_, hE.sub, ?_⟩
   refine .cs z h ?_ ?_ <;> intro h
   ·refine .seq (.region (.q z (.nil (.ret ?_))))
    cases h
    exact ⟨by simp, z, fin_ret (vs := [_]) () (rt z rn) z (hS.to [] z)⟩
   refine .skip (.region (.q z (.q z (.q z (.nil ?_)))))
   cases h
   exact ⟨z, sb z, hS.to [1, 1, 1, 1, 1, 1, 1] z⟩
  refine .exit ?_
  cases h
  exact ⟨by simp, z, sb z, hS.to [0, 0, 0, 0, 0, 0, 0] z⟩
 intro x E W hJ
 rcases y6 with o3 | o4
 ·obtain ⟨rfl, hF⟩ := hJ
  refine ⟨_, fun _ _ h => h, ?_⟩
  cases h
  exact hF
 obtain ⟨rfl, hE, hS⟩ := hJ
 refine ⟨_, hE.sub, ?_⟩
 refine .seq (.region (.s (fa T.f27_0 z z z) z (.s (ld T.t25 hS.p3 z z z z z) z ?_)))
 have ⟨x3, hx3, h⟩ := bnd h
 refine .s (ixv hS.p4.lendv hx3 T.u25 T.t3 z z z) z (.s (lde (RV.flat hS.p4.lendv hx3 z) T.t3 z z z z z) z (.q z (.q z (.nil (.seq ?_)))))
 have ⟨y11, hy11, h⟩ := bnd h
 have ⟨b4, hb4, h⟩ := bnd h
 have ⟨b5, hb5, h⟩ := bnd h
 refine .via (R' := fun x E' W' => x = .normal ∧ SubL E' [(2, .bool b5)] ∧ Sep No w W' [.box g2 27 [(sv v4), .int .i64 y3.1.Pc, (sv v5)], rowV (sv v4) 3 1 (D.int .i64) y3.1.Regs, rowV (sv v5) 3 1 (D.int .i64) y3.1.Mem, .box g1 27 [(sv v2), .int .i64 y2.1.Pc, (sv v3)], rowV (sv v2) 3 1 (D.int .i64) y2.1.Regs, rowV (sv v3) 3 1 (D.int .i64) y2.1.Mem, rowV (sv v1) 32 5 dInstr y1]) ?_ ?_
 ·refine .rk 30 hS [0, 0, 0, 0, 0, 0, 0] T.mix ?_
  intro W hS
  have hT := hS.to [0, 0, 0, 0, 0, 0, 0] z
  refine .ts 0 z (fun W hT => ld T.t27 hT.p3 z z z z z) hT z (by kernel_rfl) (.by1 1 z (.call0 hS Tryz.func17 (impl_MachineValid_ok hy11 hS.p4.lendv hS.p5.lendv) z z ?_ z (by kernel_rfl) z z) (by kernel_rfl))
  intro W hS
  have hT := hS.to [0, 0, 0, 0, 0, 0, 0] z
  refine ⟨fun _ => hT, ?_⟩
  refine .tp 2 z z hT (by kernel_rfl) (.both (y11) (fun hb => ?_) (fun hb => ?_))
  ·have hg5 := hb
   refine .t1g 3 z hg5 (fun W hT => fa T.f27_1 z z z) hT (.t1g 4 z hg5 (fun W hT => ld T.t3 hT.p3 z z z z z) hT (.t1g 5 z hg5 (fun W hT => pr z) hT (.ts 6 z (fun W hT => pkt hg5 z z z) hT z (by kernel_rfl) (.eqv 86 z (congrArg Value.bool (and_t hg5)) (.tp 7 z z hT (by kernel_rfl) (.both (y11 && (y2.1.Pc == 4)) (fun hb => ?_) (fun hb => ?_))))) (by kernel_rfl) z z) (by kernel_rfl) z z) (by kernel_rfl) z z
   ·have hg6 := hb
    have h_b4 := sel_t hb hb4
    refine .t1g 8 z hg6 (fun W hT => fa T.f27_2 z z z) hT (.t1g 9 z hg6 (fun W hT => ld T.t25 hT.p3 z z z z z) hT ?_ (by kernel_rfl) z z) (by kernel_rfl) z z
    have ⟨x4, hx4, h_b4⟩ := bnd h_b4
    refine .t1g 10 z hg6 (fun W hT => ixv hS.p5.lendv hx4 T.u25 T.t3 z z z) hT (.t1g 11 z hg6 (fun W hT => lde (RV.flat hT.p5.lendv hx4 z) T.t3 z z z z z) hT (.t1g 12 z hg6 (fun W hT => pr z) hT (.ts 13 z (fun W hT => pkt hg6 z z z) hT z (by kernel_rfl) (.eqv 93 z (bool_eq h_b4) (.tp 14 z z hT (by kernel_rfl) (.both (b4) (fun hb => ?_) (fun hb => ?_))))) (by kernel_rfl) z z) (by kernel_rfl) z z) (by kernel_rfl) z z
    ·have hg7 := hb
     refine .t1g 15 z hg7 (fun W hT => pr z) hT (.t1g 16 z hg7 (fun W hT => pr z) hT (.t1g 17 z hg7 (fun W hT => lenv hS.p6.lendv T.u23 z z) hT (.t1g 18 z hg7 (fun W hT => pr z) hT (.t1g 19 z hg7 (fun W hT => pr z) hT (.ts 20 z (fun W hT => pkt hg7 z z z) hT z (by kernel_rfl) (.eqv 100 z (congrArg Value.bool (and_t hg7)) (.tp 21 z z hT (by kernel_rfl) (.both (b4 && ((w64 (Int.tdiv x3 4)) == (w64 (1 + (y1.length : Int))))) (fun hb => ?_) (fun hb => ?_))))) (by kernel_rfl) z z) (by kernel_rfl) z z) (by kernel_rfl) z z) (by kernel_rfl) z z) (by kernel_rfl) z z
     ·have hg8 := hb
      have h_b5 := sel_t hb hb5
      refine .t1g 22 z hg8 (fun W hT => fa T.f27_2 z z z) hT (.t1g 23 z hg8 (fun W hT => ld T.t25 hT.p3 z z z z z) hT (.t1g 24 z hg8 (fun W hT => pr z) hT ?_ (by kernel_rfl) z z) (by kernel_rfl) z z) (by kernel_rfl) z z
      have ⟨r1, hr1, h_b5⟩ := bnd h_b5
      refine .t1g 25 z hg8 (fun W hT => slv hr1 hT.p5.lendv T.u25 T.t3 z z z z) hT ?_ (by kernel_rfl) z z
      have ⟨r2, hr2, h_b5⟩ := bnd h_b5
      refine .by1 26 z (.gd hg8 (.mkv 0 (D.int .i64) hr2 T.u25 T.t3 hS z z z z z (fun _ => z) ?_ z z z) z) (by kernel_rfl)
      intro v6 W hS
      have hT := hS.to [1, 1, 1, 1, 1, 1, 1] z
      refine ⟨fun _ => hT, ?_⟩
      have ⟨y12, hy12, h_b5⟩ := bnd h_b5
      refine .by1 27 z (.gd hg8 (.call0 hS Tryz.func18 (laws_sameInts_ok hy12 (slv_rd hr1 hS.p6.lendv) hS.lendv) z z ?_ z (by kernel_rfl) z z) z) (by kernel_rfl)
      intro W hS
      have hT := hS.to [1, 1, 1, 1, 1, 1, 1] z
      refine ⟨fun _ => hT, ?_⟩
      exact .ts 28 z (fun W hT => pkt hg8 z z z) hT z (by kernel_rfl) (.eqv 108 z (bool_eq h_b5) (.tp 29 z z hT (by kernel_rfl) (.done (⟨z, sb z, hS.to [1, 1, 1, 1, 1, 1, 1] z⟩) (by kernel_rfl))))
     exact .off 22 z hb hT (.off 23 z hb hT (.off 24 z hb hT (.off 25 z hb hT (.off 26 z hb hT (.off 27 z hb hT (.ts 28 z (fun W hT => pkf hb z z z) hT z (by kernel_rfl) (.eqv 108 z (bool_eq (sel_f hb hb5)) (.tp 29 z z hT (by kernel_rfl) (.done (⟨z, sb z, hS.to [0, 0, 0, 0, 0, 0, 0] z⟩) (by kernel_rfl))))) (by kernel_rfl) z z) (by kernel_rfl) z z) (by kernel_rfl) z z) (by kernel_rfl) z z) (by kernel_rfl) z z) (by kernel_rfl) z z
    refine .off 15 z hb hT (.off 16 z hb hT (.off 17 z hb hT (.off 18 z hb hT (.off 19 z hb hT (.ts 20 z (fun W hT => pkf hb z z z) hT z (by kernel_rfl) (.eqv 100 z (congrArg Value.bool (show false = (b4 && ((w64 (Int.tdiv x3 4)) == (w64 (1 + (y1.length : Int))))) from and_f hb)) (.tp 21 z z hT (by kernel_rfl) (.both (b4 && ((w64 (Int.tdiv x3 4)) == (w64 (1 + (y1.length : Int))))) (fun hb => ?_) (fun hb => ?_))))) (by kernel_rfl) z z) (by kernel_rfl) z z) (by kernel_rfl) z z) (by kernel_rfl) z z) (by kernel_rfl) z z
    ·have hg9 := hb
     have h_b5 := sel_t hb hb5
     refine .t1g 22 z hg9 (fun W hT => fa T.f27_2 z z z) hT (.t1g 23 z hg9 (fun W hT => ld T.t25 hT.p3 z z z z z) hT (.t1g 24 z hg9 (fun W hT => pr z) hT ?_ (by kernel_rfl) z z) (by kernel_rfl) z z) (by kernel_rfl) z z
     have ⟨r3, hr3, h_b5⟩ := bnd h_b5
     refine .t1g 25 z hg9 (fun W hT => slv hr3 hT.p5.lendv T.u25 T.t3 z z z z) hT ?_ (by kernel_rfl) z z
     have ⟨r4, hr4, h_b5⟩ := bnd h_b5
     refine .by1 26 z (.gd hg9 (.mkv 0 (D.int .i64) hr4 T.u25 T.t3 hS z z z z z (fun _ => z) ?_ z z z) z) (by kernel_rfl)
     intro v7 W hS
     have hT := hS.to [1, 1, 1, 1, 1, 1, 1] z
     refine ⟨fun _ => hT, ?_⟩
     have ⟨y13, hy13, h_b5⟩ := bnd h_b5
     refine .by1 27 z (.gd hg9 (.call0 hS Tryz.func18 (laws_sameInts_ok hy13 (slv_rd hr3 hS.p6.lendv) hS.lendv) z z ?_ z (by kernel_rfl) z z) z) (by kernel_rfl)
     intro W hS
     have hT := hS.to [1, 1, 1, 1, 1, 1, 1] z
     refine ⟨fun _ => hT, ?_⟩
     exact .ts 28 z (fun W hT => pkt hg9 z z z) hT z (by kernel_rfl) (.eqv 108 z (bool_eq h_b5) (.tp 29 z z hT (by kernel_rfl) (.done (⟨z, sb z, hS.to [1, 1, 1, 1, 1, 1, 1] z⟩) (by kernel_rfl))))
    exact .off 22 z hb hT (.off 23 z hb hT (.off 24 z hb hT (.off 25 z hb hT (.off 26 z hb hT (.off 27 z hb hT (.ts 28 z (fun W hT => pkf hb z z z) hT z (by kernel_rfl) (.eqv 108 z (bool_eq (sel_f hb hb5)) (.tp 29 z z hT (by kernel_rfl) (.done (⟨z, sb z, hS.to [0, 0, 0, 0, 0, 0, 0] z⟩) (by kernel_rfl))))) (by kernel_rfl) z z) (by kernel_rfl) z z) (by kernel_rfl) z z) (by kernel_rfl) z z) (by kernel_rfl) z z) (by kernel_rfl) z z
   refine .off 8 z hb hT (.off 9 z hb hT (.off 10 z hb hT (.off 11 z hb hT (.off 12 z hb hT (.ts 13 z (fun W hT => pkf hb z z z) hT z (by kernel_rfl) (.eqv 93 z (bool_eq (sel_f hb hb4)) (.tp 14 z z hT (by kernel_rfl) (.both (b4) (fun hb => ?_) (fun hb => ?_))))) (by kernel_rfl) z z) (by kernel_rfl) z z) (by kernel_rfl) z z) (by kernel_rfl) z z) (by kernel_rfl) z z
   ·have hg10 := hb
    refine .t1g 15 z hg10 (fun W hT => pr z) hT (.t1g 16 z hg10 (fun W hT => pr z) hT (.t1g 17 z hg10 (fun W hT => lenv hS.p6.lendv T.u23 z z) hT (.t1g 18 z hg10 (fun W hT => pr z) hT (.t1g 19 z hg10 (fun W hT => pr z) hT (.ts 20 z (fun W hT => pkt hg10 z z z) hT z (by kernel_rfl) (.eqv 100 z (congrArg Value.bool (and_t hg10)) (.tp 21 z z hT (by kernel_rfl) (.both (b4 && ((w64 (Int.tdiv x3 4)) == (w64 (1 + (y1.length : Int))))) (fun hb => ?_) (fun hb => ?_))))) (by kernel_rfl) z z) (by kernel_rfl) z z) (by kernel_rfl) z z) (by kernel_rfl) z z) (by kernel_rfl) z z
    ·have hg11 := hb
     have h_b5 := sel_t hb hb5
     refine .t1g 22 z hg11 (fun W hT => fa T.f27_2 z z z) hT (.t1g 23 z hg11 (fun W hT => ld T.t25 hT.p3 z z z z z) hT (.t1g 24 z hg11 (fun W hT => pr z) hT ?_ (by kernel_rfl) z z) (by kernel_rfl) z z) (by kernel_rfl) z z
     have ⟨r5, hr5, h_b5⟩ := bnd h_b5
     refine .t1g 25 z hg11 (fun W hT => slv hr5 hT.p5.lendv T.u25 T.t3 z z z z) hT ?_ (by kernel_rfl) z z
     have ⟨r6, hr6, h_b5⟩ := bnd h_b5
     refine .by1 26 z (.gd hg11 (.mkv 0 (D.int .i64) hr6 T.u25 T.t3 hS z z z z z (fun _ => z) ?_ z z z) z) (by kernel_rfl)
     intro v8 W hS
     have hT := hS.to [1, 1, 1, 1, 1, 1, 1] z
     refine ⟨fun _ => hT, ?_⟩
     have ⟨y14, hy14, h_b5⟩ := bnd h_b5
     refine .by1 27 z (.gd hg11 (.call0 hS Tryz.func18 (laws_sameInts_ok hy14 (slv_rd hr5 hS.p6.lendv) hS.lendv) z z ?_ z (by kernel_rfl) z z) z) (by kernel_rfl)
     intro W hS
     have hT := hS.to [1, 1, 1, 1, 1, 1, 1] z
     refine ⟨fun _ => hT, ?_⟩
     exact .ts 28 z (fun W hT => pkt hg11 z z z) hT z (by kernel_rfl) (.eqv 108 z (bool_eq h_b5) (.tp 29 z z hT (by kernel_rfl) (.done (⟨z, sb z, hS.to [1, 1, 1, 1, 1, 1, 1] z⟩) (by kernel_rfl))))
    exact .off 22 z hb hT (.off 23 z hb hT (.off 24 z hb hT (.off 25 z hb hT (.off 26 z hb hT (.off 27 z hb hT (.ts 28 z (fun W hT => pkf hb z z z) hT z (by kernel_rfl) (.eqv 108 z (bool_eq (sel_f hb hb5)) (.tp 29 z z hT (by kernel_rfl) (.done (⟨z, sb z, hS.to [0, 0, 0, 0, 0, 0, 0] z⟩) (by kernel_rfl))))) (by kernel_rfl) z z) (by kernel_rfl) z z) (by kernel_rfl) z z) (by kernel_rfl) z z) (by kernel_rfl) z z) (by kernel_rfl) z z
   refine .off 15 z hb hT (.off 16 z hb hT (.off 17 z hb hT (.off 18 z hb hT (.off 19 z hb hT (.ts 20 z (fun W hT => pkf hb z z z) hT z (by kernel_rfl) (.eqv 100 z (congrArg Value.bool (show false = (b4 && ((w64 (Int.tdiv x3 4)) == (w64 (1 + (y1.length : Int))))) from and_f hb)) (.tp 21 z z hT (by kernel_rfl) (.both (b4 && ((w64 (Int.tdiv x3 4)) == (w64 (1 + (y1.length : Int))))) (fun hb => ?_) (fun hb => ?_))))) (by kernel_rfl) z z) (by kernel_rfl) z z) (by kernel_rfl) z z) (by kernel_rfl) z z) (by kernel_rfl) z z
   ·have hg12 := hb
    have h_b5 := sel_t hb hb5
    refine .t1g 22 z hg12 (fun W hT => fa T.f27_2 z z z) hT (.t1g 23 z hg12 (fun W hT => ld T.t25 hT.p3 z z z z z) hT (.t1g 24 z hg12 (fun W hT => pr z) hT ?_ (by kernel_rfl) z z) (by kernel_rfl) z z) (by kernel_rfl) z z
    have ⟨r7, hr7, h_b5⟩ := bnd h_b5
    refine .t1g 25 z hg12 (fun W hT => slv hr7 hT.p5.lendv T.u25 T.t3 z z z z) hT ?_ (by kernel_rfl) z z
    have ⟨r8, hr8, h_b5⟩ := bnd h_b5
    refine .by1 26 z (.gd hg12 (.mkv 0 (D.int .i64) hr8 T.u25 T.t3 hS z z z z z (fun _ => z) ?_ z z z) z) (by kernel_rfl)
    intro v9 W hS
    have hT := hS.to [1, 1, 1, 1, 1, 1, 1] z
    refine ⟨fun _ => hT, ?_⟩
    have ⟨y15, hy15, h_b5⟩ := bnd h_b5
    refine .by1 27 z (.gd hg12 (.call0 hS Tryz.func18 (laws_sameInts_ok hy15 (slv_rd hr7 hS.p6.lendv) hS.lendv) z z ?_ z (by kernel_rfl) z z) z) (by kernel_rfl)
    intro W hS
    have hT := hS.to [1, 1, 1, 1, 1, 1, 1] z
    refine ⟨fun _ => hT, ?_⟩
    exact .ts 28 z (fun W hT => pkt hg12 z z z) hT z (by kernel_rfl) (.eqv 108 z (bool_eq h_b5) (.tp 29 z z hT (by kernel_rfl) (.done (⟨z, sb z, hS.to [1, 1, 1, 1, 1, 1, 1] z⟩) (by kernel_rfl))))
   exact .off 22 z hb hT (.off 23 z hb hT (.off 24 z hb hT (.off 25 z hb hT (.off 26 z hb hT (.off 27 z hb hT (.ts 28 z (fun W hT => pkf hb z z z) hT z (by kernel_rfl) (.eqv 108 z (bool_eq (sel_f hb hb5)) (.tp 29 z z hT (by kernel_rfl) (.done (⟨z, sb z, hS.to [0, 0, 0, 0, 0, 0, 0] z⟩) (by kernel_rfl))))) (by kernel_rfl) z z) (by kernel_rfl) z z) (by kernel_rfl) z z) (by kernel_rfl) z z) (by kernel_rfl) z z) (by kernel_rfl) z z
  refine .off 3 z hb hT (.off 4 z hb hT (.off 5 z hb hT (.ts 6 z (fun W hT => pkf hb z z z) hT z (by kernel_rfl) (.eqv 86 z (congrArg Value.bool (show false = (y11 && (y2.1.Pc == 4)) from and_f hb)) (.tp 7 z z hT (by kernel_rfl) (.both (y11 && (y2.1.Pc == 4)) (fun hb => ?_) (fun hb => ?_))))) (by kernel_rfl) z z) (by kernel_rfl) z z) (by kernel_rfl) z z
  ·have hg13 := hb
   have h_b4 := sel_t hb hb4
   refine .t1g 8 z hg13 (fun W hT => fa T.f27_2 z z z) hT (.t1g 9 z hg13 (fun W hT => ld T.t25 hT.p3 z z z z z) hT ?_ (by kernel_rfl) z z) (by kernel_rfl) z z
   have ⟨x5, hx5, h_b4⟩ := bnd h_b4
   refine .t1g 10 z hg13 (fun W hT => ixv hS.p5.lendv hx5 T.u25 T.t3 z z z) hT (.t1g 11 z hg13 (fun W hT => lde (RV.flat hT.p5.lendv hx5 z) T.t3 z z z z z) hT (.t1g 12 z hg13 (fun W hT => pr z) hT (.ts 13 z (fun W hT => pkt hg13 z z z) hT z (by kernel_rfl) (.eqv 93 z (bool_eq h_b4) (.tp 14 z z hT (by kernel_rfl) (.both (b4) (fun hb => ?_) (fun hb => ?_))))) (by kernel_rfl) z z) (by kernel_rfl) z z) (by kernel_rfl) z z
   ·have hg14 := hb
    refine .t1g 15 z hg14 (fun W hT => pr z) hT (.t1g 16 z hg14 (fun W hT => pr z) hT (.t1g 17 z hg14 (fun W hT => lenv hS.p6.lendv T.u23 z z) hT (.t1g 18 z hg14 (fun W hT => pr z) hT (.t1g 19 z hg14 (fun W hT => pr z) hT (.ts 20 z (fun W hT => pkt hg14 z z z) hT z (by kernel_rfl) (.eqv 100 z (congrArg Value.bool (and_t hg14)) (.tp 21 z z hT (by kernel_rfl) (.both (b4 && ((w64 (Int.tdiv x3 4)) == (w64 (1 + (y1.length : Int))))) (fun hb => ?_) (fun hb => ?_))))) (by kernel_rfl) z z) (by kernel_rfl) z z) (by kernel_rfl) z z) (by kernel_rfl) z z) (by kernel_rfl) z z
    ·have hg15 := hb
     have h_b5 := sel_t hb hb5
     refine .t1g 22 z hg15 (fun W hT => fa T.f27_2 z z z) hT (.t1g 23 z hg15 (fun W hT => ld T.t25 hT.p3 z z z z z) hT (.t1g 24 z hg15 (fun W hT => pr z) hT ?_ (by kernel_rfl) z z) (by kernel_rfl) z z) (by kernel_rfl) z z
     have ⟨r9, hr9, h_b5⟩ := bnd h_b5
     refine .t1g 25 z hg15 (fun W hT => slv hr9 hT.p5.lendv T.u25 T.t3 z z z z) hT ?_ (by kernel_rfl) z z
     have ⟨r10, hr10, h_b5⟩ := bnd h_b5
     refine .by1 26 z (.gd hg15 (.mkv 0 (D.int .i64) hr10 T.u25 T.t3 hS z z z z z (fun _ => z) ?_ z z z) z) (by kernel_rfl)
     intro v10 W hS
     have hT := hS.to [1, 1, 1, 1, 1, 1, 1] z
     refine ⟨fun _ => hT, ?_⟩
     have ⟨y16, hy16, h_b5⟩ := bnd h_b5
     refine .by1 27 z (.gd hg15 (.call0 hS Tryz.func18 (laws_sameInts_ok hy16 (slv_rd hr9 hS.p6.lendv) hS.lendv) z z ?_ z (by kernel_rfl) z z) z) (by kernel_rfl)
     intro W hS
     have hT := hS.to [1, 1, 1, 1, 1, 1, 1] z
     refine ⟨fun _ => hT, ?_⟩
     exact .ts 28 z (fun W hT => pkt hg15 z z z) hT z (by kernel_rfl) (.eqv 108 z (bool_eq h_b5) (.tp 29 z z hT (by kernel_rfl) (.done (⟨z, sb z, hS.to [1, 1, 1, 1, 1, 1, 1] z⟩) (by kernel_rfl))))
    exact .off 22 z hb hT (.off 23 z hb hT (.off 24 z hb hT (.off 25 z hb hT (.off 26 z hb hT (.off 27 z hb hT (.ts 28 z (fun W hT => pkf hb z z z) hT z (by kernel_rfl) (.eqv 108 z (bool_eq (sel_f hb hb5)) (.tp 29 z z hT (by kernel_rfl) (.done (⟨z, sb z, hS.to [0, 0, 0, 0, 0, 0, 0] z⟩) (by kernel_rfl))))) (by kernel_rfl) z z) (by kernel_rfl) z z) (by kernel_rfl) z z) (by kernel_rfl) z z) (by kernel_rfl) z z) (by kernel_rfl) z z
   refine .off 15 z hb hT (.off 16 z hb hT (.off 17 z hb hT (.off 18 z hb hT (.off 19 z hb hT (.ts 20 z (fun W hT => pkf hb z z z) hT z (by kernel_rfl) (.eqv 100 z (congrArg Value.bool (show false = (b4 && ((w64 (Int.tdiv x3 4)) == (w64 (1 + (y1.length : Int))))) from and_f hb)) (.tp 21 z z hT (by kernel_rfl) (.both (b4 && ((w64 (Int.tdiv x3 4)) == (w64 (1 + (y1.length : Int))))) (fun hb => ?_) (fun hb => ?_))))) (by kernel_rfl) z z) (by kernel_rfl) z z) (by kernel_rfl) z z) (by kernel_rfl) z z) (by kernel_rfl) z z
   ·have hg16 := hb
    have h_b5 := sel_t hb hb5
    refine .t1g 22 z hg16 (fun W hT => fa T.f27_2 z z z) hT (.t1g 23 z hg16 (fun W hT => ld T.t25 hT.p3 z z z z z) hT (.t1g 24 z hg16 (fun W hT => pr z) hT ?_ (by kernel_rfl) z z) (by kernel_rfl) z z) (by kernel_rfl) z z
    have ⟨r11, hr11, h_b5⟩ := bnd h_b5
    refine .t1g 25 z hg16 (fun W hT => slv hr11 hT.p5.lendv T.u25 T.t3 z z z z) hT ?_ (by kernel_rfl) z z
    have ⟨r12, hr12, h_b5⟩ := bnd h_b5
    refine .by1 26 z (.gd hg16 (.mkv 0 (D.int .i64) hr12 T.u25 T.t3 hS z z z z z (fun _ => z) ?_ z z z) z) (by kernel_rfl)
    intro v11 W hS
    have hT := hS.to [1, 1, 1, 1, 1, 1, 1] z
    refine ⟨fun _ => hT, ?_⟩
    have ⟨y17, hy17, h_b5⟩ := bnd h_b5
    refine .by1 27 z (.gd hg16 (.call0 hS Tryz.func18 (laws_sameInts_ok hy17 (slv_rd hr11 hS.p6.lendv) hS.lendv) z z ?_ z (by kernel_rfl) z z) z) (by kernel_rfl)
    intro W hS
    have hT := hS.to [1, 1, 1, 1, 1, 1, 1] z
    refine ⟨fun _ => hT, ?_⟩
    exact .ts 28 z (fun W hT => pkt hg16 z z z) hT z (by kernel_rfl) (.eqv 108 z (bool_eq h_b5) (.tp 29 z z hT (by kernel_rfl) (.done (⟨z, sb z, hS.to [1, 1, 1, 1, 1, 1, 1] z⟩) (by kernel_rfl))))
   exact .off 22 z hb hT (.off 23 z hb hT (.off 24 z hb hT (.off 25 z hb hT (.off 26 z hb hT (.off 27 z hb hT (.ts 28 z (fun W hT => pkf hb z z z) hT z (by kernel_rfl) (.eqv 108 z (bool_eq (sel_f hb hb5)) (.tp 29 z z hT (by kernel_rfl) (.done (⟨z, sb z, hS.to [0, 0, 0, 0, 0, 0, 0] z⟩) (by kernel_rfl))))) (by kernel_rfl) z z) (by kernel_rfl) z z) (by kernel_rfl) z z) (by kernel_rfl) z z) (by kernel_rfl) z z) (by kernel_rfl) z z
  refine .off 8 z hb hT (.off 9 z hb hT (.off 10 z hb hT (.off 11 z hb hT (.off 12 z hb hT (.ts 13 z (fun W hT => pkf hb z z z) hT z (by kernel_rfl) (.eqv 93 z (bool_eq (sel_f hb hb4)) (.tp 14 z z hT (by kernel_rfl) (.both (b4) (fun hb => ?_) (fun hb => ?_))))) (by kernel_rfl) z z) (by kernel_rfl) z z) (by kernel_rfl) z z) (by kernel_rfl) z z) (by kernel_rfl) z z
  ·have hg17 := hb
   refine .t1g 15 z hg17 (fun W hT => pr z) hT (.t1g 16 z hg17 (fun W hT => pr z) hT (.t1g 17 z hg17 (fun W hT => lenv hS.p6.lendv T.u23 z z) hT (.t1g 18 z hg17 (fun W hT => pr z) hT (.t1g 19 z hg17 (fun W hT => pr z) hT (.ts 20 z (fun W hT => pkt hg17 z z z) hT z (by kernel_rfl) (.eqv 100 z (congrArg Value.bool (and_t hg17)) (.tp 21 z z hT (by kernel_rfl) (.both (b4 && ((w64 (Int.tdiv x3 4)) == (w64 (1 + (y1.length : Int))))) (fun hb => ?_) (fun hb => ?_))))) (by kernel_rfl) z z) (by kernel_rfl) z z) (by kernel_rfl) z z) (by kernel_rfl) z z) (by kernel_rfl) z z
   ·have hg18 := hb
    have h_b5 := sel_t hb hb5
    refine .t1g 22 z hg18 (fun W hT => fa T.f27_2 z z z) hT (.t1g 23 z hg18 (fun W hT => ld T.t25 hT.p3 z z z z z) hT (.t1g 24 z hg18 (fun W hT => pr z) hT ?_ (by kernel_rfl) z z) (by kernel_rfl) z z) (by kernel_rfl) z z
    have ⟨r13, hr13, h_b5⟩ := bnd h_b5
    refine .t1g 25 z hg18 (fun W hT => slv hr13 hT.p5.lendv T.u25 T.t3 z z z z) hT ?_ (by kernel_rfl) z z
    have ⟨r14, hr14, h_b5⟩ := bnd h_b5
    refine .by1 26 z (.gd hg18 (.mkv 0 (D.int .i64) hr14 T.u25 T.t3 hS z z z z z (fun _ => z) ?_ z z z) z) (by kernel_rfl)
    intro v12 W hS
    have hT := hS.to [1, 1, 1, 1, 1, 1, 1] z
    refine ⟨fun _ => hT, ?_⟩
    have ⟨y18, hy18, h_b5⟩ := bnd h_b5
    refine .by1 27 z (.gd hg18 (.call0 hS Tryz.func18 (laws_sameInts_ok hy18 (slv_rd hr13 hS.p6.lendv) hS.lendv) z z ?_ z (by kernel_rfl) z z) z) (by kernel_rfl)
    intro W hS
    have hT := hS.to [1, 1, 1, 1, 1, 1, 1] z
    refine ⟨fun _ => hT, ?_⟩
    exact .ts 28 z (fun W hT => pkt hg18 z z z) hT z (by kernel_rfl) (.eqv 108 z (bool_eq h_b5) (.tp 29 z z hT (by kernel_rfl) (.done (⟨z, sb z, hS.to [1, 1, 1, 1, 1, 1, 1] z⟩) (by kernel_rfl))))
   exact .off 22 z hb hT (.off 23 z hb hT (.off 24 z hb hT (.off 25 z hb hT (.off 26 z hb hT (.off 27 z hb hT (.ts 28 z (fun W hT => pkf hb z z z) hT z (by kernel_rfl) (.eqv 108 z (bool_eq (sel_f hb hb5)) (.tp 29 z z hT (by kernel_rfl) (.done (⟨z, sb z, hS.to [0, 0, 0, 0, 0, 0, 0] z⟩) (by kernel_rfl))))) (by kernel_rfl) z z) (by kernel_rfl) z z) (by kernel_rfl) z z) (by kernel_rfl) z z) (by kernel_rfl) z z) (by kernel_rfl) z z
  refine .off 15 z hb hT (.off 16 z hb hT (.off 17 z hb hT (.off 18 z hb hT (.off 19 z hb hT (.ts 20 z (fun W hT => pkf hb z z z) hT z (by kernel_rfl) (.eqv 100 z (congrArg Value.bool (show false = (b4 && ((w64 (Int.tdiv x3 4)) == (w64 (1 + (y1.length : Int))))) from and_f hb)) (.tp 21 z z hT (by kernel_rfl) (.both (b4 && ((w64 (Int.tdiv x3 4)) == (w64 (1 + (y1.length : Int))))) (fun hb => ?_) (fun hb => ?_))))) (by kernel_rfl) z z) (by kernel_rfl) z z) (by kernel_rfl) z z) (by kernel_rfl) z z) (by kernel_rfl) z z
  ·have hg19 := hb
   have h_b5 := sel_t hb hb5
   refine .t1g 22 z hg19 (fun W hT => fa T.f27_2 z z z) hT (.t1g 23 z hg19 (fun W hT => ld T.t25 hT.p3 z z z z z) hT (.t1g 24 z hg19 (fun W hT => pr z) hT ?_ (by kernel_rfl) z z) (by kernel_rfl) z z) (by kernel_rfl) z z
   have ⟨r15, hr15, h_b5⟩ := bnd h_b5
   refine .t1g 25 z hg19 (fun W hT => slv hr15 hT.p5.lendv T.u25 T.t3 z z z z) hT ?_ (by kernel_rfl) z z
   have ⟨r16, hr16, h_b5⟩ := bnd h_b5
   refine .by1 26 z (.gd hg19 (.mkv 0 (D.int .i64) hr16 T.u25 T.t3 hS z z z z z (fun _ => z) ?_ z z z) z) (by kernel_rfl)
   intro v13 W hS
   have hT := hS.to [1, 1, 1, 1, 1, 1, 1] z
   refine ⟨fun _ => hT, ?_⟩
   have ⟨y19, hy19, h_b5⟩ := bnd h_b5
   refine .by1 27 z (.gd hg19 (.call0 hS Tryz.func18 (laws_sameInts_ok hy19 (slv_rd hr15 hS.p6.lendv) hS.lendv) z z ?_ z (by kernel_rfl) z z) z) (by kernel_rfl)
   intro W hS
   have hT := hS.to [1, 1, 1, 1, 1, 1, 1] z
   refine ⟨fun _ => hT, ?_⟩
   exact .ts 28 z (fun W hT => pkt hg19 z z z) hT z (by kernel_rfl) (.eqv 108 z (bool_eq h_b5) (.tp 29 z z hT (by kernel_rfl) (.done (⟨z, sb z, hS.to [1, 1, 1, 1, 1, 1, 1] z⟩) (by kernel_rfl))))
  exact .off 22 z hb hT (.off 23 z hb hT (.off 24 z hb hT (.off 25 z hb hT (.off 26 z hb hT (.off 27 z hb hT (.ts 28 z (fun W hT => pkf hb z z z) hT z (by kernel_rfl) (.eqv 108 z (bool_eq (sel_f hb hb5)) (.tp 29 z z hT (by kernel_rfl) (.done (⟨z, sb z, hS.to [0, 0, 0, 0, 0, 0, 0] z⟩) (by kernel_rfl))))) (by kernel_rfl) z z) (by kernel_rfl) z z) (by kernel_rfl) z z) (by kernel_rfl) z z) (by kernel_rfl) z z) (by kernel_rfl) z z
 intro x E W hJ
 obtain ⟨rfl, hE, hS⟩ := hJ
 refine ⟨_, hE.sub, ?_⟩
 obtain rfl := Option.some.inj h
 exact .ret (fin_ret (vs := [_]) () (rt z rn) z (hS.to [] z))
end Go.Proofs.YtmpplggjpmmhlaaGreatDoor.N
end
section
/- What a row says of its arguments, in the program logic's words: data types in general. -/
set_option linter.unusedVariables false
set_option linter.unusedSimpArgs false
namespace Go.Proofs.YtmpplggjpmmhlaaGreatDoor.X
variable {P : Program} {w : World} {T : Nat → Prop} {t e : TypeId} {size : Nat} {k : IntKind} {α : Type} {enc : α → D} {H : Type} {en : TypeId × Value → H} {base : Nat} {spare : Nat → Bool} {held : Bool}
/-- The types of a struct's fields. -/
def styp (P : Program) (t : TypeId) : Option (List TypeId) := match P.underlying t with
  | some (.struct fs) => some (fs.toList.map (·.type))
  | _ => none
mutual
/-- The data d are of the type t. -/
def Typ (P : Program) : D → TypeId → Prop
  | .int k n, t => P.underlying t = some (.int k) ∧ (Lit.int k n).wf = true
  | .bool _, t => P.underlying t = some .bool
  | .str s, t => P.underlying t = some .string ∧ s.size ≤ maxLen
  | .row e size xs, t => P.underlying t = some (.slice e) ∧ size = P.cellsOf e ∧ Typs P xs e
  | .agg xs, t => ∃ ts, styp P t = some ts ∧ TypF P xs ts
def Typs (P : Program) : List D → TypeId → Prop
  | [], _ => True
  | x :: xs, e => Typ P x e ∧ Typs P xs e
def TypF (P : Program) : List D → List TypeId → Prop
  | [], [] => True
  | x :: xs, t :: ts => Typ P x t ∧ TypF P xs ts
  | _, _ => False
end
def contig (P : Program) : List Field → Nat → Option Nat
  | [], k => some k
  | f :: r, k => match Nat.beq f.offset k with
    | true => contig P r (k + P.cellsOf f.type)
    | false => none
/-- A type whose data lie as D has it; ts holds all types within. -/
def okT (P : Program) (ts : List TypeId) (t : TypeId) : Bool := match P.underlying t with
  | some (.int _) | some .bool | some .string => Nat.beq (P.cellsOf t) 1
  | some (.slice e) => Nat.beq (P.cellsOf t) 1 && ts.contains e && !(Nat.beq (P.cellsOf e) 0)
  | some (.struct fs) => (match contig P fs.toList 0 with
    | some n => Nat.beq n (P.cellsOf t)
    | none => false) && fs.toList.all (fun f => ts.contains f.type)
  | _ => false
theorem D.rd_length : ∀ {d : D} {cs : List Value}, D.rd w d T cs → cs.length = d.sz
  | .int _ _, _, h => by simp only [D.rd] at h; subst h; rfl
  | .bool _, _, h => by simp only [D.rd] at h; subst h; rfl
  | .str _, _, h => by simp only [D.rd] at h; subst h; rfl
  | .row _ _ _, _, ⟨A, cap, c, h1, _⟩ => by subst h1; rfl
  | .agg xs, _, h => by simp only [D.sz]; exact rds_length (xs := xs) h
theorem Typs.append : ∀ {xs ys : List D}, Typs P xs e → Typs P ys e → Typs P (xs ++ ys) e
  | [], _, _, h => h
  | x :: xs, _, ⟨h1, h2⟩, h => ⟨h1, Typs.append h2 h⟩
theorem old_of_cell {a : Addr} {v : Value} (h : w.cell? a = some v) : Old No w a.block := ⟨World.block_lt_of_cell? w a h, id⟩
theorem trod_typ {ts : List TypeId} (hts : ts.all (okT P ts) = true) : ∀ {fuel : Nat} {t : TypeId} {cs : List Value} {x : DataW H × List MemPlace}, t ∈ ts → DataW.trod en P w base spare held fuel t cs = some x → ∃ d, Typ P d t ∧ D.rd w d (Old No w) cs ∧ d.sz = P.cellsOf t := by
  intro fuel
  induction fuel with
  | zero => intro t cs x _ h; simp [DataW.trod] at h
  | succ fuel ih =>
    intro t cs x ht h
    have hok := List.all_eq_true.1 hts t ht
    unfold okT at hok
    split at hok
    · rename_i k hu
      obtain ⟨n, rfl, _, hw⟩ := DataW.trod_int hu h
      exact ⟨.int k n, ⟨hu, hw⟩, rfl, (Nat.eq_of_beq_eq_true hok).symm⟩
    · rename_i hu
      obtain ⟨b, rfl, _⟩ := DataW.trod_bool hu h
      exact ⟨.bool b, hu, rfl, (Nat.eq_of_beq_eq_true hok).symm⟩
    · rename_i hu
      obtain ⟨s, rfl, _, hs⟩ := DataW.trod_string hu h
      exact ⟨.str s, ⟨hu, hs⟩, rfl, (Nat.eq_of_beq_eq_true hok).symm⟩
    · rename_i e hu
      simp only [Bool.and_eq_true, Bool.not_eq_true'] at hok
      obtain ⟨⟨h1, h2⟩, h3⟩ := hok
      have he : e ∈ ts := by simpa using h2
      have h0 : P.cellsOf e ≠ 0 := by intro h0; rw [h0] at h3; cases h3
      have hc1 := (Nat.eq_of_beq_eq_true h1).symm
      rcases DataW.trod_slice hu h with ⟨rfl, _⟩ | ⟨a, len, cap, elems, rest, n, hn, rfl, _, hb, hl, hm, hlen, hel, _, _⟩
      · exact ⟨.row e (P.cellsOf e) [], ⟨hu, rfl, trivial⟩, ⟨none, 0, [], rfl, Nat.le_refl _, Nat.zero_le _, by simp, fun h => absurd rfl h, rfl⟩, hc1⟩
      · obtain rfl : fuel = n := by omega
        have key : ∀ m, m ≤ len → ∃ ds c, ds.length = m ∧ Typs P ds e ∧ (∀ x ∈ ds, x.sz = P.cellsOf e) ∧ D.rds w ds (Old No w) c ∧ c.length = m * P.cellsOf e ∧ ∀ j u, c[j]? = some u → w.cell? (a.add j) = some u := by
          intro m
          induction m with
          | zero => intro _; exact ⟨[], [], rfl, trivial, by simp, rfl, by simp, by simp⟩
          | succ m ihm =>
            intro hle
            obtain ⟨ds, c, k1, k2, k3, k4, k5, k6⟩ := ihm (by omega)
            have hi := hel m (by omega)
            have hs : ∃ y, elems[m]? = some y := ⟨_, List.getElem?_eq_getElem (by omega)⟩
            obtain ⟨y, hy⟩ := hs
            rw [hy, Option.bind_eq_some_iff] at hi
            obtain ⟨ci, hci, hyi⟩ := hi
            obtain ⟨d, g1, g2, g3⟩ := ih he hyi
            obtain ⟨_, q2, q3⟩ := World.cells?_some hci
            refine ⟨ds ++ [d], c ++ ci, by simp [k1], k2.append ⟨g1, trivial⟩, fun x hx => ?_, rds_app k4 ⟨ci, [], by simp, D.rd_length g2, g2, rfl⟩, by rw [List.length_append, k5, q2, Nat.add_mul]; omega, fun j u hj => ?_⟩
            · rcases List.mem_append.1 hx with hx | hx
              · exact k3 x hx
              · rw [List.mem_singleton.1 hx]; exact g3
            · rcases Nat.lt_or_ge j c.length with hj' | hj'
              · rw [List.getElem?_append_left hj'] at hj; exact k6 j u hj
              · rw [List.getElem?_append_right hj'] at hj
                have hlt : j - c.length < P.cellsOf e := by
                  rcases Nat.lt_or_ge (j - c.length) ci.length with h | h
                  · omega
                  · rw [List.getElem?_eq_none h] at hj; cases hj
                have := q3 _ hlt
                rw [hj, Addr.add_add, ← k5] at this
                rw [show c.length + (j - c.length) = j by omega] at this
                exact this
        obtain ⟨ds, c, k1, k2, k3, k4, k5, k6⟩ := key len (Nat.le_refl _)
        refine ⟨.row e (P.cellsOf e) ds, ⟨hu, rfl, k2⟩, ⟨some a, cap, c, by rw [k1], by omega, by omega, k3, fun hne => ⟨a, rfl, ?_, k6⟩, k4⟩, hc1⟩
        have hpos : 0 < c.length := by
          rw [k5, ← k1]
          exact Nat.mul_pos (List.length_pos_iff.2 hne) (by omega)
        have h6 := k6 0 _ (List.getElem?_eq_getElem hpos)
        simp only [Addr.add, if_true] at h6
        exact old_of_cell h6
    · rename_i fs hu
      simp only [Bool.and_eq_true] at hok
      obtain ⟨h1, h2⟩ := hok
      split at h1
      · rename_i tot hcg
        obtain rfl := Nat.eq_of_beq_eq_true h1
        obtain ⟨xs, n, hn, _, hlen, hxl, hf⟩ := DataW.trod_struct hu h
        obtain rfl : fuel = n := by omega
        have key : ∀ (gs : List Field) (o : Nat), (∀ f ∈ gs, f.type ∈ ts ∧ ∃ y, DataW.trod en P w base spare held fuel f.type ((cs.drop f.offset).take (P.cellsOf f.type)) = some y) → contig P gs o = some (P.cellsOf t) →
            ∃ ds, TypF P ds (gs.map (·.type)) ∧ D.rds w ds (Old No w) (cs.drop o) ∧ o + D.szs ds = P.cellsOf t := by
          intro gs
          induction gs with
          | nil =>
            intro o _ hc
            simp only [contig, Option.some.injEq] at hc
            subst hc
            exact ⟨[], trivial, by rw [← hlen, List.drop_length]; rfl, rfl⟩
          | cons f gs ihg =>
            intro o hall hc
            simp only [contig] at hc
            split at hc
            · rename_i ho
              have ho' := Nat.eq_of_beq_eq_true ho
              obtain ⟨hft, y, hy⟩ := hall f (by simp)
              obtain ⟨d, g1, g2, g3⟩ := ih hft hy
              obtain ⟨ds, q1, q2, q3⟩ := ihg _ (fun g hg => hall g (by simp [hg])) hc
              rw [ho'] at g2
              refine ⟨d :: ds, ⟨g1, q1⟩, ⟨_, _, ?_, D.rd_length g2, g2, q2⟩, ?_⟩
              · rw [← List.drop_drop, List.take_append_drop]
              · simp only [D.szs, g3]; omega
            · cases hc
        obtain ⟨ds, q1, q2, q3⟩ := key fs.toList 0 (fun f hf' => ⟨by have := List.all_eq_true.1 h2 f hf'; simpa using this, by
            obtain ⟨i, hi⟩ := List.getElem?_of_mem hf'
            have hi' : fs[i]? = some f := by simpa using hi
            have hlt : i < xs.length := by
              have := (List.getElem?_eq_some_iff.1 hi).1
              rw [hxl]
              simpa using this
            exact ⟨_, (hf i f hi').trans (List.getElem?_eq_getElem hlt)⟩⟩) hcg
        exact ⟨.agg ds, ⟨_, by simp only [styp, hu], q1⟩, q2, by simp only [D.sz]; omega⟩
      · cases h1
    · cases hok
def Dec (P : Program) (t : TypeId) (enc : α → D) (Wf : α → Prop) : Prop := ∀ d, Typ P d t → ∃ x, d = enc x ∧ Wf x
theorem Dec.int (hu : P.underlying t = some (.int k)) : Dec P t (D.int k) (fun n => (Lit.int k n).wf = true) := by
  intro d h
  cases d with
  | int k' n =>
    obtain ⟨h1, h2⟩ := h
    rw [hu] at h1
    injection h1 with h1
    injection h1 with h1
    subst h1
    exact ⟨n, rfl, h2⟩
  | bool b => rw [show P.underlying t = some .bool from h] at hu; cases hu
  | str s => rw [show P.underlying t = some .string from h.1] at hu; cases hu
  | row e s xs => rw [h.1] at hu; cases hu
  | agg xs => obtain ⟨ts, h1, _⟩ := h; simp [styp, hu] at h1
theorem Dec.bool (hu : P.underlying t = some .bool) : Dec P t D.bool (fun _ => True) := by
  intro d h
  cases d with
  | bool b => exact ⟨b, rfl, trivial⟩
  | int k' n => rw [h.1] at hu; cases hu
  | str s => rw [show P.underlying t = some .string from h.1] at hu; cases hu
  | row e s xs => rw [h.1] at hu; cases hu
  | agg xs => obtain ⟨ts, h1, _⟩ := h; simp [styp, hu] at h1
theorem Dec.str (hu : P.underlying t = some .string) : Dec P t D.str (fun s => s.size ≤ maxLen) := by
  intro d h
  cases d with
  | str s => exact ⟨s, rfl, h.2⟩
  | bool b => rw [show P.underlying t = some .bool from h] at hu; cases hu
  | int k' n => rw [h.1] at hu; cases hu
  | row e s xs => rw [h.1] at hu; cases hu
  | agg xs => obtain ⟨ts, h1, _⟩ := h; simp [styp, hu] at h1
theorem Dec.list {Wf : α → Prop} (h : Dec P e enc Wf) : ∀ {xs : List D}, Typs P xs e → ∃ l : List α, xs = l.map enc ∧ ∀ x ∈ l, Wf x
  | [], _ => ⟨[], rfl, by simp⟩
  | d :: xs, ⟨h1, h2⟩ => by
    obtain ⟨x, rfl, hx⟩ := h d h1
    obtain ⟨l, rfl, hl⟩ := Dec.list h h2
    exact ⟨x :: l, rfl, fun y hy => (List.mem_cons.1 hy).elim (fun e => e ▸ hx) (hl y)⟩
theorem Dec.slice {Wf : α → Prop} (hu : P.underlying t = some (.slice e)) (hc : P.cellsOf e = size) (h : Dec P e enc Wf) : Dec P t (fun (l : List α) => D.row e size (l.map enc)) (fun l => ∀ x ∈ l, Wf x) := by
  intro d hd
  cases d with
  | row e' s xs =>
    obtain ⟨h1, h2, h3⟩ := hd
    rw [hu] at h1
    injection h1 with h1
    injection h1 with h1
    subst h1
    obtain ⟨l, rfl, hl⟩ := h.list h3
    exact ⟨l, by rw [h2, hc], hl⟩
  | bool b => rw [show P.underlying t = some .bool from hd] at hu; cases hu
  | int k' n => rw [hd.1] at hu; cases hu
  | str s => rw [show P.underlying t = some .string from hd.1] at hu; cases hu
  | agg xs => obtain ⟨ts, h1, _⟩ := hd; simp [styp, hu] at h1
end Go.Proofs.YtmpplggjpmmhlaaGreatDoor.X
end
section
/- What a package-level variable's laid datum says of its cells. -/
set_option linter.unusedVariables false
set_option linter.unusedSimpArgs false
namespace Go.Proofs.YtmpplggjpmmhlaaGreatDoor.X
variable {P : Program} {w : World} {T : Nat → Prop} {t e : TypeId} {size : Nat} {k : IntKind} {α : Type} {H : Type} {en : TypeId × Value → H} {base : Nat} {spare : Nat → Bool} {held : Bool}
/-- The cells of a datum without memory behind it. -/
def dcells : DataW H → List Value
  | .lit (.int k n) => [.int k n]
  | .lit (.bool b) => [.bool b]
  | .lit (.string s) => [.string ⟨s.toArray⟩]
  | .agg ds => dcellsL ds
  | _ => []
where dcellsL : List (DataW H) → List Value
  | [] => []
  | d :: r => dcells d ++ dcellsL r
theorem dcellsL_map {γ : Type} (f : γ → DataW H) : ∀ {xs : List γ}, dcells.dcellsL (xs.map f) = (xs.map fun x => dcells (f x)).flatten
  | [] => rfl
  | x :: xs => by simp only [List.map_cons, dcells.dcellsL, List.flatten_cons, dcellsL_map f]
def okF (P : Program) (ts : List TypeId) (t : TypeId) : Bool := match P.underlying t with
  | some (.int _) | some .bool | some .string => Nat.beq (P.cellsOf t) 1
  | some (.array n e) => Nat.beq (P.cellsOf t) (n * P.cellsOf e) && ts.contains e
  | some (.struct fs) => (match contig P fs.toList 0 with
    | some n => Nat.beq n (P.cellsOf t)
    | none => false) && fs.toList.all (fun f => ts.contains f.type)
  | _ => false
theorem trod_cells {ts : List TypeId} (hts : ts.all (okF P ts) = true) : ∀ {fuel : Nat} {t : TypeId} {cs : List Value} {x : DataW H × List MemPlace}, t ∈ ts → DataW.trod en P w base spare held fuel t cs = some x → cs = dcells x.1 ∧ cs.length = P.cellsOf t := by
  intro fuel
  induction fuel with
  | zero => intro t cs x _ h; simp [DataW.trod] at h
  | succ fuel ih =>
    intro t cs x ht h
    have hok := List.all_eq_true.1 hts t ht
    unfold okF at hok
    split at hok
    · rename_i k hu
      obtain ⟨n, rfl, rfl, hw⟩ := DataW.trod_int hu h
      exact ⟨rfl, (Nat.eq_of_beq_eq_true hok).symm⟩
    · rename_i hu
      obtain ⟨b, rfl, rfl⟩ := DataW.trod_bool hu h
      exact ⟨rfl, (Nat.eq_of_beq_eq_true hok).symm⟩
    · rename_i hu
      obtain ⟨s, rfl, rfl, hs⟩ := DataW.trod_string hu h
      exact ⟨by simp [dcells], (Nat.eq_of_beq_eq_true hok).symm⟩
    · rename_i n e hu
      simp only [Bool.and_eq_true] at hok
      obtain ⟨h1, h2⟩ := hok
      have he : e ∈ ts := by simpa using h2
      have h1' := Nat.eq_of_beq_eq_true h1
      obtain ⟨xs, m, hn, rfl, hlen, hxl, hel⟩ := DataW.trod_array hu h
      obtain rfl : fuel = m := by omega
      refine ⟨?_, hlen⟩
      have key : ∀ j, j ≤ n → cs.take (j * P.cellsOf e) = ((xs.take j).map fun y => dcells y.1).flatten := by
        intro j
        induction j with
        | zero => intro _; simp
        | succ j ihj =>
          intro hj
          have hi := hel j (by omega)
          have hlt : j < xs.length := by omega
          rw [List.getElem?_eq_getElem hlt] at hi
          obtain ⟨g1, g2⟩ := ih he hi
          rw [← List.take_append_getElem hlt, List.map_append, List.flatten_append, ← ihj (by omega)]
          simp only [List.map_cons, List.map_nil, List.flatten_cons, List.flatten_nil, List.append_nil]
          rw [← g1, Nat.add_mul, Nat.one_mul, List.take_add]
      have := key n (Nat.le_refl _)
      rw [List.take_of_length_le (by omega), List.take_of_length_le (by omega)] at this
      rw [this]
      show _ = dcells.dcellsL (xs.map (·.1))
      rw [dcellsL_map]
    · rename_i fs hu
      simp only [Bool.and_eq_true] at hok
      obtain ⟨h1, h2⟩ := hok
      split at h1
      · rename_i tot hcg
        obtain rfl := Nat.eq_of_beq_eq_true h1
        obtain ⟨xs, n, hn, rfl, hlen, hxl, hf⟩ := DataW.trod_struct hu h
        obtain rfl : fuel = n := by omega
        refine ⟨?_, hlen⟩
        have key : ∀ (gs : List Field) (o i : Nat), (∀ j f, gs[j]? = some f → fs[i + j]? = some f ∧ f.type ∈ ts) → i + gs.length = xs.length → contig P gs o = some (P.cellsOf t) → cs.drop o = ((xs.drop i).map fun y => dcells y.1).flatten := by
          intro gs
          induction gs with
          | nil =>
            intro o i _ hlen2 hc
            simp only [contig, Option.some.injEq] at hc
            simp only [List.length_nil, Nat.add_zero] at hlen2
            rw [hc, ← hlen, List.drop_length, hlen2, List.drop_length]
            rfl
          | cons f gs ihg =>
            intro o i hall hlen2 hc
            simp only [contig] at hc
            split at hc
            · rename_i ho
              have ho' := Nat.eq_of_beq_eq_true ho
              obtain ⟨hf0, hft⟩ := hall 0 f rfl
              have hi := hf i f (by simpa using hf0)
              have hlt : i < xs.length := by simp only [List.length_cons] at hlen2; omega
              rw [List.getElem?_eq_getElem hlt, ho'] at hi
              obtain ⟨g1, g2⟩ := ih hft hi
              have hr := ihg (o + P.cellsOf f.type) (i + 1) (fun j f' hj => by
                have := hall (j + 1) f' (by simpa using hj)
                rwa [show i + (j + 1) = i + 1 + j by omega] at this) (by simp only [List.length_cons] at hlen2; omega) hc
              rw [List.drop_eq_getElem_cons hlt, List.map_cons, List.flatten_cons, ← g1, ← hr, ← List.drop_drop, List.take_append_drop]
            · cases hc
        have := key fs.toList 0 0 (fun j f hj => ⟨by simpa using hj, by
          have := List.all_eq_true.1 h2 f (List.mem_of_getElem? hj)
          simpa using this⟩) (by simp [hxl]) hcg
        simp only [List.drop_zero] at this
        rw [this]
        show _ = dcells.dcellsL (xs.map (·.1))
        rw [dcellsL_map]
      · cases h1
    · cases hok
theorem flat_get {f : α → List Value} (hs : ∀ x, (f x).length = size) : ∀ {l : List α} {i j : Nat} {x : α} {u : Value}, l[i]? = some x → (f x)[j]? = some u → ((l.map f).flatten)[i * size + j]? = some u
  | [], i, j, x, u, h, _ => by simp at h
  | y :: ys, 0, j, x, u, h, hu => by
    have : y = x := by simpa using h
    subst this
    have hlt : j < (f y).length := by
      rcases Nat.lt_or_ge j (f y).length with h | h
      · exact h
      · rw [List.getElem?_eq_none h] at hu; cases hu
    simp only [List.map_cons, List.flatten_cons, Nat.zero_mul, Nat.zero_add]
    rw [List.getElem?_append_left hlt]
    exact hu
  | y :: ys, i + 1, j, x, u, h, hu => by
    have ih := flat_get hs (l := ys) (i := i) (j := j) (by simpa using h) hu
    simp only [List.map_cons, List.flatten_cons]
    rw [List.getElem?_append_right (by rw [hs, Nat.add_mul]; omega), hs]
    rw [show (i + 1) * size + j - size = i * size + j by rw [Nat.add_mul]; omega]
    exact ih
theorem tab_of {g : Nat} {f : α → List Value} {l : List α} {cs : Array Value} (hs : ∀ x, (f x).length = size) (hc : cs.toList = (l.map f).flatten) (hv : ∀ j, w.cell? ⟨g, j, none⟩ = cs[j]?) (h0 : Nat.ble 1 ((l.map f).flatten).length = true) : Tab g size f l w :=
  have h1 : 0 < cs.size := by
    have h1 := Nat.le_of_ble_eq_true h0
    rw [← hc, Array.length_toList] at h1
    omega
  ⟨World.block_lt_of_cell? w ⟨g, 0, none⟩ ((hv 0).trans (Array.getElem?_eq_getElem h1)), fun i x hx j v hj => by
    rw [hv]
    have := flat_get hs hx hj
    rw [← hc] at this
    simpa using this⟩
theorem vars_one {sp : Nat → Bool} {n1 : String} {gs : List (DataW H)} {ps : List MemPlace} (h : DataW.TrodVars en P w sp [n1] gs ps) : ∃ g1, gs = [g1] := by
  match gs, h with
  | [], h => exact h.elim
  | [g1], _ => exact ⟨g1, rfl⟩
  | g1 :: g2 :: r, h => obtain ⟨_, _, _, _, _, _, _, _, _, _, h, _⟩ := h; exact h.elim
/-- The cells of a laid variable. -/
theorem laid_cells {ts : List TypeId} (hts : ts.all (okF P ts) = true) {n : String} {d : DataW Unit} {r : List (String × DataW Unit)} {ps : List MemPlace} {g t : Nat} (hg : P.globalNamed n = some g) (ht : (P.globals[g]?).map (·.type) = some t) (hm : t ∈ ts)
    (h : DataW.LaidVars P w ((n, d) :: r) ps) : ∃ cs : Array Value, cs.toList = dcells d ∧ (∀ j, w.cell? ⟨g, j, none⟩ = cs[j]?) ∧ ∃ qs, DataW.LaidVars P w r qs := by
  obtain ⟨g', t', cs, fuel, p, q, h1, h2, h3, h4, h5, _⟩ := h
  obtain rfl := Option.some.inj (hg.symm.trans h1)
  obtain rfl := Option.some.inj (ht.symm.trans h2)
  exact ⟨cs, (trod_cells hts hm h4).1, fun j => World.var?_cell hg h3 j, q, h5⟩
end Go.Proofs.YtmpplggjpmmhlaaGreatDoor.X
end
