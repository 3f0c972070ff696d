/- Printed by a program of mine: that the program's functions compute it. -/
import Derived.Test.YtdohklfimhkicaaDoorT9
import Derived.Test.YtdohklfimhkicaaDoorT9a
set_option linter.unusedVariables false
set_option maxRecDepth 100000
set_option maxHeartbeats 4000000
namespace Go.Proofs.YtdohklfimhkicaaDoor.N
open Go.Proofs.YtdohklfimhkicaaDoor.X
theorem impl_WordValid_ok {a0 : Int} {w : World} {r : Bool} (h : impl_WordValid a0 = some r) : Calls Tryd.prog 69 #[.int .i64 a0] w (Ret No w (fun s : Unit => .bool r) (fun s => [])) := by
  unfold impl_WordValid at h
  refine enter Tryd.func69 rfl rfl ?_
  have hS := Sep.start w
  refine .seq ?_
  refine .region ?_
  refine .p rfl rfl rfl ?_
  refine .nil ?_
  refine .seq ?_
  refine .region ?_
  refine .p rfl rfl rfl ?_
  refine .p rfl rfl rfl ?_
  refine .p rfl rfl rfl ?_
  refine .chunk 3 8 ((decide (a0 ≥ (-2147483648))) && (decide (a0 ≤ 2147483647))) hS ?_ ?_
  · refine .both (decide (a0 ≥ (-2147483648))) (fun hb => ?_) (fun hb => ?_)
    · have hg1 := hb
      refine .g hg1 (.p rfl rfl rfl ?_) rfl
      refine .g hg1 (.p rfl rfl rfl ?_) rfl
      refine .r (pkt hg1 rfl rfl rfl) ?_ rfl rfl
      exact .nil (ck 3 hS rfl (and_t hg1) rfl rfl)
    · skip
      refine .x hb ?_ rfl rfl
      refine .x hb ?_ rfl rfl
      refine .r (pkf hb rfl rfl rfl) ?_ rfl rfl
      exact .nil (ck 3 hS rfl (and_f hb) rfl rfl)
  intro W hS
  refine .p rfl rfl rfl ?_
  refine .nil ?_
  refine .ret ?_
  cases h
  exact fin_ret (vs := [_]) () (rt rfl rn) rfl (hS.to [] rfl)
theorem impl_Unsigned_ok {a0 : Int} {w : World} {r : Int} (h : impl_Unsigned a0 = some r) : Calls Tryd.prog 73 #[.int .i64 a0] w (Ret No w (fun s : Unit => .int .i64 r) (fun s => [])) := by
  unfold impl_Unsigned at h
  refine enter Tryd.func73 rfl rfl ?_
  have hS := Sep.start w
  refine .seq ?_
  refine .region ?_
  refine .p rfl rfl rfl ?_
  refine .nil ?_
  refine .seq ?_
  refine .seq ?_
  refine .region ?_
  refine .p rfl rfl rfl ?_
  obtain ⟨y1, hy1, h⟩ := bnd h
  refine .c (.call0 hS Tryd.func69 (impl_WordValid_ok hy1) rfl rfl ?_ rfl (by kernel_rfl) rfl rfl)
  intro W hS
  refine .p rfl rfl rfl ?_
  refine .nil ?_
  refine .cond rfl (fun hb => ?_) (fun hb => ?_)
  · have h := sel_t hb h
    refine .seq ?_
    refine .region ?_
    refine .p rfl rfl rfl ?_
    refine .nil ?_
    refine .ret ?_
    cases h
    exact fin_ret (vs := [_]) () (rt rfl rn) rfl (hS.to [] rfl)
  · have h := sel_f hb h
    refine .skip ?_
    refine .seq ?_
    refine .region ?_
    refine .p rfl rfl rfl ?_
    refine .r (cv T.u3 T.u100 rfl rfl) ?_ rfl rfl
    refine .r (cv T.u100 T.u3 rfl rfl) ?_ rfl rfl
    refine .p rfl rfl rfl ?_
    refine .nil ?_
    refine .ret ?_
    cases h
    exact fin_ret (vs := [_]) () (rt rfl rn) rfl (hS.to [] rfl)
theorem impl_formatOf_ok {a0 : Int} {w : World} {r : Int} (h : impl_formatOf a0 = some r) : Calls Tryd.prog 89 #[.int .i64 a0] w (Ret No w (fun s : Unit => .int .u8 r) (fun s => [])) := by
  unfold impl_formatOf at h
  refine enter Tryd.func89 rfl rfl ?_
  have hS := Sep.start w
  refine .seq ?_
  refine .region ?_
  refine .p rfl rfl rfl ?_
  refine .nil ?_
  refine .seq ?_
  refine .block ?_
  refine .seq ?_
  refine .region ?_
  refine .p rfl rfl rfl ?_
  refine .p rfl rfl rfl ?_
  refine .p rfl rfl rfl ?_
  refine .chunk 3 9 ((decide (a0 ≥ 1)) && (decide (a0 ≤ 11))) hS ?_ ?_
  · refine .both (decide (a0 ≥ 1)) (fun hb => ?_) (fun hb => ?_)
    · have hg1 := hb
      refine .g hg1 (.p rfl rfl rfl ?_) rfl
      refine .g hg1 (.p rfl rfl rfl ?_) rfl
      refine .r (pkt hg1 rfl rfl rfl) ?_ rfl rfl
      exact .nil (ck 3 hS rfl (and_t hg1) rfl rfl)
    · skip
      refine .x hb ?_ rfl rfl
      refine .x hb ?_ rfl rfl
      refine .r (pkf hb rfl rfl rfl) ?_ rfl rfl
      exact .nil (ck 3 hS rfl (and_f hb) rfl rfl)
  intro W hS
  refine .p rfl rfl rfl ?_
  refine .nil ?_
  refine .cond rfl (fun hb => ?_) (fun hb => ?_)
  · have h := sel_t hb h
    refine .seq ?_
    refine .region ?_
    refine .p rfl rfl rfl ?_
    refine .nil ?_
    refine .ret ?_
    cases h
    exact fin_ret (vs := [_]) () (rt rfl rn) rfl (hS.to [] rfl)
  · have h := sel_f hb h
    refine .seq ?_
    refine .region ?_
    refine .p rfl rfl rfl ?_
    refine .p rfl rfl rfl ?_
    refine .p rfl rfl rfl ?_
    refine .chunk 3 16 ((decide (a0 ≥ 12)) && (decide (a0 ≤ 15))) hS ?_ ?_
    · refine .both (decide (a0 ≥ 12)) (fun hb => ?_) (fun hb => ?_)
      · have hg2 := hb
        refine .g hg2 (.p rfl rfl rfl ?_) rfl
        refine .g hg2 (.p rfl rfl rfl ?_) rfl
        refine .r (pkt hg2 rfl rfl rfl) ?_ rfl rfl
        exact .nil (ck 3 hS rfl (and_t hg2) rfl rfl)
      · skip
        refine .x hb ?_ rfl rfl
        refine .x hb ?_ rfl rfl
        refine .r (pkf hb rfl rfl rfl) ?_ rfl rfl
        exact .nil (ck 3 hS rfl (and_f hb) rfl rfl)
    intro W hS
    refine .p rfl rfl rfl ?_
    refine .nil ?_
    refine .cond rfl (fun hb => ?_) (fun hb => ?_)
    · have h := sel_t hb h
      refine .seq ?_
      refine .region ?_
      refine .p rfl rfl rfl ?_
      refine .nil ?_
      refine .ret ?_
      cases h
      exact fin_ret (vs := [_]) () (rt rfl rn) rfl (hS.to [] rfl)
    · have h := sel_f hb h
      refine .seq ?_
      refine .region ?_
      refine .p rfl rfl rfl ?_
      refine .p rfl rfl rfl ?_
      refine .p rfl rfl rfl ?_
      refine .nil ?_
      refine .cond rfl (fun hb => ?_) (fun hb => ?_)
      · have h := sel_t hb h
        refine .seq ?_
        refine .region ?_
        refine .p rfl rfl rfl ?_
        refine .nil ?_
        refine .ret ?_
        cases h
        exact fin_ret (vs := [_]) () (rt rfl rn) rfl (hS.to [] rfl)
      · have h := sel_f hb h
        refine .seq ?_
        refine .region ?_
        refine .p rfl rfl rfl ?_
        refine .p rfl rfl rfl ?_
        refine .p rfl rfl rfl ?_
        refine .chunk 3 26 ((a0 == 17) || (a0 == 18)) hS ?_ ?_
        · refine .both (a0 == 17) (fun hb => ?_) (fun hb => ?_)
          · skip
            refine .x hb ?_ rfl rfl
            refine .x hb ?_ rfl rfl
            refine .r (pkt hb rfl rfl rfl) ?_ rfl rfl
            exact .nil (ck 3 hS rfl (or_t hb) rfl rfl)
          · have hg3 := hb
            refine .g hg3 (.p rfl rfl rfl ?_) rfl
            refine .g hg3 (.p rfl rfl rfl ?_) rfl
            refine .r (pkf hg3 rfl rfl rfl) ?_ rfl rfl
            exact .nil (ck 3 hS rfl (or_f hg3) rfl rfl)
        intro W hS
        refine .p rfl rfl rfl ?_
        refine .nil ?_
        refine .cond rfl (fun hb => ?_) (fun hb => ?_)
        · have h := sel_t hb h
          refine .seq ?_
          refine .region ?_
          refine .p rfl rfl rfl ?_
          refine .nil ?_
          refine .ret ?_
          cases h
          exact fin_ret (vs := [_]) () (rt rfl rn) rfl (hS.to [] rfl)
        · have h := sel_f hb h
          refine .seq ?_
          refine .region ?_
          refine .p rfl rfl rfl ?_
          refine .p rfl rfl rfl ?_
          refine .p rfl rfl rfl ?_
          refine .nil ?_
          refine .cond rfl (fun hb => ?_) (fun hb => ?_)
          · have h := sel_t hb h
            refine .seq ?_
            refine .region ?_
            refine .p rfl rfl rfl ?_
            refine .nil ?_
            refine .ret ?_
            cases h
            exact fin_ret (vs := [_]) () (rt rfl rn) rfl (hS.to [] rfl)
          · have h := sel_f hb h
            refine .seq ?_
            refine .region ?_
            refine .p rfl rfl rfl ?_
            refine .p rfl rfl rfl ?_
            refine .p rfl rfl rfl ?_
            refine .nil ?_
            refine .cond rfl (fun hb => ?_) (fun hb => ?_)
            · have h := sel_t hb h
              refine .seq ?_
              refine .region ?_
              refine .p rfl rfl rfl ?_
              refine .nil ?_
              refine .ret ?_
              cases h
              exact fin_ret (vs := [_]) () (rt rfl rn) rfl (hS.to [] rfl)
            · have h := sel_f hb h
              refine .seq ?_
              refine .region ?_
              refine .p rfl rfl rfl ?_
              refine .p rfl rfl rfl ?_
              refine .p rfl rfl rfl ?_
              refine .nil ?_
              refine .cond rfl (fun hb => ?_) (fun hb => ?_)
              · have h := sel_t hb h
                refine .seq ?_
                refine .region ?_
                refine .p rfl rfl rfl ?_
                refine .nil ?_
                refine .ret ?_
                cases h
                exact fin_ret (vs := [_]) () (rt rfl rn) rfl (hS.to [] rfl)
              · have h := sel_f hb h
                refine .skip ?_
                refine .seq ?_
                refine .region ?_
                refine .p rfl rfl rfl ?_
                refine .nil ?_
                refine .ret ?_
                cases h
                exact fin_ret (vs := [_]) () (rt rfl rn) rfl (hS.to [] rfl)
theorem impl_isMachineReg_ok {a0 : Int} {w : World} {r : Bool} (h : impl_isMachineReg a0 = some r) : Calls Tryd.prog 110 #[.int .i64 a0] w (Ret No w (fun s : Unit => .bool r) (fun s => [])) := by
  unfold impl_isMachineReg at h
  refine enter Tryd.func110 rfl rfl ?_
  have hS := Sep.start w
  refine .seq ?_
  refine .region ?_
  refine .p rfl rfl rfl ?_
  refine .nil ?_
  refine .seq ?_
  refine .region ?_
  refine .p rfl rfl rfl ?_
  refine .p rfl rfl rfl ?_
  refine .p rfl rfl rfl ?_
  refine .chunk 3 8 ((decide (a0 ≥ 0)) && (decide (a0 < 32))) hS ?_ ?_
  · refine .both (decide (a0 ≥ 0)) (fun hb => ?_) (fun hb => ?_)
    · have hg1 := hb
      refine .g hg1 (.p rfl rfl rfl ?_) rfl
      refine .g hg1 (.p rfl rfl rfl ?_) rfl
      refine .r (pkt hg1 rfl rfl rfl) ?_ rfl rfl
      exact .nil (ck 3 hS rfl (and_t hg1) rfl rfl)
    · skip
      refine .x hb ?_ rfl rfl
      refine .x hb ?_ rfl rfl
      refine .r (pkf hb rfl rfl rfl) ?_ rfl rfl
      exact .nil (ck 3 hS rfl (and_f hb) rfl rfl)
  intro W hS
  refine .p rfl rfl rfl ?_
  refine .nil ?_
  refine .ret ?_
  cases h
  exact fin_ret (vs := [_]) () (rt rfl rn) rfl (hS.to [] rfl)
theorem impl_InstrValid_ok {a0 : Instr} {w : World} {r : Bool} (h : impl_InstrValid a0 = some r) : Calls Tryd.prog 86 #[.agg #[.int .i64 a0.Op, .int .i64 a0.Rd, .int .i64 a0.Rs, .int .i64 a0.Rt, .int .i64 a0.Imm]] w (Ret No w (fun s : Unit => .bool r) (fun s => [])) := by
  unfold impl_InstrValid at h
  refine enter Tryd.func86 rfl rfl ?_
  have hS := Sep.start w
  refine .seq ?_
  refine .region ?_
  refine .c (.box hS rfl rfl ?_ rfl rfl)
  intro g1 W hS
  refine .p rfl rfl rfl ?_
  refine .nil ?_
  refine .seq ?_
  refine .rk 12 hS [0] T.mix ?_
  intro W hS
  have hT : Sep _ _ W [.box g1 68 [.int .i64 a0.Op, .int .i64 a0.Rd, .int .i64 a0.Rs, .int .i64 a0.Rt, .int .i64 a0.Imm]] := hS.to [0] rfl
  refine .t1 0 rfl (fun W hT => fa T.f68_1 rfl rfl rfl) hT ?_ (by kernel_rfl) rfl rfl
  refine .t1 1 rfl (fun W hT => ld T.t3 hT rfl rfl rfl rfl rfl) hT ?_ (by kernel_rfl) rfl rfl
  refine .t1 3 rfl (fun W hT => fa T.f68_2 rfl rfl rfl) hT ?_ (by kernel_rfl) rfl rfl
  refine .t1 4 rfl (fun W hT => ld T.t3 hT rfl rfl rfl rfl rfl) hT ?_ (by kernel_rfl) rfl rfl
  refine .t1 6 rfl (fun W hT => fa T.f68_3 rfl rfl rfl) hT ?_ (by kernel_rfl) rfl rfl
  refine .t1 7 rfl (fun W hT => ld T.t3 hT rfl rfl rfl rfl rfl) hT ?_ (by kernel_rfl) rfl rfl
  obtain ⟨y1, hy1, h⟩ := bnd h
  refine .by1 2 rfl (.call0 hS Tryd.func110 (impl_isMachineReg_ok hy1) rfl rfl ?_ rfl (by kernel_rfl) rfl rfl) (by kernel_rfl)
  intro W hS
  have hT : Sep _ _ W [.box g1 68 [.int .i64 a0.Op, .int .i64 a0.Rd, .int .i64 a0.Rs, .int .i64 a0.Rt, .int .i64 a0.Imm]] := hS.to [0] rfl
  refine ⟨fun _ => hT, ?_⟩
  obtain ⟨y2, hy2, h⟩ := bnd h
  refine .by1 5 rfl (.call0 hS Tryd.func110 (impl_isMachineReg_ok hy2) rfl rfl ?_ rfl (by kernel_rfl) rfl rfl) (by kernel_rfl)
  intro W hS
  have hT : Sep _ _ W [.box g1 68 [.int .i64 a0.Op, .int .i64 a0.Rd, .int .i64 a0.Rs, .int .i64 a0.Rt, .int .i64 a0.Imm]] := hS.to [0] rfl
  refine ⟨fun _ => hT, ?_⟩
  obtain ⟨y3, hy3, h⟩ := bnd h
  refine .by1 8 rfl (.call0 hS Tryd.func110 (impl_isMachineReg_ok hy3) rfl rfl ?_ rfl (by kernel_rfl) rfl rfl) (by kernel_rfl)
  intro W hS
  have hT : Sep _ _ W [.box g1 68 [.int .i64 a0.Op, .int .i64 a0.Rd, .int .i64 a0.Rs, .int .i64 a0.Rt, .int .i64 a0.Imm]] := hS.to [0] rfl
  refine ⟨fun _ => hT, ?_⟩
  refine .t1 9 rfl (fun W hT => pr rfl) hT ?_ (by kernel_rfl) rfl rfl
  refine .t1 10 rfl (fun W hT => pr rfl) hT ?_ (by kernel_rfl) rfl rfl
  refine .t1 11 rfl (fun W hT => pr rfl) hT ?_ (by kernel_rfl) rfl rfl
  refine .done ?_ (by kernel_rfl)
  refine .seq ?_
  refine .region ?_
  refine .r (fa T.f68_4 rfl rfl rfl) ?_ rfl rfl
  refine .r (ld T.t3 hS rfl rfl rfl rfl rfl) ?_ rfl rfl
  refine .p rfl rfl rfl ?_
  refine .p rfl rfl rfl ?_
  refine .chunk 4 23 ((decide (a0.Imm ≥ (-2048))) && (decide (a0.Imm ≤ 2047))) hS ?_ ?_
  · refine .both (decide (a0.Imm ≥ (-2048))) (fun hb => ?_) (fun hb => ?_)
    · have hg1 := hb
      refine .g hg1 (.r (fa T.f68_4 rfl rfl rfl) ?_ rfl rfl) rfl
      refine .g hg1 (.r (ld T.t3 hS rfl rfl rfl rfl rfl) ?_ rfl rfl) rfl
      refine .g hg1 (.p rfl rfl rfl ?_) rfl
      refine .r (pkt hg1 rfl rfl rfl) ?_ rfl rfl
      exact .nil (ck 4 hS rfl (and_t hg1) rfl rfl)
    · skip
      refine .x hb ?_ rfl rfl
      refine .x hb ?_ rfl rfl
      refine .x hb ?_ rfl rfl
      refine .r (pkf hb rfl rfl rfl) ?_ rfl rfl
      exact .nil (ck 4 hS rfl (and_f hb) rfl rfl)
  intro W hS
  refine .p rfl rfl rfl ?_
  refine .nil ?_
  refine .seq ?_
  refine .seq ?_
  refine .region ?_
  refine .r (fa T.f68_0 rfl rfl rfl) ?_ rfl rfl
  refine .r (ld T.t3 hS rfl rfl rfl rfl rfl) ?_ rfl rfl
  obtain ⟨y4, hy4, h⟩ := bnd h
  refine .c (.call0 hS Tryd.func89 (impl_formatOf_ok hy4) rfl rfl ?_ rfl (by kernel_rfl) rfl rfl)
  intro W hS
  refine .nil ?_
  refine .block ?_
  refine .seq ?_
  refine .region ?_
  refine .p rfl rfl rfl ?_
  refine .p rfl rfl rfl ?_
  refine .nil ?_
  refine .cond rfl (fun hb => ?_) (fun hb => ?_)
  · have h := sel_t hb h
    refine .seq ?_
    refine .region ?_
    refine .p rfl rfl rfl ?_
    refine .p rfl rfl rfl ?_
    refine .chunk 2 32 (y1 && y2) hS ?_ ?_
    · refine .both (y1) (fun hb => ?_) (fun hb => ?_)
      · have hg2 := hb
        refine .g hg2 (.p rfl rfl rfl ?_) rfl
        refine .r (pkt hg2 rfl rfl rfl) ?_ rfl rfl
        exact .nil (ck 2 hS rfl (and_t hg2) rfl rfl)
      · skip
        refine .x hb ?_ rfl rfl
        refine .r (pkf hb rfl rfl rfl) ?_ rfl rfl
        exact .nil (ck 2 hS rfl (and_f hb) rfl rfl)
    intro W hS
    refine .p rfl rfl rfl ?_
    refine .chunk 2 35 ((y1 && y2) && y3) hS ?_ ?_
    · refine .both (y1 && y2) (fun hb => ?_) (fun hb => ?_)
      · have hg3 := hb
        refine .g hg3 (.p rfl rfl rfl ?_) rfl
        refine .r (pkt hg3 rfl rfl rfl) ?_ rfl rfl
        exact .nil (ck 2 hS rfl (and_t hg3) rfl rfl)
      · skip
        refine .x hb ?_ rfl rfl
        refine .r (pkf hb rfl rfl rfl) ?_ rfl rfl
        exact .nil (ck 2 hS rfl (and_f hb) rfl rfl)
    intro W hS
    refine .p rfl rfl rfl ?_
    refine .chunk 4 40 (((y1 && y2) && y3) && (a0.Imm == 0)) hS ?_ ?_
    · refine .both ((y1 && y2) && y3) (fun hb => ?_) (fun hb => ?_)
      · have hg4 := hb
        refine .g hg4 (.r (fa T.f68_4 rfl rfl rfl) ?_ rfl rfl) rfl
        refine .g hg4 (.r (ld T.t3 hS rfl rfl rfl rfl rfl) ?_ rfl rfl) rfl
        refine .g hg4 (.p rfl rfl rfl ?_) rfl
        refine .r (pkt hg4 rfl rfl rfl) ?_ rfl rfl
        exact .nil (ck 4 hS rfl (and_t hg4) rfl rfl)
      · skip
        refine .x hb ?_ rfl rfl
        refine .x hb ?_ rfl rfl
        refine .x hb ?_ rfl rfl
        refine .r (pkf hb rfl rfl rfl) ?_ rfl rfl
        exact .nil (ck 4 hS rfl (and_f hb) rfl rfl)
    intro W hS
    refine .p rfl rfl rfl ?_
    refine .nil ?_
    refine .ret ?_
    cases h
    exact fin_ret (vs := [_]) () (rt rfl rn) rfl (hS.to [] rfl)
  · have h := sel_f hb h
    refine .seq ?_
    refine .region ?_
    refine .p rfl rfl rfl ?_
    refine .p rfl rfl rfl ?_
    refine .nil ?_
    refine .cond rfl (fun hb => ?_) (fun hb => ?_)
    · have h := sel_t hb h
      refine .seq ?_
      refine .region ?_
      refine .p rfl rfl rfl ?_
      refine .p rfl rfl rfl ?_
      refine .chunk 2 46 (y1 && y2) hS ?_ ?_
      · refine .both (y1) (fun hb => ?_) (fun hb => ?_)
        · have hg5 := hb
          refine .g hg5 (.p rfl rfl rfl ?_) rfl
          refine .r (pkt hg5 rfl rfl rfl) ?_ rfl rfl
          exact .nil (ck 2 hS rfl (and_t hg5) rfl rfl)
        · skip
          refine .x hb ?_ rfl rfl
          refine .r (pkf hb rfl rfl rfl) ?_ rfl rfl
          exact .nil (ck 2 hS rfl (and_f hb) rfl rfl)
      intro W hS
      refine .p rfl rfl rfl ?_
      refine .chunk 4 51 ((y1 && y2) && (a0.Rt == 0)) hS ?_ ?_
      · refine .both (y1 && y2) (fun hb => ?_) (fun hb => ?_)
        · have hg6 := hb
          refine .g hg6 (.r (fa T.f68_3 rfl rfl rfl) ?_ rfl rfl) rfl
          refine .g hg6 (.r (ld T.t3 hS rfl rfl rfl rfl rfl) ?_ rfl rfl) rfl
          refine .g hg6 (.p rfl rfl rfl ?_) rfl
          refine .r (pkt hg6 rfl rfl rfl) ?_ rfl rfl
          exact .nil (ck 4 hS rfl (and_t hg6) rfl rfl)
        · skip
          refine .x hb ?_ rfl rfl
          refine .x hb ?_ rfl rfl
          refine .x hb ?_ rfl rfl
          refine .r (pkf hb rfl rfl rfl) ?_ rfl rfl
          exact .nil (ck 4 hS rfl (and_f hb) rfl rfl)
      intro W hS
      refine .p rfl rfl rfl ?_
      refine .chunk 2 54 (((y1 && y2) && (a0.Rt == 0)) && ((decide (a0.Imm ≥ (-2048))) && (decide (a0.Imm ≤ 2047)))) hS ?_ ?_
      · refine .both ((y1 && y2) && (a0.Rt == 0)) (fun hb => ?_) (fun hb => ?_)
        · have hg7 := hb
          refine .g hg7 (.p rfl rfl rfl ?_) rfl
          refine .r (pkt hg7 rfl rfl rfl) ?_ rfl rfl
          exact .nil (ck 2 hS rfl (and_t hg7) rfl rfl)
        · skip
          refine .x hb ?_ rfl rfl
          refine .r (pkf hb rfl rfl rfl) ?_ rfl rfl
          exact .nil (ck 2 hS rfl (and_f hb) rfl rfl)
      intro W hS
      refine .p rfl rfl rfl ?_
      refine .nil ?_
      refine .ret ?_
      cases h
      exact fin_ret (vs := [_]) () (rt rfl rn) rfl (hS.to [] rfl)
    · have h := sel_f hb h
      refine .seq ?_
      refine .region ?_
      refine .p rfl rfl rfl ?_
      refine .p rfl rfl rfl ?_
      refine .nil ?_
      refine .cond rfl (fun hb => ?_) (fun hb => ?_)
      · have h := sel_t hb h
        refine .seq ?_
        refine .region ?_
        refine .r (fa T.f68_1 rfl rfl rfl) ?_ rfl rfl
        refine .r (ld T.t3 hS rfl rfl rfl rfl rfl) ?_ rfl rfl
        refine .p rfl rfl rfl ?_
        refine .p rfl rfl rfl ?_
        refine .chunk 2 62 ((a0.Rd == 0) && y2) hS ?_ ?_
        · refine .both (a0.Rd == 0) (fun hb => ?_) (fun hb => ?_)
          · have hg8 := hb
            refine .g hg8 (.p rfl rfl rfl ?_) rfl
            refine .r (pkt hg8 rfl rfl rfl) ?_ rfl rfl
            exact .nil (ck 2 hS rfl (and_t hg8) rfl rfl)
          · skip
            refine .x hb ?_ rfl rfl
            refine .r (pkf hb rfl rfl rfl) ?_ rfl rfl
            exact .nil (ck 2 hS rfl (and_f hb) rfl rfl)
        intro W hS
        refine .p rfl rfl rfl ?_
        refine .chunk 2 65 (((a0.Rd == 0) && y2) && y3) hS ?_ ?_
        · refine .both ((a0.Rd == 0) && y2) (fun hb => ?_) (fun hb => ?_)
          · have hg9 := hb
            refine .g hg9 (.p rfl rfl rfl ?_) rfl
            refine .r (pkt hg9 rfl rfl rfl) ?_ rfl rfl
            exact .nil (ck 2 hS rfl (and_t hg9) rfl rfl)
          · skip
            refine .x hb ?_ rfl rfl
            refine .r (pkf hb rfl rfl rfl) ?_ rfl rfl
            exact .nil (ck 2 hS rfl (and_f hb) rfl rfl)
        intro W hS
        refine .p rfl rfl rfl ?_
        refine .chunk 2 68 ((((a0.Rd == 0) && y2) && y3) && ((decide (a0.Imm ≥ (-2048))) && (decide (a0.Imm ≤ 2047)))) hS ?_ ?_
        · refine .both (((a0.Rd == 0) && y2) && y3) (fun hb => ?_) (fun hb => ?_)
          · have hg10 := hb
            refine .g hg10 (.p rfl rfl rfl ?_) rfl
            refine .r (pkt hg10 rfl rfl rfl) ?_ rfl rfl
            exact .nil (ck 2 hS rfl (and_t hg10) rfl rfl)
          · skip
            refine .x hb ?_ rfl rfl
            refine .r (pkf hb rfl rfl rfl) ?_ rfl rfl
            exact .nil (ck 2 hS rfl (and_f hb) rfl rfl)
        intro W hS
        refine .p rfl rfl rfl ?_
        refine .nil ?_
        refine .ret ?_
        cases h
        exact fin_ret (vs := [_]) () (rt rfl rn) rfl (hS.to [] rfl)
      · have h := sel_f hb h
        refine .seq ?_
        refine .region ?_
        refine .p rfl rfl rfl ?_
        refine .p rfl rfl rfl ?_
        refine .nil ?_
        refine .cond rfl (fun hb => ?_) (fun hb => ?_)
        · have h := sel_t hb h
          refine .seq ?_
          refine .region ?_
          refine .r (fa T.f68_1 rfl rfl rfl) ?_ rfl rfl
          refine .r (ld T.t3 hS rfl rfl rfl rfl rfl) ?_ rfl rfl
          refine .p rfl rfl rfl ?_
          refine .p rfl rfl rfl ?_
          refine .chunk 2 76 ((a0.Rd == 0) && y2) hS ?_ ?_
          · refine .both (a0.Rd == 0) (fun hb => ?_) (fun hb => ?_)
            · have hg11 := hb
              refine .g hg11 (.p rfl rfl rfl ?_) rfl
              refine .r (pkt hg11 rfl rfl rfl) ?_ rfl rfl
              exact .nil (ck 2 hS rfl (and_t hg11) rfl rfl)
            · skip
              refine .x hb ?_ rfl rfl
              refine .r (pkf hb rfl rfl rfl) ?_ rfl rfl
              exact .nil (ck 2 hS rfl (and_f hb) rfl rfl)
          intro W hS
          refine .p rfl rfl rfl ?_
          refine .chunk 2 79 (((a0.Rd == 0) && y2) && y3) hS ?_ ?_
          · refine .both ((a0.Rd == 0) && y2) (fun hb => ?_) (fun hb => ?_)
            · have hg12 := hb
              refine .g hg12 (.p rfl rfl rfl ?_) rfl
              refine .r (pkt hg12 rfl rfl rfl) ?_ rfl rfl
              exact .nil (ck 2 hS rfl (and_t hg12) rfl rfl)
            · skip
              refine .x hb ?_ rfl rfl
              refine .r (pkf hb rfl rfl rfl) ?_ rfl rfl
              exact .nil (ck 2 hS rfl (and_f hb) rfl rfl)
          intro W hS
          refine .p rfl rfl rfl ?_
          refine .chunk 4 84 ((((a0.Rd == 0) && y2) && y3) && (decide (a0.Imm ≥ (-4096)))) hS ?_ ?_
          · refine .both (((a0.Rd == 0) && y2) && y3) (fun hb => ?_) (fun hb => ?_)
            · have hg13 := hb
              refine .g hg13 (.r (fa T.f68_4 rfl rfl rfl) ?_ rfl rfl) rfl
              refine .g hg13 (.r (ld T.t3 hS rfl rfl rfl rfl rfl) ?_ rfl rfl) rfl
              refine .g hg13 (.p rfl rfl rfl ?_) rfl
              refine .r (pkt hg13 rfl rfl rfl) ?_ rfl rfl
              exact .nil (ck 4 hS rfl (and_t hg13) rfl rfl)
            · skip
              refine .x hb ?_ rfl rfl
              refine .x hb ?_ rfl rfl
              refine .x hb ?_ rfl rfl
              refine .r (pkf hb rfl rfl rfl) ?_ rfl rfl
              exact .nil (ck 4 hS rfl (and_f hb) rfl rfl)
          intro W hS
          refine .p rfl rfl rfl ?_
          refine .chunk 4 89 (((((a0.Rd == 0) && y2) && y3) && (decide (a0.Imm ≥ (-4096)))) && (decide (a0.Imm ≤ 4094))) hS ?_ ?_
          · refine .both ((((a0.Rd == 0) && y2) && y3) && (decide (a0.Imm ≥ (-4096)))) (fun hb => ?_) (fun hb => ?_)
            · have hg14 := hb
              refine .g hg14 (.r (fa T.f68_4 rfl rfl rfl) ?_ rfl rfl) rfl
              refine .g hg14 (.r (ld T.t3 hS rfl rfl rfl rfl rfl) ?_ rfl rfl) rfl
              refine .g hg14 (.p rfl rfl rfl ?_) rfl
              refine .r (pkt hg14 rfl rfl rfl) ?_ rfl rfl
              exact .nil (ck 4 hS rfl (and_t hg14) rfl rfl)
            · skip
              refine .x hb ?_ rfl rfl
              refine .x hb ?_ rfl rfl
              refine .x hb ?_ rfl rfl
              refine .r (pkf hb rfl rfl rfl) ?_ rfl rfl
              exact .nil (ck 4 hS rfl (and_f hb) rfl rfl)
          intro W hS
          refine .p rfl rfl rfl ?_
          refine .chunk 5 95 ((((((a0.Rd == 0) && y2) && y3) && (decide (a0.Imm ≥ (-4096)))) && (decide (a0.Imm ≤ 4094))) && ((Int.tmod a0.Imm 2) == 0)) hS ?_ ?_
          · refine .both (((((a0.Rd == 0) && y2) && y3) && (decide (a0.Imm ≥ (-4096)))) && (decide (a0.Imm ≤ 4094))) (fun hb => ?_) (fun hb => ?_)
            · have hg15 := hb
              refine .g hg15 (.r (fa T.f68_4 rfl rfl rfl) ?_ rfl rfl) rfl
              refine .g hg15 (.r (ld T.t3 hS rfl rfl rfl rfl rfl) ?_ rfl rfl) rfl
              refine .g hg15 (.p rfl rfl rfl ?_) rfl
              refine .g hg15 (.p rfl rfl rfl ?_) rfl
              refine .r (pkt hg15 rfl rfl rfl) ?_ rfl rfl
              exact .nil (ck 5 hS rfl (and_t hg15) rfl rfl)
            · skip
              refine .x hb ?_ rfl rfl
              refine .x hb ?_ rfl rfl
              refine .x hb ?_ rfl rfl
              refine .x hb ?_ rfl rfl
              refine .r (pkf hb rfl rfl rfl) ?_ rfl rfl
              exact .nil (ck 5 hS rfl (and_f hb) rfl rfl)
          intro W hS
          refine .p rfl rfl rfl ?_
          refine .nil ?_
          refine .ret ?_
          cases h
          exact fin_ret (vs := [_]) () (rt rfl rn) rfl (hS.to [] rfl)
        · have h := sel_f hb h
          refine .seq ?_
          refine .region ?_
          refine .p rfl rfl rfl ?_
          refine .p rfl rfl rfl ?_
          refine .nil ?_
          refine .cond rfl (fun hb => ?_) (fun hb => ?_)
          · have h := sel_t hb h
            refine .seq ?_
            refine .region ?_
            refine .p rfl rfl rfl ?_
            refine .p rfl rfl rfl ?_
            refine .chunk 4 103 (y1 && (a0.Rs == 0)) hS ?_ ?_
            · refine .both (y1) (fun hb => ?_) (fun hb => ?_)
              · have hg16 := hb
                refine .g hg16 (.r (fa T.f68_2 rfl rfl rfl) ?_ rfl rfl) rfl
                refine .g hg16 (.r (ld T.t3 hS rfl rfl rfl rfl rfl) ?_ rfl rfl) rfl
                refine .g hg16 (.p rfl rfl rfl ?_) rfl
                refine .r (pkt hg16 rfl rfl rfl) ?_ rfl rfl
                exact .nil (ck 4 hS rfl (and_t hg16) rfl rfl)
              · skip
                refine .x hb ?_ rfl rfl
                refine .x hb ?_ rfl rfl
                refine .x hb ?_ rfl rfl
                refine .r (pkf hb rfl rfl rfl) ?_ rfl rfl
                exact .nil (ck 4 hS rfl (and_f hb) rfl rfl)
            intro W hS
            refine .p rfl rfl rfl ?_
            refine .chunk 4 108 ((y1 && (a0.Rs == 0)) && (a0.Rt == 0)) hS ?_ ?_
            · refine .both (y1 && (a0.Rs == 0)) (fun hb => ?_) (fun hb => ?_)
              · have hg17 := hb
                refine .g hg17 (.r (fa T.f68_3 rfl rfl rfl) ?_ rfl rfl) rfl
                refine .g hg17 (.r (ld T.t3 hS rfl rfl rfl rfl rfl) ?_ rfl rfl) rfl
                refine .g hg17 (.p rfl rfl rfl ?_) rfl
                refine .r (pkt hg17 rfl rfl rfl) ?_ rfl rfl
                exact .nil (ck 4 hS rfl (and_t hg17) rfl rfl)
              · skip
                refine .x hb ?_ rfl rfl
                refine .x hb ?_ rfl rfl
                refine .x hb ?_ rfl rfl
                refine .r (pkf hb rfl rfl rfl) ?_ rfl rfl
                exact .nil (ck 4 hS rfl (and_f hb) rfl rfl)
            intro W hS
            refine .p rfl rfl rfl ?_
            refine .chunk 4 113 (((y1 && (a0.Rs == 0)) && (a0.Rt == 0)) && (decide (a0.Imm ≥ 0))) hS ?_ ?_
            · refine .both ((y1 && (a0.Rs == 0)) && (a0.Rt == 0)) (fun hb => ?_) (fun hb => ?_)
              · have hg18 := hb
                refine .g hg18 (.r (fa T.f68_4 rfl rfl rfl) ?_ rfl rfl) rfl
                refine .g hg18 (.r (ld T.t3 hS rfl rfl rfl rfl rfl) ?_ rfl rfl) rfl
                refine .g hg18 (.p rfl rfl rfl ?_) rfl
                refine .r (pkt hg18 rfl rfl rfl) ?_ rfl rfl
                exact .nil (ck 4 hS rfl (and_t hg18) rfl rfl)
              · skip
                refine .x hb ?_ rfl rfl
                refine .x hb ?_ rfl rfl
                refine .x hb ?_ rfl rfl
                refine .r (pkf hb rfl rfl rfl) ?_ rfl rfl
                exact .nil (ck 4 hS rfl (and_f hb) rfl rfl)
            intro W hS
            refine .p rfl rfl rfl ?_
            refine .chunk 4 118 ((((y1 && (a0.Rs == 0)) && (a0.Rt == 0)) && (decide (a0.Imm ≥ 0))) && (decide (a0.Imm ≤ 1048575))) hS ?_ ?_
            · refine .both (((y1 && (a0.Rs == 0)) && (a0.Rt == 0)) && (decide (a0.Imm ≥ 0))) (fun hb => ?_) (fun hb => ?_)
              · have hg19 := hb
                refine .g hg19 (.r (fa T.f68_4 rfl rfl rfl) ?_ rfl rfl) rfl
                refine .g hg19 (.r (ld T.t3 hS rfl rfl rfl rfl rfl) ?_ rfl rfl) rfl
                refine .g hg19 (.p rfl rfl rfl ?_) rfl
                refine .r (pkt hg19 rfl rfl rfl) ?_ rfl rfl
                exact .nil (ck 4 hS rfl (and_t hg19) rfl rfl)
              · skip
                refine .x hb ?_ rfl rfl
                refine .x hb ?_ rfl rfl
                refine .x hb ?_ rfl rfl
                refine .r (pkf hb rfl rfl rfl) ?_ rfl rfl
                exact .nil (ck 4 hS rfl (and_f hb) rfl rfl)
            intro W hS
            refine .p rfl rfl rfl ?_
            refine .nil ?_
            refine .ret ?_
            cases h
            exact fin_ret (vs := [_]) () (rt rfl rn) rfl (hS.to [] rfl)
          · have h := sel_f hb h
            refine .seq ?_
            refine .region ?_
            refine .p rfl rfl rfl ?_
            refine .p rfl rfl rfl ?_
            refine .nil ?_
            refine .cond rfl (fun hb => ?_) (fun hb => ?_)
            · have h := sel_t hb h
              refine .seq ?_
              refine .region ?_
              refine .p rfl rfl rfl ?_
              refine .p rfl rfl rfl ?_
              refine .chunk 4 126 (y1 && (a0.Rs == 0)) hS ?_ ?_
              · refine .both (y1) (fun hb => ?_) (fun hb => ?_)
                · have hg20 := hb
                  refine .g hg20 (.r (fa T.f68_2 rfl rfl rfl) ?_ rfl rfl) rfl
                  refine .g hg20 (.r (ld T.t3 hS rfl rfl rfl rfl rfl) ?_ rfl rfl) rfl
                  refine .g hg20 (.p rfl rfl rfl ?_) rfl
                  refine .r (pkt hg20 rfl rfl rfl) ?_ rfl rfl
                  exact .nil (ck 4 hS rfl (and_t hg20) rfl rfl)
                · skip
                  refine .x hb ?_ rfl rfl
                  refine .x hb ?_ rfl rfl
                  refine .x hb ?_ rfl rfl
                  refine .r (pkf hb rfl rfl rfl) ?_ rfl rfl
                  exact .nil (ck 4 hS rfl (and_f hb) rfl rfl)
              intro W hS
              refine .p rfl rfl rfl ?_
              refine .chunk 4 131 ((y1 && (a0.Rs == 0)) && (a0.Rt == 0)) hS ?_ ?_
              · refine .both (y1 && (a0.Rs == 0)) (fun hb => ?_) (fun hb => ?_)
                · have hg21 := hb
                  refine .g hg21 (.r (fa T.f68_3 rfl rfl rfl) ?_ rfl rfl) rfl
                  refine .g hg21 (.r (ld T.t3 hS rfl rfl rfl rfl rfl) ?_ rfl rfl) rfl
                  refine .g hg21 (.p rfl rfl rfl ?_) rfl
                  refine .r (pkt hg21 rfl rfl rfl) ?_ rfl rfl
                  exact .nil (ck 4 hS rfl (and_t hg21) rfl rfl)
                · skip
                  refine .x hb ?_ rfl rfl
                  refine .x hb ?_ rfl rfl
                  refine .x hb ?_ rfl rfl
                  refine .r (pkf hb rfl rfl rfl) ?_ rfl rfl
                  exact .nil (ck 4 hS rfl (and_f hb) rfl rfl)
              intro W hS
              refine .p rfl rfl rfl ?_
              refine .chunk 4 136 (((y1 && (a0.Rs == 0)) && (a0.Rt == 0)) && (decide (a0.Imm ≥ (-1048576)))) hS ?_ ?_
              · refine .both ((y1 && (a0.Rs == 0)) && (a0.Rt == 0)) (fun hb => ?_) (fun hb => ?_)
                · have hg22 := hb
                  refine .g hg22 (.r (fa T.f68_4 rfl rfl rfl) ?_ rfl rfl) rfl
                  refine .g hg22 (.r (ld T.t3 hS rfl rfl rfl rfl rfl) ?_ rfl rfl) rfl
                  refine .g hg22 (.p rfl rfl rfl ?_) rfl
                  refine .r (pkt hg22 rfl rfl rfl) ?_ rfl rfl
                  exact .nil (ck 4 hS rfl (and_t hg22) rfl rfl)
                · skip
                  refine .x hb ?_ rfl rfl
                  refine .x hb ?_ rfl rfl
                  refine .x hb ?_ rfl rfl
                  refine .r (pkf hb rfl rfl rfl) ?_ rfl rfl
                  exact .nil (ck 4 hS rfl (and_f hb) rfl rfl)
              intro W hS
              refine .p rfl rfl rfl ?_
              refine .chunk 4 141 ((((y1 && (a0.Rs == 0)) && (a0.Rt == 0)) && (decide (a0.Imm ≥ (-1048576)))) && (decide (a0.Imm ≤ 1048574))) hS ?_ ?_
              · refine .both (((y1 && (a0.Rs == 0)) && (a0.Rt == 0)) && (decide (a0.Imm ≥ (-1048576)))) (fun hb => ?_) (fun hb => ?_)
                · have hg23 := hb
                  refine .g hg23 (.r (fa T.f68_4 rfl rfl rfl) ?_ rfl rfl) rfl
                  refine .g hg23 (.r (ld T.t3 hS rfl rfl rfl rfl rfl) ?_ rfl rfl) rfl
                  refine .g hg23 (.p rfl rfl rfl ?_) rfl
                  refine .r (pkt hg23 rfl rfl rfl) ?_ rfl rfl
                  exact .nil (ck 4 hS rfl (and_t hg23) rfl rfl)
                · skip
                  refine .x hb ?_ rfl rfl
                  refine .x hb ?_ rfl rfl
                  refine .x hb ?_ rfl rfl
                  refine .r (pkf hb rfl rfl rfl) ?_ rfl rfl
                  exact .nil (ck 4 hS rfl (and_f hb) rfl rfl)
              intro W hS
              refine .p rfl rfl rfl ?_
              refine .chunk 5 147 (((((y1 && (a0.Rs == 0)) && (a0.Rt == 0)) && (decide (a0.Imm ≥ (-1048576)))) && (decide (a0.Imm ≤ 1048574))) && ((Int.tmod a0.Imm 2) == 0)) hS ?_ ?_
              · refine .both ((((y1 && (a0.Rs == 0)) && (a0.Rt == 0)) && (decide (a0.Imm ≥ (-1048576)))) && (decide (a0.Imm ≤ 1048574))) (fun hb => ?_) (fun hb => ?_)
                · have hg24 := hb
                  refine .g hg24 (.r (fa T.f68_4 rfl rfl rfl) ?_ rfl rfl) rfl
                  refine .g hg24 (.r (ld T.t3 hS rfl rfl rfl rfl rfl) ?_ rfl rfl) rfl
                  refine .g hg24 (.p rfl rfl rfl ?_) rfl
                  refine .g hg24 (.p rfl rfl rfl ?_) rfl
                  refine .r (pkt hg24 rfl rfl rfl) ?_ rfl rfl
                  exact .nil (ck 5 hS rfl (and_t hg24) rfl rfl)
                · skip
                  refine .x hb ?_ rfl rfl
                  refine .x hb ?_ rfl rfl
                  refine .x hb ?_ rfl rfl
                  refine .x hb ?_ rfl rfl
                  refine .r (pkf hb rfl rfl rfl) ?_ rfl rfl
                  exact .nil (ck 5 hS rfl (and_f hb) rfl rfl)
              intro W hS
              refine .p rfl rfl rfl ?_
              refine .nil ?_
              refine .ret ?_
              cases h
              exact fin_ret (vs := [_]) () (rt rfl rn) rfl (hS.to [] rfl)
            · have h := sel_f hb h
              refine .seq ?_
              refine .region ?_
              refine .p rfl rfl rfl ?_
              refine .p rfl rfl rfl ?_
              refine .nil ?_
              refine .cond rfl (fun hb => ?_) (fun hb => ?_)
              · have h := sel_t hb h
                refine .seq ?_
                refine .region ?_
                refine .r (ld T.t68 hS rfl rfl rfl rfl rfl) ?_ rfl rfl
                refine .r (bs T.s68 rfl rfl) ?_ rfl rfl
                refine .r (eqs T.e68 rfl rfl rfl rfl) ?_ rfl rfl
                refine .p rfl rfl rfl ?_
                refine .nil ?_
                refine .ret ?_
                cases h
                exact fin_ret (vs := [_]) () (rt rfl rn) rfl (hS.to [] rfl)
              · have h := sel_f hb h
                refine .skip ?_
                refine .seq ?_
                refine .region ?_
                refine .p rfl rfl rfl ?_
                refine .nil ?_
                refine .ret ?_
                cases h
                exact fin_ret (vs := [_]) () (rt rfl rn) rfl (hS.to [] rfl)
theorem impl_isUnsigned_ok {a0 : Int} {w : World} {r : Bool} (h : impl_isUnsigned a0 = some r) : Calls Tryd.prog 97 #[.int .i64 a0] w (Ret No w (fun s : Unit => .bool r) (fun s => [])) := by
  unfold impl_isUnsigned at h
  refine enter Tryd.func97 rfl rfl ?_
  have hS := Sep.start w
  refine .seq ?_
  refine .region ?_
  refine .p rfl rfl rfl ?_
  refine .nil ?_
  refine .seq ?_
  refine .region ?_
  refine .p rfl rfl rfl ?_
  refine .p rfl rfl rfl ?_
  refine .p rfl rfl rfl ?_
  refine .chunk 3 8 ((decide (a0 ≥ 0)) && (decide (a0 < 4294967296))) hS ?_ ?_
  · refine .both (decide (a0 ≥ 0)) (fun hb => ?_) (fun hb => ?_)
    · have hg1 := hb
      refine .g hg1 (.p rfl rfl rfl ?_) rfl
      refine .g hg1 (.p rfl rfl rfl ?_) rfl
      refine .r (pkt hg1 rfl rfl rfl) ?_ rfl rfl
      exact .nil (ck 3 hS rfl (and_t hg1) rfl rfl)
    · skip
      refine .x hb ?_ rfl rfl
      refine .x hb ?_ rfl rfl
      refine .r (pkf hb rfl rfl rfl) ?_ rfl rfl
      exact .nil (ck 3 hS rfl (and_f hb) rfl rfl)
  intro W hS
  refine .p rfl rfl rfl ?_
  refine .nil ?_
  refine .ret ?_
  cases h
  exact fin_ret (vs := [_]) () (rt rfl rn) rfl (hS.to [] rfl)
theorem impl_Bits_ok {a0 : Int} {a1 : Int} {a2 : Int} {w : World} {r : Int} (h : impl_Bits a0 a1 a2 = some r) : Calls Tryd.prog 88 #[.int .i64 a0, .int .i64 a1, .int .i64 a2] w (Ret No w (fun s : Unit => .int .i64 r) (fun s => [])) := by
  unfold impl_Bits at h
  refine enter Tryd.func88 rfl rfl ?_
  have hS := Sep.start w
  refine .seq ?_
  refine .region ?_
  refine .p rfl rfl rfl ?_
  refine .nil ?_
  refine .seq ?_
  refine .seq ?_
  refine .region ?_
  refine .p rfl rfl rfl ?_
  obtain ⟨y1, hy1, h⟩ := bnd h
  refine .c (.call0 hS Tryd.func97 (impl_isUnsigned_ok hy1) rfl rfl ?_ rfl (by kernel_rfl) rfl rfl)
  intro W hS
  refine .p rfl rfl rfl ?_
  refine .p rfl rfl rfl ?_
  refine .chunk 3 13 ((!y1) || (decide (a1 < 0))) hS ?_ ?_
  · refine .both (!y1) (fun hb => ?_) (fun hb => ?_)
    · skip
      refine .x hb ?_ rfl rfl
      refine .x hb ?_ rfl rfl
      refine .r (pkt hb rfl rfl rfl) ?_ rfl rfl
      exact .nil (ck 3 hS rfl (or_t hb) rfl rfl)
    · have hg1 := hb
      refine .g hg1 (.p rfl rfl rfl ?_) rfl
      refine .g hg1 (.p rfl rfl rfl ?_) rfl
      refine .r (pkf hg1 rfl rfl rfl) ?_ rfl rfl
      exact .nil (ck 3 hS rfl (or_f hg1) rfl rfl)
  intro W hS
  refine .p rfl rfl rfl ?_
  refine .chunk 3 17 (((!y1) || (decide (a1 < 0))) || (decide (a1 > 31))) hS ?_ ?_
  · refine .both ((!y1) || (decide (a1 < 0))) (fun hb => ?_) (fun hb => ?_)
    · skip
      refine .x hb ?_ rfl rfl
      refine .x hb ?_ rfl rfl
      refine .r (pkt hb rfl rfl rfl) ?_ rfl rfl
      exact .nil (ck 3 hS rfl (or_t hb) rfl rfl)
    · have hg2 := hb
      refine .g hg2 (.p rfl rfl rfl ?_) rfl
      refine .g hg2 (.p rfl rfl rfl ?_) rfl
      refine .r (pkf hg2 rfl rfl rfl) ?_ rfl rfl
      exact .nil (ck 3 hS rfl (or_f hg2) rfl rfl)
  intro W hS
  refine .p rfl rfl rfl ?_
  refine .chunk 3 21 ((((!y1) || (decide (a1 < 0))) || (decide (a1 > 31))) || (decide (a2 < 1))) hS ?_ ?_
  · refine .both (((!y1) || (decide (a1 < 0))) || (decide (a1 > 31))) (fun hb => ?_) (fun hb => ?_)
    · skip
      refine .x hb ?_ rfl rfl
      refine .x hb ?_ rfl rfl
      refine .r (pkt hb rfl rfl rfl) ?_ rfl rfl
      exact .nil (ck 3 hS rfl (or_t hb) rfl rfl)
    · have hg3 := hb
      refine .g hg3 (.p rfl rfl rfl ?_) rfl
      refine .g hg3 (.p rfl rfl rfl ?_) rfl
      refine .r (pkf hg3 rfl rfl rfl) ?_ rfl rfl
      exact .nil (ck 3 hS rfl (or_f hg3) rfl rfl)
  intro W hS
  refine .p rfl rfl rfl ?_
  refine .chunk 5 27 (((((!y1) || (decide (a1 < 0))) || (decide (a1 > 31))) || (decide (a2 < 1))) || (decide (a2 > (w64 (32 - a1))))) hS ?_ ?_
  · refine .both ((((!y1) || (decide (a1 < 0))) || (decide (a1 > 31))) || (decide (a2 < 1))) (fun hb => ?_) (fun hb => ?_)
    · skip
      refine .x hb ?_ rfl rfl
      refine .x hb ?_ rfl rfl
      refine .x hb ?_ rfl rfl
      refine .x hb ?_ rfl rfl
      refine .r (pkt hb rfl rfl rfl) ?_ rfl rfl
      exact .nil (ck 5 hS rfl (or_t hb) rfl rfl)
    · have hg4 := hb
      refine .g hg4 (.p rfl rfl rfl ?_) rfl
      refine .g hg4 (.p rfl rfl rfl ?_) rfl
      refine .g hg4 (.p rfl rfl rfl ?_) rfl
      refine .g hg4 (.p rfl rfl rfl ?_) rfl
      refine .r (pkf hg4 rfl rfl rfl) ?_ rfl rfl
      exact .nil (ck 5 hS rfl (or_f hg4) rfl rfl)
  intro W hS
  refine .nil ?_
  refine .cond rfl (fun hb => ?_) (fun hb => ?_)
  · have h := sel_t hb h
    refine .seq ?_
    refine .region ?_
    refine .p rfl rfl rfl ?_
    refine .nil ?_
    refine .ret ?_
    cases h
    exact fin_ret (vs := [_]) () (rt rfl rn) rfl (hS.to [] rfl)
  · have h := sel_f hb h
    refine .skip ?_
    refine .seq ?_
    refine .rk 8 hS [] T.mix ?_
    intro W hS
    have hT : Sep _ _ W [] := hS.to [] rfl
    refine .t1 0 rfl (fun W hT => pr rfl) hT ?_ (by kernel_rfl) rfl rfl
    refine .t1 1 rfl (fun W hT => pr rfl) hT ?_ (by kernel_rfl) rfl rfl
    obtain ⟨d1, hd1, h⟩ := bnd h
    refine .t1 2 rfl (fun W hT => shr_run hd1 rfl rfl rfl) hT ?_ (by kernel_rfl) rfl rfl
    refine .t1 3 rfl (fun W hT => pr rfl) hT ?_ (by kernel_rfl) rfl rfl
    obtain ⟨d2, hd2, h⟩ := bnd h
    refine .t1 4 rfl (fun W hT => shr_run hd2 rfl rfl rfl) hT ?_ (by kernel_rfl) rfl rfl
    refine .t1 5 rfl (fun W hT => pr rfl) hT ?_ (by kernel_rfl) rfl rfl
    refine .t1 6 rfl (fun W hT => pr rfl) hT ?_ (by kernel_rfl) rfl rfl
    refine .t1 7 rfl (fun W hT => pr rfl) hT ?_ (by kernel_rfl) rfl rfl
    refine .done ?_ (by kernel_rfl)
    refine .ret ?_
    cases h
    exact fin_ret (vs := [_]) () (rt rfl rn) rfl (hS.to [] rfl)
theorem impl_InstrEncode_1_ok {a0 : Int} {a1 : Int} {a2 : Int} {a3 : Int} {g_3 : Nat} {S : Nat → Prop} {w : World} {r : Int} (h : impl_InstrEncode_1 a0 a1 a2 a3 = some r) (hO : Owns w [.box g_3 3 [.int .i64 a3]] S) (hlt : ∀ b, S b → b < w.heap.size) : Calls Tryd.prog 87 #[.int .i64 a0, .int .i64 a1, .int .i64 a2, .pointer (some ⟨g_3, 0, none⟩)] w (Ret S w (fun s : Unit => .int .i64 r) (fun s => [.box g_3 3 [.int .i64 a3]])) := by
  unfold impl_InstrEncode_1 at h
  refine enter Tryd.func87 rfl rfl ?_
  have hS := Sep.startM hO hlt
  refine .seq ?_
  refine .region ?_
  refine .p rfl rfl rfl ?_
  refine .nil ?_
  refine .seq ?_
  refine .region ?_
  refine .r (ld T.t3 hS rfl rfl rfl rfl rfl) ?_ rfl rfl
  refine .p rfl rfl rfl ?_
  refine .p rfl rfl rfl ?_
  obtain ⟨y1, hy1, h⟩ := bnd h
  refine .c (.call0 hS Tryd.func88 (impl_Bits_ok hy1) rfl rfl ?_ rfl (by kernel_rfl) rfl rfl)
  intro W hS
  refine .p rfl rfl rfl ?_
  obtain ⟨d1, hd1, h⟩ := bnd h
  refine .r (shr_run hd1 rfl rfl rfl) ?_ rfl rfl
  refine .p rfl rfl rfl ?_
  refine .nil ?_
  refine .ret ?_
  cases h
  exact fin_ret (vs := [_]) () (rt rfl rn) rfl (hS.to [0] rfl)
theorem impl_InstrEncode_ok {a0 : Instr} {w : World} {r : Int × Bool} (h : impl_InstrEncode a0 = some r) (hG : Gl w) : Calls Tryd.prog 53 #[.agg #[.int .i64 a0.Op, .int .i64 a0.Rd, .int .i64 a0.Rs, .int .i64 a0.Rt, .int .i64 a0.Imm]] w (Ret No w (fun s : Unit => .tuple #[.int .i64 r.1, .bool r.2]) (fun s => [])) := by
  unfold impl_InstrEncode at h
  refine enter Tryd.func53 rfl rfl ?_
  have hS := Sep.start w
  refine .seq ?_
  refine .region ?_
  refine .c (.box hS rfl rfl ?_ rfl rfl)
  intro g1 W hS
  refine .p rfl rfl rfl ?_
  refine .p rfl rfl rfl ?_
  refine .nil ?_
  refine .seq ?_
  refine .seq ?_
  refine .region ?_
  refine .r (ld T.t68 hS rfl rfl rfl rfl rfl) ?_ rfl rfl
  obtain ⟨y1, hy1, h⟩ := bnd h
  refine .c (.call0 hS Tryd.func86 (impl_InstrValid_ok hy1) rfl rfl ?_ rfl (by kernel_rfl) rfl rfl)
  intro W hS
  refine .p rfl rfl rfl ?_
  refine .nil ?_
  refine .cond rfl (fun hb => ?_) (fun hb => ?_)
  · have h := sel_t hb h
    refine .seq ?_
    refine .region ?_
    refine .p rfl rfl rfl ?_
    refine .p rfl rfl rfl ?_
    refine .nil ?_
    refine .ret ?_
    cases h
    exact fin_ret (vs := [_, _]) () (rt rfl (rt rfl rn)) rfl (hS.to [] rfl)
  · have h := sel_f hb h
    refine .skip ?_
    refine .seq ?_
    refine .region ?_
    refine .r (fa T.f68_0 rfl rfl rfl) ?_ rfl rfl
    refine .r (ld T.t3 hS rfl rfl rfl rfl rfl) ?_ rfl rfl
    refine .p rfl rfl rfl ?_
    obtain ⟨x1, hx1, h⟩ := bnd h
    refine .r (ixt hx1 rfl T.u94 T.t93 rfl rfl rfl) ?_ rfl rfl
    refine .r (ldt (hG.at hS (fun _ _ h => h)).2 hx1 T.t93 rfl rfl rfl rfl rfl) ?_ rfl rfl
    refine .c (.alloc T.t93 hS ?_ rfl rfl rfl)
    intro g2 W hS
    refine .c (.st T.t93 hS rfl rfl rfl ?_ rfl rfl rfl rfl rfl)
    intro W hS
    refine .nil ?_
    refine .seq ?_
    refine .region ?_
    refine .r (fa T.f68_4 rfl rfl rfl) ?_ rfl rfl
    refine .r (ld T.t3 hS.p1 rfl rfl rfl rfl rfl) ?_ rfl rfl
    obtain ⟨y2, hy2, h⟩ := bnd h
    refine .c (.call0 hS Tryd.func73 (impl_Unsigned_ok hy2) rfl rfl ?_ rfl (by kernel_rfl) rfl rfl)
    intro W hS
    refine .c (.alloc T.t3 hS ?_ rfl rfl rfl)
    intro g3 W hS
    refine .c (.st T.t3 hS rfl rfl rfl ?_ rfl rfl rfl rfl rfl)
    intro W hS
    refine .nil ?_
    refine .seq ?_
    refine .region ?_
    refine .r (mf rfl rfl) ?_ rfl rfl
    refine .p rfl rfl rfl ?_
    refine .nil ?_
    refine .seq ?_
    refine .region ?_
    refine .r (fa T.f68_3 rfl rfl rfl) ?_ rfl rfl
    refine .r (ld T.t3 hS.p2 rfl rfl rfl rfl rfl) ?_ rfl rfl
    refine .p rfl rfl rfl ?_
    refine .r (fa T.f68_2 rfl rfl rfl) ?_ rfl rfl
    refine .r (ld T.t3 hS.p2 rfl rfl rfl rfl rfl) ?_ rfl rfl
    refine .p rfl rfl rfl ?_
    refine .p rfl rfl rfl ?_
    refine .r (fa T.f93_2 rfl rfl rfl) ?_ rfl rfl
    refine .r (ld T.t3 hS.p1 rfl rfl rfl rfl rfl) ?_ rfl rfl
    refine .p rfl rfl rfl ?_
    refine .p rfl rfl rfl ?_
    refine .r (fa T.f93_1 rfl rfl rfl) ?_ rfl rfl
    refine .r (ld T.t3 hS.p1 rfl rfl rfl rfl rfl) ?_ rfl rfl
    refine .p rfl rfl rfl ?_
    refine .p rfl rfl rfl ?_
    refine .nil ?_
    refine .seq ?_
    refine .seq ?_
    refine .region ?_
    refine .r (fa T.f68_0 rfl rfl rfl) ?_ rfl rfl
    refine .r (ld T.t3 hS.p2 rfl rfl rfl rfl rfl) ?_ rfl rfl
    obtain ⟨y3, hy3, h⟩ := bnd h
    refine .c (.call0 hS Tryd.func89 (impl_formatOf_ok hy3) rfl rfl ?_ rfl (by kernel_rfl) rfl rfl)
    intro W hS
    refine .nil ?_
    refine .block ?_
    refine .seq ?_
    refine .region ?_
    refine .p rfl rfl rfl ?_
    refine .p rfl rfl rfl ?_
    refine .nil ?_
    refine .cond rfl (fun hb => ?_) (fun hb => ?_)
    · have h := sel_t hb h
      refine .seq ?_
      refine .region ?_
      refine .r (fa T.f93_3 rfl rfl rfl) ?_ rfl rfl
      refine .r (ld T.t3 hS.p1 rfl rfl rfl rfl rfl) ?_ rfl rfl
      refine .p rfl rfl rfl ?_
      refine .p rfl rfl rfl ?_
      refine .p rfl rfl rfl ?_
      refine .r (fa T.f68_1 rfl rfl rfl) ?_ rfl rfl
      refine .r (ld T.t3 hS.p2 rfl rfl rfl rfl rfl) ?_ rfl rfl
      refine .p rfl rfl rfl ?_
      refine .p rfl rfl rfl ?_
      refine .p rfl rfl rfl ?_
      refine .p rfl rfl rfl ?_
      refine .nil ?_
      refine .ret ?_
      cases h
      exact fin_ret (vs := [_, _]) () (rt rfl (rt rfl rn)) rfl (hS.to [] rfl)
    · have h := sel_f hb h
      refine .seq ?_
      refine .region ?_
      refine .p rfl rfl rfl ?_
      refine .p rfl rfl rfl ?_
      refine .nil ?_
      refine .cond rfl (fun hb => ?_) (fun hb => ?_)
      · have h := sel_t hb h
        refine .seq ?_
        refine .rk 10 hS [0, 0, 0] T.mix ?_
        intro W hS
        have hT : Sep _ _ W [.box g3 3 [.int .i64 y2], .box g2 93 [.string x1.name, .int .i64 x1.opcode, .int .i64 x1.funct3, .int .i64 x1.funct7], .box g1 68 [.int .i64 a0.Op, .int .i64 a0.Rd, .int .i64 a0.Rs, .int .i64 a0.Rt, .int .i64 a0.Imm]] := hS.to [0, 0, 0] rfl
        refine .t1 0 rfl (fun W hT => pr rfl) hT ?_ (by kernel_rfl) rfl rfl
        refine .t1 2 rfl (fun W hT => pr rfl) hT ?_ (by kernel_rfl) rfl rfl
        refine .t1 4 rfl (fun W hT => fa T.f68_1 rfl rfl rfl) hT ?_ (by kernel_rfl) rfl rfl
        refine .t1 5 rfl (fun W hT => ld T.t3 hT.p2 rfl rfl rfl rfl rfl) hT ?_ (by kernel_rfl) rfl rfl
        refine .t1 6 rfl (fun W hT => pr rfl) hT ?_ (by kernel_rfl) rfl rfl
        obtain ⟨y4, hy4, h⟩ := bnd h
        refine .by1 1 rfl (.callC (L0 := [.box g3 3 [.int .i64 y2]]) (vs := [.int .i64 0, .int .i64 12, .int .i64 20]) (cap := [.pointer (some ⟨g3, 0, none⟩)]) hS Tryd.func87 (fun S h1 h2 h3 => (impl_InstrEncode_1_ok hy4 h2 (fun b hb => (h1 b hb).2))) rfl rfl rfl ?_ rfl (by kernel_rfl) rfl rfl) (by kernel_rfl)
        rintro ⟨⟩ W hS
        have hS : Sep _ _ W [.box g3 3 [.int .i64 y2], .box g2 93 [.string x1.name, .int .i64 x1.opcode, .int .i64 x1.funct3, .int .i64 x1.funct7], .box g1 68 [.int .i64 a0.Op, .int .i64 a0.Rd, .int .i64 a0.Rs, .int .i64 a0.Rt, .int .i64 a0.Imm]] := hS
        have hT : Sep _ _ W [.box g3 3 [.int .i64 y2], .box g2 93 [.string x1.name, .int .i64 x1.opcode, .int .i64 x1.funct3, .int .i64 x1.funct7], .box g1 68 [.int .i64 a0.Op, .int .i64 a0.Rd, .int .i64 a0.Rs, .int .i64 a0.Rt, .int .i64 a0.Imm]] := hS.to [0, 0, 0] rfl
        refine ⟨fun _ => hT, ?_⟩
        refine .t1 3 rfl (fun W hT => pr rfl) hT ?_ (by kernel_rfl) rfl rfl
        refine .t1 7 rfl (fun W hT => pr rfl) hT ?_ (by kernel_rfl) rfl rfl
        refine .t1 8 rfl (fun W hT => pr rfl) hT ?_ (by kernel_rfl) rfl rfl
        refine .t1 9 rfl (fun W hT => pr rfl) hT ?_ (by kernel_rfl) rfl rfl
        refine .done ?_ (by kernel_rfl)
        refine .ret ?_
        cases h
        exact fin_ret (vs := [_, _]) () (rt rfl (rt rfl rn)) rfl (hS.to [] rfl)
      · have h := sel_f hb h
        refine .seq ?_
        refine .region ?_
        refine .p rfl rfl rfl ?_
        refine .p rfl rfl rfl ?_
        refine .nil ?_
        refine .cond rfl (fun hb => ?_) (fun hb => ?_)
        · have h := sel_t hb h
          refine .seq ?_
          refine .region ?_
          refine .p rfl rfl rfl ?_
          obtain ⟨y5, hy5, h⟩ := bnd h
          refine .c (.callC (L0 := [.box g3 3 [.int .i64 y2]]) (vs := [.int .i64 5, .int .i64 7, .int .i64 25]) (cap := [.pointer (some ⟨g3, 0, none⟩)]) hS Tryd.func87 (fun S h1 h2 h3 => (impl_InstrEncode_1_ok hy5 h2 (fun b hb => (h1 b hb).2))) rfl rfl rfl ?_ rfl (by kernel_rfl) rfl rfl)
          rintro ⟨⟩ W hS
          have hS : Sep _ _ W [.box g3 3 [.int .i64 y2], .box g2 93 [.string x1.name, .int .i64 x1.opcode, .int .i64 x1.funct3, .int .i64 x1.funct7], .box g1 68 [.int .i64 a0.Op, .int .i64 a0.Rd, .int .i64 a0.Rs, .int .i64 a0.Rt, .int .i64 a0.Imm]] := hS
          refine .p rfl rfl rfl ?_
          refine .p rfl rfl rfl ?_
          refine .p rfl rfl rfl ?_
          obtain ⟨y6, hy6, h⟩ := bnd h
          refine .c (.callC (L0 := [.box g3 3 [.int .i64 y2]]) (vs := [.int .i64 0, .int .i64 5, .int .i64 7]) (cap := [.pointer (some ⟨g3, 0, none⟩)]) hS Tryd.func87 (fun S h1 h2 h3 => (impl_InstrEncode_1_ok hy6 h2 (fun b hb => (h1 b hb).2))) rfl rfl rfl ?_ rfl (by kernel_rfl) rfl rfl)
          rintro ⟨⟩ W hS
          have hS : Sep _ _ W [.box g3 3 [.int .i64 y2], .box g2 93 [.string x1.name, .int .i64 x1.opcode, .int .i64 x1.funct3, .int .i64 x1.funct7], .box g1 68 [.int .i64 a0.Op, .int .i64 a0.Rd, .int .i64 a0.Rs, .int .i64 a0.Rt, .int .i64 a0.Imm]] := hS
          refine .p rfl rfl rfl ?_
          refine .p rfl rfl rfl ?_
          refine .p rfl rfl rfl ?_
          refine .nil ?_
          refine .ret ?_
          cases h
          exact fin_ret (vs := [_, _]) () (rt rfl (rt rfl rn)) rfl (hS.to [] rfl)
        · have h := sel_f hb h
          refine .seq ?_
          refine .region ?_
          refine .p rfl rfl rfl ?_
          refine .p rfl rfl rfl ?_
          refine .nil ?_
          refine .cond rfl (fun hb => ?_) (fun hb => ?_)
          · have h := sel_t hb h
            refine .seq ?_
            refine .region ?_
            refine .p rfl rfl rfl ?_
            obtain ⟨y7, hy7, h⟩ := bnd h
            refine .c (.callC (L0 := [.box g3 3 [.int .i64 y2]]) (vs := [.int .i64 12, .int .i64 1, .int .i64 31]) (cap := [.pointer (some ⟨g3, 0, none⟩)]) hS Tryd.func87 (fun S h1 h2 h3 => (impl_InstrEncode_1_ok hy7 h2 (fun b hb => (h1 b hb).2))) rfl rfl rfl ?_ rfl (by kernel_rfl) rfl rfl)
            rintro ⟨⟩ W hS
            have hS : Sep _ _ W [.box g3 3 [.int .i64 y2], .box g2 93 [.string x1.name, .int .i64 x1.opcode, .int .i64 x1.funct3, .int .i64 x1.funct7], .box g1 68 [.int .i64 a0.Op, .int .i64 a0.Rd, .int .i64 a0.Rs, .int .i64 a0.Rt, .int .i64 a0.Imm]] := hS
            refine .p rfl rfl rfl ?_
            obtain ⟨y8, hy8, h⟩ := bnd h
            refine .c (.callC (L0 := [.box g3 3 [.int .i64 y2]]) (vs := [.int .i64 5, .int .i64 6, .int .i64 25]) (cap := [.pointer (some ⟨g3, 0, none⟩)]) hS Tryd.func87 (fun S h1 h2 h3 => (impl_InstrEncode_1_ok hy8 h2 (fun b hb => (h1 b hb).2))) rfl rfl rfl ?_ rfl (by kernel_rfl) rfl rfl)
            rintro ⟨⟩ W hS
            have hS : Sep _ _ W [.box g3 3 [.int .i64 y2], .box g2 93 [.string x1.name, .int .i64 x1.opcode, .int .i64 x1.funct3, .int .i64 x1.funct7], .box g1 68 [.int .i64 a0.Op, .int .i64 a0.Rd, .int .i64 a0.Rs, .int .i64 a0.Rt, .int .i64 a0.Imm]] := hS
            refine .p rfl rfl rfl ?_
            refine .p rfl rfl rfl ?_
            refine .p rfl rfl rfl ?_
            refine .p rfl rfl rfl ?_
            obtain ⟨y9, hy9, h⟩ := bnd h
            refine .c (.callC (L0 := [.box g3 3 [.int .i64 y2]]) (vs := [.int .i64 1, .int .i64 4, .int .i64 8]) (cap := [.pointer (some ⟨g3, 0, none⟩)]) hS Tryd.func87 (fun S h1 h2 h3 => (impl_InstrEncode_1_ok hy9 h2 (fun b hb => (h1 b hb).2))) rfl rfl rfl ?_ rfl (by kernel_rfl) rfl rfl)
            rintro ⟨⟩ W hS
            have hS : Sep _ _ W [.box g3 3 [.int .i64 y2], .box g2 93 [.string x1.name, .int .i64 x1.opcode, .int .i64 x1.funct3, .int .i64 x1.funct7], .box g1 68 [.int .i64 a0.Op, .int .i64 a0.Rd, .int .i64 a0.Rs, .int .i64 a0.Rt, .int .i64 a0.Imm]] := hS
            refine .p rfl rfl rfl ?_
            refine .p rfl rfl rfl ?_
            obtain ⟨y10, hy10, h⟩ := bnd h
            refine .c (.callC (L0 := [.box g3 3 [.int .i64 y2]]) (vs := [.int .i64 11, .int .i64 1, .int .i64 7]) (cap := [.pointer (some ⟨g3, 0, none⟩)]) hS Tryd.func87 (fun S h1 h2 h3 => (impl_InstrEncode_1_ok hy10 h2 (fun b hb => (h1 b hb).2))) rfl rfl rfl ?_ rfl (by kernel_rfl) rfl rfl)
            rintro ⟨⟩ W hS
            have hS : Sep _ _ W [.box g3 3 [.int .i64 y2], .box g2 93 [.string x1.name, .int .i64 x1.opcode, .int .i64 x1.funct3, .int .i64 x1.funct7], .box g1 68 [.int .i64 a0.Op, .int .i64 a0.Rd, .int .i64 a0.Rs, .int .i64 a0.Rt, .int .i64 a0.Imm]] := hS
            refine .p rfl rfl rfl ?_
            refine .p rfl rfl rfl ?_
            refine .p rfl rfl rfl ?_
            refine .nil ?_
            refine .ret ?_
            cases h
            exact fin_ret (vs := [_, _]) () (rt rfl (rt rfl rn)) rfl (hS.to [] rfl)
          · have h := sel_f hb h
            refine .seq ?_
            refine .region ?_
            refine .p rfl rfl rfl ?_
            refine .p rfl rfl rfl ?_
            refine .nil ?_
            refine .cond rfl (fun hb => ?_) (fun hb => ?_)
            · have h := sel_t hb h
              refine .seq ?_
              refine .rk 11 hS [0, 0, 0] T.mix ?_
              intro W hS
              have hT : Sep _ _ W [.box g3 3 [.int .i64 y2], .box g2 93 [.string x1.name, .int .i64 x1.opcode, .int .i64 x1.funct3, .int .i64 x1.funct7], .box g1 68 [.int .i64 a0.Op, .int .i64 a0.Rd, .int .i64 a0.Rs, .int .i64 a0.Rt, .int .i64 a0.Imm]] := hS.to [0, 0, 0] rfl
              refine .t1 0 rfl (fun W hT => pr rfl) hT ?_ (by kernel_rfl) rfl rfl
              refine .t1 2 rfl (fun W hT => fa T.f68_1 rfl rfl rfl) hT ?_ (by kernel_rfl) rfl rfl
              refine .t1 3 rfl (fun W hT => ld T.t3 hT.p2 rfl rfl rfl rfl rfl) hT ?_ (by kernel_rfl) rfl rfl
              refine .t1 4 rfl (fun W hT => pr rfl) hT ?_ (by kernel_rfl) rfl rfl
              refine .t1 6 rfl (fun W hT => fa T.f93_1 rfl rfl rfl) hT ?_ (by kernel_rfl) rfl rfl
              refine .t1 7 rfl (fun W hT => ld T.t3 hT.p1 rfl rfl rfl rfl rfl) hT ?_ (by kernel_rfl) rfl rfl
              obtain ⟨y11, hy11, h⟩ := bnd h
              refine .by1 1 rfl (.callC (L0 := [.box g3 3 [.int .i64 y2]]) (vs := [.int .i64 0, .int .i64 20, .int .i64 12]) (cap := [.pointer (some ⟨g3, 0, none⟩)]) hS Tryd.func87 (fun S h1 h2 h3 => (impl_InstrEncode_1_ok hy11 h2 (fun b hb => (h1 b hb).2))) rfl rfl rfl ?_ rfl (by kernel_rfl) rfl rfl) (by kernel_rfl)
              rintro ⟨⟩ W hS
              have hS : Sep _ _ W [.box g3 3 [.int .i64 y2], .box g2 93 [.string x1.name, .int .i64 x1.opcode, .int .i64 x1.funct3, .int .i64 x1.funct7], .box g1 68 [.int .i64 a0.Op, .int .i64 a0.Rd, .int .i64 a0.Rs, .int .i64 a0.Rt, .int .i64 a0.Imm]] := hS
              have hT : Sep _ _ W [.box g3 3 [.int .i64 y2], .box g2 93 [.string x1.name, .int .i64 x1.opcode, .int .i64 x1.funct3, .int .i64 x1.funct7], .box g1 68 [.int .i64 a0.Op, .int .i64 a0.Rd, .int .i64 a0.Rs, .int .i64 a0.Rt, .int .i64 a0.Imm]] := hS.to [0, 0, 0] rfl
              refine ⟨fun _ => hT, ?_⟩
              refine .t1 5 rfl (fun W hT => pr rfl) hT ?_ (by kernel_rfl) rfl rfl
              refine .t1 8 rfl (fun W hT => pr rfl) hT ?_ (by kernel_rfl) rfl rfl
              refine .t1 9 rfl (fun W hT => pr rfl) hT ?_ (by kernel_rfl) rfl rfl
              refine .t1 10 rfl (fun W hT => pr rfl) hT ?_ (by kernel_rfl) rfl rfl
              refine .done ?_ (by kernel_rfl)
              refine .ret ?_
              cases h
              exact fin_ret (vs := [_, _]) () (rt rfl (rt rfl rn)) rfl (hS.to [] rfl)
            · have h := sel_f hb h
              refine .seq ?_
              refine .region ?_
              refine .p rfl rfl rfl ?_
              refine .p rfl rfl rfl ?_
              refine .nil ?_
              refine .cond rfl (fun hb => ?_) (fun hb => ?_)
              · have h := sel_t hb h
                refine .seq ?_
                refine .rk 20 hS [0, 0, 0] T.mix ?_
                intro W hS
                have hT : Sep _ _ W [.box g3 3 [.int .i64 y2], .box g2 93 [.string x1.name, .int .i64 x1.opcode, .int .i64 x1.funct3, .int .i64 x1.funct7], .box g1 68 [.int .i64 a0.Op, .int .i64 a0.Rd, .int .i64 a0.Rs, .int .i64 a0.Rt, .int .i64 a0.Imm]] := hS.to [0, 0, 0] rfl
                refine .t1 0 rfl (fun W hT => pr rfl) hT ?_ (by kernel_rfl) rfl rfl
                refine .t1 2 rfl (fun W hT => pr rfl) hT ?_ (by kernel_rfl) rfl rfl
                refine .t1 5 rfl (fun W hT => pr rfl) hT ?_ (by kernel_rfl) rfl rfl
                refine .t1 8 rfl (fun W hT => pr rfl) hT ?_ (by kernel_rfl) rfl rfl
                refine .t1 11 rfl (fun W hT => fa T.f68_1 rfl rfl rfl) hT ?_ (by kernel_rfl) rfl rfl
                refine .t1 12 rfl (fun W hT => ld T.t3 hT.p2 rfl rfl rfl rfl rfl) hT ?_ (by kernel_rfl) rfl rfl
                refine .t1 13 rfl (fun W hT => pr rfl) hT ?_ (by kernel_rfl) rfl rfl
                refine .t1 15 rfl (fun W hT => fa T.f93_1 rfl rfl rfl) hT ?_ (by kernel_rfl) rfl rfl
                refine .t1 16 rfl (fun W hT => ld T.t3 hT.p1 rfl rfl rfl rfl rfl) hT ?_ (by kernel_rfl) rfl rfl
                obtain ⟨y12, hy12, h⟩ := bnd h
                refine .by1 1 rfl (.callC (L0 := [.box g3 3 [.int .i64 y2]]) (vs := [.int .i64 20, .int .i64 1, .int .i64 31]) (cap := [.pointer (some ⟨g3, 0, none⟩)]) hS Tryd.func87 (fun S h1 h2 h3 => (impl_InstrEncode_1_ok hy12 h2 (fun b hb => (h1 b hb).2))) rfl rfl rfl ?_ rfl (by kernel_rfl) rfl rfl) (by kernel_rfl)
                rintro ⟨⟩ W hS
                have hS : Sep _ _ W [.box g3 3 [.int .i64 y2], .box g2 93 [.string x1.name, .int .i64 x1.opcode, .int .i64 x1.funct3, .int .i64 x1.funct7], .box g1 68 [.int .i64 a0.Op, .int .i64 a0.Rd, .int .i64 a0.Rs, .int .i64 a0.Rt, .int .i64 a0.Imm]] := hS
                have hT : Sep _ _ W [.box g3 3 [.int .i64 y2], .box g2 93 [.string x1.name, .int .i64 x1.opcode, .int .i64 x1.funct3, .int .i64 x1.funct7], .box g1 68 [.int .i64 a0.Op, .int .i64 a0.Rd, .int .i64 a0.Rs, .int .i64 a0.Rt, .int .i64 a0.Imm]] := hS.to [0, 0, 0] rfl
                refine ⟨fun _ => hT, ?_⟩
                obtain ⟨y13, hy13, h⟩ := bnd h
                refine .by1 3 rfl (.callC (L0 := [.box g3 3 [.int .i64 y2]]) (vs := [.int .i64 1, .int .i64 10, .int .i64 21]) (cap := [.pointer (some ⟨g3, 0, none⟩)]) hS Tryd.func87 (fun S h1 h2 h3 => (impl_InstrEncode_1_ok hy13 h2 (fun b hb => (h1 b hb).2))) rfl rfl rfl ?_ rfl (by kernel_rfl) rfl rfl) (by kernel_rfl)
                rintro ⟨⟩ W hS
                have hS : Sep _ _ W [.box g3 3 [.int .i64 y2], .box g2 93 [.string x1.name, .int .i64 x1.opcode, .int .i64 x1.funct3, .int .i64 x1.funct7], .box g1 68 [.int .i64 a0.Op, .int .i64 a0.Rd, .int .i64 a0.Rs, .int .i64 a0.Rt, .int .i64 a0.Imm]] := hS
                have hT : Sep _ _ W [.box g3 3 [.int .i64 y2], .box g2 93 [.string x1.name, .int .i64 x1.opcode, .int .i64 x1.funct3, .int .i64 x1.funct7], .box g1 68 [.int .i64 a0.Op, .int .i64 a0.Rd, .int .i64 a0.Rs, .int .i64 a0.Rt, .int .i64 a0.Imm]] := hS.to [0, 0, 0] rfl
                refine ⟨fun _ => hT, ?_⟩
                refine .t1 4 rfl (fun W hT => pr rfl) hT ?_ (by kernel_rfl) rfl rfl
                obtain ⟨y14, hy14, h⟩ := bnd h
                refine .by1 6 rfl (.callC (L0 := [.box g3 3 [.int .i64 y2]]) (vs := [.int .i64 11, .int .i64 1, .int .i64 20]) (cap := [.pointer (some ⟨g3, 0, none⟩)]) hS Tryd.func87 (fun S h1 h2 h3 => (impl_InstrEncode_1_ok hy14 h2 (fun b hb => (h1 b hb).2))) rfl rfl rfl ?_ rfl (by kernel_rfl) rfl rfl) (by kernel_rfl)
                rintro ⟨⟩ W hS
                have hS : Sep _ _ W [.box g3 3 [.int .i64 y2], .box g2 93 [.string x1.name, .int .i64 x1.opcode, .int .i64 x1.funct3, .int .i64 x1.funct7], .box g1 68 [.int .i64 a0.Op, .int .i64 a0.Rd, .int .i64 a0.Rs, .int .i64 a0.Rt, .int .i64 a0.Imm]] := hS
                have hT : Sep _ _ W [.box g3 3 [.int .i64 y2], .box g2 93 [.string x1.name, .int .i64 x1.opcode, .int .i64 x1.funct3, .int .i64 x1.funct7], .box g1 68 [.int .i64 a0.Op, .int .i64 a0.Rd, .int .i64 a0.Rs, .int .i64 a0.Rt, .int .i64 a0.Imm]] := hS.to [0, 0, 0] rfl
                refine ⟨fun _ => hT, ?_⟩
                refine .t1 7 rfl (fun W hT => pr rfl) hT ?_ (by kernel_rfl) rfl rfl
                obtain ⟨y15, hy15, h⟩ := bnd h
                refine .by1 9 rfl (.callC (L0 := [.box g3 3 [.int .i64 y2]]) (vs := [.int .i64 12, .int .i64 8, .int .i64 12]) (cap := [.pointer (some ⟨g3, 0, none⟩)]) hS Tryd.func87 (fun S h1 h2 h3 => (impl_InstrEncode_1_ok hy15 h2 (fun b hb => (h1 b hb).2))) rfl rfl rfl ?_ rfl (by kernel_rfl) rfl rfl) (by kernel_rfl)
                rintro ⟨⟩ W hS
                have hS : Sep _ _ W [.box g3 3 [.int .i64 y2], .box g2 93 [.string x1.name, .int .i64 x1.opcode, .int .i64 x1.funct3, .int .i64 x1.funct7], .box g1 68 [.int .i64 a0.Op, .int .i64 a0.Rd, .int .i64 a0.Rs, .int .i64 a0.Rt, .int .i64 a0.Imm]] := hS
                have hT : Sep _ _ W [.box g3 3 [.int .i64 y2], .box g2 93 [.string x1.name, .int .i64 x1.opcode, .int .i64 x1.funct3, .int .i64 x1.funct7], .box g1 68 [.int .i64 a0.Op, .int .i64 a0.Rd, .int .i64 a0.Rs, .int .i64 a0.Rt, .int .i64 a0.Imm]] := hS.to [0, 0, 0] rfl
                refine ⟨fun _ => hT, ?_⟩
                refine .t1 10 rfl (fun W hT => pr rfl) hT ?_ (by kernel_rfl) rfl rfl
                refine .t1 14 rfl (fun W hT => pr rfl) hT ?_ (by kernel_rfl) rfl rfl
                refine .t1 17 rfl (fun W hT => pr rfl) hT ?_ (by kernel_rfl) rfl rfl
                refine .t1 18 rfl (fun W hT => pr rfl) hT ?_ (by kernel_rfl) rfl rfl
                refine .t1 19 rfl (fun W hT => pr rfl) hT ?_ (by kernel_rfl) rfl rfl
                refine .done ?_ (by kernel_rfl)
                refine .ret ?_
                cases h
                exact fin_ret (vs := [_, _]) () (rt rfl (rt rfl rn)) rfl (hS.to [] rfl)
              · have h := sel_f hb h
                refine .skip ?_
                refine .seq ?_
                refine .region ?_
                refine .r (fa T.f93_1 rfl rfl rfl) ?_ rfl rfl
                refine .r (ld T.t3 hS.p1 rfl rfl rfl rfl rfl) ?_ rfl rfl
                refine .p rfl rfl rfl ?_
                refine .p rfl rfl rfl ?_
                refine .nil ?_
                refine .ret ?_
                cases h
                exact fin_ret (vs := [_, _]) () (rt rfl (rt rfl rn)) rfl (hS.to [] rfl)
def impl_wordsOf_F (w : World) (r : (List Int) × Bool) : Env → World → Prop := Fin Tryd.prog Tryd.f31 No w (fun s : Hd => .tuple #[(sv s), .bool r.2]) (fun s => [rowV (sv s) 3 1 (D.int .i64) r.1]) .ret
theorem impl_wordsOf_ok {a0 : List Instr} {v_0 : Hd} {w : World} {r : (List Int) × Bool} (h : impl_wordsOf a0 = some r) (q_0 : RV w (Old No w) (sv v_0) 68 5 dInstr a0) (hG : Gl w) : Calls Tryd.prog 31 #[(sv v_0)] w (Ret No w (fun s : Hd => .tuple #[(sv s), .bool r.2]) (fun s => [rowV (sv s) 3 1 (D.int .i64) r.1])) := by
  unfold impl_wordsOf at h
  refine enter Tryd.func31 rfl rfl ?_
  have hS := Sep.start w
  refine .seq ?_
  refine .region ?_
  refine .p rfl rfl rfl ?_
  refine .p rfl rfl rfl ?_
  refine .nil ?_
  refine .seq ?_
  refine .region ?_
  refine .p rfl rfl rfl ?_
  refine .nil ?_
  refine .seq ?_
  refine .seq ?_
  refine .region ?_
  refine .p rfl rfl rfl ?_
  refine .r (lenv (hS.keep q_0) T.u51 rfl rfl) ?_ rfl rfl
  refine .p rfl rfl rfl ?_
  refine .nil ?_
  refine .block ?_
  have hS := hS.nilv 3 1 (D.int .i64)
  obtain ⟨y1, hy1, h⟩ := bnd h
  refine .via (.iter (fun s1 E' W' => ∃ (v3 : Hd), SubL E' [(4, (sv v3)), (9, (sv v_0)), (10, .int .i64 (a0.length : Int)), (11, .int .i64 s1.2)] ∧ Sep No w W' [rowV (sv v3) 3 1 (D.int .i64) s1.1]) (fun y2 x E' W' => (match y2 with | .inl o1 => x = .ret ∧ impl_wordsOf_F w o1 E' W' | .inr o2 => x = .exit 0 ∧ ∃ (v4 : Hd), SubL E' [(4, (sv v4))] ∧ Sep No w W' [rowV (sv v4) 3 1 (D.int .i64) o2])) hy1 ⟨nilH, sb rfl, hS.to [0] rfl⟩ ?_) ?_
  · intro s1 y3 E W h hI
    obtain ⟨v2, hE, hS⟩ := hI
    refine CW.sub hE ?_
    unfold impl_wordsOf_b1 at h
    refine .seq ?_
    refine .region ?_
    refine .p rfl rfl rfl ?_
    refine .nil ?_
    refine .seq ?_
    refine .cond rfl (fun hb => ?_) (fun hb => ?_)
    · have h := sel_t hb h
      refine .skip ?_
      refine .seq ?_
      refine .block ?_
      refine .seq ?_
      refine .region ?_
      obtain ⟨x1, hx1, h⟩ := bnd h
      refine .r (ixv (hS.keep q_0) hx1 T.u51 T.t68 rfl rfl rfl) ?_ rfl rfl
      refine .r (lde (RV.flat (hS.keep q_0) hx1 rfl) T.t68 rfl rfl rfl rfl rfl) ?_ rfl rfl
      refine .c (.alloc T.t68 hS ?_ rfl rfl rfl)
      intro g1 W hS
      refine .c (.st T.t68 hS rfl rfl rfl ?_ rfl rfl rfl rfl rfl)
      intro W hS
      refine .nil ?_
      refine .seq ?_
      refine .region ?_
      refine .r (ld T.t68 hS rfl rfl rfl rfl rfl) ?_ rfl rfl
      obtain ⟨y4, hy4, h⟩ := bnd h
      refine .c (.call0 hS Tryd.func53 (impl_InstrEncode_ok hy4 (hG.at hS (fun _ _ h => h))) rfl rfl ?_ rfl (by kernel_rfl) rfl rfl)
      intro W hS
      refine .p rfl rfl rfl ?_
      refine .p rfl rfl rfl ?_
      refine .p rfl rfl rfl ?_
      refine .p rfl rfl rfl ?_
      refine .p rfl rfl rfl ?_
      refine .nil ?_
      refine .seq ?_
      refine .seq ?_
      refine .region ?_
      refine .p rfl rfl rfl ?_
      refine .p rfl rfl rfl ?_
      refine .nil ?_
      refine .cond rfl (fun hb => ?_) (fun hb => ?_)
      · have h := sel_t hb h
        refine .seq ?_
        refine .region ?_
        refine .p rfl rfl rfl ?_
        refine .p rfl rfl rfl ?_
        refine .nil ?_
        refine .ret ?_
        have hS := hS.nilv 3 1 (D.int .i64)
        cases h
        exact ⟨by simp, rfl, fin_ret (vs := [_, _]) nilH (rt rfl (rt rfl rn)) rfl (hS.to [0] rfl)⟩
      · have h := sel_f hb h
        refine .skip ?_
        refine .region ?_
        refine .p rfl rfl rfl ?_
        refine .p rfl rfl rfl ?_
        obtain ⟨y5, hy5, h⟩ := bnd h
        refine .c (.call0 hS Tryd.func42 (impl_Wrap_ok hy5) rfl rfl ?_ rfl (by kernel_rfl) rfl rfl)
        intro W hS
        refine .c (.liv [y5] (D.int .i64) T.u22 T.t3 hS rfl rfl rfl rfl ?_ rfl (fun _ => rfl) rfl rfl rfl rfl)
        intro v5 W hS
        obtain ⟨r1, hr1, h⟩ := bnd h
        have hT0 := hS.p2
        refine .c (.apprv hr1 hT0 hT0.p1.lendv (fun _ => rfl) T.u22 T.t3 rfl rfl rfl ?_ rfl rfl rfl rfl rfl)
        intro v6 W hS
        refine .p rfl rfl rfl ?_
        refine .nil ?_
        refine .region ?_
        refine .p rfl rfl rfl ?_
        refine .p rfl rfl rfl ?_
        refine .nil ?_
        cases h
        exact ⟨rfl, v6, sb rfl, hS.to [0] rfl⟩
    · have h := sel_f hb h
      refine .exit ?_
      cases h
      exact ⟨by simp, rfl, v2, sb rfl, hS.to [0] rfl⟩
  · intro x E W hJ
    rcases y1 with o3 | o4
    · skip
      obtain ⟨rfl, hF⟩ := hJ
      refine ⟨_, fun _ _ h => h, ?_⟩
      cases h
      exact hF
    · skip
      obtain ⟨rfl, v7, hE, hS⟩ := hJ
      refine ⟨_, hE.sub, ?_⟩
      refine .seq ?_
      refine .region ?_
      refine .p rfl rfl rfl ?_
      refine .p rfl rfl rfl ?_
      refine .p rfl rfl rfl ?_
      refine .nil ?_
      refine .ret ?_
      cases h
      exact fin_ret (vs := [_, _]) v7 (rt rfl (rt rfl rn)) rfl (hS.to [0] rfl)
theorem impl_addi_ok {a0 : Int} {a1 : Int} {a2 : Int} {w : World} {r : Instr} (h : impl_addi a0 a1 a2 = some r) : Calls Tryd.prog 54 #[.int .i64 a0, .int .i64 a1, .int .i64 a2] w (Ret No w (fun s : Unit => .agg #[.int .i64 r.Op, .int .i64 r.Rd, .int .i64 r.Rs, .int .i64 r.Rt, .int .i64 r.Imm]) (fun s => [])) := by
  unfold impl_addi at h
  refine enter Tryd.func54 rfl rfl ?_
  have hS := Sep.start w
  refine .seq ?_
  refine .region ?_
  refine .c (.alloc T.t68 hS ?_ rfl rfl rfl)
  intro g1 W hS
  refine .nil ?_
  refine .seq ?_
  refine .region ?_
  refine .p rfl rfl rfl ?_
  refine .p rfl rfl rfl ?_
  refine .p rfl rfl rfl ?_
  refine .r (bs T.s68 rfl rfl) ?_ rfl rfl
  refine .c (.st T.t68 hS rfl rfl rfl ?_ rfl rfl rfl rfl rfl)
  intro W hS
  refine .nil ?_
  refine .ret ?_
  cases h
  exact fin_ret (vs := [_]) () (rc hS T.t68 rfl rn rfl rfl) rfl (hS.to [] rfl)
theorem impl_branch_ok {a0 : Int} {a1 : Int} {a2 : Int} {a3 : Int} {a4 : Int} {w : World} {r : Instr} (h : impl_branch a0 a1 a2 a3 a4 = some r) : Calls Tryd.prog 55 #[.int .i64 a0, .int .i64 a1, .int .i64 a2, .int .i64 a3, .int .i64 a4] w (Ret No w (fun s : Unit => .agg #[.int .i64 r.Op, .int .i64 r.Rd, .int .i64 r.Rs, .int .i64 r.Rt, .int .i64 r.Imm]) (fun s => [])) := by
  unfold impl_branch at h
  refine enter Tryd.func55 rfl rfl ?_
  have hS := Sep.start w
  refine .seq ?_
  refine .region ?_
  refine .c (.alloc T.t68 hS ?_ rfl rfl rfl)
  intro g1 W hS
  refine .nil ?_
  refine .seq ?_
  refine .region ?_
  refine .p rfl rfl rfl ?_
  refine .p rfl rfl rfl ?_
  refine .p rfl rfl rfl ?_
  refine .p rfl rfl rfl ?_
  refine .p rfl rfl rfl ?_
  refine .p rfl rfl rfl ?_
  refine .p rfl rfl rfl ?_
  refine .r (bs T.s68 rfl rfl) ?_ rfl rfl
  refine .c (.st T.t68 hS rfl rfl rfl ?_ rfl rfl rfl rfl rfl)
  intro W hS
  refine .nil ?_
  refine .ret ?_
  cases h
  exact fin_ret (vs := [_]) () (rc hS T.t68 rfl rn rfl rfl) rfl (hS.to [] rfl)
theorem impl_jumpTo_ok {a0 : Int} {a1 : Int} {w : World} {r : Instr} (h : impl_jumpTo a0 a1 = some r) : Calls Tryd.prog 56 #[.int .i64 a0, .int .i64 a1] w (Ret No w (fun s : Unit => .agg #[.int .i64 r.Op, .int .i64 r.Rd, .int .i64 r.Rs, .int .i64 r.Rt, .int .i64 r.Imm]) (fun s => [])) := by
  unfold impl_jumpTo at h
  refine enter Tryd.func56 rfl rfl ?_
  have hS := Sep.start w
  refine .seq ?_
  refine .region ?_
  refine .c (.alloc T.t68 hS ?_ rfl rfl rfl)
  intro g1 W hS
  refine .nil ?_
  refine .seq ?_
  refine .region ?_
  refine .p rfl rfl rfl ?_
  refine .p rfl rfl rfl ?_
  refine .p rfl rfl rfl ?_
  refine .p rfl rfl rfl ?_
  refine .r (bs T.s68 rfl rfl) ?_ rfl rfl
  refine .c (.st T.t68 hS rfl rfl rfl ?_ rfl rfl rfl rfl rfl)
  intro W hS
  refine .nil ?_
  refine .ret ?_
  cases h
  exact fin_ret (vs := [_]) () (rc hS T.t68 rfl rn rfl rfl) rfl (hS.to [] rfl)
theorem impl_three_ok {a0 : Int} {a1 : Int} {a2 : Int} {a3 : Int} {w : World} {r : Instr} (h : impl_three a0 a1 a2 a3 = some r) : Calls Tryd.prog 57 #[.int .i64 a0, .int .i64 a1, .int .i64 a2, .int .i64 a3] w (Ret No w (fun s : Unit => .agg #[.int .i64 r.Op, .int .i64 r.Rd, .int .i64 r.Rs, .int .i64 r.Rt, .int .i64 r.Imm]) (fun s => [])) := by
  unfold impl_three at h
  refine enter Tryd.func57 rfl rfl ?_
  have hS := Sep.start w
  refine .seq ?_
  refine .region ?_
  refine .c (.alloc T.t68 hS ?_ rfl rfl rfl)
  intro g1 W hS
  refine .nil ?_
  refine .seq ?_
  refine .region ?_
  refine .p rfl rfl rfl ?_
  refine .p rfl rfl rfl ?_
  refine .p rfl rfl rfl ?_
  refine .p rfl rfl rfl ?_
  refine .r (bs T.s68 rfl rfl) ?_ rfl rfl
  refine .c (.st T.t68 hS rfl rfl rfl ?_ rfl rfl rfl rfl rfl)
  intro W hS
  refine .nil ?_
  refine .ret ?_
  cases h
  exact fin_ret (vs := [_]) () (rc hS T.t68 rfl rn rfl rfl) rfl (hS.to [] rfl)
theorem impl_lw_ok {a0 : Int} {a1 : Int} {a2 : Int} {w : World} {r : Instr} (h : impl_lw a0 a1 a2 = some r) : Calls Tryd.prog 58 #[.int .i64 a0, .int .i64 a1, .int .i64 a2] w (Ret No w (fun s : Unit => .agg #[.int .i64 r.Op, .int .i64 r.Rd, .int .i64 r.Rs, .int .i64 r.Rt, .int .i64 r.Imm]) (fun s => [])) := by
  unfold impl_lw at h
  refine enter Tryd.func58 rfl rfl ?_
  have hS := Sep.start w
  refine .seq ?_
  refine .region ?_
  refine .c (.alloc T.t68 hS ?_ rfl rfl rfl)
  intro g1 W hS
  refine .nil ?_
  refine .seq ?_
  refine .region ?_
  refine .p rfl rfl rfl ?_
  refine .p rfl rfl rfl ?_
  refine .p rfl rfl rfl ?_
  refine .r (bs T.s68 rfl rfl) ?_ rfl rfl
  refine .c (.st T.t68 hS rfl rfl rfl ?_ rfl rfl rfl rfl rfl)
  intro W hS
  refine .nil ?_
  refine .ret ?_
  cases h
  exact fin_ret (vs := [_]) () (rc hS T.t68 rfl rn rfl rfl) rfl (hS.to [] rfl)
theorem impl_sw_ok {a0 : Int} {a1 : Int} {a2 : Int} {w : World} {r : Instr} (h : impl_sw a0 a1 a2 = some r) : Calls Tryd.prog 59 #[.int .i64 a0, .int .i64 a1, .int .i64 a2] w (Ret No w (fun s : Unit => .agg #[.int .i64 r.Op, .int .i64 r.Rd, .int .i64 r.Rs, .int .i64 r.Rt, .int .i64 r.Imm]) (fun s => [])) := by
  unfold impl_sw at h
  refine enter Tryd.func59 rfl rfl ?_
  have hS := Sep.start w
  refine .seq ?_
  refine .region ?_
  refine .c (.alloc T.t68 hS ?_ rfl rfl rfl)
  intro g1 W hS
  refine .nil ?_
  refine .seq ?_
  refine .region ?_
  refine .p rfl rfl rfl ?_
  refine .p rfl rfl rfl ?_
  refine .p rfl rfl rfl ?_
  refine .r (bs T.s68 rfl rfl) ?_ rfl rfl
  refine .c (.st T.t68 hS rfl rfl rfl ?_ rfl rfl rfl rfl rfl)
  intro W hS
  refine .nil ?_
  refine .ret ?_
  cases h
  exact fin_ret (vs := [_]) () (rc hS T.t68 rfl rn rfl rfl) rfl (hS.to [] rfl)
theorem impl_back_ok {a0 : Int} {w : World} {r : Instr} (h : impl_back a0 = some r) : Calls Tryd.prog 60 #[.int .i64 a0] w (Ret No w (fun s : Unit => .agg #[.int .i64 r.Op, .int .i64 r.Rd, .int .i64 r.Rs, .int .i64 r.Rt, .int .i64 r.Imm]) (fun s => [])) := by
  unfold impl_back at h
  refine enter Tryd.func60 rfl rfl ?_
  have hS := Sep.start w
  refine .seq ?_
  refine .region ?_
  refine .c (.alloc T.t68 hS ?_ rfl rfl rfl)
  intro g1 W hS
  refine .nil ?_
  refine .seq ?_
  refine .region ?_
  refine .p rfl rfl rfl ?_
  refine .r (bs T.s68 rfl rfl) ?_ rfl rfl
  refine .c (.st T.t68 hS rfl rfl rfl ?_ rfl rfl rfl rfl rfl)
  intro W hS
  refine .nil ?_
  refine .ret ?_
  cases h
  exact fin_ret (vs := [_]) () (rc hS T.t68 rfl rn rfl rfl) rfl (hS.to [] rfl)
theorem impl_runtimeList_ok {w : World} {r : (List Instr)} (h : impl_runtimeList = some r) (hG : Gl w) : Calls Tryd.prog 32 #[] w (Ret No w (fun s : Hd => (sv s)) (fun s => [rowV (sv s) 68 5 dInstr r])) := by
  unfold impl_runtimeList at h
  refine enter Tryd.func32 rfl rfl ?_
  have hS := Sep.start w
  refine .seq ?_
  refine .region ?_
  refine .p rfl rfl rfl ?_
  refine .nil ?_
  refine .seq ?_
  refine .region ?_
  refine .r (bs T.s68 rfl rfl) ?_ rfl rfl
  refine .c (.alloc T.t68 hS ?_ rfl rfl rfl)
  intro g1 W hS
  refine .c (.st T.t68 hS rfl rfl rfl ?_ rfl rfl rfl rfl rfl)
  intro W hS
  refine .nil ?_
  refine .seq ?_
  refine .rk 57 hS [0] T.mix ?_
  intro W hS
  have hT : Sep _ _ W [.box g1 68 [.int .i64 21, .int .i64 0, .int .i64 0, .int .i64 0, .int .i64 0]] := hS.to [0] rfl
  refine .t1 44 rfl (fun W hT => ld T.t68 hT rfl rfl rfl rfl rfl) hT ?_ (by kernel_rfl) rfl rfl
  obtain ⟨y1, hy1, h⟩ := bnd h
  refine .by1 0 rfl (.call0 hS Tryd.func54 (impl_addi_ok hy1) rfl rfl ?_ rfl (by kernel_rfl) rfl rfl) (by kernel_rfl)
  intro W hS
  have hT : Sep _ _ W [.box g1 68 [.int .i64 21, .int .i64 0, .int .i64 0, .int .i64 0, .int .i64 0]] := hS.to [0] rfl
  refine ⟨fun _ => hT, ?_⟩
  obtain ⟨y2, hy2, h⟩ := bnd h
  refine .by1 1 rfl (.call0 hS Tryd.func55 (impl_branch_ok hy2) rfl rfl ?_ rfl (by kernel_rfl) rfl rfl) (by kernel_rfl)
  intro W hS
  have hT : Sep _ _ W [.box g1 68 [.int .i64 21, .int .i64 0, .int .i64 0, .int .i64 0, .int .i64 0]] := hS.to [0] rfl
  refine ⟨fun _ => hT, ?_⟩
  obtain ⟨y3, hy3, h⟩ := bnd h
  refine .by1 2 rfl (.call0 hS Tryd.func54 (impl_addi_ok hy3) rfl rfl ?_ rfl (by kernel_rfl) rfl rfl) (by kernel_rfl)
  intro W hS
  have hT : Sep _ _ W [.box g1 68 [.int .i64 21, .int .i64 0, .int .i64 0, .int .i64 0, .int .i64 0]] := hS.to [0] rfl
  refine ⟨fun _ => hT, ?_⟩
  obtain ⟨y4, hy4, h⟩ := bnd h
  refine .by1 3 rfl (.call0 hS Tryd.func55 (impl_branch_ok hy4) rfl rfl ?_ rfl (by kernel_rfl) rfl rfl) (by kernel_rfl)
  intro W hS
  have hT : Sep _ _ W [.box g1 68 [.int .i64 21, .int .i64 0, .int .i64 0, .int .i64 0, .int .i64 0]] := hS.to [0] rfl
  refine ⟨fun _ => hT, ?_⟩
  obtain ⟨y5, hy5, h⟩ := bnd h
  refine .by1 4 rfl (.call0 hS Tryd.func54 (impl_addi_ok hy5) rfl rfl ?_ rfl (by kernel_rfl) rfl rfl) (by kernel_rfl)
  intro W hS
  have hT : Sep _ _ W [.box g1 68 [.int .i64 21, .int .i64 0, .int .i64 0, .int .i64 0, .int .i64 0]] := hS.to [0] rfl
  refine ⟨fun _ => hT, ?_⟩
  obtain ⟨y6, hy6, h⟩ := bnd h
  refine .by1 5 rfl (.call0 hS Tryd.func55 (impl_branch_ok hy6) rfl rfl ?_ rfl (by kernel_rfl) rfl rfl) (by kernel_rfl)
  intro W hS
  have hT : Sep _ _ W [.box g1 68 [.int .i64 21, .int .i64 0, .int .i64 0, .int .i64 0, .int .i64 0]] := hS.to [0] rfl
  refine ⟨fun _ => hT, ?_⟩
  obtain ⟨y7, hy7, h⟩ := bnd h
  refine .by1 6 rfl (.call0 hS Tryd.func54 (impl_addi_ok hy7) rfl rfl ?_ rfl (by kernel_rfl) rfl rfl) (by kernel_rfl)
  intro W hS
  have hT : Sep _ _ W [.box g1 68 [.int .i64 21, .int .i64 0, .int .i64 0, .int .i64 0, .int .i64 0]] := hS.to [0] rfl
  refine ⟨fun _ => hT, ?_⟩
  obtain ⟨y8, hy8, h⟩ := bnd h
  refine .by1 7 rfl (.call0 hS Tryd.func55 (impl_branch_ok hy8) rfl rfl ?_ rfl (by kernel_rfl) rfl rfl) (by kernel_rfl)
  intro W hS
  have hT : Sep _ _ W [.box g1 68 [.int .i64 21, .int .i64 0, .int .i64 0, .int .i64 0, .int .i64 0]] := hS.to [0] rfl
  refine ⟨fun _ => hT, ?_⟩
  obtain ⟨y9, hy9, h⟩ := bnd h
  refine .by1 8 rfl (.call0 hS Tryd.func56 (impl_jumpTo_ok hy9) rfl rfl ?_ rfl (by kernel_rfl) rfl rfl) (by kernel_rfl)
  intro W hS
  have hT : Sep _ _ W [.box g1 68 [.int .i64 21, .int .i64 0, .int .i64 0, .int .i64 0, .int .i64 0]] := hS.to [0] rfl
  refine ⟨fun _ => hT, ?_⟩
  obtain ⟨y10, hy10, h⟩ := bnd h
  refine .by1 9 rfl (.call0 hS Tryd.func54 (impl_addi_ok hy10) rfl rfl ?_ rfl (by kernel_rfl) rfl rfl) (by kernel_rfl)
  intro W hS
  have hT : Sep _ _ W [.box g1 68 [.int .i64 21, .int .i64 0, .int .i64 0, .int .i64 0, .int .i64 0]] := hS.to [0] rfl
  refine ⟨fun _ => hT, ?_⟩
  obtain ⟨y11, hy11, h⟩ := bnd h
  refine .by1 10 rfl (.call0 hS Tryd.func57 (impl_three_ok hy11) rfl rfl ?_ rfl (by kernel_rfl) rfl rfl) (by kernel_rfl)
  intro W hS
  have hT : Sep _ _ W [.box g1 68 [.int .i64 21, .int .i64 0, .int .i64 0, .int .i64 0, .int .i64 0]] := hS.to [0] rfl
  refine ⟨fun _ => hT, ?_⟩
  obtain ⟨y12, hy12, h⟩ := bnd h
  refine .by1 11 rfl (.call0 hS Tryd.func57 (impl_three_ok hy12) rfl rfl ?_ rfl (by kernel_rfl) rfl rfl) (by kernel_rfl)
  intro W hS
  have hT : Sep _ _ W [.box g1 68 [.int .i64 21, .int .i64 0, .int .i64 0, .int .i64 0, .int .i64 0]] := hS.to [0] rfl
  refine ⟨fun _ => hT, ?_⟩
  obtain ⟨y13, hy13, h⟩ := bnd h
  refine .by1 12 rfl (.call0 hS Tryd.func58 (impl_lw_ok hy13) rfl rfl ?_ rfl (by kernel_rfl) rfl rfl) (by kernel_rfl)
  intro W hS
  have hT : Sep _ _ W [.box g1 68 [.int .i64 21, .int .i64 0, .int .i64 0, .int .i64 0, .int .i64 0]] := hS.to [0] rfl
  refine ⟨fun _ => hT, ?_⟩
  obtain ⟨y14, hy14, h⟩ := bnd h
  refine .by1 13 rfl (.call0 hS Tryd.func58 (impl_lw_ok hy14) rfl rfl ?_ rfl (by kernel_rfl) rfl rfl) (by kernel_rfl)
  intro W hS
  have hT : Sep _ _ W [.box g1 68 [.int .i64 21, .int .i64 0, .int .i64 0, .int .i64 0, .int .i64 0]] := hS.to [0] rfl
  refine ⟨fun _ => hT, ?_⟩
  obtain ⟨y15, hy15, h⟩ := bnd h
  refine .by1 14 rfl (.call0 hS Tryd.func55 (impl_branch_ok hy15) rfl rfl ?_ rfl (by kernel_rfl) rfl rfl) (by kernel_rfl)
  intro W hS
  have hT : Sep _ _ W [.box g1 68 [.int .i64 21, .int .i64 0, .int .i64 0, .int .i64 0, .int .i64 0]] := hS.to [0] rfl
  refine ⟨fun _ => hT, ?_⟩
  obtain ⟨y16, hy16, h⟩ := bnd h
  refine .by1 15 rfl (.call0 hS Tryd.func58 (impl_lw_ok hy16) rfl rfl ?_ rfl (by kernel_rfl) rfl rfl) (by kernel_rfl)
  intro W hS
  have hT : Sep _ _ W [.box g1 68 [.int .i64 21, .int .i64 0, .int .i64 0, .int .i64 0, .int .i64 0]] := hS.to [0] rfl
  refine ⟨fun _ => hT, ?_⟩
  obtain ⟨y17, hy17, h⟩ := bnd h
  refine .by1 16 rfl (.call0 hS Tryd.func57 (impl_three_ok hy17) rfl rfl ?_ rfl (by kernel_rfl) rfl rfl) (by kernel_rfl)
  intro W hS
  have hT : Sep _ _ W [.box g1 68 [.int .i64 21, .int .i64 0, .int .i64 0, .int .i64 0, .int .i64 0]] := hS.to [0] rfl
  refine ⟨fun _ => hT, ?_⟩
  obtain ⟨y18, hy18, h⟩ := bnd h
  refine .by1 17 rfl (.call0 hS Tryd.func57 (impl_three_ok hy18) rfl rfl ?_ rfl (by kernel_rfl) rfl rfl) (by kernel_rfl)
  intro W hS
  have hT : Sep _ _ W [.box g1 68 [.int .i64 21, .int .i64 0, .int .i64 0, .int .i64 0, .int .i64 0]] := hS.to [0] rfl
  refine ⟨fun _ => hT, ?_⟩
  obtain ⟨y19, hy19, h⟩ := bnd h
  refine .by1 18 rfl (.call0 hS Tryd.func54 (impl_addi_ok hy19) rfl rfl ?_ rfl (by kernel_rfl) rfl rfl) (by kernel_rfl)
  intro W hS
  have hT : Sep _ _ W [.box g1 68 [.int .i64 21, .int .i64 0, .int .i64 0, .int .i64 0, .int .i64 0]] := hS.to [0] rfl
  refine ⟨fun _ => hT, ?_⟩
  obtain ⟨y20, hy20, h⟩ := bnd h
  refine .by1 19 rfl (.call0 hS Tryd.func57 (impl_three_ok hy20) rfl rfl ?_ rfl (by kernel_rfl) rfl rfl) (by kernel_rfl)
  intro W hS
  have hT : Sep _ _ W [.box g1 68 [.int .i64 21, .int .i64 0, .int .i64 0, .int .i64 0, .int .i64 0]] := hS.to [0] rfl
  refine ⟨fun _ => hT, ?_⟩
  obtain ⟨y21, hy21, h⟩ := bnd h
  refine .by1 20 rfl (.call0 hS Tryd.func57 (impl_three_ok hy21) rfl rfl ?_ rfl (by kernel_rfl) rfl rfl) (by kernel_rfl)
  intro W hS
  have hT : Sep _ _ W [.box g1 68 [.int .i64 21, .int .i64 0, .int .i64 0, .int .i64 0, .int .i64 0]] := hS.to [0] rfl
  refine ⟨fun _ => hT, ?_⟩
  obtain ⟨y22, hy22, h⟩ := bnd h
  refine .by1 21 rfl (.call0 hS Tryd.func59 (impl_sw_ok hy22) rfl rfl ?_ rfl (by kernel_rfl) rfl rfl) (by kernel_rfl)
  intro W hS
  have hT : Sep _ _ W [.box g1 68 [.int .i64 21, .int .i64 0, .int .i64 0, .int .i64 0, .int .i64 0]] := hS.to [0] rfl
  refine ⟨fun _ => hT, ?_⟩
  obtain ⟨y23, hy23, h⟩ := bnd h
  refine .by1 22 rfl (.call0 hS Tryd.func54 (impl_addi_ok hy23) rfl rfl ?_ rfl (by kernel_rfl) rfl rfl) (by kernel_rfl)
  intro W hS
  have hT : Sep _ _ W [.box g1 68 [.int .i64 21, .int .i64 0, .int .i64 0, .int .i64 0, .int .i64 0]] := hS.to [0] rfl
  refine ⟨fun _ => hT, ?_⟩
  obtain ⟨y24, hy24, h⟩ := bnd h
  refine .by1 23 rfl (.call0 hS Tryd.func59 (impl_sw_ok hy24) rfl rfl ?_ rfl (by kernel_rfl) rfl rfl) (by kernel_rfl)
  intro W hS
  have hT : Sep _ _ W [.box g1 68 [.int .i64 21, .int .i64 0, .int .i64 0, .int .i64 0, .int .i64 0]] := hS.to [0] rfl
  refine ⟨fun _ => hT, ?_⟩
  obtain ⟨y25, hy25, h⟩ := bnd h
  refine .by1 24 rfl (.call0 hS Tryd.func59 (impl_sw_ok hy25) rfl rfl ?_ rfl (by kernel_rfl) rfl rfl) (by kernel_rfl)
  intro W hS
  have hT : Sep _ _ W [.box g1 68 [.int .i64 21, .int .i64 0, .int .i64 0, .int .i64 0, .int .i64 0]] := hS.to [0] rfl
  refine ⟨fun _ => hT, ?_⟩
  obtain ⟨y26, hy26, h⟩ := bnd h
  refine .by1 25 rfl (.call0 hS Tryd.func60 (impl_back_ok hy26) rfl rfl ?_ rfl (by kernel_rfl) rfl rfl) (by kernel_rfl)
  intro W hS
  have hT : Sep _ _ W [.box g1 68 [.int .i64 21, .int .i64 0, .int .i64 0, .int .i64 0, .int .i64 0]] := hS.to [0] rfl
  refine ⟨fun _ => hT, ?_⟩
  obtain ⟨y27, hy27, h⟩ := bnd h
  refine .by1 26 rfl (.call0 hS Tryd.func54 (impl_addi_ok hy27) rfl rfl ?_ rfl (by kernel_rfl) rfl rfl) (by kernel_rfl)
  intro W hS
  have hT : Sep _ _ W [.box g1 68 [.int .i64 21, .int .i64 0, .int .i64 0, .int .i64 0, .int .i64 0]] := hS.to [0] rfl
  refine ⟨fun _ => hT, ?_⟩
  obtain ⟨y28, hy28, h⟩ := bnd h
  refine .by1 27 rfl (.call0 hS Tryd.func57 (impl_three_ok hy28) rfl rfl ?_ rfl (by kernel_rfl) rfl rfl) (by kernel_rfl)
  intro W hS
  have hT : Sep _ _ W [.box g1 68 [.int .i64 21, .int .i64 0, .int .i64 0, .int .i64 0, .int .i64 0]] := hS.to [0] rfl
  refine ⟨fun _ => hT, ?_⟩
  obtain ⟨y29, hy29, h⟩ := bnd h
  refine .by1 28 rfl (.call0 hS Tryd.func57 (impl_three_ok hy29) rfl rfl ?_ rfl (by kernel_rfl) rfl rfl) (by kernel_rfl)
  intro W hS
  have hT : Sep _ _ W [.box g1 68 [.int .i64 21, .int .i64 0, .int .i64 0, .int .i64 0, .int .i64 0]] := hS.to [0] rfl
  refine ⟨fun _ => hT, ?_⟩
  obtain ⟨y30, hy30, h⟩ := bnd h
  refine .by1 29 rfl (.call0 hS Tryd.func58 (impl_lw_ok hy30) rfl rfl ?_ rfl (by kernel_rfl) rfl rfl) (by kernel_rfl)
  intro W hS
  have hT : Sep _ _ W [.box g1 68 [.int .i64 21, .int .i64 0, .int .i64 0, .int .i64 0, .int .i64 0]] := hS.to [0] rfl
  refine ⟨fun _ => hT, ?_⟩
  obtain ⟨y31, hy31, h⟩ := bnd h
  refine .by1 30 rfl (.call0 hS Tryd.func55 (impl_branch_ok hy31) rfl rfl ?_ rfl (by kernel_rfl) rfl rfl) (by kernel_rfl)
  intro W hS
  have hT : Sep _ _ W [.box g1 68 [.int .i64 21, .int .i64 0, .int .i64 0, .int .i64 0, .int .i64 0]] := hS.to [0] rfl
  refine ⟨fun _ => hT, ?_⟩
  obtain ⟨y32, hy32, h⟩ := bnd h
  refine .by1 31 rfl (.call0 hS Tryd.func58 (impl_lw_ok hy32) rfl rfl ?_ rfl (by kernel_rfl) rfl rfl) (by kernel_rfl)
  intro W hS
  have hT : Sep _ _ W [.box g1 68 [.int .i64 21, .int .i64 0, .int .i64 0, .int .i64 0, .int .i64 0]] := hS.to [0] rfl
  refine ⟨fun _ => hT, ?_⟩
  obtain ⟨y33, hy33, h⟩ := bnd h
  refine .by1 32 rfl (.call0 hS Tryd.func58 (impl_lw_ok hy33) rfl rfl ?_ rfl (by kernel_rfl) rfl rfl) (by kernel_rfl)
  intro W hS
  have hT : Sep _ _ W [.box g1 68 [.int .i64 21, .int .i64 0, .int .i64 0, .int .i64 0, .int .i64 0]] := hS.to [0] rfl
  refine ⟨fun _ => hT, ?_⟩
  obtain ⟨y34, hy34, h⟩ := bnd h
  refine .by1 33 rfl (.call0 hS Tryd.func54 (impl_addi_ok hy34) rfl rfl ?_ rfl (by kernel_rfl) rfl rfl) (by kernel_rfl)
  intro W hS
  have hT : Sep _ _ W [.box g1 68 [.int .i64 21, .int .i64 0, .int .i64 0, .int .i64 0, .int .i64 0]] := hS.to [0] rfl
  refine ⟨fun _ => hT, ?_⟩
  obtain ⟨y35, hy35, h⟩ := bnd h
  refine .by1 34 rfl (.call0 hS Tryd.func57 (impl_three_ok hy35) rfl rfl ?_ rfl (by kernel_rfl) rfl rfl) (by kernel_rfl)
  intro W hS
  have hT : Sep _ _ W [.box g1 68 [.int .i64 21, .int .i64 0, .int .i64 0, .int .i64 0, .int .i64 0]] := hS.to [0] rfl
  refine ⟨fun _ => hT, ?_⟩
  obtain ⟨y36, hy36, h⟩ := bnd h
  refine .by1 35 rfl (.call0 hS Tryd.func57 (impl_three_ok hy36) rfl rfl ?_ rfl (by kernel_rfl) rfl rfl) (by kernel_rfl)
  intro W hS
  have hT : Sep _ _ W [.box g1 68 [.int .i64 21, .int .i64 0, .int .i64 0, .int .i64 0, .int .i64 0]] := hS.to [0] rfl
  refine ⟨fun _ => hT, ?_⟩
  obtain ⟨y37, hy37, h⟩ := bnd h
  refine .by1 36 rfl (.call0 hS Tryd.func58 (impl_lw_ok hy37) rfl rfl ?_ rfl (by kernel_rfl) rfl rfl) (by kernel_rfl)
  intro W hS
  have hT : Sep _ _ W [.box g1 68 [.int .i64 21, .int .i64 0, .int .i64 0, .int .i64 0, .int .i64 0]] := hS.to [0] rfl
  refine ⟨fun _ => hT, ?_⟩
  obtain ⟨y38, hy38, h⟩ := bnd h
  refine .by1 37 rfl (.call0 hS Tryd.func54 (impl_addi_ok hy38) rfl rfl ?_ rfl (by kernel_rfl) rfl rfl) (by kernel_rfl)
  intro W hS
  have hT : Sep _ _ W [.box g1 68 [.int .i64 21, .int .i64 0, .int .i64 0, .int .i64 0, .int .i64 0]] := hS.to [0] rfl
  refine ⟨fun _ => hT, ?_⟩
  obtain ⟨y39, hy39, h⟩ := bnd h
  refine .by1 38 rfl (.call0 hS Tryd.func57 (impl_three_ok hy39) rfl rfl ?_ rfl (by kernel_rfl) rfl rfl) (by kernel_rfl)
  intro W hS
  have hT : Sep _ _ W [.box g1 68 [.int .i64 21, .int .i64 0, .int .i64 0, .int .i64 0, .int .i64 0]] := hS.to [0] rfl
  refine ⟨fun _ => hT, ?_⟩
  obtain ⟨y40, hy40, h⟩ := bnd h
  refine .by1 39 rfl (.call0 hS Tryd.func59 (impl_sw_ok hy40) rfl rfl ?_ rfl (by kernel_rfl) rfl rfl) (by kernel_rfl)
  intro W hS
  have hT : Sep _ _ W [.box g1 68 [.int .i64 21, .int .i64 0, .int .i64 0, .int .i64 0, .int .i64 0]] := hS.to [0] rfl
  refine ⟨fun _ => hT, ?_⟩
  obtain ⟨y41, hy41, h⟩ := bnd h
  refine .by1 40 rfl (.call0 hS Tryd.func54 (impl_addi_ok hy41) rfl rfl ?_ rfl (by kernel_rfl) rfl rfl) (by kernel_rfl)
  intro W hS
  have hT : Sep _ _ W [.box g1 68 [.int .i64 21, .int .i64 0, .int .i64 0, .int .i64 0, .int .i64 0]] := hS.to [0] rfl
  refine ⟨fun _ => hT, ?_⟩
  obtain ⟨y42, hy42, h⟩ := bnd h
  refine .by1 41 rfl (.call0 hS Tryd.func59 (impl_sw_ok hy42) rfl rfl ?_ rfl (by kernel_rfl) rfl rfl) (by kernel_rfl)
  intro W hS
  have hT : Sep _ _ W [.box g1 68 [.int .i64 21, .int .i64 0, .int .i64 0, .int .i64 0, .int .i64 0]] := hS.to [0] rfl
  refine ⟨fun _ => hT, ?_⟩
  obtain ⟨y43, hy43, h⟩ := bnd h
  refine .by1 42 rfl (.call0 hS Tryd.func59 (impl_sw_ok hy43) rfl rfl ?_ rfl (by kernel_rfl) rfl rfl) (by kernel_rfl)
  intro W hS
  have hT : Sep _ _ W [.box g1 68 [.int .i64 21, .int .i64 0, .int .i64 0, .int .i64 0, .int .i64 0]] := hS.to [0] rfl
  refine ⟨fun _ => hT, ?_⟩
  obtain ⟨y44, hy44, h⟩ := bnd h
  refine .by1 43 rfl (.call0 hS Tryd.func60 (impl_back_ok hy44) rfl rfl ?_ rfl (by kernel_rfl) rfl rfl) (by kernel_rfl)
  intro W hS
  have hT : Sep _ _ W [.box g1 68 [.int .i64 21, .int .i64 0, .int .i64 0, .int .i64 0, .int .i64 0]] := hS.to [0] rfl
  refine ⟨fun _ => hT, ?_⟩
  obtain ⟨y45, hy45, h⟩ := bnd h
  refine .by1 45 rfl (.call0 hS Tryd.func59 (impl_sw_ok hy45) rfl rfl ?_ rfl (by kernel_rfl) rfl rfl) (by kernel_rfl)
  intro W hS
  have hT : Sep _ _ W [.box g1 68 [.int .i64 21, .int .i64 0, .int .i64 0, .int .i64 0, .int .i64 0]] := hS.to [0] rfl
  refine ⟨fun _ => hT, ?_⟩
  obtain ⟨y46, hy46, h⟩ := bnd h
  refine .by1 46 rfl (.call0 hS Tryd.func60 (impl_back_ok hy46) rfl rfl ?_ rfl (by kernel_rfl) rfl rfl) (by kernel_rfl)
  intro W hS
  have hT : Sep _ _ W [.box g1 68 [.int .i64 21, .int .i64 0, .int .i64 0, .int .i64 0, .int .i64 0]] := hS.to [0] rfl
  refine ⟨fun _ => hT, ?_⟩
  obtain ⟨y47, hy47, h⟩ := bnd h
  refine .by1 47 rfl (.call0 hS Tryd.func54 (impl_addi_ok hy47) rfl rfl ?_ rfl (by kernel_rfl) rfl rfl) (by kernel_rfl)
  intro W hS
  have hT : Sep _ _ W [.box g1 68 [.int .i64 21, .int .i64 0, .int .i64 0, .int .i64 0, .int .i64 0]] := hS.to [0] rfl
  refine ⟨fun _ => hT, ?_⟩
  obtain ⟨y48, hy48, h⟩ := bnd h
  refine .by1 48 rfl (.call0 hS Tryd.func59 (impl_sw_ok hy48) rfl rfl ?_ rfl (by kernel_rfl) rfl rfl) (by kernel_rfl)
  intro W hS
  have hT : Sep _ _ W [.box g1 68 [.int .i64 21, .int .i64 0, .int .i64 0, .int .i64 0, .int .i64 0]] := hS.to [0] rfl
  refine ⟨fun _ => hT, ?_⟩
  obtain ⟨y49, hy49, h⟩ := bnd h
  refine .by1 49 rfl (.call0 hS Tryd.func56 (impl_jumpTo_ok hy49) rfl rfl ?_ rfl (by kernel_rfl) rfl rfl) (by kernel_rfl)
  intro W hS
  have hT : Sep _ _ W [.box g1 68 [.int .i64 21, .int .i64 0, .int .i64 0, .int .i64 0, .int .i64 0]] := hS.to [0] rfl
  refine ⟨fun _ => hT, ?_⟩
  obtain ⟨y50, hy50, h⟩ := bnd h
  refine .by1 50 rfl (.call0 hS Tryd.func54 (impl_addi_ok hy50) rfl rfl ?_ rfl (by kernel_rfl) rfl rfl) (by kernel_rfl)
  intro W hS
  have hT : Sep _ _ W [.box g1 68 [.int .i64 21, .int .i64 0, .int .i64 0, .int .i64 0, .int .i64 0]] := hS.to [0] rfl
  refine ⟨fun _ => hT, ?_⟩
  obtain ⟨y51, hy51, h⟩ := bnd h
  refine .by1 51 rfl (.call0 hS Tryd.func58 (impl_lw_ok hy51) rfl rfl ?_ rfl (by kernel_rfl) rfl rfl) (by kernel_rfl)
  intro W hS
  have hT : Sep _ _ W [.box g1 68 [.int .i64 21, .int .i64 0, .int .i64 0, .int .i64 0, .int .i64 0]] := hS.to [0] rfl
  refine ⟨fun _ => hT, ?_⟩
  obtain ⟨y52, hy52, h⟩ := bnd h
  refine .by1 52 rfl (.call0 hS Tryd.func54 (impl_addi_ok hy52) rfl rfl ?_ rfl (by kernel_rfl) rfl rfl) (by kernel_rfl)
  intro W hS
  have hT : Sep _ _ W [.box g1 68 [.int .i64 21, .int .i64 0, .int .i64 0, .int .i64 0, .int .i64 0]] := hS.to [0] rfl
  refine ⟨fun _ => hT, ?_⟩
  obtain ⟨y53, hy53, h⟩ := bnd h
  refine .by1 53 rfl (.call0 hS Tryd.func59 (impl_sw_ok hy53) rfl rfl ?_ rfl (by kernel_rfl) rfl rfl) (by kernel_rfl)
  intro W hS
  have hT : Sep _ _ W [.box g1 68 [.int .i64 21, .int .i64 0, .int .i64 0, .int .i64 0, .int .i64 0]] := hS.to [0] rfl
  refine ⟨fun _ => hT, ?_⟩
  obtain ⟨y54, hy54, h⟩ := bnd h
  refine .by1 54 rfl (.call0 hS Tryd.func59 (impl_sw_ok hy54) rfl rfl ?_ rfl (by kernel_rfl) rfl rfl) (by kernel_rfl)
  intro W hS
  have hT : Sep _ _ W [.box g1 68 [.int .i64 21, .int .i64 0, .int .i64 0, .int .i64 0, .int .i64 0]] := hS.to [0] rfl
  refine ⟨fun _ => hT, ?_⟩
  refine .by1 55 rfl (.liv [y1, y2, y3, y4, y5, y6, y7, y8, y9, y10, y11, y12, y13, y14, y15, y16, y17, y18, y19, y20, y21, y22, y23, y24, y25, y26, y27, y28, y29, y30, y31, y32, y33, y34, y35, y36, y37, y38, y39, y40, y41, y42, y43, y44, (Instr.mk 21 0 0 0 0), y45, y46, y47, y48, y49, y50, y51, y52, y53, y54] dInstr T.u51 T.t68 hS rfl rfl rfl rfl ?_ rfl (fun _ => rfl) rfl rfl rfl rfl) (by kernel_rfl)
  intro v1 W hS
  have hT : Sep _ _ W [.box g1 68 [.int .i64 21, .int .i64 0, .int .i64 0, .int .i64 0, .int .i64 0]] := hS.to [1] rfl
  refine ⟨fun _ => hT, ?_⟩
  refine .t1 56 rfl (fun W hT => pr rfl) hT ?_ (by kernel_rfl) rfl rfl
  refine .done ?_ (by kernel_rfl)
  refine .seq ?_
  refine .seq ?_
  refine .region ?_
  refine .r (lg T.t76 (hG.at hS (fun _ _ h => h)).1 rfl rfl rfl rfl rfl) ?_ rfl rfl
  refine .p rfl rfl rfl ?_
  refine .nil ?_
  refine .block ?_
  obtain ⟨y55, hy55, h⟩ := bnd h
  refine .via (.iter (fun s1 E' W' => ∃ (v4 : Hd), SubL E' [(1, .pointer (some ⟨g1, 0, none⟩)), (2, (sv v4)), (64, .agg (savedRegs.map (Value.int .i64)).toArray), (65, .int .i64 s1.2)] ∧ Sep No w W' [.box g1 68 [.int .i64 21, .int .i64 0, .int .i64 0, .int .i64 0, .int .i64 0], rowV (sv v4) 68 5 dInstr s1.1]) (fun y56 x E' W' => x = .exit 0 ∧ ∃ (v5 : Hd), SubL E' [(1, .pointer (some ⟨g1, 0, none⟩)), (2, (sv v5))] ∧ Sep No w W' [.box g1 68 [.int .i64 21, .int .i64 0, .int .i64 0, .int .i64 0, .int .i64 0], rowV (sv v5) 68 5 dInstr y56]) hy55 ⟨v1, sb rfl, hS.to [1, 0] rfl⟩ ?_) ?_
  · intro s1 y57 E W h hI
    obtain ⟨v3, hE, hS⟩ := hI
    refine CW.sub hE ?_
    unfold impl_runtimeList_b1 at h
    refine .seq ?_
    refine .region ?_
    refine .p rfl rfl rfl ?_
    refine .nil ?_
    refine .seq ?_
    refine .cond rfl (fun hb => ?_) (fun hb => ?_)
    · have h := sel_t hb h
      refine .skip ?_
      refine .seq ?_
      refine .block ?_
      refine .seq ?_
      refine .region ?_
      refine .p rfl rfl rfl ?_
      obtain ⟨x1, hx1, h⟩ := bnd h
      refine .r (iv (f := Value.int .i64) hx1 T.u76 T.t3 rfl rfl rfl rfl) ?_ rfl rfl
      refine .p rfl rfl rfl ?_
      refine .p rfl rfl rfl ?_
      refine .nil ?_
      refine .region ?_
      refine .p rfl rfl rfl ?_
      refine .p rfl rfl rfl ?_
      refine .p rfl rfl rfl ?_
      refine .p rfl rfl rfl ?_
      refine .p rfl rfl rfl ?_
      obtain ⟨y58, hy58, h⟩ := bnd h
      refine .c (.call0 hS Tryd.func59 (impl_sw_ok hy58) rfl rfl ?_ rfl (by kernel_rfl) rfl rfl)
      intro W hS
      refine .c (.liv [y58] dInstr T.u51 T.t68 hS rfl rfl rfl rfl ?_ rfl (fun _ => rfl) rfl rfl rfl rfl)
      intro v6 W hS
      obtain ⟨r1, hr1, h⟩ := bnd h
      have hT0 := hS.p2
      refine .c (.apprv hr1 hT0 hT0.p1.lendv (fun _ => rfl) T.u51 T.t68 rfl rfl rfl ?_ rfl rfl rfl rfl rfl)
      intro v7 W hS
      refine .p rfl rfl rfl ?_
      refine .nil ?_
      refine .region ?_
      refine .p rfl rfl rfl ?_
      refine .p rfl rfl rfl ?_
      refine .nil ?_
      cases h
      exact ⟨rfl, v7, sb rfl, hS.to [2, 0] rfl⟩
    · have h := sel_f hb h
      refine .exit ?_
      cases h
      exact ⟨by simp, rfl, v3, sb rfl, hS.to [0, 0] rfl⟩
  · intro x E W hJ
    obtain ⟨rfl, v8, hE, hS⟩ := hJ
    refine ⟨_, hE.sub, ?_⟩
    refine .seq ?_
    refine .region ?_
    refine .p rfl rfl rfl ?_
    obtain ⟨y59, hy59, h⟩ := bnd h
    refine .c (.call0 hS Tryd.func58 (impl_lw_ok hy59) rfl rfl ?_ rfl (by kernel_rfl) rfl rfl)
    intro W hS
    obtain ⟨y60, hy60, h⟩ := bnd h
    refine .c (.call0 hS Tryd.func58 (impl_lw_ok hy60) rfl rfl ?_ rfl (by kernel_rfl) rfl rfl)
    intro W hS
    obtain ⟨y61, hy61, h⟩ := bnd h
    refine .c (.call0 hS Tryd.func55 (impl_branch_ok hy61) rfl rfl ?_ rfl (by kernel_rfl) rfl rfl)
    intro W hS
    obtain ⟨y62, hy62, h⟩ := bnd h
    refine .c (.call0 hS Tryd.func54 (impl_addi_ok hy62) rfl rfl ?_ rfl (by kernel_rfl) rfl rfl)
    intro W hS
    obtain ⟨y63, hy63, h⟩ := bnd h
    refine .c (.call0 hS Tryd.func58 (impl_lw_ok hy63) rfl rfl ?_ rfl (by kernel_rfl) rfl rfl)
    intro W hS
    obtain ⟨y64, hy64, h⟩ := bnd h
    refine .c (.call0 hS Tryd.func55 (impl_branch_ok hy64) rfl rfl ?_ rfl (by kernel_rfl) rfl rfl)
    intro W hS
    obtain ⟨y65, hy65, h⟩ := bnd h
    refine .c (.call0 hS Tryd.func58 (impl_lw_ok hy65) rfl rfl ?_ rfl (by kernel_rfl) rfl rfl)
    intro W hS
    refine .c (.liv [y59, y60, y61, y62, y63, y64, y65] dInstr T.u51 T.t68 hS rfl rfl rfl rfl ?_ rfl (fun _ => rfl) rfl rfl rfl rfl)
    intro v9 W hS
    obtain ⟨r2, hr2, h⟩ := bnd h
    have hT0 := hS.p2
    refine .c (.apprv hr2 hT0 hT0.p1.lendv (fun _ => rfl) T.u51 T.t68 rfl rfl rfl ?_ rfl rfl rfl rfl rfl)
    intro v10 W hS
    refine .p rfl rfl rfl ?_
    refine .nil ?_
    refine .seq ?_
    refine .seq ?_
    refine .region ?_
    refine .r (lg T.t76 (hG.at hS (fun _ _ h => h)).1 rfl rfl rfl rfl rfl) ?_ rfl rfl
    refine .p rfl rfl rfl ?_
    refine .nil ?_
    refine .block ?_
    obtain ⟨y66, hy66, h⟩ := bnd h
    refine .via (.iter (fun s2 E' W' => ∃ (v13 : Hd), SubL E' [(1, .pointer (some ⟨g1, 0, none⟩)), (2, (sv v13)), (88, .agg (savedRegs.map (Value.int .i64)).toArray), (89, .int .i64 s2.2)] ∧ Sep No w W' [rowV (sv v9) 68 5 dInstr [y59, y60, y61, y62, y63, y64, y65], .box g1 68 [.int .i64 21, .int .i64 0, .int .i64 0, .int .i64 0, .int .i64 0], rowV (sv v13) 68 5 dInstr s2.1]) (fun y67 x E' W' => x = .exit 2 ∧ ∃ (v14 : Hd), SubL E' [(1, .pointer (some ⟨g1, 0, none⟩)), (2, (sv v14))] ∧ Sep No w W' [rowV (sv v9) 68 5 dInstr [y59, y60, y61, y62, y63, y64, y65], .box g1 68 [.int .i64 21, .int .i64 0, .int .i64 0, .int .i64 0, .int .i64 0], rowV (sv v14) 68 5 dInstr y67]) hy66 ⟨v10, sb rfl, hS.to [1, 1, 0] rfl⟩ ?_) ?_
    · intro s2 y68 E W h hI
      obtain ⟨v12, hE, hS⟩ := hI
      refine CW.sub hE ?_
      unfold impl_runtimeList_b2 at h
      refine .seq ?_
      refine .region ?_
      refine .p rfl rfl rfl ?_
      refine .nil ?_
      refine .seq ?_
      refine .cond rfl (fun hb => ?_) (fun hb => ?_)
      · have h := sel_t hb h
        refine .skip ?_
        refine .seq ?_
        refine .block ?_
        refine .seq ?_
        refine .region ?_
        refine .p rfl rfl rfl ?_
        obtain ⟨x2, hx2, h⟩ := bnd h
        refine .r (iv (f := Value.int .i64) hx2 T.u76 T.t3 rfl rfl rfl rfl) ?_ rfl rfl
        refine .p rfl rfl rfl ?_
        refine .p rfl rfl rfl ?_
        refine .nil ?_
        refine .region ?_
        refine .p rfl rfl rfl ?_
        refine .p rfl rfl rfl ?_
        refine .p rfl rfl rfl ?_
        refine .p rfl rfl rfl ?_
        refine .p rfl rfl rfl ?_
        obtain ⟨y69, hy69, h⟩ := bnd h
        refine .c (.call0 hS Tryd.func58 (impl_lw_ok hy69) rfl rfl ?_ rfl (by kernel_rfl) rfl rfl)
        intro W hS
        refine .c (.liv [y69] dInstr T.u51 T.t68 hS rfl rfl rfl rfl ?_ rfl (fun _ => rfl) rfl rfl rfl rfl)
        intro v15 W hS
        obtain ⟨r3, hr3, h⟩ := bnd h
        have hT0 := hS.p3
        refine .c (.apprv hr3 hT0 hT0.p1.lendv (fun _ => rfl) T.u51 T.t68 rfl rfl rfl ?_ rfl rfl rfl rfl rfl)
        intro v16 W hS
        refine .p rfl rfl rfl ?_
        refine .nil ?_
        refine .region ?_
        refine .p rfl rfl rfl ?_
        refine .p rfl rfl rfl ?_
        refine .nil ?_
        cases h
        exact ⟨rfl, v16, sb rfl, hS.to [2, 2, 0] rfl⟩
      · have h := sel_f hb h
        refine .exit ?_
        cases h
        exact ⟨by simp, rfl, v12, sb rfl, hS.to [0, 0, 0] rfl⟩
    · intro x E W hJ
      obtain ⟨rfl, v17, hE, hS⟩ := hJ
      refine ⟨_, hE.sub, ?_⟩
      refine .seq ?_
      refine .rk 8 hS [0, 0] T.mix ?_
      intro W hS
      have hT : Sep _ _ W [rowV (sv v9) 68 5 dInstr [y59, y60, y61, y62, y63, y64, y65], .box g1 68 [.int .i64 21, .int .i64 0, .int .i64 0, .int .i64 0, .int .i64 0]] := hS.to [0, 0] rfl
      refine .t1 0 rfl (fun W hT => pr rfl) hT ?_ (by kernel_rfl) rfl rfl
      refine .t1 4 rfl (fun W hT => ld T.t68 hT.p1 rfl rfl rfl rfl rfl) hT ?_ (by kernel_rfl) rfl rfl
      obtain ⟨y70, hy70, h⟩ := bnd h
      refine .by1 1 rfl (.call0 hS Tryd.func58 (impl_lw_ok hy70) rfl rfl ?_ rfl (by kernel_rfl) rfl rfl) (by kernel_rfl)
      intro W hS
      have hT : Sep _ _ W [rowV (sv v9) 68 5 dInstr [y59, y60, y61, y62, y63, y64, y65], .box g1 68 [.int .i64 21, .int .i64 0, .int .i64 0, .int .i64 0, .int .i64 0]] := hS.to [0, 0] rfl
      refine ⟨fun _ => hT, ?_⟩
      obtain ⟨y71, hy71, h⟩ := bnd h
      refine .by1 2 rfl (.call0 hS Tryd.func60 (impl_back_ok hy71) rfl rfl ?_ rfl (by kernel_rfl) rfl rfl) (by kernel_rfl)
      intro W hS
      have hT : Sep _ _ W [rowV (sv v9) 68 5 dInstr [y59, y60, y61, y62, y63, y64, y65], .box g1 68 [.int .i64 21, .int .i64 0, .int .i64 0, .int .i64 0, .int .i64 0]] := hS.to [0, 0] rfl
      refine ⟨fun _ => hT, ?_⟩
      obtain ⟨y72, hy72, h⟩ := bnd h
      refine .by1 3 rfl (.call0 hS Tryd.func54 (impl_addi_ok hy72) rfl rfl ?_ rfl (by kernel_rfl) rfl rfl) (by kernel_rfl)
      intro W hS
      have hT : Sep _ _ W [rowV (sv v9) 68 5 dInstr [y59, y60, y61, y62, y63, y64, y65], .box g1 68 [.int .i64 21, .int .i64 0, .int .i64 0, .int .i64 0, .int .i64 0]] := hS.to [0, 0] rfl
      refine ⟨fun _ => hT, ?_⟩
      refine .by1 5 rfl (.liv [y70, y71, y72, (Instr.mk 21 0 0 0 0)] dInstr T.u51 T.t68 hS rfl rfl rfl rfl ?_ rfl (fun _ => rfl) rfl rfl rfl rfl) (by kernel_rfl)
      intro v18 W hS
      have hT : Sep _ _ W [rowV (sv v9) 68 5 dInstr [y59, y60, y61, y62, y63, y64, y65], .box g1 68 [.int .i64 21, .int .i64 0, .int .i64 0, .int .i64 0, .int .i64 0]] := hS.to [1, 1] rfl
      refine ⟨fun _ => hT, ?_⟩
      obtain ⟨r4, hr4, h⟩ := bnd h
      have hT0 := hS.p3
      refine .by1 6 rfl (.apprv hr4 hT0 hT0.p1.lendv (fun _ => rfl) T.u51 T.t68 rfl rfl rfl ?_ rfl rfl rfl rfl rfl) (by kernel_rfl)
      intro v19 W hS
      have hT : Sep _ _ W [rowV (sv v9) 68 5 dInstr [y59, y60, y61, y62, y63, y64, y65], .box g1 68 [.int .i64 21, .int .i64 0, .int .i64 0, .int .i64 0, .int .i64 0]] := hS.to [2, 2] rfl
      refine ⟨fun _ => hT, ?_⟩
      refine .t1 7 rfl (fun W hT => pr rfl) hT ?_ (by kernel_rfl) rfl rfl
      refine .done ?_ (by kernel_rfl)
      refine .ret ?_
      cases h
      exact fin_ret (vs := [_]) v19 (rt rfl rn) rfl (hS.to [0] rfl)
def impl_ImageNew_F (w : World) (r : Machine × Int × Bool) : Env → World → Prop := Fin Tryd.prog Tryd.f9 No w (fun s : Hd × Hd => .tuple #[.agg #[(sv s.1), .int .i64 r.1.Pc, (sv s.2)], .int .i64 r.2.1, .bool r.2.2]) (fun s => [rowV (sv s.1) 3 1 (D.int .i64) r.1.Regs, rowV (sv s.2) 3 1 (D.int .i64) r.1.Mem]) .ret
theorem impl_ImageNew_ok {a0 : List Int} {a1 : List (List Instr)} {v_0 : Hd} {v_1 : Hd} {w : World} {r : Machine × Int × Bool} (h : impl_ImageNew a0 a1 = some r) (q_0 : RV w (Old No w) (sv v_0) 3 1 (D.int .i64) a0) (q_1 : RV w (Old No w) (sv v_1) 51 1 (fun (l : List Instr) => D.row 68 5 (l.map dInstr)) a1) (hG : Gl w) : Calls Tryd.prog 9 #[(sv v_0), (sv v_1)] w (Ret No w (fun s : Hd × Hd => .tuple #[.agg #[(sv s.1), .int .i64 r.1.Pc, (sv s.2)], .int .i64 r.2.1, .bool r.2.2]) (fun s => [rowV (sv s.1) 3 1 (D.int .i64) r.1.Regs, rowV (sv s.2) 3 1 (D.int .i64) r.1.Mem])) := by
  unfold impl_ImageNew at h
  refine enter Tryd.func9 rfl rfl ?_
  have hS := Sep.start w
  refine .seq ?_
  refine .region ?_
  refine .c (.alloc T.t26 hS ?_ rfl rfl rfl)
  intro g1 W hS
  refine .p rfl rfl rfl ?_
  refine .p rfl rfl rfl ?_
  refine .nil ?_
  refine .seq ?_
  refine .seq ?_
  refine .region ?_
  refine .p rfl rfl rfl ?_
  obtain ⟨y1, hy1, h⟩ := bnd h
  refine .c (.call0 hS Tryd.func30 (impl_roomsValid_ok hy1 (hS.keep q_0)) rfl rfl ?_ rfl (by kernel_rfl) rfl rfl)
  intro W hS
  refine .p rfl rfl rfl ?_
  refine .p rfl rfl rfl ?_
  refine .chunk 4 30 ((!y1) || (decide ((a1.length : Int) < 1))) hS ?_ ?_
  · refine .both (!y1) (fun hb => ?_) (fun hb => ?_)
    · skip
      refine .x hb ?_ rfl rfl
      refine .x hb ?_ rfl rfl
      refine .x hb ?_ rfl rfl
      refine .r (pkt hb rfl rfl rfl) ?_ rfl rfl
      exact .nil (ck 4 hS rfl (or_t hb) rfl rfl)
    · have hg1 := hb
      refine .g hg1 (.p rfl rfl rfl ?_) rfl
      refine .g hg1 (.r (lenv (hS.keep q_1) T.u30 rfl rfl) ?_ rfl rfl) rfl
      refine .g hg1 (.p rfl rfl rfl ?_) rfl
      refine .r (pkf hg1 rfl rfl rfl) ?_ rfl rfl
      exact .nil (ck 4 hS rfl (or_f hg1) rfl rfl)
  intro W hS
  refine .p rfl rfl rfl ?_
  refine .chunk 4 35 (((!y1) || (decide ((a1.length : Int) < 1))) || (decide ((a1.length : Int) > 3))) hS ?_ ?_
  · refine .both ((!y1) || (decide ((a1.length : Int) < 1))) (fun hb => ?_) (fun hb => ?_)
    · skip
      refine .x hb ?_ rfl rfl
      refine .x hb ?_ rfl rfl
      refine .x hb ?_ rfl rfl
      refine .r (pkt hb rfl rfl rfl) ?_ rfl rfl
      exact .nil (ck 4 hS rfl (or_t hb) rfl rfl)
    · have hg2 := hb
      refine .g hg2 (.p rfl rfl rfl ?_) rfl
      refine .g hg2 (.r (lenv (hS.keep q_1) T.u30 rfl rfl) ?_ rfl rfl) rfl
      refine .g hg2 (.p rfl rfl rfl ?_) rfl
      refine .r (pkf hg2 rfl rfl rfl) ?_ rfl rfl
      exact .nil (ck 4 hS rfl (or_f hg2) rfl rfl)
  intro W hS
  refine .nil ?_
  refine .cond rfl (fun hb => ?_) (fun hb => ?_)
  · have h := sel_t hb h
    refine .seq ?_
    refine .region ?_
    refine .r (bs T.s26 rfl rfl) ?_ rfl rfl
    refine .c (.st T.t26 hS rfl rfl rfl ?_ rfl rfl rfl rfl rfl)
    intro W hS
    refine .p rfl rfl rfl ?_
    refine .p rfl rfl rfl ?_
    refine .nil ?_
    refine .ret ?_
    have hS := hS.nilv 3 1 (D.int .i64)
    have hS := hS.nilv 3 1 (D.int .i64)
    cases h
    exact fin_ret (vs := [_, _, _]) (nilH, nilH) (rc hS.p2 T.t26 rfl (rt rfl (rt rfl rn)) rfl rfl) rfl (hS.to [1, 0] rfl)
  · have h := sel_f hb h
    refine .skip ?_
    refine .seq ?_
    refine .region ?_
    obtain ⟨y2, hy2, h⟩ := bnd h
    refine .c (.call1v hS Tryd.func32 (impl_runtimeList_ok hy2 (hG.at hS (fun _ _ h => h))) rfl rfl ?_ rfl (by kernel_rfl) rfl rfl)
    intro v1 W hS
    obtain ⟨y3, hy3, h⟩ := bnd h
    refine .c (.call1v hS Tryd.func31 (impl_wordsOf_ok hy3 hS.lendv (hG.at hS (fun _ _ h => h))) rfl rfl ?_ rfl (by kernel_rfl) rfl rfl)
    intro v2 W hS
    refine .p rfl rfl rfl ?_
    refine .p rfl rfl rfl ?_
    refine .p rfl rfl rfl ?_
    refine .p rfl rfl rfl ?_
    refine .p rfl rfl rfl ?_
    refine .nil ?_
    refine .seq ?_
    refine .region ?_
    refine .p rfl rfl rfl ?_
    refine .nil ?_
    refine .seq ?_
    refine .seq ?_
    refine .region ?_
    refine .p rfl rfl rfl ?_
    refine .r (lenv (hS.keep q_1) T.u30 rfl rfl) ?_ rfl rfl
    refine .p rfl rfl rfl ?_
    refine .nil ?_
    refine .block ?_
    have hS := hS.nilv 3 1 (D.int .i64)
    obtain ⟨y4, hy4, h⟩ := bnd h
    refine .via (.iter (fun s1 E' W' => ∃ (v7 : Hd) (v8 : Hd), SubL E' [(0, (sv v_0)), (1, (sv v_1)), (4, .pointer (some ⟨g1, 0, none⟩)), (7, (sv v7)), (9, (sv v8)), (42, (sv v_1)), (43, .int .i64 (a1.length : Int)), (44, .int .i64 s1.2.2)] ∧ Sep No w W' [rowV (sv v1) 68 5 dInstr y2, .box g1 26 [(sv nilH), .int .i64 0, (sv nilH)], rowV (sv v7) 3 1 (D.int .i64) s1.1, rowV (sv v8) 3 1 (D.int .i64) s1.2.1]) (fun y5 x E' W' => (match y5 with | .inl o1 => x = .ret ∧ impl_ImageNew_F w o1 E' W' | .inr o2 => x = .exit 0 ∧ ∃ (v9 : Hd) (v10 : Hd), SubL E' [(0, (sv v_0)), (1, (sv v_1)), (4, .pointer (some ⟨g1, 0, none⟩)), (7, (sv v9)), (9, (sv v10))] ∧ Sep No w W' [rowV (sv v1) 68 5 dInstr y2, .box g1 26 [(sv nilH), .int .i64 0, (sv nilH)], rowV (sv v9) 3 1 (D.int .i64) o2.1, rowV (sv v10) 3 1 (D.int .i64) o2.2])) hy4 ⟨v2, nilH, sb rfl, hS.to [2, 2, 1, 0] rfl⟩ ?_) ?_
    · intro s1 y6 E W h hI
      obtain ⟨v5, v6, hE, hS⟩ := hI
      refine CW.sub hE ?_
      unfold impl_ImageNew_b1 at h
      refine .seq ?_
      refine .region ?_
      refine .p rfl rfl rfl ?_
      refine .nil ?_
      refine .seq ?_
      refine .cond rfl (fun hb => ?_) (fun hb => ?_)
      · have h := sel_t hb h
        refine .skip ?_
        refine .seq ?_
        refine .block ?_
        refine .seq ?_
        refine .region ?_
        obtain ⟨x1, hx1, h⟩ := bnd h
        obtain ⟨k1, hd, hck1⟩ := RV.el2 q_1 hx1
        obtain ⟨v11, k1, rfl, q9, hd⟩ := rrowv q_1 hd
        obtain rfl := rnil q_1 hd
        refine .r (ixv (hS.keep q_1) hx1 T.u30 T.t51 rfl rfl rfl) ?_ rfl rfl
        refine .r (lde (hck1 _ hS.agree) T.t51 rfl rfl rfl rfl rfl) ?_ rfl rfl
        refine .p rfl rfl rfl ?_
        refine .nil ?_
        refine .seq ?_
        refine .region ?_
        refine .p rfl rfl rfl ?_
        obtain ⟨y7, hy7, h⟩ := bnd h
        refine .c (.call1v hS Tryd.func31 (impl_wordsOf_ok hy7 (hS.keep (q9 _ q_1)) (hG.at hS (fun _ _ h => h))) rfl rfl ?_ rfl (by kernel_rfl) rfl rfl)
        intro v12 W hS
        refine .p rfl rfl rfl ?_
        refine .p rfl rfl rfl ?_
        refine .p rfl rfl rfl ?_
        refine .p rfl rfl rfl ?_
        refine .p rfl rfl rfl ?_
        refine .nil ?_
        refine .seq ?_
        refine .seq ?_
        refine .region ?_
        refine .p rfl rfl rfl ?_
        refine .p rfl rfl rfl ?_
        refine .nil ?_
        refine .cond rfl (fun hb => ?_) (fun hb => ?_)
        · have h := sel_t hb h
          refine .seq ?_
          refine .region ?_
          refine .r (bs T.s26 rfl rfl) ?_ rfl rfl
          refine .c (.st T.t26 hS.p2 rfl rfl rfl ?_ rfl rfl rfl rfl rfl)
          intro W hS
          refine .p rfl rfl rfl ?_
          refine .p rfl rfl rfl ?_
          refine .nil ?_
          refine .ret ?_
          have hS := hS.nilv 3 1 (D.int .i64)
          have hS := hS.nilv 3 1 (D.int .i64)
          cases h
          exact ⟨by simp, rfl, fin_ret (vs := [_, _, _]) (nilH, nilH) (rc hS.p2 T.t26 rfl (rt rfl (rt rfl rn)) rfl rfl) rfl (hS.to [1, 0] rfl)⟩
        · have h := sel_f hb h
          refine .skip ?_
          refine .seq ?_
          refine .region ?_
          refine .p rfl rfl rfl ?_
          refine .p rfl rfl rfl ?_
          refine .r (lenv hS.p3.lendv T.u22 rfl rfl) ?_ rfl rfl
          refine .p rfl rfl rfl ?_
          refine .c (.liv [w64 (4 * (s1.1.length : Int))] (D.int .i64) T.u22 T.t3 hS rfl rfl rfl rfl ?_ rfl (fun _ => rfl) rfl rfl rfl rfl)
          intro v13 W hS
          obtain ⟨r1, hr1, h⟩ := bnd h
          have hT0 := hS.p5
          refine .c (.apprv hr1 hT0 hT0.p1.lendv (fun _ => rfl) T.u22 T.t3 rfl rfl rfl ?_ rfl rfl rfl rfl rfl)
          intro v14 W hS
          refine .p rfl rfl rfl ?_
          refine .nil ?_
          refine .region ?_
          refine .p rfl rfl rfl ?_
          refine .p rfl rfl rfl ?_
          obtain ⟨r2, hr2, h⟩ := bnd h
          have hT0 := hS.p5
          refine .c (.apprv hr2 hT0 hT0.p3.lendv (fun _ => rfl) T.u22 T.t3 rfl rfl rfl ?_ rfl rfl rfl rfl rfl)
          intro v15 W hS
          refine .p rfl rfl rfl ?_
          refine .nil ?_
          refine .region ?_
          refine .p rfl rfl rfl ?_
          refine .p rfl rfl rfl ?_
          refine .nil ?_
          cases h
          exact ⟨rfl, v15, v14, sb rfl, hS.to [4, 4, 0, 0] rfl⟩
      · have h := sel_f hb h
        refine .exit ?_
        cases h
        exact ⟨by simp, rfl, v5, v6, sb rfl, hS.to [0, 0, 0, 0] rfl⟩
    · intro x E W hJ
      rcases y4 with o3 | o4
      · skip
        obtain ⟨rfl, hF⟩ := hJ
        refine ⟨_, fun _ _ h => h, ?_⟩
        cases h
        exact hF
      · skip
        obtain ⟨rfl, v16, v17, hE, hS⟩ := hJ
        refine ⟨_, hE.sub, ?_⟩
        refine .seq ?_
        refine .region ?_
        refine .p rfl rfl rfl ?_
        refine .r (lenv hS.p2.lendv T.u22 rfl rfl) ?_ rfl rfl
        refine .p rfl rfl rfl ?_
        refine .p rfl rfl rfl ?_
        refine .nil ?_
        refine .seq ?_
        refine .region ?_
        refine .p rfl rfl rfl ?_
        refine .p rfl rfl rfl ?_
        refine .p rfl rfl rfl ?_
        refine .nil ?_
        refine .seq ?_
        refine .region ?_
        refine .p rfl rfl rfl ?_
        refine .p rfl rfl rfl ?_
        refine .r (lenv (hS.keep q_1) T.u30 rfl rfl) ?_ rfl rfl
        refine .p rfl rfl rfl ?_
        refine .p rfl rfl rfl ?_
        refine .p rfl rfl rfl ?_
        refine .nil ?_
        refine .seq ?_
        refine .region ?_
        refine .p rfl rfl rfl ?_
        refine .p rfl rfl rfl ?_
        refine .r (lenv (hS.keep q_1) T.u30 rfl rfl) ?_ rfl rfl
        refine .p rfl rfl rfl ?_
        refine .p rfl rfl rfl ?_
        refine .c (.liv [0, (a1.length : Int), w64 ((w64 (4 * (o4.1.length : Int))) + 112), w64 ((w64 ((w64 (4 * (o4.1.length : Int))) + 112)) + (w64 (64 * (a1.length : Int))))] (D.int .i64) T.u22 T.t3 hS rfl rfl rfl rfl ?_ rfl (fun _ => rfl) rfl rfl rfl rfl)
        intro v18 W hS
        obtain ⟨r3, hr3, h⟩ := bnd h
        have hT0 := hS.p3
        refine .c (.apprv hr3 hT0 hT0.p1.lendv (fun _ => rfl) T.u22 T.t3 rfl rfl rfl ?_ rfl rfl rfl rfl rfl)
        intro v19 W hS
        refine .p rfl rfl rfl ?_
        refine .nil ?_
        refine .seq ?_
        refine .seq ?_
        refine .region ?_
        refine .p rfl rfl rfl ?_
        refine .nil ?_
        refine .block ?_
        obtain ⟨y8, hy8, h⟩ := bnd h
        refine .via (.iter (fun s2 E' W' => ∃ (v22 : Hd), SubL E' [(0, (sv v_0)), (1, (sv v_1)), (4, .pointer (some ⟨g1, 0, none⟩)), (7, (sv v22)), (9, (sv v17)), (14, .int .i64 (w64 (4 * (o4.1.length : Int)))), (15, .int .i64 (w64 ((w64 (4 * (o4.1.length : Int))) + 112))), (16, .int .i64 (w64 ((w64 ((w64 (4 * (o4.1.length : Int))) + 112)) + (w64 (64 * (a1.length : Int)))))), (83, .int .i64 s2.2)] ∧ Sep No w W' [rowV (sv v18) 3 1 (D.int .i64) [0, (a1.length : Int), w64 ((w64 (4 * (o4.1.length : Int))) + 112), w64 ((w64 ((w64 (4 * (o4.1.length : Int))) + 112)) + (w64 (64 * (a1.length : Int))))], rowV (sv v1) 68 5 dInstr y2, .box g1 26 [(sv nilH), .int .i64 0, (sv nilH)], rowV (sv v17) 3 1 (D.int .i64) o4.2, rowV (sv v22) 3 1 (D.int .i64) s2.1]) (fun y9 x E' W' => x = .exit 2 ∧ ∃ (v23 : Hd), SubL E' [(1, (sv v_1)), (4, .pointer (some ⟨g1, 0, none⟩)), (7, (sv v23)), (9, (sv v17)), (14, .int .i64 (w64 (4 * (o4.1.length : Int)))), (15, .int .i64 (w64 ((w64 (4 * (o4.1.length : Int))) + 112))), (16, .int .i64 (w64 ((w64 ((w64 (4 * (o4.1.length : Int))) + 112)) + (w64 (64 * (a1.length : Int))))))] ∧ Sep No w W' [rowV (sv v18) 3 1 (D.int .i64) [0, (a1.length : Int), w64 ((w64 (4 * (o4.1.length : Int))) + 112), w64 ((w64 ((w64 (4 * (o4.1.length : Int))) + 112)) + (w64 (64 * (a1.length : Int))))], rowV (sv v1) 68 5 dInstr y2, .box g1 26 [(sv nilH), .int .i64 0, (sv nilH)], rowV (sv v17) 3 1 (D.int .i64) o4.2, rowV (sv v23) 3 1 (D.int .i64) y9]) hy8 ⟨v19, sb rfl, hS.to [1, 1, 1, 1, 0] rfl⟩ ?_) ?_
        · intro s2 y10 E W h hI
          obtain ⟨v21, hE, hS⟩ := hI
          refine CW.sub hE ?_
          unfold impl_ImageNew_b2 at h
          refine .seq ?_
          refine .region ?_
          refine .p rfl rfl rfl ?_
          refine .nil ?_
          refine .seq ?_
          refine .cond rfl (fun hb => ?_) (fun hb => ?_)
          · have h := sel_t hb h
            refine .skip ?_
            refine .seq ?_
            refine .block ?_
            refine .seq ?_
            refine .region ?_
            refine .p rfl rfl rfl ?_
            refine .p rfl rfl rfl ?_
            refine .nil ?_
            refine .seq ?_
            refine .region ?_
            obtain ⟨r4, hr4, h⟩ := bnd h
            refine .c (.mkv 0 (D.int .i64) hr4 T.u22 T.t3 hS rfl rfl rfl rfl rfl (fun _ => rfl) ?_ rfl rfl rfl)
            intro v24 W hS
            refine .p rfl rfl rfl ?_
            refine .nil ?_
            obtain ⟨y11, hy11, h⟩ := bnd h
            refine .seq (CW.via (R' := fun x E' W' => x = .normal ∧ SubL E' [(0, (sv v_0)), (1, (sv v_1)), (4, .pointer (some ⟨g1, 0, none⟩)), (7, (sv v21)), (9, (sv v17)), (14, .int .i64 (w64 (4 * (o4.1.length : Int)))), (15, .int .i64 (w64 ((w64 (4 * (o4.1.length : Int))) + 112))), (16, .int .i64 (w64 ((w64 ((w64 (4 * (o4.1.length : Int))) + 112)) + (w64 (64 * (a1.length : Int)))))), (18, (sv v24)), (83, .int .i64 s2.2)] ∧ Sep No w W' [rowV (sv v24) 3 1 (D.int .i64) y11, rowV (sv v18) 3 1 (D.int .i64) [0, (a1.length : Int), w64 ((w64 (4 * (o4.1.length : Int))) + 112), w64 ((w64 ((w64 (4 * (o4.1.length : Int))) + 112)) + (w64 (64 * (a1.length : Int))))], rowV (sv v1) 68 5 dInstr y2, .box g1 26 [(sv nilH), .int .i64 0, (sv nilH)], rowV (sv v17) 3 1 (D.int .i64) o4.2, rowV (sv v21) 3 1 (D.int .i64) s2.1]) ?_ ?_)
            · have h := hy11
              refine .seq ?_
              refine .region ?_
              refine .p rfl rfl rfl ?_
              refine .p rfl rfl rfl ?_
              refine .r (lenv (hS.keep q_0) T.u22 rfl rfl) ?_ rfl rfl
              refine .p rfl rfl rfl ?_
              refine .nil ?_
              refine .cond rfl (fun hb => ?_) (fun hb => ?_)
              · have h := sel_t hb h
                refine .region ?_
                refine .p rfl rfl rfl ?_
                refine .p rfl rfl rfl ?_
                refine .p rfl rfl rfl ?_
                obtain ⟨x2, hx2, h⟩ := bnd h
                refine .r (ixv (hS.keep q_0) hx2 T.u22 T.t3 rfl rfl rfl) ?_ rfl rfl
                refine .r (lde (RV.flat (hS.keep q_0) hx2 rfl) T.t3 rfl rfl rfl rfl rfl) ?_ rfl rfl
                obtain ⟨x3, hx3, h⟩ := bnd h
                refine .r (ixv hS.lendv hx3 T.u22 T.t3 rfl rfl rfl) ?_ rfl rfl
                obtain ⟨r5, hr5, h⟩ := bnd h
                refine .c (.sev hr5 hx3 hS T.t3 rfl rfl rfl rfl rfl rfl ?_ rfl rfl rfl rfl rfl rfl)
                intro W hS
                refine .nil ?_
                cases h
                exact ⟨rfl, sb rfl, hS.to [0, 0, 0, 0, 0, 0] rfl⟩
              · have h := sel_f hb h
                refine .skip ?_
                cases h
                exact ⟨rfl, sb rfl, hS.to [0, 0, 0, 0, 0, 0] rfl⟩
            · intro x E W hJ
              obtain ⟨rfl, hE, hS⟩ := hJ
              refine ⟨_, hE.sub, ?_⟩
              refine .region ?_
              refine .p rfl rfl rfl ?_
              refine .p rfl rfl rfl ?_
              obtain ⟨r6, hr6, h⟩ := bnd h
              have hT0 := hS.p5
              refine .c (.apprv hr6 hT0 hT0.p1.lendv (fun _ => rfl) T.u22 T.t3 rfl rfl rfl ?_ rfl rfl rfl rfl rfl)
              intro v25 W hS
              refine .p rfl rfl rfl ?_
              refine .nil ?_
              refine .region ?_
              refine .p rfl rfl rfl ?_
              refine .p rfl rfl rfl ?_
              refine .nil ?_
              cases h
              exact ⟨rfl, v25, sb rfl, hS.to [2, 2, 2, 2, 0] rfl⟩
          · have h := sel_f hb h
            refine .exit ?_
            cases h
            exact ⟨by simp, rfl, v21, sb rfl, hS.to [0, 0, 0, 0, 0] rfl⟩
        · intro x E W hJ
          obtain ⟨rfl, v26, hE, hS⟩ := hJ
          refine ⟨_, hE.sub, ?_⟩
          refine .seq ?_
          refine .seq ?_
          refine .region ?_
          refine .p rfl rfl rfl ?_
          refine .r (lenv hS.p3.lendv T.u22 rfl rfl) ?_ rfl rfl
          refine .p rfl rfl rfl ?_
          refine .nil ?_
          refine .block ?_
          obtain ⟨y12, hy12, h⟩ := bnd h
          refine .via (.iter (fun s3 E' W' => ∃ (v29 : Hd), SubL E' [(1, (sv v_1)), (4, .pointer (some ⟨g1, 0, none⟩)), (7, (sv v29)), (9, (sv v17)), (14, .int .i64 (w64 (4 * (o4.1.length : Int)))), (15, .int .i64 (w64 ((w64 (4 * (o4.1.length : Int))) + 112))), (16, .int .i64 (w64 ((w64 ((w64 (4 * (o4.1.length : Int))) + 112)) + (w64 (64 * (a1.length : Int)))))), (101, (sv v17)), (102, .int .i64 (o4.2.length : Int)), (103, .int .i64 s3.2)] ∧ Sep No w W' [rowV (sv v18) 3 1 (D.int .i64) [0, (a1.length : Int), w64 ((w64 (4 * (o4.1.length : Int))) + 112), w64 ((w64 ((w64 (4 * (o4.1.length : Int))) + 112)) + (w64 (64 * (a1.length : Int))))], rowV (sv v1) 68 5 dInstr y2, .box g1 26 [(sv nilH), .int .i64 0, (sv nilH)], rowV (sv v17) 3 1 (D.int .i64) o4.2, rowV (sv v29) 3 1 (D.int .i64) s3.1]) (fun y13 x E' W' => x = .exit 4 ∧ ∃ (v30 : Hd), SubL E' [(1, (sv v_1)), (4, .pointer (some ⟨g1, 0, none⟩)), (7, (sv v30)), (9, (sv v17)), (14, .int .i64 (w64 (4 * (o4.1.length : Int)))), (15, .int .i64 (w64 ((w64 (4 * (o4.1.length : Int))) + 112))), (16, .int .i64 (w64 ((w64 ((w64 (4 * (o4.1.length : Int))) + 112)) + (w64 (64 * (a1.length : Int))))))] ∧ Sep No w W' [rowV (sv v18) 3 1 (D.int .i64) [0, (a1.length : Int), w64 ((w64 (4 * (o4.1.length : Int))) + 112), w64 ((w64 ((w64 (4 * (o4.1.length : Int))) + 112)) + (w64 (64 * (a1.length : Int))))], rowV (sv v1) 68 5 dInstr y2, .box g1 26 [(sv nilH), .int .i64 0, (sv nilH)], rowV (sv v17) 3 1 (D.int .i64) o4.2, rowV (sv v30) 3 1 (D.int .i64) y13]) hy12 ⟨v26, sb rfl, hS.to [0, 0, 0, 0, 0] rfl⟩ ?_) ?_
          · intro s3 y14 E W h hI
            obtain ⟨v28, hE, hS⟩ := hI
            refine CW.sub hE ?_
            unfold impl_ImageNew_b3 at h
            refine .seq ?_
            refine .region ?_
            refine .p rfl rfl rfl ?_
            refine .nil ?_
            refine .seq ?_
            refine .cond rfl (fun hb => ?_) (fun hb => ?_)
            · have h := sel_t hb h
              refine .skip ?_
              refine .seq ?_
              refine .block ?_
              refine .seq ?_
              refine .region ?_
              refine .p rfl rfl rfl ?_
              obtain ⟨x4, hx4, h⟩ := bnd h
              refine .r (ixv hS.p3.lendv hx4 T.u22 T.t3 rfl rfl rfl) ?_ rfl rfl
              refine .r (lde (RV.flat hS.p3.lendv hx4 rfl) T.t3 rfl rfl rfl rfl rfl) ?_ rfl rfl
              refine .p rfl rfl rfl ?_
              refine .p rfl rfl rfl ?_
              refine .nil ?_
              refine .seq ?_
              refine .region ?_
              obtain ⟨r7, hr7, h⟩ := bnd h
              refine .c (.mkv 0 (D.int .i64) hr7 T.u22 T.t3 hS rfl rfl rfl rfl rfl (fun _ => rfl) ?_ rfl rfl rfl)
              intro v31 W hS
              refine .p rfl rfl rfl ?_
              refine .nil ?_
              refine .seq ?_
              refine .region ?_
              refine .p rfl rfl rfl ?_
              refine .p rfl rfl rfl ?_
              refine .p rfl rfl rfl ?_
              refine .p rfl rfl rfl ?_
              refine .p rfl rfl rfl ?_
              refine .p rfl rfl rfl ?_
              refine .p rfl rfl rfl ?_
              obtain ⟨x5, hx5, h⟩ := bnd h
              refine .r (ixv hS.lendv hx5 T.u22 T.t3 rfl rfl rfl) ?_ rfl rfl
              obtain ⟨r8, hr8, h⟩ := bnd h
              refine .c (.sev hr8 hx5 hS T.t3 rfl rfl rfl rfl rfl rfl ?_ rfl rfl rfl rfl rfl rfl)
              intro W hS
              obtain ⟨x6, hx6, h⟩ := bnd h
              refine .r (ixv hS.lendv hx6 T.u22 T.t3 rfl rfl rfl) ?_ rfl rfl
              obtain ⟨r9, hr9, h⟩ := bnd h
              refine .c (.sev hr9 hx6 hS T.t3 rfl rfl rfl rfl rfl rfl ?_ rfl rfl rfl rfl rfl rfl)
              intro W hS
              refine .nil ?_
              refine .region ?_
              refine .p rfl rfl rfl ?_
              refine .p rfl rfl rfl ?_
              obtain ⟨r10, hr10, h⟩ := bnd h
              have hT0 := hS.p5
              refine .c (.apprv hr10 hT0 hT0.p1.lendv (fun _ => rfl) T.u22 T.t3 rfl rfl rfl ?_ rfl rfl rfl rfl rfl)
              intro v32 W hS
              refine .p rfl rfl rfl ?_
              refine .nil ?_
              refine .region ?_
              refine .p rfl rfl rfl ?_
              refine .p rfl rfl rfl ?_
              refine .nil ?_
              cases h
              exact ⟨rfl, v32, sb rfl, hS.to [2, 2, 2, 2, 0] rfl⟩
            · have h := sel_f hb h
              refine .exit ?_
              cases h
              exact ⟨by simp, rfl, v28, sb rfl, hS.to [0, 0, 0, 0, 0] rfl⟩
          · intro x E W hJ
            obtain ⟨rfl, v33, hE, hS⟩ := hJ
            refine ⟨_, hE.sub, ?_⟩
            refine .seq ?_
            refine .region ?_
            refine .p rfl rfl rfl ?_
            refine .p rfl rfl rfl ?_
            refine .r (lenv (hS.keep q_1) T.u30 rfl rfl) ?_ rfl rfl
            refine .p rfl rfl rfl ?_
            obtain ⟨r11, hr11, h⟩ := bnd h
            refine .c (.appz 0 hr11 hS.p4 T.u22 T.u3 T.t3 rfl rfl rfl rfl ?_ (fun _ => rfl) rfl rfl rfl rfl rfl rfl)
            intro v34 W hS
            refine .p rfl rfl rfl ?_
            refine .nil ?_
            refine .seq ?_
            refine .seq ?_
            refine .region ?_
            refine .p rfl rfl rfl ?_
            refine .r (lenv hS.lendv T.u22 rfl rfl) ?_ rfl rfl
            refine .p rfl rfl rfl ?_
            refine .nil ?_
            refine .cond rfl (fun hb => ?_) (fun hb => ?_)
            · have h := sel_t hb h
              refine .seq ?_
              refine .region ?_
              refine .r (bs T.s26 rfl rfl) ?_ rfl rfl
              refine .c (.st T.t26 hS.p3 rfl rfl rfl ?_ rfl rfl rfl rfl rfl)
              intro W hS
              refine .p rfl rfl rfl ?_
              refine .p rfl rfl rfl ?_
              refine .nil ?_
              refine .ret ?_
              have hS := hS.nilv 3 1 (D.int .i64)
              have hS := hS.nilv 3 1 (D.int .i64)
              cases h
              exact fin_ret (vs := [_, _, _]) (nilH, nilH) (rc hS.p2 T.t26 rfl (rt rfl (rt rfl rn)) rfl rfl) rfl (hS.to [1, 0] rfl)
            · have h := sel_f hb h
              refine .skip ?_
              refine .seq ?_
              obtain ⟨x7, hx7, h⟩ := bnd h
              obtain ⟨r12, hr12, h⟩ := bnd h
              refine .via (R' := fun x E' W' => x = .normal ∧ ∃ (g2 : Nat) (v35 : Hd), SubL E' [(4, .pointer (some ⟨g1, 0, none⟩)), (14, .int .i64 (w64 (4 * (o4.1.length : Int)))), (15, .int .i64 (w64 ((w64 (4 * (o4.1.length : Int))) + 112))), (16, .int .i64 (w64 ((w64 ((w64 (4 * (o4.1.length : Int))) + 112)) + (w64 (64 * (a1.length : Int)))))), (22, .pointer (some ⟨g2, 0, none⟩))] ∧ Sep No w W' [rowV (sv v34) 3 1 (D.int .i64) r11, rowV (sv v18) 3 1 (D.int .i64) [0, (a1.length : Int), w64 ((w64 (4 * (o4.1.length : Int))) + 112), w64 ((w64 ((w64 (4 * (o4.1.length : Int))) + 112)) + (w64 (64 * (a1.length : Int))))], rowV (sv v1) 68 5 dInstr y2, .box g1 26 [(sv nilH), .int .i64 0, (sv nilH)], rowV (sv v17) 3 1 (D.int .i64) o4.2, .box g2 26 [(sv v35), .int .i64 x7, (sv v34)], rowV (sv v35) 3 1 (D.int .i64) r12]) ?_ ?_
              · skip
                refine .rk 7 hS [0, 0, 0, 0, 0] T.mix ?_
                intro W hS
                have hT : Sep _ _ W [rowV (sv v34) 3 1 (D.int .i64) r11, rowV (sv v18) 3 1 (D.int .i64) [0, (a1.length : Int), w64 ((w64 (4 * (o4.1.length : Int))) + 112), w64 ((w64 ((w64 (4 * (o4.1.length : Int))) + 112)) + (w64 (64 * (a1.length : Int))))], rowV (sv v1) 68 5 dInstr y2, .box g1 26 [(sv nilH), .int .i64 0, (sv nilH)], rowV (sv v17) 3 1 (D.int .i64) o4.2] := hS.to [0, 0, 0, 0, 0] rfl
                refine .t1 1 rfl (fun W hT => pr rfl) hT ?_ (by kernel_rfl) rfl rfl
                refine .t1 2 rfl (fun W hT => ixv hS.p4.lendv hx7 T.u22 T.t3 rfl rfl rfl) hT ?_ (by kernel_rfl) rfl rfl
                refine .t1 3 rfl (fun W hT => lde (RV.flat hT.p4.lendv hx7 rfl) T.t3 rfl rfl rfl rfl rfl) hT ?_ (by kernel_rfl) rfl rfl
                refine .t1 4 rfl (fun W hT => pr rfl) hT ?_ (by kernel_rfl) rfl rfl
                refine .by [0, 6] ⟨⟨_, rfl, ?_⟩, ⟨_, rfl, ?_⟩, trivial⟩ (by kernel_rfl) rfl
                · skip
                  refine (.mkv 0 (D.int .i64) hr12 T.u22 T.t3 hS rfl rfl rfl rfl rfl (fun _ => rfl) ?_ rfl rfl rfl)
                  intro v36 W hS
                  have hT : Sep _ _ W [rowV (sv v34) 3 1 (D.int .i64) r11, rowV (sv v18) 3 1 (D.int .i64) [0, (a1.length : Int), w64 ((w64 (4 * (o4.1.length : Int))) + 112), w64 ((w64 ((w64 (4 * (o4.1.length : Int))) + 112)) + (w64 (64 * (a1.length : Int))))], rowV (sv v1) 68 5 dInstr y2, .box g1 26 [(sv nilH), .int .i64 0, (sv nilH)], rowV (sv v17) 3 1 (D.int .i64) o4.2] := hS.to [1, 1, 1, 1, 1] rfl
                  refine ⟨fun _ => hT, ?_⟩
                  refine .t1 5 rfl (fun W hT => bs T.s26 rfl rfl) hT ?_ (by kernel_rfl) rfl rfl
                  refine .by1 6 rfl (.alloc T.t26 hS ?_ rfl rfl rfl) (by kernel_rfl)
                  intro g3 W hS
                  have hT : Sep _ _ W [rowV (sv v34) 3 1 (D.int .i64) r11, rowV (sv v18) 3 1 (D.int .i64) [0, (a1.length : Int), w64 ((w64 (4 * (o4.1.length : Int))) + 112), w64 ((w64 ((w64 (4 * (o4.1.length : Int))) + 112)) + (w64 (64 * (a1.length : Int))))], rowV (sv v1) 68 5 dInstr y2, .box g1 26 [(sv nilH), .int .i64 0, (sv nilH)], rowV (sv v17) 3 1 (D.int .i64) o4.2] := hS.to [2, 2, 2, 2, 2] rfl
                  refine ⟨fun _ => hT, ?_⟩
                  refine .by1 7 rfl (.st T.t26 hS rfl rfl rfl ?_ rfl rfl rfl rfl rfl) (by kernel_rfl)
                  intro W hS
                  refine ⟨fun h => absurd rfl h, ?_⟩
                  refine .done ?_ (by kernel_rfl)
                  exact ⟨rfl, g3, v36, sb rfl, hS.to [2, 2, 2, 2, 2, 0, 0] rfl⟩
                · skip
                  refine (.alloc T.t26 hS ?_ rfl rfl rfl)
                  intro g4 W hS
                  have hT : Sep _ _ W [rowV (sv v34) 3 1 (D.int .i64) r11, rowV (sv v18) 3 1 (D.int .i64) [0, (a1.length : Int), w64 ((w64 (4 * (o4.1.length : Int))) + 112), w64 ((w64 ((w64 (4 * (o4.1.length : Int))) + 112)) + (w64 (64 * (a1.length : Int))))], rowV (sv v1) 68 5 dInstr y2, .box g1 26 [(sv nilH), .int .i64 0, (sv nilH)], rowV (sv v17) 3 1 (D.int .i64) o4.2] := hS.to [1, 1, 1, 1, 1] rfl
                  refine ⟨fun _ => hT, ?_⟩
                  refine .by1 0 rfl (.mkv 0 (D.int .i64) hr12 T.u22 T.t3 hS rfl rfl rfl rfl rfl (fun _ => rfl) ?_ rfl rfl rfl) (by kernel_rfl)
                  intro v37 W hS
                  have hT : Sep _ _ W [rowV (sv v34) 3 1 (D.int .i64) r11, rowV (sv v18) 3 1 (D.int .i64) [0, (a1.length : Int), w64 ((w64 (4 * (o4.1.length : Int))) + 112), w64 ((w64 ((w64 (4 * (o4.1.length : Int))) + 112)) + (w64 (64 * (a1.length : Int))))], rowV (sv v1) 68 5 dInstr y2, .box g1 26 [(sv nilH), .int .i64 0, (sv nilH)], rowV (sv v17) 3 1 (D.int .i64) o4.2] := hS.to [2, 2, 2, 2, 2] rfl
                  refine ⟨fun _ => hT, ?_⟩
                  refine .t1 5 rfl (fun W hT => bs T.s26 rfl rfl) hT ?_ (by kernel_rfl) rfl rfl
                  refine .by1 7 rfl (.st T.t26 hS.p1 rfl rfl rfl ?_ rfl rfl rfl rfl rfl) (by kernel_rfl)
                  intro W hS
                  refine ⟨fun h => absurd rfl h, ?_⟩
                  refine .done ?_ (by kernel_rfl)
                  exact ⟨rfl, g4, v37, sb rfl, hS.to [2, 2, 2, 2, 2, 0, 0] rfl⟩
              · intro x E W hJ
                obtain ⟨rfl, g5, v38, hE, hS⟩ := hJ
                refine ⟨_, hE.sub, ?_⟩
                refine .seq ?_
                refine .rk 14 hS [0, 0, 0, 0, 0, 0] T.mix ?_
                intro W hS
                have hT : Sep _ _ W [rowV (sv v34) 3 1 (D.int .i64) r11, rowV (sv v18) 3 1 (D.int .i64) [0, (a1.length : Int), w64 ((w64 (4 * (o4.1.length : Int))) + 112), w64 ((w64 ((w64 (4 * (o4.1.length : Int))) + 112)) + (w64 (64 * (a1.length : Int))))], rowV (sv v1) 68 5 dInstr y2, .box g1 26 [(sv nilH), .int .i64 0, (sv nilH)], rowV (sv v17) 3 1 (D.int .i64) o4.2, .box g5 26 [(sv v38), .int .i64 x7, (sv v34)]] := hS.to [0, 0, 0, 0, 0, 0] rfl
                refine .t1 0 rfl (fun W hT => fa T.f26_0 rfl rfl rfl) hT ?_ (by kernel_rfl) rfl rfl
                refine .t1 1 rfl (fun W hT => ld T.t22 hT.p5 rfl rfl rfl rfl rfl) hT ?_ (by kernel_rfl) rfl rfl
                refine .t1 2 rfl (fun W hT => fa T.f26_0 rfl rfl rfl) hT ?_ (by kernel_rfl) rfl rfl
                refine .t1 3 rfl (fun W hT => ld T.t22 hT.p5 rfl rfl rfl rfl rfl) hT ?_ (by kernel_rfl) rfl rfl
                refine .t1 4 rfl (fun W hT => fa T.f26_0 rfl rfl rfl) hT ?_ (by kernel_rfl) rfl rfl
                refine .t1 5 rfl (fun W hT => ld T.t22 hT.p5 rfl rfl rfl rfl rfl) hT ?_ (by kernel_rfl) rfl rfl
                refine .t1 6 rfl (fun W hT => pr rfl) hT ?_ (by kernel_rfl) rfl rfl
                refine .t1 7 rfl (fun W hT => pr rfl) hT ?_ (by kernel_rfl) rfl rfl
                refine .t1 8 rfl (fun W hT => pr rfl) hT ?_ (by kernel_rfl) rfl rfl
                obtain ⟨x8, hx8, h⟩ := bnd h
                refine .t1 9 rfl (fun W hT => ixv hS.p6.lendv hx8 T.u22 T.t3 rfl rfl rfl) hT ?_ (by kernel_rfl) rfl rfl
                obtain ⟨r13, hr13, h⟩ := bnd h
                refine .by1 10 rfl (.sev hr13 hx8 hS.p6 T.t3 rfl rfl rfl rfl rfl rfl ?_ rfl rfl rfl rfl rfl rfl) (by kernel_rfl)
                intro W hS
                have hT : Sep _ _ W [rowV (sv v34) 3 1 (D.int .i64) r11, rowV (sv v18) 3 1 (D.int .i64) [0, (a1.length : Int), w64 ((w64 (4 * (o4.1.length : Int))) + 112), w64 ((w64 ((w64 (4 * (o4.1.length : Int))) + 112)) + (w64 (64 * (a1.length : Int))))], rowV (sv v1) 68 5 dInstr y2, .box g1 26 [(sv nilH), .int .i64 0, (sv nilH)], rowV (sv v17) 3 1 (D.int .i64) o4.2, .box g5 26 [(sv v38), .int .i64 x7, (sv v34)]] := hS.to [1, 1, 1, 1, 1, 1] rfl
                refine ⟨fun _ => hT, ?_⟩
                obtain ⟨x9, hx9, h⟩ := bnd h
                refine .t1 11 rfl (fun W hT => ixv hS.lendv hx9 T.u22 T.t3 rfl rfl rfl) hT ?_ (by kernel_rfl) rfl rfl
                obtain ⟨r14, hr14, h⟩ := bnd h
                refine .by1 12 rfl (.sev hr14 hx9 hS T.t3 rfl rfl rfl rfl rfl rfl ?_ rfl rfl rfl rfl rfl rfl) (by kernel_rfl)
                intro W hS
                have hT : Sep _ _ W [rowV (sv v34) 3 1 (D.int .i64) r11, rowV (sv v18) 3 1 (D.int .i64) [0, (a1.length : Int), w64 ((w64 (4 * (o4.1.length : Int))) + 112), w64 ((w64 ((w64 (4 * (o4.1.length : Int))) + 112)) + (w64 (64 * (a1.length : Int))))], rowV (sv v1) 68 5 dInstr y2, .box g1 26 [(sv nilH), .int .i64 0, (sv nilH)], rowV (sv v17) 3 1 (D.int .i64) o4.2, .box g5 26 [(sv v38), .int .i64 x7, (sv v34)]] := hS.to [1, 1, 1, 1, 1, 1] rfl
                refine ⟨fun _ => hT, ?_⟩
                obtain ⟨x10, hx10, h⟩ := bnd h
                refine .t1 13 rfl (fun W hT => ixv hS.lendv hx10 T.u22 T.t3 rfl rfl rfl) hT ?_ (by kernel_rfl) rfl rfl
                obtain ⟨r15, hr15, h⟩ := bnd h
                refine .by1 14 rfl (.sev hr15 hx10 hS T.t3 rfl rfl rfl rfl rfl rfl ?_ rfl rfl rfl rfl rfl rfl) (by kernel_rfl)
                intro W hS
                refine ⟨fun h => absurd rfl h, ?_⟩
                refine .done ?_ (by kernel_rfl)
                refine .seq ?_
                refine .region ?_
                refine .r (ld T.t26 hS.p6 rfl rfl rfl rfl rfl) ?_ rfl rfl
                refine .p rfl rfl rfl ?_
                refine .c (.st T.t26 hS.p4 rfl rfl rfl ?_ rfl rfl rfl rfl rfl)
                intro W hS
                refine .p rfl rfl rfl ?_
                refine .p rfl rfl rfl ?_
                refine .nil ?_
                refine .ret ?_
                cases h
                exact fin_ret (vs := [_, _, _]) (v38, v34) (rc hS T.t26 rfl (rt rfl (rt rfl rn)) rfl rfl) rfl (hS.to [1, 1] rfl)
def laws_eqIntS_F (w : World) (r : Bool) : Env → World → Prop := Fin Tryd.prog Tryd.f11 No w (fun s : Unit => .bool r) (fun s => []) .ret
theorem laws_eqIntS_ok {a0 : List Int} {a1 : List Int} {v_0 : Hd} {v_1 : Hd} {w : World} {r : Bool} (h : laws_eqIntS a0 a1 = some r) (q_0 : RV w (Old No w) (sv v_0) 3 1 (D.int .i64) a0) (q_1 : RV w (Old No w) (sv v_1) 3 1 (D.int .i64) a1) : Calls Tryd.prog 11 #[(sv v_0), (sv v_1)] w (Ret No w (fun s : Unit => .bool r) (fun s => [])) := by
  unfold laws_eqIntS at h
  refine enter Tryd.func11 rfl rfl ?_
  have hS := Sep.start w
  refine .seq ?_
  refine .region ?_
  refine .p rfl rfl rfl ?_
  refine .nil ?_
  refine .seq ?_
  refine .seq ?_
  refine .region ?_
  refine .p rfl rfl rfl ?_
  refine .r (lenv (hS.keep q_0) T.u22 rfl rfl) ?_ rfl rfl
  refine .p rfl rfl rfl ?_
  refine .r (lenv (hS.keep q_1) T.u22 rfl rfl) ?_ rfl rfl
  refine .p rfl rfl rfl ?_
  refine .nil ?_
  refine .cond rfl (fun hb => ?_) (fun hb => ?_)
  · have h := sel_t hb h
    refine .seq ?_
    refine .region ?_
    refine .p rfl rfl rfl ?_
    refine .nil ?_
    refine .ret ?_
    cases h
    exact fin_ret (vs := [_]) () (rt rfl rn) rfl (hS.to [] rfl)
  · have h := sel_f hb h
    refine .skip ?_
    refine .seq ?_
    refine .seq ?_
    refine .region ?_
    refine .p rfl rfl rfl ?_
    refine .nil ?_
    refine .block ?_
    obtain ⟨y1, hy1, h⟩ := bnd h
    refine .via (.iter (fun s1 E' W' => SubL E' [(0, (sv v_0)), (1, (sv v_1)), (5, .int .i64 s1)] ∧ Sep No w W' []) (fun y2 x E' W' => (match y2 with | .inl o1 => x = .ret ∧ laws_eqIntS_F w o1 E' W' | .inr o2 => x = .exit 0 ∧ SubL E' [] ∧ Sep No w W' [])) hy1 ⟨sb rfl, hS.to [] rfl⟩ ?_) ?_
    · intro s1 y3 E W h hI
      obtain ⟨hE, hS⟩ := hI
      refine CW.sub hE ?_
      unfold laws_eqIntS_b1 at h
      refine .seq ?_
      refine .seq ?_
      refine .region ?_
      refine .p rfl rfl rfl ?_
      refine .p rfl rfl rfl ?_
      refine .r (lenv (hS.keep q_0) T.u22 rfl rfl) ?_ rfl rfl
      refine .p rfl rfl rfl ?_
      refine .nil ?_
      refine .cond rfl (fun hb => ?_) (fun hb => ?_)
      · have h := sel_t hb h
        refine .skip ?_
        refine .seq ?_
        refine .block ?_
        refine .seq ?_
        refine .rk 9 hS [] T.mix ?_
        intro W hS
        have hT : Sep _ _ W [] := hS.to [] rfl
        refine .t1 0 rfl (fun W hT => pr rfl) hT ?_ (by kernel_rfl) rfl rfl
        refine .t1 1 rfl (fun W hT => pr rfl) hT ?_ (by kernel_rfl) rfl rfl
        obtain ⟨x1, hx1, h⟩ := bnd h
        refine .t1 2 rfl (fun W hT => ixv (hS.keep q_0) hx1 T.u22 T.t3 rfl rfl rfl) hT ?_ (by kernel_rfl) rfl rfl
        refine .t1 3 rfl (fun W hT => lde (RV.flat (hT.keep q_0) hx1 rfl) T.t3 rfl rfl rfl rfl rfl) hT ?_ (by kernel_rfl) rfl rfl
        refine .t1 4 rfl (fun W hT => pr rfl) hT ?_ (by kernel_rfl) rfl rfl
        refine .t1 5 rfl (fun W hT => pr rfl) hT ?_ (by kernel_rfl) rfl rfl
        obtain ⟨x2, hx2, h⟩ := bnd h
        refine .t1 6 rfl (fun W hT => ixv (hS.keep q_1) hx2 T.u22 T.t3 rfl rfl rfl) hT ?_ (by kernel_rfl) rfl rfl
        refine .t1 7 rfl (fun W hT => lde (RV.flat (hT.keep q_1) hx2 rfl) T.t3 rfl rfl rfl rfl rfl) hT ?_ (by kernel_rfl) rfl rfl
        refine .t1 8 rfl (fun W hT => pr rfl) hT ?_ (by kernel_rfl) rfl rfl
        refine .done ?_ (by kernel_rfl)
        refine .cond rfl (fun hb => ?_) (fun hb => ?_)
        · have h := sel_t hb h
          refine .seq ?_
          refine .region ?_
          refine .p rfl rfl rfl ?_
          refine .nil ?_
          refine .ret ?_
          cases h
          exact ⟨by simp, rfl, fin_ret (vs := [_]) () (rt rfl rn) rfl (hS.to [] rfl)⟩
        · have h := sel_f hb h
          refine .skip ?_
          refine .region ?_
          refine .p rfl rfl rfl ?_
          refine .p rfl rfl rfl ?_
          refine .p rfl rfl rfl ?_
          refine .nil ?_
          cases h
          exact ⟨rfl, sb rfl, hS.to [] rfl⟩
      · have h := sel_f hb h
        refine .exit ?_
        cases h
        exact ⟨by simp, rfl, sb rfl, hS.to [] rfl⟩
    · intro x E W hJ
      rcases y1 with o3 | o4
      · skip
        obtain ⟨rfl, hF⟩ := hJ
        refine ⟨_, fun _ _ h => h, ?_⟩
        cases h
        exact hF
      · skip
        obtain ⟨rfl, hE, hS⟩ := hJ
        refine ⟨_, hE.sub, ?_⟩
        refine .seq ?_
        refine .region ?_
        refine .p rfl rfl rfl ?_
        refine .nil ?_
        refine .ret ?_
        cases h
        exact fin_ret (vs := [_]) () (rt rfl rn) rfl (hS.to [] rfl)
theorem laws_eqMachine_ok {a0 : Machine} {a1 : Machine} {v_0_Regs : Hd} {v_0_Mem : Hd} {v_1_Regs : Hd} {v_1_Mem : Hd} {w : World} {r : Bool} (h : laws_eqMachine a0 a1 = some r) (q_0_Regs : RV w (Old No w) (sv v_0_Regs) 3 1 (D.int .i64) a0.Regs) (q_0_Mem : RV w (Old No w) (sv v_0_Mem) 3 1 (D.int .i64) a0.Mem) (q_1_Regs : RV w (Old No w) (sv v_1_Regs) 3 1 (D.int .i64) a1.Regs) (q_1_Mem : RV w (Old No w) (sv v_1_Mem) 3 1 (D.int .i64) a1.Mem) : Calls Tryd.prog 10 #[.agg #[(sv v_0_Regs), .int .i64 a0.Pc, (sv v_0_Mem)], .agg #[(sv v_1_Regs), .int .i64 a1.Pc, (sv v_1_Mem)]] w (Ret No w (fun s : Unit => .bool r) (fun s => [])) := by
  unfold laws_eqMachine at h
  refine enter Tryd.func10 rfl rfl ?_
  have hS := Sep.start w
  refine .seq ?_
  refine .region ?_
  refine .c (.box hS rfl rfl ?_ rfl rfl)
  intro g1 W hS
  refine .c (.box hS rfl rfl ?_ rfl rfl)
  intro g2 W hS
  refine .p rfl rfl rfl ?_
  refine .nil ?_
  refine .seq ?_
  refine .seq ?_
  refine .region ?_
  refine .r (fa T.f26_0 rfl rfl rfl) ?_ rfl rfl
  refine .r (ld T.t22 hS.p1 rfl rfl rfl rfl rfl) ?_ rfl rfl
  refine .r (fa T.f26_0 rfl rfl rfl) ?_ rfl rfl
  refine .r (ld T.t22 hS rfl rfl rfl rfl rfl) ?_ rfl rfl
  obtain ⟨y1, hy1, h⟩ := bnd h
  refine .c (.call0 hS Tryd.func11 (laws_eqIntS_ok hy1 (hS.keep q_0_Regs) (hS.keep q_1_Regs)) rfl rfl ?_ rfl (by kernel_rfl) rfl rfl)
  intro W hS
  refine .p rfl rfl rfl ?_
  refine .nil ?_
  refine .cond rfl (fun hb => ?_) (fun hb => ?_)
  · have h := sel_t hb h
    refine .seq ?_
    refine .region ?_
    refine .p rfl rfl rfl ?_
    refine .nil ?_
    refine .ret ?_
    cases h
    exact fin_ret (vs := [_]) () (rt rfl rn) rfl (hS.to [] rfl)
  · have h := sel_f hb h
    refine .skip ?_
    refine .seq ?_
    refine .seq ?_
    refine .region ?_
    refine .r (fa T.f26_1 rfl rfl rfl) ?_ rfl rfl
    refine .r (ld T.t3 hS.p1 rfl rfl rfl rfl rfl) ?_ rfl rfl
    refine .r (fa T.f26_1 rfl rfl rfl) ?_ rfl rfl
    refine .r (ld T.t3 hS rfl rfl rfl rfl rfl) ?_ rfl rfl
    refine .p rfl rfl rfl ?_
    refine .nil ?_
    refine .cond rfl (fun hb => ?_) (fun hb => ?_)
    · have h := sel_t hb h
      refine .seq ?_
      refine .region ?_
      refine .p rfl rfl rfl ?_
      refine .nil ?_
      refine .ret ?_
      cases h
      exact fin_ret (vs := [_]) () (rt rfl rn) rfl (hS.to [] rfl)
    · have h := sel_f hb h
      refine .skip ?_
      refine .seq ?_
      refine .seq ?_
      refine .region ?_
      refine .r (fa T.f26_2 rfl rfl rfl) ?_ rfl rfl
      refine .r (ld T.t22 hS.p1 rfl rfl rfl rfl rfl) ?_ rfl rfl
      refine .r (fa T.f26_2 rfl rfl rfl) ?_ rfl rfl
      refine .r (ld T.t22 hS rfl rfl rfl rfl rfl) ?_ rfl rfl
      obtain ⟨y2, hy2, h⟩ := bnd h
      refine .c (.call0 hS Tryd.func11 (laws_eqIntS_ok hy2 (hS.keep q_0_Mem) (hS.keep q_1_Mem)) rfl rfl ?_ rfl (by kernel_rfl) rfl rfl)
      intro W hS
      refine .p rfl rfl rfl ?_
      refine .nil ?_
      refine .cond rfl (fun hb => ?_) (fun hb => ?_)
      · have h := sel_t hb h
        refine .seq ?_
        refine .region ?_
        refine .p rfl rfl rfl ?_
        refine .nil ?_
        refine .ret ?_
        cases h
        exact fin_ret (vs := [_]) () (rt rfl rn) rfl (hS.to [] rfl)
      · have h := sel_f hb h
        refine .skip ?_
        refine .seq ?_
        refine .region ?_
        refine .p rfl rfl rfl ?_
        refine .nil ?_
        refine .ret ?_
        cases h
        exact fin_ret (vs := [_]) () (rt rfl rn) rfl (hS.to [] rfl)
theorem laws_eqInstr_ok {a0 : Instr} {a1 : Instr} {w : World} {r : Bool} (h : laws_eqInstr a0 a1 = some r) : Calls Tryd.prog 61 #[.agg #[.int .i64 a0.Op, .int .i64 a0.Rd, .int .i64 a0.Rs, .int .i64 a0.Rt, .int .i64 a0.Imm], .agg #[.int .i64 a1.Op, .int .i64 a1.Rd, .int .i64 a1.Rs, .int .i64 a1.Rt, .int .i64 a1.Imm]] w (Ret No w (fun s : Unit => .bool r) (fun s => [])) := by
  unfold laws_eqInstr at h
  refine enter Tryd.func61 rfl rfl ?_
  have hS := Sep.start w
  refine .seq ?_
  refine .region ?_
  refine .c (.box hS rfl rfl ?_ rfl rfl)
  intro g1 W hS
  refine .c (.box hS rfl rfl ?_ rfl rfl)
  intro g2 W hS
  refine .p rfl rfl rfl ?_
  refine .nil ?_
  refine .seq ?_
  refine .seq ?_
  refine .region ?_
  refine .r (fa T.f68_0 rfl rfl rfl) ?_ rfl rfl
  refine .r (ld T.t3 hS.p1 rfl rfl rfl rfl rfl) ?_ rfl rfl
  refine .r (fa T.f68_0 rfl rfl rfl) ?_ rfl rfl
  refine .r (ld T.t3 hS rfl rfl rfl rfl rfl) ?_ rfl rfl
  refine .p rfl rfl rfl ?_
  refine .nil ?_
  refine .cond rfl (fun hb => ?_) (fun hb => ?_)
  · have h := sel_t hb h
    refine .seq ?_
    refine .region ?_
    refine .p rfl rfl rfl ?_
    refine .nil ?_
    refine .ret ?_
    cases h
    exact fin_ret (vs := [_]) () (rt rfl rn) rfl (hS.to [] rfl)
  · have h := sel_f hb h
    refine .skip ?_
    refine .seq ?_
    refine .seq ?_
    refine .region ?_
    refine .r (fa T.f68_1 rfl rfl rfl) ?_ rfl rfl
    refine .r (ld T.t3 hS.p1 rfl rfl rfl rfl rfl) ?_ rfl rfl
    refine .r (fa T.f68_1 rfl rfl rfl) ?_ rfl rfl
    refine .r (ld T.t3 hS rfl rfl rfl rfl rfl) ?_ rfl rfl
    refine .p rfl rfl rfl ?_
    refine .nil ?_
    refine .cond rfl (fun hb => ?_) (fun hb => ?_)
    · have h := sel_t hb h
      refine .seq ?_
      refine .region ?_
      refine .p rfl rfl rfl ?_
      refine .nil ?_
      refine .ret ?_
      cases h
      exact fin_ret (vs := [_]) () (rt rfl rn) rfl (hS.to [] rfl)
    · have h := sel_f hb h
      refine .skip ?_
      refine .seq ?_
      refine .seq ?_
      refine .region ?_
      refine .r (fa T.f68_2 rfl rfl rfl) ?_ rfl rfl
      refine .r (ld T.t3 hS.p1 rfl rfl rfl rfl rfl) ?_ rfl rfl
      refine .r (fa T.f68_2 rfl rfl rfl) ?_ rfl rfl
      refine .r (ld T.t3 hS rfl rfl rfl rfl rfl) ?_ rfl rfl
      refine .p rfl rfl rfl ?_
      refine .nil ?_
      refine .cond rfl (fun hb => ?_) (fun hb => ?_)
      · have h := sel_t hb h
        refine .seq ?_
        refine .region ?_
        refine .p rfl rfl rfl ?_
        refine .nil ?_
        refine .ret ?_
        cases h
        exact fin_ret (vs := [_]) () (rt rfl rn) rfl (hS.to [] rfl)
      · have h := sel_f hb h
        refine .skip ?_
        refine .seq ?_
        refine .seq ?_
        refine .region ?_
        refine .r (fa T.f68_3 rfl rfl rfl) ?_ rfl rfl
        refine .r (ld T.t3 hS.p1 rfl rfl rfl rfl rfl) ?_ rfl rfl
        refine .r (fa T.f68_3 rfl rfl rfl) ?_ rfl rfl
        refine .r (ld T.t3 hS rfl rfl rfl rfl rfl) ?_ rfl rfl
        refine .p rfl rfl rfl ?_
        refine .nil ?_
        refine .cond rfl (fun hb => ?_) (fun hb => ?_)
        · have h := sel_t hb h
          refine .seq ?_
          refine .region ?_
          refine .p rfl rfl rfl ?_
          refine .nil ?_
          refine .ret ?_
          cases h
          exact fin_ret (vs := [_]) () (rt rfl rn) rfl (hS.to [] rfl)
        · have h := sel_f hb h
          refine .skip ?_
          refine .seq ?_
          refine .seq ?_
          refine .region ?_
          refine .r (fa T.f68_4 rfl rfl rfl) ?_ rfl rfl
          refine .r (ld T.t3 hS.p1 rfl rfl rfl rfl rfl) ?_ rfl rfl
          refine .r (fa T.f68_4 rfl rfl rfl) ?_ rfl rfl
          refine .r (ld T.t3 hS rfl rfl rfl rfl rfl) ?_ rfl rfl
          refine .p rfl rfl rfl ?_
          refine .nil ?_
          refine .cond rfl (fun hb => ?_) (fun hb => ?_)
          · have h := sel_t hb h
            refine .seq ?_
            refine .region ?_
            refine .p rfl rfl rfl ?_
            refine .nil ?_
            refine .ret ?_
            cases h
            exact fin_ret (vs := [_]) () (rt rfl rn) rfl (hS.to [] rfl)
          · have h := sel_f hb h
            refine .skip ?_
            refine .seq ?_
            refine .region ?_
            refine .p rfl rfl rfl ?_
            refine .nil ?_
            refine .ret ?_
            cases h
            exact fin_ret (vs := [_]) () (rt rfl rn) rfl (hS.to [] rfl)
def laws_eqInstrS_F (w : World) (r : Bool) : Env → World → Prop := Fin Tryd.prog Tryd.f33 No w (fun s : Unit => .bool r) (fun s => []) .ret
end Go.Proofs.YtdohklfimhkicaaDoor.N
