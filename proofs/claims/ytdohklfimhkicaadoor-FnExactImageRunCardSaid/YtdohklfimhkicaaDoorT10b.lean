/- Printed by a program of mine: that the program's functions compute it. -/
import Derived.Test.YtdohklfimhkicaaDoorT10
import Derived.Test.YtdohklfimhkicaaDoorT10a
set_option linter.unusedVariables false
set_option maxRecDepth 100000
set_option maxHeartbeats 4000000
namespace Go.Proofs.YtdohklfimhkicaaDoor.N
open Go.Proofs.YtdohklfimhkicaaDoor.X
theorem spec_Apply_ok {a0 : Int} {a1 : Int} {a2 : Int} {w : World} {r : Int × Bool} (h : spec_Apply a0 a1 a2 = some r) : Calls Tryd.prog 113 #[.int .i64 a0, .int .i64 a1, .int .i64 a2] w (Ret No w (fun s : Unit => .tuple #[.int .i64 r.1, .bool r.2]) (fun s => [])) := by
  unfold spec_Apply at h
  refine enter Tryd.func113 rfl rfl ?_
  have hS := Sep.start w
  refine .seq ?_
  refine .region ?_
  refine .p rfl rfl rfl ?_
  refine .p rfl rfl rfl ?_
  refine .nil ?_
  refine .seq ?_
  refine .seq ?_
  refine .region ?_
  refine .p rfl rfl rfl ?_
  obtain ⟨y1, hy1, h⟩ := bnd h
  refine .c (.call0 hS Tryd.func116 (spec_OpValid_ok hy1) rfl rfl ?_ rfl (by kernel_rfl) rfl rfl)
  intro W hS
  refine .p rfl rfl rfl ?_
  refine .p rfl rfl rfl ?_
  obtain ⟨b1, hb1, h⟩ := bnd h
  refine .chunk 4 15 (b1) hS ?_ ?_
  · refine .both (!y1) (fun hb => ?_) (fun hb => ?_)
    · skip
      refine .x hb ?_ rfl rfl
      refine .x hb ?_ rfl rfl
      refine .x hb ?_ rfl rfl
      cases sel_t hb hb1
      refine .r (pkt hb rfl rfl rfl) ?_ rfl rfl
      exact .nil (ck 4 hS rfl rfl rfl rfl)
    · have hg1 := hb
      have h := sel_f hb hb1
      refine .g hg1 (.p rfl rfl rfl ?_) rfl
      obtain ⟨y2, hy2, h⟩ := bnd h
      refine .g hg1 (.c (.call0 hS Tryd.func63 (spec_WordValid_ok hy2) rfl rfl ?_ rfl (by kernel_rfl) rfl rfl)) rfl
      intro W hS
      refine .g hg1 (.p rfl rfl rfl ?_) rfl
      refine .r (pkf hg1 rfl rfl rfl) ?_ rfl rfl
      cases h
      exact .nil (ck 4 hS rfl rfl rfl rfl)
  intro W hS
  refine .p rfl rfl rfl ?_
  obtain ⟨b2, hb2, h⟩ := bnd h
  refine .chunk 4 20 (b2) hS ?_ ?_
  · refine .both (b1) (fun hb => ?_) (fun hb => ?_)
    · skip
      refine .x hb ?_ rfl rfl
      refine .x hb ?_ rfl rfl
      refine .x hb ?_ rfl rfl
      cases sel_t hb hb2
      refine .r (pkt hb rfl rfl rfl) ?_ rfl rfl
      exact .nil (ck 4 hS rfl rfl rfl rfl)
    · have hg2 := hb
      have h := sel_f hb hb2
      refine .g hg2 (.p rfl rfl rfl ?_) rfl
      obtain ⟨y3, hy3, h⟩ := bnd h
      refine .g hg2 (.c (.call0 hS Tryd.func63 (spec_WordValid_ok hy3) rfl rfl ?_ rfl (by kernel_rfl) rfl rfl)) rfl
      intro W hS
      refine .g hg2 (.p rfl rfl rfl ?_) rfl
      refine .r (pkf hg2 rfl rfl rfl) ?_ rfl rfl
      cases h
      exact .nil (ck 4 hS rfl rfl rfl rfl)
  intro W hS
  refine .nil ?_
  refine .cond rfl (fun hb => ?_) (fun hb => ?_)
  · have h := sel_t hb h
    refine .seq ?_
    refine .region ?_
    refine .p rfl rfl rfl ?_
    refine .p rfl rfl rfl ?_
    refine .nil ?_
    refine .ret ?_
    cases h
    exact fin_ret (vs := [_, _]) () (rt rfl (rt rfl rn)) rfl (hS.to [] rfl)
  · have h := sel_f hb h
    refine .skip ?_
    refine .seq ?_
    refine .seq ?_
    refine .region ?_
    refine .p rfl rfl rfl ?_
    refine .nil ?_
    refine .block ?_
    refine .seq ?_
    refine .region ?_
    refine .p rfl rfl rfl ?_
    refine .p rfl rfl rfl ?_
    refine .nil ?_
    refine .cond rfl (fun hb => ?_) (fun hb => ?_)
    · have h := sel_t hb h
      refine .seq ?_
      refine .region ?_
      refine .p rfl rfl rfl ?_
      refine .p rfl rfl rfl ?_
      refine .p rfl rfl rfl ?_
      refine .p rfl rfl rfl ?_
      refine .p rfl rfl rfl ?_
      refine .nil ?_
      refine .ret ?_
      cases h
      exact fin_ret (vs := [_, _]) () (rt rfl (rt rfl rn)) rfl (hS.to [] rfl)
    · have h := sel_f hb h
      refine .seq ?_
      refine .region ?_
      refine .p rfl rfl rfl ?_
      refine .p rfl rfl rfl ?_
      refine .nil ?_
      refine .cond rfl (fun hb => ?_) (fun hb => ?_)
      · have h := sel_t hb h
        refine .seq ?_
        refine .region ?_
        refine .p rfl rfl rfl ?_
        refine .p rfl rfl rfl ?_
        refine .p rfl rfl rfl ?_
        refine .p rfl rfl rfl ?_
        refine .p rfl rfl rfl ?_
        refine .nil ?_
        refine .ret ?_
        cases h
        exact fin_ret (vs := [_, _]) () (rt rfl (rt rfl rn)) rfl (hS.to [] rfl)
      · have h := sel_f hb h
        refine .seq ?_
        refine .region ?_
        refine .p rfl rfl rfl ?_
        refine .p rfl rfl rfl ?_
        refine .nil ?_
        refine .cond rfl (fun hb => ?_) (fun hb => ?_)
        · have h := sel_t hb h
          refine .seq ?_
          refine .region ?_
          refine .p rfl rfl rfl ?_
          refine .p rfl rfl rfl ?_
          refine .p rfl rfl rfl ?_
          refine .p rfl rfl rfl ?_
          refine .p rfl rfl rfl ?_
          refine .nil ?_
          refine .ret ?_
          cases h
          exact fin_ret (vs := [_, _]) () (rt rfl (rt rfl rn)) rfl (hS.to [] rfl)
        · have h := sel_f hb h
          refine .seq ?_
          refine .region ?_
          refine .p rfl rfl rfl ?_
          refine .p rfl rfl rfl ?_
          refine .nil ?_
          refine .cond rfl (fun hb => ?_) (fun hb => ?_)
          · have h := sel_t hb h
            refine .seq ?_
            refine .region ?_
            refine .p rfl rfl rfl ?_
            refine .p rfl rfl rfl ?_
            refine .p rfl rfl rfl ?_
            obtain ⟨y4, hy4, h⟩ := bnd h
            refine .c (.call0 hS Tryd.func95 (spec_l2Flag_ok hy4) rfl rfl ?_ rfl (by kernel_rfl) rfl rfl)
            intro W hS
            refine .p rfl rfl rfl ?_
            refine .p rfl rfl rfl ?_
            refine .nil ?_
            refine .ret ?_
            cases h
            exact fin_ret (vs := [_, _]) () (rt rfl (rt rfl rn)) rfl (hS.to [] rfl)
          · have h := sel_f hb h
            refine .seq ?_
            refine .region ?_
            refine .p rfl rfl rfl ?_
            refine .p rfl rfl rfl ?_
            refine .nil ?_
            refine .cond rfl (fun hb => ?_) (fun hb => ?_)
            · have h := sel_t hb h
              refine .seq ?_
              refine .region ?_
              refine .p rfl rfl rfl ?_
              refine .p rfl rfl rfl ?_
              refine .p rfl rfl rfl ?_
              obtain ⟨y5, hy5, h⟩ := bnd h
              refine .c (.call0 hS Tryd.func95 (spec_l2Flag_ok hy5) rfl rfl ?_ rfl (by kernel_rfl) rfl rfl)
              intro W hS
              refine .p rfl rfl rfl ?_
              refine .p rfl rfl rfl ?_
              refine .nil ?_
              refine .ret ?_
              cases h
              exact fin_ret (vs := [_, _]) () (rt rfl (rt rfl rn)) rfl (hS.to [] rfl)
            · have h := sel_f hb h
              refine .seq ?_
              refine .region ?_
              refine .p rfl rfl rfl ?_
              refine .p rfl rfl rfl ?_
              refine .nil ?_
              refine .cond rfl (fun hb => ?_) (fun hb => ?_)
              · have h := sel_t hb h
                refine .seq ?_
                refine .region ?_
                refine .p rfl rfl rfl ?_
                refine .p rfl rfl rfl ?_
                obtain ⟨y6, hy6, h⟩ := bnd h
                refine .c (.call0 hS Tryd.func117 (spec_l2Shift_ok hy6) rfl rfl ?_ rfl (by kernel_rfl) rfl rfl)
                intro W hS
                refine .p rfl rfl rfl ?_
                refine .p rfl rfl rfl ?_
                refine .nil ?_
                refine .ret ?_
                cases h
                exact fin_ret (vs := [_, _]) () (rt rfl (rt rfl rn)) rfl (hS.to [] rfl)
              · have h := sel_f hb h
                refine .seq ?_
                refine .region ?_
                refine .p rfl rfl rfl ?_
                refine .p rfl rfl rfl ?_
                refine .nil ?_
                refine .cond rfl (fun hb => ?_) (fun hb => ?_)
                · have h := sel_t hb h
                  refine .seq ?_
                  refine .region ?_
                  refine .p rfl rfl rfl ?_
                  refine .p rfl rfl rfl ?_
                  obtain ⟨y7, hy7, h⟩ := bnd h
                  refine .c (.call0 hS Tryd.func117 (spec_l2Shift_ok hy7) rfl rfl ?_ rfl (by kernel_rfl) rfl rfl)
                  intro W hS
                  refine .p rfl rfl rfl ?_
                  refine .p rfl rfl rfl ?_
                  refine .nil ?_
                  refine .ret ?_
                  cases h
                  exact fin_ret (vs := [_, _]) () (rt rfl (rt rfl rn)) rfl (hS.to [] rfl)
                · have h := sel_f hb h
                  refine .seq ?_
                  refine .region ?_
                  refine .p rfl rfl rfl ?_
                  refine .p rfl rfl rfl ?_
                  refine .nil ?_
                  refine .cond rfl (fun hb => ?_) (fun hb => ?_)
                  · have h := sel_t hb h
                    refine .seq ?_
                    refine .region ?_
                    refine .p rfl rfl rfl ?_
                    refine .p rfl rfl rfl ?_
                    refine .p rfl rfl rfl ?_
                    obtain ⟨y8, hy8, h⟩ := bnd h
                    refine .c (.call0 hS Tryd.func44 (spec_Wrap_ok hy8) rfl rfl ?_ rfl (by kernel_rfl) rfl rfl)
                    intro W hS
                    refine .p rfl rfl rfl ?_
                    refine .p rfl rfl rfl ?_
                    refine .nil ?_
                    refine .ret ?_
                    cases h
                    exact fin_ret (vs := [_, _]) () (rt rfl (rt rfl rn)) rfl (hS.to [] rfl)
                  · have h := sel_f hb h
                    refine .seq ?_
                    refine .region ?_
                    refine .p rfl rfl rfl ?_
                    refine .p rfl rfl rfl ?_
                    refine .nil ?_
                    refine .cond rfl (fun hb => ?_) (fun hb => ?_)
                    · have h := sel_t hb h
                      refine .seq ?_
                      refine .region ?_
                      refine .p rfl rfl rfl ?_
                      refine .p rfl rfl rfl ?_
                      refine .p rfl rfl rfl ?_
                      obtain ⟨y9, hy9, h⟩ := bnd h
                      refine .c (.call0 hS Tryd.func44 (spec_Wrap_ok hy9) rfl rfl ?_ rfl (by kernel_rfl) rfl rfl)
                      intro W hS
                      refine .p rfl rfl rfl ?_
                      refine .p rfl rfl rfl ?_
                      refine .nil ?_
                      refine .ret ?_
                      cases h
                      exact fin_ret (vs := [_, _]) () (rt rfl (rt rfl rn)) rfl (hS.to [] rfl)
                    · have h := sel_f hb h
                      refine .seq ?_
                      refine .region ?_
                      refine .p rfl rfl rfl ?_
                      refine .p rfl rfl rfl ?_
                      refine .nil ?_
                      refine .cond rfl (fun hb => ?_) (fun hb => ?_)
                      · have h := sel_t hb h
                        refine .seq ?_
                        refine .region ?_
                        refine .p rfl rfl rfl ?_
                        refine .p rfl rfl rfl ?_
                        refine .p rfl rfl rfl ?_
                        obtain ⟨y10, hy10, h⟩ := bnd h
                        refine .c (.call0 hS Tryd.func44 (spec_Wrap_ok hy10) rfl rfl ?_ rfl (by kernel_rfl) rfl rfl)
                        intro W hS
                        refine .p rfl rfl rfl ?_
                        refine .p rfl rfl rfl ?_
                        refine .nil ?_
                        refine .ret ?_
                        cases h
                        exact fin_ret (vs := [_, _]) () (rt rfl (rt rfl rn)) rfl (hS.to [] rfl)
                      · have h := sel_f hb h
                        refine .seq ?_
                        refine .region ?_
                        refine .p rfl rfl rfl ?_
                        refine .p rfl rfl rfl ?_
                        refine .nil ?_
                        refine .cond rfl (fun hb => ?_) (fun hb => ?_)
                        · have h := sel_t hb h
                          refine .seq ?_
                          refine .region ?_
                          refine .p rfl rfl rfl ?_
                          refine .p rfl rfl rfl ?_
                          obtain ⟨y11, hy11, h⟩ := bnd h
                          refine .c (.call0 hS Tryd.func118 (spec_l2Divide_ok hy11) rfl rfl ?_ rfl (by kernel_rfl) rfl rfl)
                          intro W hS
                          refine .p rfl rfl rfl ?_
                          refine .p rfl rfl rfl ?_
                          refine .nil ?_
                          refine .ret ?_
                          cases h
                          exact fin_ret (vs := [_, _]) () (rt rfl (rt rfl rn)) rfl (hS.to [] rfl)
                        · have h := sel_f hb h
                          refine .skip ?_
                          refine .seq ?_
                          refine .region ?_
                          refine .p rfl rfl rfl ?_
                          refine .p rfl rfl rfl ?_
                          obtain ⟨y12, hy12, h⟩ := bnd h
                          refine .c (.call0 hS Tryd.func119 (spec_l2Remain_ok hy12) rfl rfl ?_ rfl (by kernel_rfl) rfl rfl)
                          intro W hS
                          refine .p rfl rfl rfl ?_
                          refine .p rfl rfl rfl ?_
                          refine .nil ?_
                          refine .ret ?_
                          cases h
                          exact fin_ret (vs := [_, _]) () (rt rfl (rt rfl rn)) rfl (hS.to [] rfl)
theorem spec_l44Alu_ok {a0 : Int} {a1 : Int} {a2 : Int} {w : World} {r : Int} (h : spec_l44Alu a0 a1 a2 = some r) : Calls Tryd.prog 96 #[.int .i64 a0, .int .i64 a1, .int .i64 a2] w (Ret No w (fun s : Unit => .int .i64 r) (fun s => [])) := by
  unfold spec_l44Alu at h
  refine enter Tryd.func96 rfl rfl ?_
  have hS := Sep.start w
  refine .seq ?_
  refine .region ?_
  refine .p rfl rfl rfl ?_
  refine .nil ?_
  refine .seq ?_
  refine .region ?_
  refine .c (.liv [8, 9, 10, 11, 12, 3, 1, 2, 6, 7, 5] (D.int .i64) T.u22 T.t3 hS rfl rfl rfl rfl ?_ rfl (fun _ => rfl) rfl rfl rfl rfl)
  intro v1 W hS
  refine .p rfl rfl rfl ?_
  refine .nil ?_
  refine .seq ?_
  refine .region ?_
  refine .p rfl rfl rfl ?_
  refine .p rfl rfl rfl ?_
  refine .p rfl rfl rfl ?_
  obtain ⟨x1, hx1, h⟩ := bnd h
  refine .r (ixv hS.lendv hx1 T.u22 T.t3 rfl rfl rfl) ?_ rfl rfl
  refine .r (lde (RV.flat hS.lendv hx1 rfl) T.t3 rfl rfl rfl rfl rfl) ?_ rfl rfl
  refine .p rfl rfl rfl ?_
  refine .p rfl rfl rfl ?_
  obtain ⟨y1, hy1, h⟩ := bnd h
  refine .c (.call0 hS Tryd.func113 (spec_Apply_ok hy1) rfl rfl ?_ rfl (by kernel_rfl) rfl rfl)
  intro W hS
  refine .p rfl rfl rfl ?_
  refine .p rfl rfl rfl ?_
  refine .p rfl rfl rfl ?_
  refine .p rfl rfl rfl ?_
  refine .p rfl rfl rfl ?_
  refine .nil ?_
  refine .seq ?_
  refine .region ?_
  refine .p rfl rfl rfl ?_
  refine .p rfl rfl rfl ?_
  refine .nil ?_
  refine .ret ?_
  cases h
  exact fin_ret (vs := [_]) () (rt rfl rn) rfl (hS.to [] rfl)
def spec_l44Do_F (w : World) (S : Nat → Prop) (v_0_Regs : Hd) (v_0_Mem : Hd) (g_0 : Nat) (a0 : Machine) (a1 : Instr) (r : Bool × (List Int) × Int × (List Int)) : Env → World → Prop := Fin Tryd.prog Tryd.f67 S w (fun s : Hd × Hd => .bool r.1) (fun s => [.box g_0 26 [(sv s.1), .int .i64 r.2.2.1, (sv s.2)], rowV (sv s.1) 3 1 (D.int .i64) r.2.1, rowV (sv s.2) 3 1 (D.int .i64) r.2.2.2]) .ret
theorem spec_l44Do_ok {a0 : Machine} {a1 : Instr} {v_0_Regs : Hd} {v_0_Mem : Hd} {g_0 : Nat} {S : Nat → Prop} {w : World} {r : Bool × (List Int) × Int × (List Int)} (h : spec_l44Do a0 a1 = some r) (hO : Owns w [rowV (sv v_0_Regs) 3 1 (D.int .i64) a0.Regs, rowV (sv v_0_Mem) 3 1 (D.int .i64) a0.Mem, .box g_0 26 [(sv v_0_Regs), .int .i64 a0.Pc, (sv v_0_Mem)]] S) (hlt : ∀ b, S b → b < w.heap.size) : Calls Tryd.prog 67 #[.pointer (some ⟨g_0, 0, none⟩), .agg #[.int .i64 a1.Op, .int .i64 a1.Rd, .int .i64 a1.Rs, .int .i64 a1.Rt, .int .i64 a1.Imm]] w (Ret S w (fun s : Hd × Hd => .bool r.1) (fun s => [.box g_0 26 [(sv s.1), .int .i64 r.2.2.1, (sv s.2)], rowV (sv s.1) 3 1 (D.int .i64) r.2.1, rowV (sv s.2) 3 1 (D.int .i64) r.2.2.2])) := by
  unfold spec_l44Do at h
  refine enter Tryd.func67 rfl rfl ?_
  have hS := Sep.startM hO hlt
  refine .seq ?_
  refine .region ?_
  refine .c (.box hS rfl rfl ?_ rfl rfl)
  intro g1 W hS
  refine .p rfl rfl rfl ?_
  refine .nil ?_
  refine .seq ?_
  refine .rk 9 hS [0, 0, 0, 0] T.mix ?_
  intro W hS
  have hT : Sep _ _ W [.box g1 68 [.int .i64 a1.Op, .int .i64 a1.Rd, .int .i64 a1.Rs, .int .i64 a1.Rt, .int .i64 a1.Imm], rowV (sv v_0_Regs) 3 1 (D.int .i64) a0.Regs, rowV (sv v_0_Mem) 3 1 (D.int .i64) a0.Mem, .box g_0 26 [(sv v_0_Regs), .int .i64 a0.Pc, (sv v_0_Mem)]] := hS.to [0, 0, 0, 0] rfl
  refine .t1 0 rfl (fun W hT => pr rfl) hT ?_ (by kernel_rfl) rfl rfl
  refine .t1 1 rfl (fun W hT => pr rfl) hT ?_ (by kernel_rfl) rfl rfl
  refine .t1 2 rfl (fun W hT => fa T.f26_0 rfl rfl rfl) hT ?_ (by kernel_rfl) rfl rfl
  refine .t1 3 rfl (fun W hT => ld T.t22 hT.p3 rfl rfl rfl rfl rfl) hT ?_ (by kernel_rfl) rfl rfl
  refine .t1 4 rfl (fun W hT => fa T.f68_2 rfl rfl rfl) hT ?_ (by kernel_rfl) rfl rfl
  refine .t1 5 rfl (fun W hT => ld T.t3 hT rfl rfl rfl rfl rfl) hT ?_ (by kernel_rfl) rfl rfl
  obtain ⟨x1, hx1, h⟩ := bnd h
  refine .t1 6 rfl (fun W hT => ixv hS.p1.lendv hx1 T.u22 T.t3 rfl rfl rfl) hT ?_ (by kernel_rfl) rfl rfl
  refine .t1 7 rfl (fun W hT => lde (RV.flat hT.p1.lendv hx1 rfl) T.t3 rfl rfl rfl rfl rfl) hT ?_ (by kernel_rfl) rfl rfl
  refine .t1 8 rfl (fun W hT => pr rfl) hT ?_ (by kernel_rfl) rfl rfl
  refine .done ?_ (by kernel_rfl)
  obtain ⟨y1, hy1, h⟩ := bnd h
  refine .seq (CW.via (R' := fun x E' W' => (match y1 with | .inl o1 => x = .normal ∧ ∃ (v1 : Hd), SubL E' [(0, .pointer (some ⟨g_0, 0, none⟩))] ∧ Sep S w W' [.box g1 68 [.int .i64 a1.Op, .int .i64 a1.Rd, .int .i64 a1.Rs, .int .i64 a1.Rt, .int .i64 a1.Imm], rowV (sv v_0_Mem) 3 1 (D.int .i64) a0.Mem, .box g_0 26 [(sv v1), .int .i64 a0.Pc, (sv v_0_Mem)], rowV (sv v1) 3 1 (D.int .i64) o1] | .inr o2 => x = .ret ∧ spec_l44Do_F w S v_0_Regs v_0_Mem g_0 a0 a1 o2 E' W')) ?_ ?_)
  · have h := hy1
    refine .seq ?_
    refine .region ?_
    refine .r (fa T.f68_0 rfl rfl rfl) ?_ rfl rfl
    refine .r (ld T.t3 hS rfl rfl rfl rfl rfl) ?_ rfl rfl
    refine .nil ?_
    refine .block ?_
    obtain ⟨y2, hy2, h⟩ := bnd h
    refine .seq (CW.via (R' := fun x E' W' => x = .normal ∧ SubL E' [(0, .pointer (some ⟨g_0, 0, none⟩)), (3, .pointer (some ⟨g1, 0, none⟩)), (5, .int .i64 x1), (15, .int .i64 a1.Op), (32, .bool y2)] ∧ Sep S w W' [.box g1 68 [.int .i64 a1.Op, .int .i64 a1.Rd, .int .i64 a1.Rs, .int .i64 a1.Rt, .int .i64 a1.Imm], rowV (sv v_0_Regs) 3 1 (D.int .i64) a0.Regs, rowV (sv v_0_Mem) 3 1 (D.int .i64) a0.Mem, .box g_0 26 [(sv v_0_Regs), .int .i64 a0.Pc, (sv v_0_Mem)]]) ?_ ?_)
    · have h := hy2
      refine .seq ?_
      refine .region ?_
      refine .p rfl rfl rfl ?_
      refine .p rfl rfl rfl ?_
      refine .nil ?_
      refine .cond rfl (fun hb => ?_) (fun hb => ?_)
      · have h := sel_t hb h
        refine .skip ?_
        cases h
        exact ⟨rfl, sb rfl, hS.to [0, 0, 0, 0] rfl⟩
      · have h := sel_f hb h
        refine .region ?_
        refine .p rfl rfl rfl ?_
        refine .p rfl rfl rfl ?_
        refine .nil ?_
        cases h
        exact ⟨rfl, sb rfl, hS.to [0, 0, 0, 0] rfl⟩
    · intro x E W hJ
      obtain ⟨rfl, hE, hS⟩ := hJ
      refine ⟨_, hE.sub, ?_⟩
      refine .cond rfl (fun hb => ?_) (fun hb => ?_)
      · have h := sel_t hb h
        refine .seq ?_
        refine .region ?_
        refine .p rfl rfl rfl ?_
        refine .r (ld T.t68 hS rfl rfl rfl rfl rfl) ?_ rfl rfl
        obtain ⟨y3, hy3, h⟩ := bnd h
        have hS := hS.p3
        have hS := hS.p3
        have hS := hS.p3
        refine .c (.callS2 (L0 := [rowV (sv v_0_Regs) 3 1 (D.int .i64) a0.Regs, rowV (sv v_0_Mem) 3 1 (D.int .i64) a0.Mem, .box g_0 26 [(sv v_0_Regs), .int .i64 a0.Pc, (sv v_0_Mem)]]) hS Tryd.func92 (fun S h1 h2 h3 => (spec_l44Load_ok hy3 h2 (fun b hb => (h1 b hb).2))) rfl rfl ?_ rfl (by kernel_rfl) rfl rfl)
        rintro ⟨v2, v3⟩ W hS
        have hS : Sep _ _ W [.box g_0 26 [(sv v2), .int .i64 y3.2.2.1, (sv v3)], rowV (sv v2) 3 1 (D.int .i64) y3.2.1, rowV (sv v3) 3 1 (D.int .i64) y3.2.2.2, .box g1 68 [.int .i64 a1.Op, .int .i64 a1.Rd, .int .i64 a1.Rs, .int .i64 a1.Rt, .int .i64 a1.Imm]] := hS
        refine .p rfl rfl rfl ?_
        refine .nil ?_
        refine .ret ?_
        cases h
        exact ⟨rfl, fin_ret (vs := [_]) (v2, v3) (rt rfl rn) rfl (hS.to [0, 0, 0] rfl)⟩
      · have h := sel_f hb h
        obtain ⟨y4, hy4, h⟩ := bnd h
        refine .seq (CW.via (R' := fun x E' W' => x = .normal ∧ SubL E' [(0, .pointer (some ⟨g_0, 0, none⟩)), (3, .pointer (some ⟨g1, 0, none⟩)), (5, .int .i64 x1), (15, .int .i64 a1.Op), (38, .bool y4)] ∧ Sep S w W' [.box g1 68 [.int .i64 a1.Op, .int .i64 a1.Rd, .int .i64 a1.Rs, .int .i64 a1.Rt, .int .i64 a1.Imm], rowV (sv v_0_Regs) 3 1 (D.int .i64) a0.Regs, rowV (sv v_0_Mem) 3 1 (D.int .i64) a0.Mem, .box g_0 26 [(sv v_0_Regs), .int .i64 a0.Pc, (sv v_0_Mem)]]) ?_ ?_)
        · have h := hy4
          refine .seq ?_
          refine .region ?_
          refine .p rfl rfl rfl ?_
          refine .p rfl rfl rfl ?_
          refine .nil ?_
          refine .cond rfl (fun hb => ?_) (fun hb => ?_)
          · have h := sel_t hb h
            refine .skip ?_
            cases h
            exact ⟨rfl, sb rfl, hS.to [0, 0, 0, 0] rfl⟩
          · have h := sel_f hb h
            refine .seq ?_
            refine .region ?_
            refine .p rfl rfl rfl ?_
            refine .p rfl rfl rfl ?_
            refine .nil ?_
            refine .cond rfl (fun hb => ?_) (fun hb => ?_)
            · have h := sel_t hb h
              refine .skip ?_
              cases h
              exact ⟨rfl, sb rfl, hS.to [0, 0, 0, 0] rfl⟩
            · have h := sel_f hb h
              refine .seq ?_
              refine .region ?_
              refine .p rfl rfl rfl ?_
              refine .p rfl rfl rfl ?_
              refine .nil ?_
              refine .cond rfl (fun hb => ?_) (fun hb => ?_)
              · have h := sel_t hb h
                refine .skip ?_
                cases h
                exact ⟨rfl, sb rfl, hS.to [0, 0, 0, 0] rfl⟩
              · have h := sel_f hb h
                refine .region ?_
                refine .p rfl rfl rfl ?_
                refine .p rfl rfl rfl ?_
                refine .nil ?_
                cases h
                exact ⟨rfl, sb rfl, hS.to [0, 0, 0, 0] rfl⟩
        · intro x E W hJ
          obtain ⟨rfl, hE, hS⟩ := hJ
          refine ⟨_, hE.sub, ?_⟩
          refine .cond rfl (fun hb => ?_) (fun hb => ?_)
          · have h := sel_t hb h
            refine .seq ?_
            refine .region ?_
            refine .p rfl rfl rfl ?_
            refine .r (ld T.t68 hS rfl rfl rfl rfl rfl) ?_ rfl rfl
            obtain ⟨y5, hy5, h⟩ := bnd h
            have hS := hS.p3
            have hS := hS.p2
            refine .c (.callS2 (L0 := [rowV (sv v_0_Regs) 3 1 (D.int .i64) a0.Regs, .box g_0 26 [(sv v_0_Regs), .int .i64 a0.Pc, (sv v_0_Mem)]]) hS Tryd.func93 (fun S h1 h2 h3 => (spec_l44Jump_ok hy5 (h3.rdv (k := 1) rfl) h2 (fun b hb => (h1 b hb).2))) rfl rfl ?_ rfl (by kernel_rfl) rfl rfl)
            rintro v4 W hS
            have hS : Sep _ _ W [.box g_0 26 [(sv v4), .int .i64 y5.2, (sv v_0_Mem)], rowV (sv v4) 3 1 (D.int .i64) y5.1, .box g1 68 [.int .i64 a1.Op, .int .i64 a1.Rd, .int .i64 a1.Rs, .int .i64 a1.Rt, .int .i64 a1.Imm], rowV (sv v_0_Mem) 3 1 (D.int .i64) a0.Mem] := hS
            refine .nil ?_
            refine .seq ?_
            refine .region ?_
            refine .p rfl rfl rfl ?_
            refine .nil ?_
            refine .ret ?_
            cases h
            exact ⟨rfl, fin_ret (vs := [_]) (v4, v_0_Mem) (rt rfl rn) rfl (hS.to [0, 0, 1] rfl)⟩
          · have h := sel_f hb h
            refine .seq ?_
            refine .region ?_
            refine .p rfl rfl rfl ?_
            refine .p rfl rfl rfl ?_
            refine .nil ?_
            refine .cond rfl (fun hb => ?_) (fun hb => ?_)
            · have h := sel_t hb h
              refine .rk 9 hS [0, 1] T.mix ?_
              intro W hS
              have hT : Sep _ _ W [.box g1 68 [.int .i64 a1.Op, .int .i64 a1.Rd, .int .i64 a1.Rs, .int .i64 a1.Rt, .int .i64 a1.Imm], rowV (sv v_0_Mem) 3 1 (D.int .i64) a0.Mem] := hS.to [0, 1] rfl
              refine .t1 0 rfl (fun W hT => pr rfl) hT ?_ (by kernel_rfl) rfl rfl
              refine .t1 1 rfl (fun W hT => fa T.f68_1 rfl rfl rfl) hT ?_ (by kernel_rfl) rfl rfl
              refine .t1 2 rfl (fun W hT => ld T.t3 hT rfl rfl rfl rfl rfl) hT ?_ (by kernel_rfl) rfl rfl
              refine .t1 3 rfl (fun W hT => pr rfl) hT ?_ (by kernel_rfl) rfl rfl
              refine .t1 4 rfl (fun W hT => fa T.f68_4 rfl rfl rfl) hT ?_ (by kernel_rfl) rfl rfl
              refine .t1 5 rfl (fun W hT => ld T.t3 hT rfl rfl rfl rfl rfl) hT ?_ (by kernel_rfl) rfl rfl
              refine .t1 6 rfl (fun W hT => pr rfl) hT ?_ (by kernel_rfl) rfl rfl
              obtain ⟨y6, hy6, h⟩ := bnd h
              refine .by1 7 rfl (.call0 hS Tryd.func44 (spec_Wrap_ok hy6) rfl rfl ?_ rfl (by kernel_rfl) rfl rfl) (by kernel_rfl)
              intro W hS
              have hT : Sep _ _ W [.box g1 68 [.int .i64 a1.Op, .int .i64 a1.Rd, .int .i64 a1.Rs, .int .i64 a1.Rt, .int .i64 a1.Imm], rowV (sv v_0_Mem) 3 1 (D.int .i64) a0.Mem] := hS.to [0, 1] rfl
              refine ⟨fun _ => hT, ?_⟩
              obtain ⟨y7, hy7, h⟩ := bnd h
              have hS := hS.p3
              have hS := hS.p2
              refine .by1 8 rfl (.callS2 (L0 := [rowV (sv v_0_Regs) 3 1 (D.int .i64) a0.Regs, .box g_0 26 [(sv v_0_Regs), .int .i64 a0.Pc, (sv v_0_Mem)]]) hS Tryd.func94 (fun S h1 h2 h3 => (spec_l44Set_ok hy7 (h3.rdv (k := 1) rfl) h2 (fun b hb => (h1 b hb).2))) rfl rfl ?_ rfl (by kernel_rfl) rfl rfl) (by kernel_rfl)
              rintro v5 W hS
              have hS : Sep _ _ W [.box g_0 26 [(sv v5), .int .i64 a0.Pc, (sv v_0_Mem)], rowV (sv v5) 3 1 (D.int .i64) y7, .box g1 68 [.int .i64 a1.Op, .int .i64 a1.Rd, .int .i64 a1.Rs, .int .i64 a1.Rt, .int .i64 a1.Imm], rowV (sv v_0_Mem) 3 1 (D.int .i64) a0.Mem] := hS
              have hT : Sep _ _ W [.box g1 68 [.int .i64 a1.Op, .int .i64 a1.Rd, .int .i64 a1.Rs, .int .i64 a1.Rt, .int .i64 a1.Imm], rowV (sv v_0_Mem) 3 1 (D.int .i64) a0.Mem] := hS.to [2, 2] rfl
              refine ⟨fun _ => hT, ?_⟩
              refine .done ?_ (by kernel_rfl)
              cases h
              exact ⟨rfl, v5, sb rfl, hS.to [2, 2, 0, 0] rfl⟩
            · have h := sel_f hb h
              refine .seq ?_
              refine .region ?_
              refine .p rfl rfl rfl ?_
              refine .p rfl rfl rfl ?_
              refine .nil ?_
              refine .cond rfl (fun hb => ?_) (fun hb => ?_)
              · have h := sel_t hb h
                refine .rk 11 hS [0, 1] T.mix ?_
                intro W hS
                have hT : Sep _ _ W [.box g1 68 [.int .i64 a1.Op, .int .i64 a1.Rd, .int .i64 a1.Rs, .int .i64 a1.Rt, .int .i64 a1.Imm], rowV (sv v_0_Mem) 3 1 (D.int .i64) a0.Mem] := hS.to [0, 1] rfl
                refine .t1 0 rfl (fun W hT => pr rfl) hT ?_ (by kernel_rfl) rfl rfl
                refine .t1 1 rfl (fun W hT => fa T.f68_1 rfl rfl rfl) hT ?_ (by kernel_rfl) rfl rfl
                refine .t1 2 rfl (fun W hT => ld T.t3 hT rfl rfl rfl rfl rfl) hT ?_ (by kernel_rfl) rfl rfl
                refine .t1 3 rfl (fun W hT => pr rfl) hT ?_ (by kernel_rfl) rfl rfl
                refine .t1 5 rfl (fun W hT => fa T.f68_4 rfl rfl rfl) hT ?_ (by kernel_rfl) rfl rfl
                refine .t1 6 rfl (fun W hT => ld T.t3 hT rfl rfl rfl rfl rfl) hT ?_ (by kernel_rfl) rfl rfl
                obtain ⟨y8, hy8, h⟩ := bnd h
                refine .by1 4 rfl (.call0 hS Tryd.func66 (spec_Unsigned_ok hy8) rfl rfl ?_ rfl (by kernel_rfl) rfl rfl) (by kernel_rfl)
                intro W hS
                have hT : Sep _ _ W [.box g1 68 [.int .i64 a1.Op, .int .i64 a1.Rd, .int .i64 a1.Rs, .int .i64 a1.Rt, .int .i64 a1.Imm], rowV (sv v_0_Mem) 3 1 (D.int .i64) a0.Mem] := hS.to [0, 1] rfl
                refine ⟨fun _ => hT, ?_⟩
                obtain ⟨y9, hy9, h⟩ := bnd h
                refine .by1 7 rfl (.call0 hS Tryd.func66 (spec_Unsigned_ok hy9) rfl rfl ?_ rfl (by kernel_rfl) rfl rfl) (by kernel_rfl)
                intro W hS
                have hT : Sep _ _ W [.box g1 68 [.int .i64 a1.Op, .int .i64 a1.Rd, .int .i64 a1.Rs, .int .i64 a1.Rt, .int .i64 a1.Imm], rowV (sv v_0_Mem) 3 1 (D.int .i64) a0.Mem] := hS.to [0, 1] rfl
                refine ⟨fun _ => hT, ?_⟩
                refine .t1 8 rfl (fun W hT => pr rfl) hT ?_ (by kernel_rfl) rfl rfl
                obtain ⟨y10, hy10, h⟩ := bnd h
                refine .by1 9 rfl (.call0 hS Tryd.func95 (spec_l2Flag_ok hy10) rfl rfl ?_ rfl (by kernel_rfl) rfl rfl) (by kernel_rfl)
                intro W hS
                have hT : Sep _ _ W [.box g1 68 [.int .i64 a1.Op, .int .i64 a1.Rd, .int .i64 a1.Rs, .int .i64 a1.Rt, .int .i64 a1.Imm], rowV (sv v_0_Mem) 3 1 (D.int .i64) a0.Mem] := hS.to [0, 1] rfl
                refine ⟨fun _ => hT, ?_⟩
                obtain ⟨y11, hy11, h⟩ := bnd h
                have hS := hS.p3
                have hS := hS.p2
                refine .by1 10 rfl (.callS2 (L0 := [rowV (sv v_0_Regs) 3 1 (D.int .i64) a0.Regs, .box g_0 26 [(sv v_0_Regs), .int .i64 a0.Pc, (sv v_0_Mem)]]) hS Tryd.func94 (fun S h1 h2 h3 => (spec_l44Set_ok hy11 (h3.rdv (k := 1) rfl) h2 (fun b hb => (h1 b hb).2))) rfl rfl ?_ rfl (by kernel_rfl) rfl rfl) (by kernel_rfl)
                rintro v6 W hS
                have hS : Sep _ _ W [.box g_0 26 [(sv v6), .int .i64 a0.Pc, (sv v_0_Mem)], rowV (sv v6) 3 1 (D.int .i64) y11, .box g1 68 [.int .i64 a1.Op, .int .i64 a1.Rd, .int .i64 a1.Rs, .int .i64 a1.Rt, .int .i64 a1.Imm], rowV (sv v_0_Mem) 3 1 (D.int .i64) a0.Mem] := hS
                have hT : Sep _ _ W [.box g1 68 [.int .i64 a1.Op, .int .i64 a1.Rd, .int .i64 a1.Rs, .int .i64 a1.Rt, .int .i64 a1.Imm], rowV (sv v_0_Mem) 3 1 (D.int .i64) a0.Mem] := hS.to [2, 2] rfl
                refine ⟨fun _ => hT, ?_⟩
                refine .done ?_ (by kernel_rfl)
                cases h
                exact ⟨rfl, v6, sb rfl, hS.to [2, 2, 0, 0] rfl⟩
              · have h := sel_f hb h
                refine .seq ?_
                refine .region ?_
                refine .p rfl rfl rfl ?_
                refine .p rfl rfl rfl ?_
                refine .nil ?_
                refine .cond rfl (fun hb => ?_) (fun hb => ?_)
                · have h := sel_t hb h
                  refine .rk 8 hS [0, 1] T.mix ?_
                  intro W hS
                  have hT : Sep _ _ W [.box g1 68 [.int .i64 a1.Op, .int .i64 a1.Rd, .int .i64 a1.Rs, .int .i64 a1.Rt, .int .i64 a1.Imm], rowV (sv v_0_Mem) 3 1 (D.int .i64) a0.Mem] := hS.to [0, 1] rfl
                  refine .t1 0 rfl (fun W hT => pr rfl) hT ?_ (by kernel_rfl) rfl rfl
                  refine .t1 1 rfl (fun W hT => fa T.f68_1 rfl rfl rfl) hT ?_ (by kernel_rfl) rfl rfl
                  refine .t1 2 rfl (fun W hT => ld T.t3 hT rfl rfl rfl rfl rfl) hT ?_ (by kernel_rfl) rfl rfl
                  refine .t1 3 rfl (fun W hT => fa T.f68_4 rfl rfl rfl) hT ?_ (by kernel_rfl) rfl rfl
                  refine .t1 4 rfl (fun W hT => ld T.t3 hT rfl rfl rfl rfl rfl) hT ?_ (by kernel_rfl) rfl rfl
                  refine .t1 5 rfl (fun W hT => pr rfl) hT ?_ (by kernel_rfl) rfl rfl
                  obtain ⟨y12, hy12, h⟩ := bnd h
                  refine .by1 6 rfl (.call0 hS Tryd.func44 (spec_Wrap_ok hy12) rfl rfl ?_ rfl (by kernel_rfl) rfl rfl) (by kernel_rfl)
                  intro W hS
                  have hT : Sep _ _ W [.box g1 68 [.int .i64 a1.Op, .int .i64 a1.Rd, .int .i64 a1.Rs, .int .i64 a1.Rt, .int .i64 a1.Imm], rowV (sv v_0_Mem) 3 1 (D.int .i64) a0.Mem] := hS.to [0, 1] rfl
                  refine ⟨fun _ => hT, ?_⟩
                  obtain ⟨y13, hy13, h⟩ := bnd h
                  have hS := hS.p3
                  have hS := hS.p2
                  refine .by1 7 rfl (.callS2 (L0 := [rowV (sv v_0_Regs) 3 1 (D.int .i64) a0.Regs, .box g_0 26 [(sv v_0_Regs), .int .i64 a0.Pc, (sv v_0_Mem)]]) hS Tryd.func94 (fun S h1 h2 h3 => (spec_l44Set_ok hy13 (h3.rdv (k := 1) rfl) h2 (fun b hb => (h1 b hb).2))) rfl rfl ?_ rfl (by kernel_rfl) rfl rfl) (by kernel_rfl)
                  rintro v7 W hS
                  have hS : Sep _ _ W [.box g_0 26 [(sv v7), .int .i64 a0.Pc, (sv v_0_Mem)], rowV (sv v7) 3 1 (D.int .i64) y13, .box g1 68 [.int .i64 a1.Op, .int .i64 a1.Rd, .int .i64 a1.Rs, .int .i64 a1.Rt, .int .i64 a1.Imm], rowV (sv v_0_Mem) 3 1 (D.int .i64) a0.Mem] := hS
                  have hT : Sep _ _ W [.box g1 68 [.int .i64 a1.Op, .int .i64 a1.Rd, .int .i64 a1.Rs, .int .i64 a1.Rt, .int .i64 a1.Imm], rowV (sv v_0_Mem) 3 1 (D.int .i64) a0.Mem] := hS.to [2, 2] rfl
                  refine ⟨fun _ => hT, ?_⟩
                  refine .done ?_ (by kernel_rfl)
                  cases h
                  exact ⟨rfl, v7, sb rfl, hS.to [2, 2, 0, 0] rfl⟩
                · have h := sel_f hb h
                  refine .rk 16 hS [0, 1] T.mix ?_
                  intro W hS
                  have hT : Sep _ _ W [.box g1 68 [.int .i64 a1.Op, .int .i64 a1.Rd, .int .i64 a1.Rs, .int .i64 a1.Rt, .int .i64 a1.Imm], rowV (sv v_0_Mem) 3 1 (D.int .i64) a0.Mem] := hS.to [0, 1] rfl
                  refine .t1 0 rfl (fun W hT => pr rfl) hT ?_ (by kernel_rfl) rfl rfl
                  refine .t1 1 rfl (fun W hT => fa T.f68_1 rfl rfl rfl) hT ?_ (by kernel_rfl) rfl rfl
                  refine .t1 2 rfl (fun W hT => ld T.t3 hT rfl rfl rfl rfl rfl) hT ?_ (by kernel_rfl) rfl rfl
                  refine .t1 3 rfl (fun W hT => fa T.f68_0 rfl rfl rfl) hT ?_ (by kernel_rfl) rfl rfl
                  refine .t1 4 rfl (fun W hT => ld T.t3 hT rfl rfl rfl rfl rfl) hT ?_ (by kernel_rfl) rfl rfl
                  refine .t1 5 rfl (fun W hT => pr rfl) hT ?_ (by kernel_rfl) rfl rfl
                  refine .t1 6 rfl (fun W hT => pr rfl) hT ?_ (by kernel_rfl) rfl rfl
                  refine .t1 7 rfl (fun W hT => pr rfl) hT ?_ (by kernel_rfl) rfl rfl
                  refine .t1 8 rfl (fun W hT => fa T.f26_0 rfl rfl rfl) hT ?_ (by kernel_rfl) rfl rfl
                  refine .t1 10 rfl (fun W hT => fa T.f68_3 rfl rfl rfl) hT ?_ (by kernel_rfl) rfl rfl
                  refine .t1 11 rfl (fun W hT => ld T.t3 hT rfl rfl rfl rfl rfl) hT ?_ (by kernel_rfl) rfl rfl
                  refine .by1 9 rfl (.runs (ld T.t22 hS.p3 rfl rfl rfl rfl rfl) rfl rfl ?_) (by kernel_rfl)
                  have hT : Sep _ _ W [.box g1 68 [.int .i64 a1.Op, .int .i64 a1.Rd, .int .i64 a1.Rs, .int .i64 a1.Rt, .int .i64 a1.Imm], rowV (sv v_0_Mem) 3 1 (D.int .i64) a0.Mem] := hS.to [0, 1] rfl
                  refine ⟨fun _ => hT, ?_⟩
                  obtain ⟨x2, hx2, h⟩ := bnd h
                  refine .t1 12 rfl (fun W hT => ixv hS.p1.lendv hx2 T.u22 T.t3 rfl rfl rfl) hT ?_ (by kernel_rfl) rfl rfl
                  refine .by1 13 rfl (.runs (lde (RV.flat hS.p1.lendv hx2 rfl) T.t3 rfl rfl rfl rfl rfl) rfl rfl ?_) (by kernel_rfl)
                  have hT : Sep _ _ W [.box g1 68 [.int .i64 a1.Op, .int .i64 a1.Rd, .int .i64 a1.Rs, .int .i64 a1.Rt, .int .i64 a1.Imm], rowV (sv v_0_Mem) 3 1 (D.int .i64) a0.Mem] := hS.to [0, 1] rfl
                  refine ⟨fun _ => hT, ?_⟩
                  obtain ⟨y14, hy14, h⟩ := bnd h
                  refine .by1 14 rfl (.call0 hS Tryd.func96 (spec_l44Alu_ok hy14) rfl rfl ?_ rfl (by kernel_rfl) rfl rfl) (by kernel_rfl)
                  intro W hS
                  have hT : Sep _ _ W [.box g1 68 [.int .i64 a1.Op, .int .i64 a1.Rd, .int .i64 a1.Rs, .int .i64 a1.Rt, .int .i64 a1.Imm], rowV (sv v_0_Mem) 3 1 (D.int .i64) a0.Mem] := hS.to [0, 1] rfl
                  refine ⟨fun _ => hT, ?_⟩
                  obtain ⟨y15, hy15, h⟩ := bnd h
                  have hS := hS.p3
                  have hS := hS.p2
                  refine .by1 15 rfl (.callS2 (L0 := [rowV (sv v_0_Regs) 3 1 (D.int .i64) a0.Regs, .box g_0 26 [(sv v_0_Regs), .int .i64 a0.Pc, (sv v_0_Mem)]]) hS Tryd.func94 (fun S h1 h2 h3 => (spec_l44Set_ok hy15 (h3.rdv (k := 1) rfl) h2 (fun b hb => (h1 b hb).2))) rfl rfl ?_ rfl (by kernel_rfl) rfl rfl) (by kernel_rfl)
                  rintro v8 W hS
                  have hS : Sep _ _ W [.box g_0 26 [(sv v8), .int .i64 a0.Pc, (sv v_0_Mem)], rowV (sv v8) 3 1 (D.int .i64) y15, .box g1 68 [.int .i64 a1.Op, .int .i64 a1.Rd, .int .i64 a1.Rs, .int .i64 a1.Rt, .int .i64 a1.Imm], rowV (sv v_0_Mem) 3 1 (D.int .i64) a0.Mem] := hS
                  have hT : Sep _ _ W [.box g1 68 [.int .i64 a1.Op, .int .i64 a1.Rd, .int .i64 a1.Rs, .int .i64 a1.Rt, .int .i64 a1.Imm], rowV (sv v_0_Mem) 3 1 (D.int .i64) a0.Mem] := hS.to [2, 2] rfl
                  refine ⟨fun _ => hT, ?_⟩
                  refine .done ?_ (by kernel_rfl)
                  cases h
                  exact ⟨rfl, v8, sb rfl, hS.to [2, 2, 0, 0] rfl⟩
  · intro x E W hJ
    rcases y1 with o3 | o4
    · skip
      obtain ⟨rfl, v9, hE, hS⟩ := hJ
      refine ⟨_, hE.sub, ?_⟩
      refine .seq ?_
      refine .region ?_
      refine .p rfl rfl rfl ?_
      refine .p rfl rfl rfl ?_
      refine .p rfl rfl rfl ?_
      refine .r (fa T.f26_1 rfl rfl rfl) ?_ rfl rfl
      refine .r (ld T.t3 hS.p2 rfl rfl rfl rfl rfl) ?_ rfl rfl
      refine .p rfl rfl rfl ?_
      refine .p rfl rfl rfl ?_
      refine .r (fa T.f26_1 rfl rfl rfl) ?_ rfl rfl
      refine .c (.st T.t3 hS.p2 rfl rfl rfl ?_ rfl rfl rfl rfl rfl)
      intro W hS
      refine .nil ?_
      refine .seq ?_
      refine .region ?_
      refine .p rfl rfl rfl ?_
      refine .nil ?_
      refine .ret ?_
      cases h
      exact fin_ret (vs := [_]) (v9, v_0_Mem) (rt rfl rn) rfl (hS.to [0, 2, 1] rfl)
    · skip
      obtain ⟨rfl, hF⟩ := hJ
      refine ⟨_, fun _ _ h => h, ?_⟩
      cases h
      exact hF
theorem spec_l44Step_ok {a0 : Machine} {v_0_Regs : Hd} {v_0_Mem : Hd} {g_0 : Nat} {S : Nat → Prop} {w : World} {r : Int × (List Int) × Int × (List Int)} (h : spec_l44Step a0 = some r) (hO : Owns w [rowV (sv v_0_Regs) 3 1 (D.int .i64) a0.Regs, rowV (sv v_0_Mem) 3 1 (D.int .i64) a0.Mem, .box g_0 26 [(sv v_0_Regs), .int .i64 a0.Pc, (sv v_0_Mem)]] S) (hlt : ∀ b, S b → b < w.heap.size) : Calls Tryd.prog 38 #[.pointer (some ⟨g_0, 0, none⟩)] w (Ret S w (fun s : Hd × Hd => .int .i64 r.1) (fun s => [.box g_0 26 [(sv s.1), .int .i64 r.2.2.1, (sv s.2)], rowV (sv s.1) 3 1 (D.int .i64) r.2.1, rowV (sv s.2) 3 1 (D.int .i64) r.2.2.2])) := by
  unfold spec_l44Step at h
  refine enter Tryd.func38 rfl rfl ?_
  have hS := Sep.startM hO hlt
  refine .seq ?_
  refine .region ?_
  refine .p rfl rfl rfl ?_
  refine .nil ?_
  refine .seq ?_
  refine .seq ?_
  refine .rk 10 hS [0, 0, 0] T.mix ?_
  intro W hS
  have hT : Sep _ _ W [rowV (sv v_0_Regs) 3 1 (D.int .i64) a0.Regs, rowV (sv v_0_Mem) 3 1 (D.int .i64) a0.Mem, .box g_0 26 [(sv v_0_Regs), .int .i64 a0.Pc, (sv v_0_Mem)]] := hS.to [0, 0, 0] rfl
  refine .t1 0 rfl (fun W hT => pr rfl) hT ?_ (by kernel_rfl) rfl rfl
  refine .t1 1 rfl (fun W hT => pr rfl) hT ?_ (by kernel_rfl) rfl rfl
  refine .t1 2 rfl (fun W hT => fa T.f26_2 rfl rfl rfl) hT ?_ (by kernel_rfl) rfl rfl
  refine .t1 3 rfl (fun W hT => ld T.t22 hT.p2 rfl rfl rfl rfl rfl) hT ?_ (by kernel_rfl) rfl rfl
  refine .t1 4 rfl (fun W hT => pr rfl) hT ?_ (by kernel_rfl) rfl rfl
  refine .t1 5 rfl (fun W hT => pr rfl) hT ?_ (by kernel_rfl) rfl rfl
  refine .t1 6 rfl (fun W hT => fa T.f26_1 rfl rfl rfl) hT ?_ (by kernel_rfl) rfl rfl
  refine .t1 7 rfl (fun W hT => ld T.t3 hT.p2 rfl rfl rfl rfl rfl) hT ?_ (by kernel_rfl) rfl rfl
  obtain ⟨y1, hy1, h⟩ := bnd h
  refine .by1 8 rfl (.call0 hS Tryd.func64 (spec_l44Word_ok hy1 hS.p1.lendv) rfl rfl ?_ rfl (by kernel_rfl) rfl rfl) (by kernel_rfl)
  intro W hS
  have hT : Sep _ _ W [rowV (sv v_0_Regs) 3 1 (D.int .i64) a0.Regs, rowV (sv v_0_Mem) 3 1 (D.int .i64) a0.Mem, .box g_0 26 [(sv v_0_Regs), .int .i64 a0.Pc, (sv v_0_Mem)]] := hS.to [0, 0, 0] rfl
  refine ⟨fun _ => hT, ?_⟩
  refine .t1 9 rfl (fun W hT => pr rfl) hT ?_ (by kernel_rfl) rfl rfl
  refine .done ?_ (by kernel_rfl)
  refine .cond rfl (fun hb => ?_) (fun hb => ?_)
  · have h := sel_t hb h
    refine .seq ?_
    refine .region ?_
    refine .p rfl rfl rfl ?_
    refine .nil ?_
    refine .ret ?_
    cases h
    exact fin_ret (vs := [_]) (v_0_Regs, v_0_Mem) (rt rfl rn) rfl (hS.to [2, 0, 0] rfl)
  · have h := sel_f hb h
    refine .skip ?_
    refine .seq ?_
    obtain ⟨x1, hx1, h⟩ := bnd h
    obtain ⟨y2, hy2, h⟩ := bnd h
    obtain ⟨y3, hy3, h⟩ := bnd h
    refine .via (R' := fun x E' W' => x = .normal ∧ ∃ (g1 : Nat), SubL E' [(0, .pointer (some ⟨g_0, 0, none⟩)), (3, .pointer (some ⟨g1, 0, none⟩)), (4, .bool y3.2)] ∧ Sep S w W' [rowV (sv v_0_Regs) 3 1 (D.int .i64) a0.Regs, rowV (sv v_0_Mem) 3 1 (D.int .i64) a0.Mem, .box g_0 26 [(sv v_0_Regs), .int .i64 a0.Pc, (sv v_0_Mem)], .box g1 68 [.int .i64 y3.1.Op, .int .i64 y3.1.Rd, .int .i64 y3.1.Rs, .int .i64 y3.1.Rt, .int .i64 y3.1.Imm]]) ?_ ?_
    · skip
      refine .rk 19 hS [0, 0, 0] T.mix ?_
      intro W hS
      have hT : Sep _ _ W [rowV (sv v_0_Regs) 3 1 (D.int .i64) a0.Regs, rowV (sv v_0_Mem) 3 1 (D.int .i64) a0.Mem, .box g_0 26 [(sv v_0_Regs), .int .i64 a0.Pc, (sv v_0_Mem)]] := hS.to [0, 0, 0] rfl
      refine .t1 0 rfl (fun W hT => pr rfl) hT ?_ (by kernel_rfl) rfl rfl
      refine .t1 1 rfl (fun W hT => pr rfl) hT ?_ (by kernel_rfl) rfl rfl
      refine .t1 2 rfl (fun W hT => fa T.f26_2 rfl rfl rfl) hT ?_ (by kernel_rfl) rfl rfl
      refine .t1 3 rfl (fun W hT => ld T.t22 hT.p2 rfl rfl rfl rfl rfl) hT ?_ (by kernel_rfl) rfl rfl
      refine .t1 4 rfl (fun W hT => pr rfl) hT ?_ (by kernel_rfl) rfl rfl
      refine .t1 5 rfl (fun W hT => pr rfl) hT ?_ (by kernel_rfl) rfl rfl
      refine .t1 6 rfl (fun W hT => fa T.f26_1 rfl rfl rfl) hT ?_ (by kernel_rfl) rfl rfl
      refine .t1 7 rfl (fun W hT => ld T.t3 hT.p2 rfl rfl rfl rfl rfl) hT ?_ (by kernel_rfl) rfl rfl
      refine .t1 8 rfl (fun W hT => pr rfl) hT ?_ (by kernel_rfl) rfl rfl
      refine .t1 9 rfl (fun W hT => ixv hS.p1.lendv hx1 T.u22 T.t3 rfl rfl rfl) hT ?_ (by kernel_rfl) rfl rfl
      refine .t1 10 rfl (fun W hT => lde (RV.flat hT.p1.lendv hx1 rfl) T.t3 rfl rfl rfl rfl rfl) hT ?_ (by kernel_rfl) rfl rfl
      refine .by [11, 16] ⟨⟨_, rfl, ?_⟩, ⟨_, rfl, ?_⟩, trivial⟩ (by kernel_rfl) rfl
      · skip
        refine (.call0 hS Tryd.func66 (spec_Unsigned_ok hy2) rfl rfl ?_ rfl (by kernel_rfl) rfl rfl)
        intro W hS
        have hT : Sep _ _ W [rowV (sv v_0_Regs) 3 1 (D.int .i64) a0.Regs, rowV (sv v_0_Mem) 3 1 (D.int .i64) a0.Mem, .box g_0 26 [(sv v_0_Regs), .int .i64 a0.Pc, (sv v_0_Mem)]] := hS.to [0, 0, 0] rfl
        refine ⟨fun _ => hT, ?_⟩
        refine .by [12, 16] ⟨⟨_, rfl, ?_⟩, ⟨_, rfl, ?_⟩, trivial⟩ (by kernel_rfl) rfl
        · skip
          refine (.call0 hS Tryd.func65 (spec_InstrDecode_ok hy3) rfl rfl ?_ rfl (by kernel_rfl) rfl rfl)
          intro W hS
          have hT : Sep _ _ W [rowV (sv v_0_Regs) 3 1 (D.int .i64) a0.Regs, rowV (sv v_0_Mem) 3 1 (D.int .i64) a0.Mem, .box g_0 26 [(sv v_0_Regs), .int .i64 a0.Pc, (sv v_0_Mem)]] := hS.to [0, 0, 0] rfl
          refine ⟨fun _ => hT, ?_⟩
          refine .t1 13 rfl (fun W hT => pr rfl) hT ?_ (by kernel_rfl) rfl rfl
          refine .t1 14 rfl (fun W hT => pr rfl) hT ?_ (by kernel_rfl) rfl rfl
          refine .t1 15 rfl (fun W hT => pr rfl) hT ?_ (by kernel_rfl) rfl rfl
          refine .by1 16 rfl (.alloc T.t68 hS ?_ rfl rfl rfl) (by kernel_rfl)
          intro g2 W hS
          have hT : Sep _ _ W [rowV (sv v_0_Regs) 3 1 (D.int .i64) a0.Regs, rowV (sv v_0_Mem) 3 1 (D.int .i64) a0.Mem, .box g_0 26 [(sv v_0_Regs), .int .i64 a0.Pc, (sv v_0_Mem)]] := hS.to [1, 1, 1] rfl
          refine ⟨fun _ => hT, ?_⟩
          refine .by1 17 rfl (.st T.t68 hS rfl rfl rfl ?_ rfl rfl rfl rfl rfl) (by kernel_rfl)
          intro W hS
          have hT : Sep _ _ W [rowV (sv v_0_Regs) 3 1 (D.int .i64) a0.Regs, rowV (sv v_0_Mem) 3 1 (D.int .i64) a0.Mem, .box g_0 26 [(sv v_0_Regs), .int .i64 a0.Pc, (sv v_0_Mem)]] := hS.to [1, 1, 1] rfl
          refine ⟨fun _ => hT, ?_⟩
          refine .t1 18 rfl (fun W hT => pr rfl) hT ?_ (by kernel_rfl) rfl rfl
          refine .done ?_ (by kernel_rfl)
          exact ⟨rfl, g2, sb rfl, hS.to [1, 1, 1, 0] rfl⟩
        · skip
          refine (.alloc T.t68 hS ?_ rfl rfl rfl)
          intro g3 W hS
          have hT : Sep _ _ W [rowV (sv v_0_Regs) 3 1 (D.int .i64) a0.Regs, rowV (sv v_0_Mem) 3 1 (D.int .i64) a0.Mem, .box g_0 26 [(sv v_0_Regs), .int .i64 a0.Pc, (sv v_0_Mem)]] := hS.to [1, 1, 1] rfl
          refine ⟨fun _ => hT, ?_⟩
          refine .by1 12 rfl (.call0 hS Tryd.func65 (spec_InstrDecode_ok hy3) rfl rfl ?_ rfl (by kernel_rfl) rfl rfl) (by kernel_rfl)
          intro W hS
          have hT : Sep _ _ W [rowV (sv v_0_Regs) 3 1 (D.int .i64) a0.Regs, rowV (sv v_0_Mem) 3 1 (D.int .i64) a0.Mem, .box g_0 26 [(sv v_0_Regs), .int .i64 a0.Pc, (sv v_0_Mem)]] := hS.to [1, 1, 1] rfl
          refine ⟨fun _ => hT, ?_⟩
          refine .t1 13 rfl (fun W hT => pr rfl) hT ?_ (by kernel_rfl) rfl rfl
          refine .t1 14 rfl (fun W hT => pr rfl) hT ?_ (by kernel_rfl) rfl rfl
          refine .t1 15 rfl (fun W hT => pr rfl) hT ?_ (by kernel_rfl) rfl rfl
          refine .by1 17 rfl (.st T.t68 hS rfl rfl rfl ?_ rfl rfl rfl rfl rfl) (by kernel_rfl)
          intro W hS
          have hT : Sep _ _ W [rowV (sv v_0_Regs) 3 1 (D.int .i64) a0.Regs, rowV (sv v_0_Mem) 3 1 (D.int .i64) a0.Mem, .box g_0 26 [(sv v_0_Regs), .int .i64 a0.Pc, (sv v_0_Mem)]] := hS.to [1, 1, 1] rfl
          refine ⟨fun _ => hT, ?_⟩
          refine .t1 18 rfl (fun W hT => pr rfl) hT ?_ (by kernel_rfl) rfl rfl
          refine .done ?_ (by kernel_rfl)
          exact ⟨rfl, g3, sb rfl, hS.to [1, 1, 1, 0] rfl⟩
      · skip
        refine (.alloc T.t68 hS ?_ rfl rfl rfl)
        intro g4 W hS
        have hT : Sep _ _ W [rowV (sv v_0_Regs) 3 1 (D.int .i64) a0.Regs, rowV (sv v_0_Mem) 3 1 (D.int .i64) a0.Mem, .box g_0 26 [(sv v_0_Regs), .int .i64 a0.Pc, (sv v_0_Mem)]] := hS.to [1, 1, 1] rfl
        refine ⟨fun _ => hT, ?_⟩
        refine .by1 11 rfl (.call0 hS Tryd.func66 (spec_Unsigned_ok hy2) rfl rfl ?_ rfl (by kernel_rfl) rfl rfl) (by kernel_rfl)
        intro W hS
        have hT : Sep _ _ W [rowV (sv v_0_Regs) 3 1 (D.int .i64) a0.Regs, rowV (sv v_0_Mem) 3 1 (D.int .i64) a0.Mem, .box g_0 26 [(sv v_0_Regs), .int .i64 a0.Pc, (sv v_0_Mem)]] := hS.to [1, 1, 1] rfl
        refine ⟨fun _ => hT, ?_⟩
        refine .by1 12 rfl (.call0 hS Tryd.func65 (spec_InstrDecode_ok hy3) rfl rfl ?_ rfl (by kernel_rfl) rfl rfl) (by kernel_rfl)
        intro W hS
        have hT : Sep _ _ W [rowV (sv v_0_Regs) 3 1 (D.int .i64) a0.Regs, rowV (sv v_0_Mem) 3 1 (D.int .i64) a0.Mem, .box g_0 26 [(sv v_0_Regs), .int .i64 a0.Pc, (sv v_0_Mem)]] := hS.to [1, 1, 1] rfl
        refine ⟨fun _ => hT, ?_⟩
        refine .t1 13 rfl (fun W hT => pr rfl) hT ?_ (by kernel_rfl) rfl rfl
        refine .t1 14 rfl (fun W hT => pr rfl) hT ?_ (by kernel_rfl) rfl rfl
        refine .t1 15 rfl (fun W hT => pr rfl) hT ?_ (by kernel_rfl) rfl rfl
        refine .by1 17 rfl (.st T.t68 hS rfl rfl rfl ?_ rfl rfl rfl rfl rfl) (by kernel_rfl)
        intro W hS
        have hT : Sep _ _ W [rowV (sv v_0_Regs) 3 1 (D.int .i64) a0.Regs, rowV (sv v_0_Mem) 3 1 (D.int .i64) a0.Mem, .box g_0 26 [(sv v_0_Regs), .int .i64 a0.Pc, (sv v_0_Mem)]] := hS.to [1, 1, 1] rfl
        refine ⟨fun _ => hT, ?_⟩
        refine .t1 18 rfl (fun W hT => pr rfl) hT ?_ (by kernel_rfl) rfl rfl
        refine .done ?_ (by kernel_rfl)
        exact ⟨rfl, g4, sb rfl, hS.to [1, 1, 1, 0] rfl⟩
    · intro x E W hJ
      obtain ⟨rfl, g5, hE, hS⟩ := hJ
      refine ⟨_, hE.sub, ?_⟩
      refine .seq ?_
      refine .seq ?_
      refine .region ?_
      refine .p rfl rfl rfl ?_
      refine .p rfl rfl rfl ?_
      refine .nil ?_
      refine .cond rfl (fun hb => ?_) (fun hb => ?_)
      · have h := sel_t hb h
        refine .seq ?_
        refine .region ?_
        refine .p rfl rfl rfl ?_
        refine .nil ?_
        refine .ret ?_
        cases h
        exact fin_ret (vs := [_]) (v_0_Regs, v_0_Mem) (rt rfl rn) rfl (hS.to [2, 0, 0] rfl)
      · have h := sel_f hb h
        refine .skip ?_
        refine .seq ?_
        refine .seq ?_
        refine .region ?_
        refine .r (fa T.f68_0 rfl rfl rfl) ?_ rfl rfl
        refine .r (ld T.t3 hS.p3 rfl rfl rfl rfl rfl) ?_ rfl rfl
        refine .p rfl rfl rfl ?_
        refine .nil ?_
        refine .cond rfl (fun hb => ?_) (fun hb => ?_)
        · have h := sel_t hb h
          refine .seq ?_
          refine .region ?_
          refine .p rfl rfl rfl ?_
          refine .nil ?_
          refine .ret ?_
          cases h
          exact fin_ret (vs := [_]) (v_0_Regs, v_0_Mem) (rt rfl rn) rfl (hS.to [2, 0, 0] rfl)
        · have h := sel_f hb h
          refine .skip ?_
          refine .seq ?_
          refine .seq ?_
          refine .region ?_
          refine .p rfl rfl rfl ?_
          refine .r (ld T.t68 hS.p3 rfl rfl rfl rfl rfl) ?_ rfl rfl
          obtain ⟨y4, hy4, h⟩ := bnd h
          have hS := hS.p2
          have hS := hS.p2
          have hS := hS.p2
          refine .c (.callS2 (L0 := [rowV (sv v_0_Regs) 3 1 (D.int .i64) a0.Regs, rowV (sv v_0_Mem) 3 1 (D.int .i64) a0.Mem, .box g_0 26 [(sv v_0_Regs), .int .i64 a0.Pc, (sv v_0_Mem)]]) hS Tryd.func67 (fun S h1 h2 h3 => (spec_l44Do_ok hy4 h2 (fun b hb => (h1 b hb).2))) rfl rfl ?_ rfl (by kernel_rfl) rfl rfl)
          rintro ⟨v1, v2⟩ W hS
          have hS : Sep _ _ W [.box g_0 26 [(sv v1), .int .i64 y4.2.2.1, (sv v2)], rowV (sv v1) 3 1 (D.int .i64) y4.2.1, rowV (sv v2) 3 1 (D.int .i64) y4.2.2.2, .box g5 68 [.int .i64 y3.1.Op, .int .i64 y3.1.Rd, .int .i64 y3.1.Rs, .int .i64 y3.1.Rt, .int .i64 y3.1.Imm]] := hS
          refine .p rfl rfl rfl ?_
          refine .nil ?_
          refine .cond rfl (fun hb => ?_) (fun hb => ?_)
          · have h := sel_t hb h
            refine .seq ?_
            refine .region ?_
            refine .p rfl rfl rfl ?_
            refine .nil ?_
            refine .ret ?_
            cases h
            exact fin_ret (vs := [_]) (v1, v2) (rt rfl rn) rfl (hS.to [0, 0, 0] rfl)
          · have h := sel_f hb h
            refine .skip ?_
            refine .seq ?_
            refine .region ?_
            refine .p rfl rfl rfl ?_
            refine .nil ?_
            refine .ret ?_
            cases h
            exact fin_ret (vs := [_]) (v1, v2) (rt rfl rn) rfl (hS.to [0, 0, 0] rfl)
def spec_ImageRun_F (w : World) (r : Machine × (List Int) × Int) : Env → World → Prop := Fin Tryd.prog Tryd.f18 No w (fun s : Hd × Hd × Hd => .tuple #[.agg #[(sv s.1), .int .i64 r.1.Pc, (sv s.2.1)], (sv s.2.2), .int .i64 r.2.2]) (fun s => [rowV (sv s.1) 3 1 (D.int .i64) r.1.Regs, rowV (sv s.2.1) 3 1 (D.int .i64) r.1.Mem, rowV (sv s.2.2) 3 1 (D.int .i64) r.2.1]) .ret
theorem spec_ImageRun_ok {a0 : Machine} {a1 : Int} {v_0_Regs : Hd} {v_0_Mem : Hd} {w : World} {r : Machine × (List Int) × Int} (h : spec_ImageRun a0 a1 = some r) (q_0_Regs : RV w (Old No w) (sv v_0_Regs) 3 1 (D.int .i64) a0.Regs) (q_0_Mem : RV w (Old No w) (sv v_0_Mem) 3 1 (D.int .i64) a0.Mem) : Calls Tryd.prog 18 #[.agg #[(sv v_0_Regs), .int .i64 a0.Pc, (sv v_0_Mem)], .int .i64 a1] w (Ret No w (fun s : Hd × Hd × Hd => .tuple #[.agg #[(sv s.1), .int .i64 r.1.Pc, (sv s.2.1)], (sv s.2.2), .int .i64 r.2.2]) (fun s => [rowV (sv s.1) 3 1 (D.int .i64) r.1.Regs, rowV (sv s.2.1) 3 1 (D.int .i64) r.1.Mem, rowV (sv s.2.2) 3 1 (D.int .i64) r.2.1])) := by
  unfold spec_ImageRun at h
  refine enter Tryd.func18 rfl rfl ?_
  have hS := Sep.start w
  refine .seq ?_
  refine .region ?_
  refine .c (.box hS rfl rfl ?_ rfl rfl)
  intro g1 W hS
  refine .c (.alloc T.t26 hS ?_ rfl rfl rfl)
  intro g2 W hS
  refine .p rfl rfl rfl ?_
  refine .p rfl rfl rfl ?_
  refine .nil ?_
  refine .seq ?_
  refine .region ?_
  refine .c (.liv [] (D.int .i64) T.u22 T.t3 hS rfl rfl rfl rfl ?_ rfl (fun _ => rfl) rfl rfl rfl rfl)
  intro v1 W hS
  refine .p rfl rfl rfl ?_
  refine .nil ?_
  refine .seq ?_
  refine .seq ?_
  refine .region ?_
  refine .r (ld T.t26 hS.p2 rfl rfl rfl rfl rfl) ?_ rfl rfl
  obtain ⟨y1, hy1, h⟩ := bnd h
  refine .c (.call0 hS Tryd.func36 (spec_MachineValid_ok hy1 (hS.keep q_0_Regs) (hS.keep q_0_Mem)) rfl rfl ?_ rfl (by kernel_rfl) rfl rfl)
  intro W hS
  refine .p rfl rfl rfl ?_
  refine .p rfl rfl rfl ?_
  obtain ⟨b1, hb1, h⟩ := bnd h
  refine .chunk 4 19 (b1) hS ?_ ?_
  · refine .both (!y1) (fun hb => ?_) (fun hb => ?_)
    · skip
      refine .x hb ?_ rfl rfl
      refine .x hb ?_ rfl rfl
      refine .x hb ?_ rfl rfl
      cases sel_t hb hb1
      refine .r (pkt hb rfl rfl rfl) ?_ rfl rfl
      exact .nil (ck 4 hS rfl rfl rfl rfl)
    · have hg1 := hb
      have h := sel_f hb hb1
      refine .g hg1 (.p rfl rfl rfl ?_) rfl
      obtain ⟨y2, hy2, h⟩ := bnd h
      refine .g hg1 (.c (.call0 hS Tryd.func24 (spec_l6In_ok hy2) rfl rfl ?_ rfl (by kernel_rfl) rfl rfl)) rfl
      intro W hS
      refine .g hg1 (.p rfl rfl rfl ?_) rfl
      refine .r (pkf hg1 rfl rfl rfl) ?_ rfl rfl
      cases h
      exact .nil (ck 4 hS rfl rfl rfl rfl)
  intro W hS
  refine .nil ?_
  refine .cond rfl (fun hb => ?_) (fun hb => ?_)
  · have h := sel_t hb h
    refine .seq ?_
    refine .region ?_
    refine .r (bs T.s26 rfl rfl) ?_ rfl rfl
    refine .p rfl rfl rfl ?_
    refine .c (.st T.t26 hS.p1 rfl rfl rfl ?_ rfl rfl rfl rfl rfl)
    intro W hS
    refine .p rfl rfl rfl ?_
    refine .p rfl rfl rfl ?_
    refine .nil ?_
    refine .ret ?_
    have hS := hS.nilv 3 1 (D.int .i64)
    have hS := hS.nilv 3 1 (D.int .i64)
    cases h
    exact fin_ret (vs := [_, _, _]) (nilH, nilH, v1) (rc hS.p2 T.t26 rfl (rt rfl (rt rfl rn)) rfl rfl) rfl (hS.to [1, 0, 1] rfl)
  · have h := sel_f hb h
    refine .skip ?_
    refine .seq ?_
    refine .region ?_
    refine .r (ld T.t26 hS.p2 rfl rfl rfl rfl rfl) ?_ rfl rfl
    obtain ⟨y3, hy3, h⟩ := bnd h
    refine .c (.call hS Tryd.func37 (spec_l44Copy_ok hy3 (hS.keep q_0_Regs) (hS.keep q_0_Mem)) rfl rfl ?_ rfl (by kernel_rfl) rfl rfl)
    rintro ⟨v2, v3⟩ W hS
    have hS : Sep _ _ W [rowV (sv v2) 3 1 (D.int .i64) y3.Regs, rowV (sv v3) 3 1 (D.int .i64) y3.Mem, rowV (sv v1) 3 1 (D.int .i64) [], .box g2 26 [(sv nilH), .int .i64 0, (sv nilH)], .box g1 26 [(sv v_0_Regs), .int .i64 a0.Pc, (sv v_0_Mem)]] := hS
    refine .c (.alloc T.t26 hS ?_ rfl rfl rfl)
    intro g3 W hS
    refine .c (.st T.t26 hS rfl rfl rfl ?_ rfl rfl rfl rfl rfl)
    intro W hS
    refine .nil ?_
    refine .seq ?_
    refine .seq ?_
    refine .region ?_
    refine .p rfl rfl rfl ?_
    refine .nil ?_
    refine .block ?_
    obtain ⟨y4, hy4, h⟩ := bnd h
    refine .via (.iter (fun s1 E' W' => ∃ (v10 : Hd) (v11 : Hd) (v12 : Hd), SubL E' [(1, .int .i64 a1), (4, .pointer (some ⟨g2, 0, none⟩)), (7, (sv v10)), (8, .pointer (some ⟨g3, 0, none⟩)), (9, .int .i64 s1.2.1)] ∧ Sep No w W' [.box g3 26 [(sv v11), .int .i64 s1.2.2.2.1, (sv v12)], .box g2 26 [(sv nilH), .int .i64 0, (sv nilH)], .box g1 26 [(sv v_0_Regs), .int .i64 a0.Pc, (sv v_0_Mem)], rowV (sv v10) 3 1 (D.int .i64) s1.1, rowV (sv v11) 3 1 (D.int .i64) s1.2.2.1, rowV (sv v12) 3 1 (D.int .i64) s1.2.2.2.2]) (fun y5 x E' W' => (match y5 with | .inl o1 => x = .ret ∧ spec_ImageRun_F w o1 E' W' | .inr o2 => x = .exit 0 ∧ ∃ (v13 : Hd) (v14 : Hd) (v15 : Hd), SubL E' [(4, .pointer (some ⟨g2, 0, none⟩)), (7, (sv v13)), (8, .pointer (some ⟨g3, 0, none⟩))] ∧ Sep No w W' [.box g3 26 [(sv v14), .int .i64 o2.2.2.1, (sv v15)], .box g2 26 [(sv nilH), .int .i64 0, (sv nilH)], .box g1 26 [(sv v_0_Regs), .int .i64 a0.Pc, (sv v_0_Mem)], rowV (sv v13) 3 1 (D.int .i64) o2.1, rowV (sv v14) 3 1 (D.int .i64) o2.2.1, rowV (sv v15) 3 1 (D.int .i64) o2.2.2.2])) hy4 ⟨v1, v2, v3, sb rfl, hS.to [0, 3, 3, 2, 0, 0] rfl⟩ ?_) ?_
    · intro s1 y6 E W h hI
      obtain ⟨v7, v8, v9, hE, hS⟩ := hI
      refine CW.sub hE ?_
      unfold spec_ImageRun_b1 at h
      refine .seq ?_
      refine .seq ?_
      refine .region ?_
      refine .p rfl rfl rfl ?_
      refine .p rfl rfl rfl ?_
      refine .p rfl rfl rfl ?_
      refine .nil ?_
      refine .cond rfl (fun hb => ?_) (fun hb => ?_)
      · have h := sel_t hb h
        refine .skip ?_
        obtain ⟨y7, hy7, h⟩ := bnd h
        refine .seq (CW.via (R' := fun x E' W' => (match y7 with | .inl o3 => x = .normal ∧ ∃ (v16 : Hd) (v17 : Hd) (v18 : Hd), SubL E' [(1, .int .i64 a1), (4, .pointer (some ⟨g2, 0, none⟩)), (7, (sv v16)), (8, .pointer (some ⟨g3, 0, none⟩)), (9, .int .i64 s1.2.1)] ∧ Sep No w W' [.box g3 26 [(sv v17), .int .i64 o3.2.2.1, (sv v18)], .box g2 26 [(sv nilH), .int .i64 0, (sv nilH)], .box g1 26 [(sv v_0_Regs), .int .i64 a0.Pc, (sv v_0_Mem)], rowV (sv v16) 3 1 (D.int .i64) o3.1, rowV (sv v17) 3 1 (D.int .i64) o3.2.1, rowV (sv v18) 3 1 (D.int .i64) o3.2.2.2] | .inr o4 => x = .ret ∧ spec_ImageRun_F w o4 E' W')) ?_ ?_)
        · have h := hy7
          refine .block ?_
          refine .seq ?_
          refine .region ?_
          obtain ⟨y8, hy8, h⟩ := bnd h
          have hS := hS.p5
          have hS := hS.p5
          refine .c (.callS2 (L0 := [rowV (sv v8) 3 1 (D.int .i64) s1.2.2.1, rowV (sv v9) 3 1 (D.int .i64) s1.2.2.2.2, .box g3 26 [(sv v8), .int .i64 s1.2.2.2.1, (sv v9)]]) hS Tryd.func38 (fun S h1 h2 h3 => (spec_l44Step_ok hy8 h2 (fun b hb => (h1 b hb).2))) rfl rfl ?_ rfl (by kernel_rfl) rfl rfl)
          rintro ⟨v19, v20⟩ W hS
          have hS : Sep _ _ W [.box g3 26 [(sv v19), .int .i64 y8.2.2.1, (sv v20)], rowV (sv v19) 3 1 (D.int .i64) y8.2.1, rowV (sv v20) 3 1 (D.int .i64) y8.2.2.2, .box g2 26 [(sv nilH), .int .i64 0, (sv nilH)], .box g1 26 [(sv v_0_Regs), .int .i64 a0.Pc, (sv v_0_Mem)], rowV (sv v7) 3 1 (D.int .i64) s1.1] := hS
          refine .p rfl rfl rfl ?_
          refine .nil ?_
          refine .seq ?_
          refine .seq ?_
          refine .region ?_
          refine .p rfl rfl rfl ?_
          refine .p rfl rfl rfl ?_
          refine .nil ?_
          refine .cond rfl (fun hb => ?_) (fun hb => ?_)
          · have h := sel_t hb h
            refine .exit ?_
            cases h
            exact ⟨rfl, v7, v19, v20, sb rfl, hS.to [0, 2, 2, 2, 0, 0] rfl⟩
          · have h := sel_f hb h
            refine .skip ?_
            refine .seq ?_
            refine .seq ?_
            refine .region ?_
            refine .p rfl rfl rfl ?_
            refine .p rfl rfl rfl ?_
            refine .p rfl rfl rfl ?_
            obtain ⟨b2, hb2, h⟩ := bnd h
            refine .chunk 6 40 (b2) hS ?_ ?_
            · refine .both (y8.1 != 2) (fun hb => ?_) (fun hb => ?_)
              · skip
                refine .x hb ?_ rfl rfl
                refine .x hb ?_ rfl rfl
                refine .x hb ?_ rfl rfl
                refine .x hb ?_ rfl rfl
                refine .x hb ?_ rfl rfl
                cases sel_t hb hb2
                refine .r (pkt hb rfl rfl rfl) ?_ rfl rfl
                exact .nil (ck 6 hS rfl rfl rfl rfl)
              · have hg2 := hb
                have h := sel_f hb hb2
                refine .g hg2 (.r (fa T.f26_0 rfl rfl rfl) ?_ rfl rfl) rfl
                refine .g hg2 (.r (ld T.t22 hS rfl rfl rfl rfl rfl) ?_ rfl rfl) rfl
                obtain ⟨x1, hx1, h⟩ := bnd h
                refine .g hg2 (.r (ixv hS.p1.lendv hx1 T.u22 T.t3 rfl rfl rfl) ?_ rfl rfl) rfl
                refine .g hg2 (.r (lde (RV.flat hS.p1.lendv hx1 rfl) T.t3 rfl rfl rfl rfl rfl) ?_ rfl rfl) rfl
                refine .g hg2 (.p rfl rfl rfl ?_) rfl
                refine .r (pkf hg2 rfl rfl rfl) ?_ rfl rfl
                cases h
                exact .nil (ck 6 hS rfl rfl rfl rfl)
            intro W hS
            refine .nil ?_
            refine .cond rfl (fun hb => ?_) (fun hb => ?_)
            · have h := sel_t hb h
              refine .seq ?_
              refine .region ?_
              refine .r (ld T.t26 hS rfl rfl rfl rfl rfl) ?_ rfl rfl
              refine .p rfl rfl rfl ?_
              refine .p rfl rfl rfl ?_
              refine .c (.st T.t26 hS.p3 rfl rfl rfl ?_ rfl rfl rfl rfl rfl)
              intro W hS
              refine .p rfl rfl rfl ?_
              refine .p rfl rfl rfl ?_
              refine .nil ?_
              refine .ret ?_
              cases h
              exact ⟨rfl, fin_ret (vs := [_, _, _]) (v19, v20, v7) (rc hS T.t26 rfl (rt rfl (rt rfl rn)) rfl rfl) rfl (hS.to [2, 2, 3] rfl)⟩
            · have h := sel_f hb h
              refine .skip ?_
              refine .seq ?_
              refine .region ?_
              refine .p rfl rfl rfl ?_
              refine .r (fa T.f26_0 rfl rfl rfl) ?_ rfl rfl
              refine .r (ld T.t22 hS rfl rfl rfl rfl rfl) ?_ rfl rfl
              obtain ⟨x2, hx2, h⟩ := bnd h
              refine .r (ixv hS.p1.lendv hx2 T.u22 T.t3 rfl rfl rfl) ?_ rfl rfl
              refine .r (lde (RV.flat hS.p1.lendv hx2 rfl) T.t3 rfl rfl rfl rfl rfl) ?_ rfl rfl
              refine .c (.liv [x2] (D.int .i64) T.u22 T.t3 hS rfl rfl rfl rfl ?_ rfl (fun _ => rfl) rfl rfl rfl rfl)
              intro v21 W hS
              obtain ⟨r1, hr1, h⟩ := bnd h
              have hT0 := hS.p6
              refine .c (.apprv hr1 hT0 hT0.p1.lendv (fun _ => rfl) T.u22 T.t3 rfl rfl rfl ?_ rfl rfl rfl rfl rfl)
              intro v22 W hS
              refine .p rfl rfl rfl ?_
              refine .nil ?_
              refine .region ?_
              refine .r (fa T.f26_1 rfl rfl rfl) ?_ rfl rfl
              refine .r (ld T.t3 hS.p2 rfl rfl rfl rfl rfl) ?_ rfl rfl
              refine .p rfl rfl rfl ?_
              refine .r (fa T.f26_1 rfl rfl rfl) ?_ rfl rfl
              refine .c (.st T.t3 hS.p2 rfl rfl rfl ?_ rfl rfl rfl rfl rfl)
              intro W hS
              refine .nil ?_
              cases h
              exact ⟨rfl, v22, v19, v20, sb rfl, hS.to [0, 4, 4, 0, 1, 1] rfl⟩
        · intro x E W hJ
          rcases y7 with o5 | o6
          · skip
            obtain ⟨rfl, v23, v24, v25, hE, hS⟩ := hJ
            refine ⟨_, hE.sub, ?_⟩
            refine .region ?_
            refine .p rfl rfl rfl ?_
            refine .p rfl rfl rfl ?_
            refine .p rfl rfl rfl ?_
            refine .nil ?_
            cases h
            exact ⟨rfl, v23, v24, v25, sb rfl, hS.to [0, 0, 0, 0, 0, 0] rfl⟩
          · skip
            obtain ⟨rfl, hF⟩ := hJ
            refine ⟨_, fun _ _ h => h, ?_⟩
            cases h
            exact ⟨by simp, rfl, hF⟩
      · have h := sel_f hb h
        refine .exit ?_
        cases h
        exact ⟨by simp, rfl, v7, v8, v9, sb rfl, hS.to [0, 0, 0, 0, 0, 0] rfl⟩
    · intro x E W hJ
      rcases y4 with o7 | o8
      · skip
        obtain ⟨rfl, hF⟩ := hJ
        refine ⟨_, fun _ _ h => h, ?_⟩
        cases h
        exact hF
      · skip
        obtain ⟨rfl, v26, v27, v28, hE, hS⟩ := hJ
        refine ⟨_, hE.sub, ?_⟩
        refine .seq ?_
        refine .region ?_
        refine .r (ld T.t26 hS rfl rfl rfl rfl rfl) ?_ rfl rfl
        refine .p rfl rfl rfl ?_
        refine .c (.st T.t26 hS.p1 rfl rfl rfl ?_ rfl rfl rfl rfl rfl)
        intro W hS
        refine .p rfl rfl rfl ?_
        refine .p rfl rfl rfl ?_
        refine .nil ?_
        refine .ret ?_
        cases h
        exact fin_ret (vs := [_, _, _]) (v27, v28, v26) (rc hS T.t26 rfl (rt rfl (rt rfl rn)) rfl rfl) rfl (hS.to [4, 4, 3] rfl)
theorem laws_toIntS_ok {a0 : List Int} {v_0 : Hd} {w : World} {r : (List Int)} (h : laws_toIntS a0 = some r) (q_0 : RV w (Old No w) (sv v_0) 3 1 (D.int .i64) a0) : Calls Tryd.prog 7 #[(sv v_0)] w (Ret No w (fun s : Hd => (sv s)) (fun s => [rowV (sv s) 3 1 (D.int .i64) r])) := by
  unfold laws_toIntS at h
  refine enter Tryd.func7 rfl rfl ?_
  have hS := Sep.start w
  refine .seq ?_
  refine .region ?_
  refine .p rfl rfl rfl ?_
  refine .nil ?_
  refine .seq ?_
  refine .region ?_
  refine .p rfl rfl rfl ?_
  refine .r (lenv (hS.keep q_0) T.u22 rfl rfl) ?_ rfl rfl
  obtain ⟨r1, hr1, h⟩ := bnd h
  refine .c (.mkv 0 (D.int .i64) hr1 T.u22 T.t3 hS rfl rfl rfl rfl rfl (fun _ => rfl) ?_ rfl rfl rfl)
  intro v1 W hS
  refine .p rfl rfl rfl ?_
  refine .nil ?_
  refine .seq ?_
  refine .seq ?_
  refine .region ?_
  refine .p rfl rfl rfl ?_
  refine .nil ?_
  refine .block ?_
  obtain ⟨y1, hy1, h⟩ := bnd h
  refine .via (.iter (fun s1 E' W' => SubL E' [(0, (sv v_0)), (3, (sv v1)), (4, .int .i64 s1.1)] ∧ Sep No w W' [rowV (sv v1) 3 1 (D.int .i64) s1.2]) (fun y2 x E' W' => x = .exit 0 ∧ SubL E' [(3, (sv v1))] ∧ Sep No w W' [rowV (sv v1) 3 1 (D.int .i64) y2]) hy1 ⟨sb rfl, hS.to [0] rfl⟩ ?_) ?_
  · intro s1 y3 E W h hI
    obtain ⟨hE, hS⟩ := hI
    refine CW.sub hE ?_
    unfold laws_toIntS_b1 at h
    refine .seq ?_
    refine .seq ?_
    refine .region ?_
    refine .p rfl rfl rfl ?_
    refine .p rfl rfl rfl ?_
    refine .r (lenv (hS.keep q_0) T.u22 rfl rfl) ?_ rfl rfl
    refine .p rfl rfl rfl ?_
    refine .nil ?_
    refine .cond rfl (fun hb => ?_) (fun hb => ?_)
    · have h := sel_t hb h
      refine .skip ?_
      refine .seq ?_
      refine .block ?_
      refine .region ?_
      refine .p rfl rfl rfl ?_
      refine .p rfl rfl rfl ?_
      refine .p rfl rfl rfl ?_
      refine .p rfl rfl rfl ?_
      obtain ⟨x1, hx1, h⟩ := bnd h
      refine .r (ixv (hS.keep q_0) hx1 T.u22 T.t3 rfl rfl rfl) ?_ rfl rfl
      refine .r (lde (RV.flat (hS.keep q_0) hx1 rfl) T.t3 rfl rfl rfl rfl rfl) ?_ rfl rfl
      obtain ⟨x2, hx2, h⟩ := bnd h
      refine .r (ixv hS.lendv hx2 T.u22 T.t3 rfl rfl rfl) ?_ rfl rfl
      obtain ⟨r2, hr2, h⟩ := bnd h
      refine .c (.sev hr2 hx2 hS T.t3 rfl rfl rfl rfl rfl rfl ?_ rfl rfl rfl rfl rfl rfl)
      intro W hS
      refine .nil ?_
      refine .region ?_
      refine .p rfl rfl rfl ?_
      refine .p rfl rfl rfl ?_
      refine .p rfl rfl rfl ?_
      refine .nil ?_
      cases h
      exact ⟨rfl, sb rfl, hS.to [0] rfl⟩
    · have h := sel_f hb h
      refine .exit ?_
      cases h
      exact ⟨by simp, rfl, sb rfl, hS.to [0] rfl⟩
  · intro x E W hJ
    obtain ⟨rfl, hE, hS⟩ := hJ
    refine ⟨_, hE.sub, ?_⟩
    refine .seq ?_
    refine .region ?_
    refine .p rfl rfl rfl ?_
    refine .p rfl rfl rfl ?_
    refine .nil ?_
    refine .ret ?_
    cases h
    exact fin_ret (vs := [_]) v1 (rt rfl rn) rfl (hS.to [0] rfl)
theorem laws_toMachine_ok {a0 : Machine} {v_0_Regs : Hd} {v_0_Mem : Hd} {w : World} {r : Machine} (h : laws_toMachine a0 = some r) (q_0_Regs : RV w (Old No w) (sv v_0_Regs) 3 1 (D.int .i64) a0.Regs) (q_0_Mem : RV w (Old No w) (sv v_0_Mem) 3 1 (D.int .i64) a0.Mem) : Calls Tryd.prog 19 #[.agg #[(sv v_0_Regs), .int .i64 a0.Pc, (sv v_0_Mem)]] w (Ret No w (fun s : Hd × Hd => .agg #[(sv s.1), .int .i64 r.Pc, (sv s.2)]) (fun s => [rowV (sv s.1) 3 1 (D.int .i64) r.Regs, rowV (sv s.2) 3 1 (D.int .i64) r.Mem])) := by
  unfold laws_toMachine at h
  refine enter Tryd.func19 rfl rfl ?_
  have hS := Sep.start w
  refine .seq ?_
  refine .region ?_
  refine .c (.box hS rfl rfl ?_ rfl rfl)
  intro g1 W hS
  refine .c (.alloc T.t26 hS ?_ rfl rfl rfl)
  intro g2 W hS
  refine .nil ?_
  refine .seq ?_
  refine .region ?_
  refine .c (.alloc T.t26 hS ?_ rfl rfl rfl)
  intro g3 W hS
  refine .nil ?_
  refine .seq ?_
  refine .region ?_
  refine .r (fa T.f39_0 rfl rfl rfl) ?_ rfl rfl
  refine .r (ld T.t22 hS.p2 rfl rfl rfl rfl rfl) ?_ rfl rfl
  obtain ⟨y1, hy1, h⟩ := bnd h
  refine .c (.call1v hS Tryd.func7 (laws_toIntS_ok hy1 (hS.keep q_0_Regs)) rfl rfl ?_ rfl (by kernel_rfl) rfl rfl)
  intro v1 W hS
  refine .r (fa T.f26_0 rfl rfl rfl) ?_ rfl rfl
  refine .c (.st T.t22 hS.p1 rfl rfl rfl ?_ rfl rfl rfl rfl rfl)
  intro W hS
  refine .nil ?_
  refine .seq ?_
  refine .region ?_
  refine .r (fa T.f39_1 rfl rfl rfl) ?_ rfl rfl
  refine .r (ld T.t3 hS.p3 rfl rfl rfl rfl rfl) ?_ rfl rfl
  refine .r (fa T.f26_1 rfl rfl rfl) ?_ rfl rfl
  refine .c (.st T.t3 hS rfl rfl rfl ?_ rfl rfl rfl rfl rfl)
  intro W hS
  refine .nil ?_
  refine .seq ?_
  refine .region ?_
  refine .r (fa T.f39_2 rfl rfl rfl) ?_ rfl rfl
  refine .r (ld T.t22 hS.p3 rfl rfl rfl rfl rfl) ?_ rfl rfl
  obtain ⟨y2, hy2, h⟩ := bnd h
  refine .c (.call1v hS Tryd.func7 (laws_toIntS_ok hy2 (hS.keep q_0_Mem)) rfl rfl ?_ rfl (by kernel_rfl) rfl rfl)
  intro v2 W hS
  refine .r (fa T.f26_2 rfl rfl rfl) ?_ rfl rfl
  refine .c (.st T.t22 hS.p1 rfl rfl rfl ?_ rfl rfl rfl rfl rfl)
  intro W hS
  refine .nil ?_
  refine .seq ?_
  refine .region ?_
  refine .r (ld T.t26 hS rfl rfl rfl rfl rfl) ?_ rfl rfl
  refine .c (.st T.t26 hS.p3 rfl rfl rfl ?_ rfl rfl rfl rfl rfl)
  intro W hS
  refine .nil ?_
  refine .ret ?_
  cases h
  exact fin_ret (vs := [_]) (v1, v2) (rc hS T.t26 rfl rn rfl rfl) rfl (hS.to [3, 2] rfl)
theorem impl_WordValid_ok {a0 : Int} {w : World} {r : Bool} (h : impl_WordValid a0 = some r) : Calls Tryd.prog 69 #[.int .i64 a0] w (Ret No w (fun s : Unit => .bool r) (fun s => [])) := by
  unfold impl_WordValid at h
  refine enter Tryd.func69 rfl rfl ?_
  have hS := Sep.start w
  refine .seq ?_
  refine .region ?_
  refine .p rfl rfl rfl ?_
  refine .nil ?_
  refine .seq ?_
  refine .region ?_
  refine .p rfl rfl rfl ?_
  refine .p rfl rfl rfl ?_
  refine .p rfl rfl rfl ?_
  refine .chunk 3 8 ((decide (a0 ≥ (-2147483648))) && (decide (a0 ≤ 2147483647))) hS ?_ ?_
  · refine .both (decide (a0 ≥ (-2147483648))) (fun hb => ?_) (fun hb => ?_)
    · have hg1 := hb
      refine .g hg1 (.p rfl rfl rfl ?_) rfl
      refine .g hg1 (.p rfl rfl rfl ?_) rfl
      refine .r (pkt hg1 rfl rfl rfl) ?_ rfl rfl
      exact .nil (ck 3 hS rfl (and_t hg1) rfl rfl)
    · skip
      refine .x hb ?_ rfl rfl
      refine .x hb ?_ rfl rfl
      refine .r (pkf hb rfl rfl rfl) ?_ rfl rfl
      exact .nil (ck 3 hS rfl (and_f hb) rfl rfl)
  intro W hS
  refine .p rfl rfl rfl ?_
  refine .nil ?_
  refine .ret ?_
  cases h
  exact fin_ret (vs := [_]) () (rt rfl rn) rfl (hS.to [] rfl)
def impl_areWords_F (w : World) (r : Bool) : Env → World → Prop := Fin Tryd.prog Tryd.f68 No w (fun s : Unit => .bool r) (fun s => []) .ret
theorem impl_areWords_ok {a0 : List Int} {v_0 : Hd} {w : World} {r : Bool} (h : impl_areWords a0 = some r) (q_0 : RV w (Old No w) (sv v_0) 3 1 (D.int .i64) a0) : Calls Tryd.prog 68 #[(sv v_0)] w (Ret No w (fun s : Unit => .bool r) (fun s => [])) := by
  unfold impl_areWords at h
  refine enter Tryd.func68 rfl rfl ?_
  have hS := Sep.start w
  refine .seq ?_
  refine .region ?_
  refine .p rfl rfl rfl ?_
  refine .nil ?_
  refine .seq ?_
  refine .seq ?_
  refine .region ?_
  refine .p rfl rfl rfl ?_
  refine .r (lenv (hS.keep q_0) T.u22 rfl rfl) ?_ rfl rfl
  refine .p rfl rfl rfl ?_
  refine .nil ?_
  refine .block ?_
  obtain ⟨y1, hy1, h⟩ := bnd h
  refine .via (.iter (fun s1 E' W' => SubL E' [(5, (sv v_0)), (6, .int .i64 (a0.length : Int)), (7, .int .i64 s1)] ∧ Sep No w W' []) (fun y2 x E' W' => (match y2 with | .inl o1 => x = .ret ∧ impl_areWords_F w o1 E' W' | .inr o2 => x = .exit 0 ∧ SubL E' [] ∧ Sep No w W' [])) hy1 ⟨sb rfl, hS.to [] rfl⟩ ?_) ?_
  · intro s1 y3 E W h hI
    obtain ⟨hE, hS⟩ := hI
    refine CW.sub hE ?_
    unfold impl_areWords_b1 at h
    refine .seq ?_
    refine .region ?_
    refine .p rfl rfl rfl ?_
    refine .nil ?_
    refine .seq ?_
    refine .cond rfl (fun hb => ?_) (fun hb => ?_)
    · have h := sel_t hb h
      refine .skip ?_
      refine .seq ?_
      refine .block ?_
      refine .seq ?_
      refine .region ?_
      obtain ⟨x1, hx1, h⟩ := bnd h
      refine .r (ixv (hS.keep q_0) hx1 T.u22 T.t3 rfl rfl rfl) ?_ rfl rfl
      refine .r (lde (RV.flat (hS.keep q_0) hx1 rfl) T.t3 rfl rfl rfl rfl rfl) ?_ rfl rfl
      refine .p rfl rfl rfl ?_
      refine .nil ?_
      refine .seq ?_
      refine .region ?_
      refine .p rfl rfl rfl ?_
      obtain ⟨y4, hy4, h⟩ := bnd h
      refine .c (.call0 hS Tryd.func69 (impl_WordValid_ok hy4) rfl rfl ?_ rfl (by kernel_rfl) rfl rfl)
      intro W hS
      refine .p rfl rfl rfl ?_
      refine .nil ?_
      refine .cond rfl (fun hb => ?_) (fun hb => ?_)
      · have h := sel_t hb h
        refine .seq ?_
        refine .region ?_
        refine .p rfl rfl rfl ?_
        refine .nil ?_
        refine .ret ?_
        cases h
        exact ⟨by simp, rfl, fin_ret (vs := [_]) () (rt rfl rn) rfl (hS.to [] rfl)⟩
      · have h := sel_f hb h
        refine .skip ?_
        refine .region ?_
        refine .p rfl rfl rfl ?_
        refine .p rfl rfl rfl ?_
        refine .nil ?_
        cases h
        exact ⟨rfl, sb rfl, hS.to [] rfl⟩
    · have h := sel_f hb h
      refine .exit ?_
      cases h
      exact ⟨by simp, rfl, sb rfl, hS.to [] rfl⟩
  · intro x E W hJ
    rcases y1 with o3 | o4
    · skip
      obtain ⟨rfl, hF⟩ := hJ
      refine ⟨_, fun _ _ h => h, ?_⟩
      cases h
      exact hF
    · skip
      obtain ⟨rfl, hE, hS⟩ := hJ
      refine ⟨_, hE.sub, ?_⟩
      refine .seq ?_
      refine .region ?_
      refine .p rfl rfl rfl ?_
      refine .nil ?_
      refine .ret ?_
      cases h
      exact fin_ret (vs := [_]) () (rt rfl rn) rfl (hS.to [] rfl)
theorem impl_MachineValid_ok {a0 : Machine} {v_0_Regs : Hd} {v_0_Mem : Hd} {w : World} {r : Bool} (h : impl_MachineValid a0 = some r) (q_0_Regs : RV w (Old No w) (sv v_0_Regs) 3 1 (D.int .i64) a0.Regs) (q_0_Mem : RV w (Old No w) (sv v_0_Mem) 3 1 (D.int .i64) a0.Mem) : Calls Tryd.prog 39 #[.agg #[(sv v_0_Regs), .int .i64 a0.Pc, (sv v_0_Mem)]] w (Ret No w (fun s : Unit => .bool r) (fun s => [])) := by
  unfold impl_MachineValid at h
  refine enter Tryd.func39 rfl rfl ?_
  have hS := Sep.start w
  refine .seq ?_
  refine .region ?_
  refine .c (.box hS rfl rfl ?_ rfl rfl)
  intro g1 W hS
  refine .p rfl rfl rfl ?_
  refine .nil ?_
  refine .seq ?_
  refine .region ?_
  refine .r (fa T.f26_0 rfl rfl rfl) ?_ rfl rfl
  refine .r (ld T.t22 hS rfl rfl rfl rfl rfl) ?_ rfl rfl
  refine .r (lenv (hS.keep q_0_Regs) T.u22 rfl rfl) ?_ rfl rfl
  refine .p rfl rfl rfl ?_
  refine .p rfl rfl rfl ?_
  obtain ⟨b1, hb1, h⟩ := bnd h
  refine .chunk 4 11 (b1) hS ?_ ?_
  · refine .both ((a0.Regs.length : Int) == 32) (fun hb => ?_) (fun hb => ?_)
    · have hg1 := hb
      have h := sel_t hb hb1
      refine .g hg1 (.r (fa T.f26_0 rfl rfl rfl) ?_ rfl rfl) rfl
      refine .g hg1 (.r (ld T.t22 hS rfl rfl rfl rfl rfl) ?_ rfl rfl) rfl
      obtain ⟨y1, hy1, h⟩ := bnd h
      refine .g hg1 (.c (.call0 hS Tryd.func68 (impl_areWords_ok hy1 (hS.keep q_0_Regs)) rfl rfl ?_ rfl (by kernel_rfl) rfl rfl)) rfl
      intro W hS
      refine .r (pkt hg1 rfl rfl rfl) ?_ rfl rfl
      cases h
      exact .nil (ck 4 hS rfl rfl rfl rfl)
    · skip
      refine .x hb ?_ rfl rfl
      refine .x hb ?_ rfl rfl
      refine .x hb ?_ rfl rfl
      cases sel_f hb hb1
      refine .r (pkf hb rfl rfl rfl) ?_ rfl rfl
      exact .nil (ck 4 hS rfl rfl rfl rfl)
  intro W hS
  refine .p rfl rfl rfl ?_
  obtain ⟨b2, hb2, h⟩ := bnd h
  refine .chunk 6 18 (b2) hS ?_ ?_
  · refine .both (b1) (fun hb => ?_) (fun hb => ?_)
    · have hg2 := hb
      have h := sel_t hb hb2
      refine .g hg2 (.r (fa T.f26_0 rfl rfl rfl) ?_ rfl rfl) rfl
      refine .g hg2 (.r (ld T.t22 hS rfl rfl rfl rfl rfl) ?_ rfl rfl) rfl
      obtain ⟨x1, hx1, h⟩ := bnd h
      refine .g hg2 (.r (ixv (hS.keep q_0_Regs) hx1 T.u22 T.t3 rfl rfl rfl) ?_ rfl rfl) rfl
      refine .g hg2 (.r (lde (RV.flat (hS.keep q_0_Regs) hx1 rfl) T.t3 rfl rfl rfl rfl rfl) ?_ rfl rfl) rfl
      refine .g hg2 (.p rfl rfl rfl ?_) rfl
      refine .r (pkt hg2 rfl rfl rfl) ?_ rfl rfl
      cases h
      exact .nil (ck 6 hS rfl rfl rfl rfl)
    · skip
      refine .x hb ?_ rfl rfl
      refine .x hb ?_ rfl rfl
      refine .x hb ?_ rfl rfl
      refine .x hb ?_ rfl rfl
      refine .x hb ?_ rfl rfl
      cases sel_f hb hb2
      refine .r (pkf hb rfl rfl rfl) ?_ rfl rfl
      exact .nil (ck 6 hS rfl rfl rfl rfl)
  intro W hS
  refine .p rfl rfl rfl ?_
  obtain ⟨b3, hb3, h⟩ := bnd h
  refine .chunk 4 23 (b3) hS ?_ ?_
  · refine .both (b2) (fun hb => ?_) (fun hb => ?_)
    · have hg3 := hb
      have h := sel_t hb hb3
      refine .g hg3 (.r (fa T.f26_1 rfl rfl rfl) ?_ rfl rfl) rfl
      refine .g hg3 (.r (ld T.t3 hS rfl rfl rfl rfl rfl) ?_ rfl rfl) rfl
      obtain ⟨y2, hy2, h⟩ := bnd h
      refine .g hg3 (.c (.call0 hS Tryd.func69 (impl_WordValid_ok hy2) rfl rfl ?_ rfl (by kernel_rfl) rfl rfl)) rfl
      intro W hS
      refine .r (pkt hg3 rfl rfl rfl) ?_ rfl rfl
      cases h
      exact .nil (ck 4 hS rfl rfl rfl rfl)
    · skip
      refine .x hb ?_ rfl rfl
      refine .x hb ?_ rfl rfl
      refine .x hb ?_ rfl rfl
      cases sel_f hb hb3
      refine .r (pkf hb rfl rfl rfl) ?_ rfl rfl
      exact .nil (ck 4 hS rfl rfl rfl rfl)
  intro W hS
  refine .p rfl rfl rfl ?_
  refine .chunk 5 29 (b3 && (decide ((a0.Mem.length : Int) ≤ 10000))) hS ?_ ?_
  · refine .both (b3) (fun hb => ?_) (fun hb => ?_)
    · have hg4 := hb
      refine .g hg4 (.r (fa T.f26_2 rfl rfl rfl) ?_ rfl rfl) rfl
      refine .g hg4 (.r (ld T.t22 hS rfl rfl rfl rfl rfl) ?_ rfl rfl) rfl
      refine .g hg4 (.r (lenv (hS.keep q_0_Mem) T.u22 rfl rfl) ?_ rfl rfl) rfl
      refine .g hg4 (.p rfl rfl rfl ?_) rfl
      refine .r (pkt hg4 rfl rfl rfl) ?_ rfl rfl
      exact .nil (ck 5 hS rfl (and_t hg4) rfl rfl)
    · skip
      refine .x hb ?_ rfl rfl
      refine .x hb ?_ rfl rfl
      refine .x hb ?_ rfl rfl
      refine .x hb ?_ rfl rfl
      refine .r (pkf hb rfl rfl rfl) ?_ rfl rfl
      exact .nil (ck 5 hS rfl (and_f hb) rfl rfl)
  intro W hS
  refine .p rfl rfl rfl ?_
  obtain ⟨b4, hb4, h⟩ := bnd h
  refine .chunk 4 34 (b4) hS ?_ ?_
  · refine .both (b3 && (decide ((a0.Mem.length : Int) ≤ 10000))) (fun hb => ?_) (fun hb => ?_)
    · have hg5 := hb
      have h := sel_t hb hb4
      refine .g hg5 (.r (fa T.f26_2 rfl rfl rfl) ?_ rfl rfl) rfl
      refine .g hg5 (.r (ld T.t22 hS rfl rfl rfl rfl rfl) ?_ rfl rfl) rfl
      obtain ⟨y3, hy3, h⟩ := bnd h
      refine .g hg5 (.c (.call0 hS Tryd.func68 (impl_areWords_ok hy3 (hS.keep q_0_Mem)) rfl rfl ?_ rfl (by kernel_rfl) rfl rfl)) rfl
      intro W hS
      refine .r (pkt hg5 rfl rfl rfl) ?_ rfl rfl
      cases h
      exact .nil (ck 4 hS rfl rfl rfl rfl)
    · skip
      refine .x hb ?_ rfl rfl
      refine .x hb ?_ rfl rfl
      refine .x hb ?_ rfl rfl
      cases sel_f hb hb4
      refine .r (pkf hb rfl rfl rfl) ?_ rfl rfl
      exact .nil (ck 4 hS rfl rfl rfl rfl)
  intro W hS
  refine .p rfl rfl rfl ?_
  refine .nil ?_
  refine .ret ?_
  cases h
  exact fin_ret (vs := [_]) () (rt rfl rn) rfl (hS.to [] rfl)
theorem slices_Clone___int_int__ok {a0 : List Int} {v_0 : Hd} {w : World} {r : (List Int)} (h : slices_Clone___int_int_ a0 = some r) (q_0 : RV w (Old No w) (sv v_0) 3 1 (D.int .i64) a0) : Calls Tryd.prog 70 #[(sv v_0)] w (Ret No w (fun s : Hd => (sv s)) (fun s => [rowV (sv s) 3 1 (D.int .i64) r])) := by
  unfold slices_Clone___int_int_ at h
  refine enter Tryd.func70 rfl rfl ?_
  have hS := Sep.start w
  refine .seq ?_
  refine .region ?_
  refine .p rfl rfl rfl ?_
  refine .nil ?_
  refine .seq ?_
  refine .seq ?_
  refine .region ?_
  refine .p rfl rfl rfl ?_
  refine .r (nilq T.u22 rfl rfl) ?_ rfl rfl
  refine .nil ?_
  refine .cond rfl (fun hb => ?_) (fun hb => ?_)
  · have hl := RV.isnil q_0 hb
    subst hl
    refine .seq ?_
    refine .region ?_
    refine .p rfl rfl rfl ?_
    refine .nil ?_
    refine .ret ?_
    have hS := hS.nilv 3 1 (D.int .i64)
    have h : some [] = some r := h
    cases h
    exact fin_ret (vs := [_]) nilH (rt rfl rn) rfl (hS.to [0] rfl)
  · skip
    refine .skip ?_
    refine .seq ?_
    refine .region ?_
    refine .c (.liv [] (D.int .i64) T.u22 T.t3 hS rfl rfl rfl rfl ?_ rfl (fun _ => rfl) rfl rfl rfl rfl)
    intro v1 W hS
    refine .p rfl rfl rfl ?_
    obtain ⟨r1, hr1, h⟩ := bnd h
    refine .c (.apprv hr1 hS (hS.keep q_0) (fun _ => rfl) T.u22 T.t3 rfl rfl rfl ?_ rfl rfl rfl rfl rfl)
    intro v2 W hS
    refine .p rfl rfl rfl ?_
    refine .nil ?_
    refine .ret ?_
    cases h
    exact fin_ret (vs := [_]) v2 (rt rfl rn) rfl (hS.to [0] rfl)
theorem impl_machineCopy_ok {a0 : Machine} {v_0_Regs : Hd} {v_0_Mem : Hd} {w : World} {r : Machine} (h : impl_machineCopy a0 = some r) (q_0_Regs : RV w (Old No w) (sv v_0_Regs) 3 1 (D.int .i64) a0.Regs) (q_0_Mem : RV w (Old No w) (sv v_0_Mem) 3 1 (D.int .i64) a0.Mem) : Calls Tryd.prog 40 #[.agg #[(sv v_0_Regs), .int .i64 a0.Pc, (sv v_0_Mem)]] w (Ret No w (fun s : Hd × Hd => .agg #[(sv s.1), .int .i64 r.Pc, (sv s.2)]) (fun s => [rowV (sv s.1) 3 1 (D.int .i64) r.Regs, rowV (sv s.2) 3 1 (D.int .i64) r.Mem])) := by
  unfold impl_machineCopy at h
  refine enter Tryd.func40 rfl rfl ?_
  have hS := Sep.start w
  refine .seq ?_
  refine .region ?_
  refine .c (.box hS rfl rfl ?_ rfl rfl)
  intro g1 W hS
  refine .c (.alloc T.t26 hS ?_ rfl rfl rfl)
  intro g2 W hS
  refine .nil ?_
  refine .seq ?_
  refine .rk 9 hS [0, 0] T.mix ?_
  intro W hS
  have hT : Sep _ _ W [.box g2 26 [(sv nilH), .int .i64 0, (sv nilH)], .box g1 26 [(sv v_0_Regs), .int .i64 a0.Pc, (sv v_0_Mem)]] := hS.to [0, 0] rfl
  refine .t1 0 rfl (fun W hT => fa T.f26_0 rfl rfl rfl) hT ?_ (by kernel_rfl) rfl rfl
  refine .t1 1 rfl (fun W hT => ld T.t22 hT.p1 rfl rfl rfl rfl rfl) hT ?_ (by kernel_rfl) rfl rfl
  refine .t1 3 rfl (fun W hT => fa T.f26_1 rfl rfl rfl) hT ?_ (by kernel_rfl) rfl rfl
  refine .t1 4 rfl (fun W hT => ld T.t3 hT.p1 rfl rfl rfl rfl rfl) hT ?_ (by kernel_rfl) rfl rfl
  refine .t1 5 rfl (fun W hT => fa T.f26_2 rfl rfl rfl) hT ?_ (by kernel_rfl) rfl rfl
  refine .t1 6 rfl (fun W hT => ld T.t22 hT.p1 rfl rfl rfl rfl rfl) hT ?_ (by kernel_rfl) rfl rfl
  obtain ⟨y1, hy1, h⟩ := bnd h
  refine .by1 2 rfl (.call1v hS Tryd.func70 (slices_Clone___int_int__ok hy1 (hS.keep q_0_Regs)) rfl rfl ?_ rfl (by kernel_rfl) rfl rfl) (by kernel_rfl)
  intro v1 W hS
  have hT : Sep _ _ W [.box g2 26 [(sv nilH), .int .i64 0, (sv nilH)], .box g1 26 [(sv v_0_Regs), .int .i64 a0.Pc, (sv v_0_Mem)]] := hS.to [1, 1] rfl
  refine ⟨fun _ => hT, ?_⟩
  obtain ⟨y2, hy2, h⟩ := bnd h
  refine .by1 7 rfl (.call1v hS Tryd.func70 (slices_Clone___int_int__ok hy2 (hS.keep q_0_Mem)) rfl rfl ?_ rfl (by kernel_rfl) rfl rfl) (by kernel_rfl)
  intro v2 W hS
  have hT : Sep _ _ W [.box g2 26 [(sv nilH), .int .i64 0, (sv nilH)], .box g1 26 [(sv v_0_Regs), .int .i64 a0.Pc, (sv v_0_Mem)]] := hS.to [2, 2] rfl
  refine ⟨fun _ => hT, ?_⟩
  refine .t1 8 rfl (fun W hT => bs T.s26 rfl rfl) hT ?_ (by kernel_rfl) rfl rfl
  refine .by1 9 rfl (.st T.t26 hS.p2 rfl rfl rfl ?_ rfl rfl rfl rfl rfl) (by kernel_rfl)
  intro W hS
  refine ⟨fun h => absurd rfl h, ?_⟩
  refine .done ?_ (by kernel_rfl)
  refine .ret ?_
  cases h
  exact fin_ret (vs := [_]) (v1, v2) (rc hS T.t26 rfl rn rfl rfl) rfl (hS.to [2, 1] rfl)
theorem impl_Wrap_ok {a0 : Int} {w : World} {r : Int} (h : impl_Wrap a0 = some r) : Calls Tryd.prog 42 #[.int .i64 a0] w (Ret No w (fun s : Unit => .int .i64 r) (fun s => [])) := by
  unfold impl_Wrap at h
  refine enter Tryd.func42 rfl rfl ?_
  have hS := Sep.start w
  refine .seq ?_
  refine .region ?_
  refine .p rfl rfl rfl ?_
  refine .nil ?_
  refine .seq ?_
  refine .region ?_
  refine .p rfl rfl rfl ?_
  refine .r (cv T.u3 T.u21 rfl rfl) ?_ rfl rfl
  refine .r (cv T.u21 T.u3 rfl rfl) ?_ rfl rfl
  refine .p rfl rfl rfl ?_
  refine .nil ?_
  refine .ret ?_
  cases h
  exact fin_ret (vs := [_]) () (rt rfl rn) rfl (hS.to [] rfl)
theorem impl_Machine_word_ok {a0 : Machine} {a1 : Int} {v_0_Regs : Hd} {v_0_Mem : Hd} {g_0 : Nat} {S : Nat → Prop} {w : World} {r : Int} (h : impl_Machine_word a0 a1 = some r) (q_0_Regs : RV w (Old S w) (sv v_0_Regs) 3 1 (D.int .i64) a0.Regs) (q_0_Mem : RV w (Old S w) (sv v_0_Mem) 3 1 (D.int .i64) a0.Mem) (hO : Owns w [.box g_0 26 [(sv v_0_Regs), .int .i64 a0.Pc, (sv v_0_Mem)]] S) (hlt : ∀ b, S b → b < w.heap.size) : Calls Tryd.prog 71 #[.pointer (some ⟨g_0, 0, none⟩), .int .i64 a1] w (Ret S w (fun s : Unit => ptrV (sv v_0_Mem) 1 r) (fun s => [.box g_0 26 [(sv v_0_Regs), .int .i64 a0.Pc, (sv v_0_Mem)]])) := by
  unfold impl_Machine_word at h
  refine enter Tryd.func71 rfl rfl ?_
  have hS := Sep.startM hO hlt
  refine .seq ?_
  refine .region ?_
  refine .p rfl rfl rfl ?_
  refine .nil ?_
  refine .seq ?_
  refine .seq ?_
  refine .region ?_
  refine .p rfl rfl rfl ?_
  refine .p rfl rfl rfl ?_
  refine .p rfl rfl rfl ?_
  refine .chunk 4 11 ((decide (a1 < 0)) || ((Int.tmod a1 4) != 0)) hS ?_ ?_
  · refine .both (decide (a1 < 0)) (fun hb => ?_) (fun hb => ?_)
    · skip
      refine .x hb ?_ rfl rfl
      refine .x hb ?_ rfl rfl
      refine .x hb ?_ rfl rfl
      refine .r (pkt hb rfl rfl rfl) ?_ rfl rfl
      exact .nil (ck 4 hS rfl (or_t hb) rfl rfl)
    · have hg1 := hb
      refine .g hg1 (.p rfl rfl rfl ?_) rfl
      refine .g hg1 (.p rfl rfl rfl ?_) rfl
      refine .g hg1 (.p rfl rfl rfl ?_) rfl
      refine .r (pkf hg1 rfl rfl rfl) ?_ rfl rfl
      exact .nil (ck 4 hS rfl (or_f hg1) rfl rfl)
  intro W hS
  refine .p rfl rfl rfl ?_
  refine .chunk 9 21 (((decide (a1 < 0)) || ((Int.tmod a1 4) != 0)) || (decide ((w64 (Int.tdiv a1 4)) ≥ (a0.Mem.length : Int)))) hS ?_ ?_
  · refine .both ((decide (a1 < 0)) || ((Int.tmod a1 4) != 0)) (fun hb => ?_) (fun hb => ?_)
    · skip
      refine .x hb ?_ rfl rfl
      refine .x hb ?_ rfl rfl
      refine .x hb ?_ rfl rfl
      refine .x hb ?_ rfl rfl
      refine .x hb ?_ rfl rfl
      refine .x hb ?_ rfl rfl
      refine .x hb ?_ rfl rfl
      refine .x hb ?_ rfl rfl
      refine .r (pkt hb rfl rfl rfl) ?_ rfl rfl
      exact .nil (ck 9 hS rfl (or_t hb) rfl rfl)
    · have hg2 := hb
      refine .g hg2 (.p rfl rfl rfl ?_) rfl
      refine .g hg2 (.p rfl rfl rfl ?_) rfl
      refine .g hg2 (.p rfl rfl rfl ?_) rfl
      refine .g hg2 (.p rfl rfl rfl ?_) rfl
      refine .g hg2 (.r (fa T.f26_2 rfl rfl rfl) ?_ rfl rfl) rfl
      refine .g hg2 (.r (ld T.t22 hS rfl rfl rfl rfl rfl) ?_ rfl rfl) rfl
      refine .g hg2 (.r (lenv (hS.keep q_0_Mem) T.u22 rfl rfl) ?_ rfl rfl) rfl
      refine .g hg2 (.p rfl rfl rfl ?_) rfl
      refine .r (pkf hg2 rfl rfl rfl) ?_ rfl rfl
      exact .nil (ck 9 hS rfl (or_f hg2) rfl rfl)
  intro W hS
  refine .nil ?_
  refine .cond rfl (fun hb => ?_) (fun hb => ?_)
  · have h := sel_t hb h
    refine .seq ?_
    refine .region ?_
    refine .p rfl rfl rfl ?_
    refine .nil ?_
    refine .ret ?_
    cases h
    exact fin_ret (vs := [_]) () (rt rfl rn) rfl (hS.to [0] rfl)
  · have h := sel_f hb h
    refine .skip ?_
    refine .seq ?_
    refine .region ?_
    refine .p rfl rfl rfl ?_
    refine .p rfl rfl rfl ?_
    refine .r (fa T.f26_2 rfl rfl rfl) ?_ rfl rfl
    refine .r (ld T.t22 hS rfl rfl rfl rfl rfl) ?_ rfl rfl
    refine .p rfl rfl rfl ?_
    refine .p rfl rfl rfl ?_
    obtain ⟨x1, hx1, h⟩ := bnd h
    refine .r (ixv (hS.keep q_0_Mem) hx1 T.u22 T.t3 rfl rfl rfl) ?_ rfl rfl
    refine .p rfl rfl rfl ?_
    refine .nil ?_
    refine .ret ?_
    cases h
    exact fin_ret (vs := [_]) () (rt rfl rn) (ptr_at hx1).symm (hS.to [0] rfl)
theorem impl_Unsigned_ok {a0 : Int} {w : World} {r : Int} (h : impl_Unsigned a0 = some r) : Calls Tryd.prog 73 #[.int .i64 a0] w (Ret No w (fun s : Unit => .int .i64 r) (fun s => [])) := by
  unfold impl_Unsigned at h
  refine enter Tryd.func73 rfl rfl ?_
  have hS := Sep.start w
  refine .seq ?_
  refine .region ?_
  refine .p rfl rfl rfl ?_
  refine .nil ?_
  refine .seq ?_
  refine .seq ?_
  refine .region ?_
  refine .p rfl rfl rfl ?_
  obtain ⟨y1, hy1, h⟩ := bnd h
  refine .c (.call0 hS Tryd.func69 (impl_WordValid_ok hy1) rfl rfl ?_ rfl (by kernel_rfl) rfl rfl)
  intro W hS
  refine .p rfl rfl rfl ?_
  refine .nil ?_
  refine .cond rfl (fun hb => ?_) (fun hb => ?_)
  · have h := sel_t hb h
    refine .seq ?_
    refine .region ?_
    refine .p rfl rfl rfl ?_
    refine .nil ?_
    refine .ret ?_
    cases h
    exact fin_ret (vs := [_]) () (rt rfl rn) rfl (hS.to [] rfl)
  · have h := sel_f hb h
    refine .skip ?_
    refine .seq ?_
    refine .region ?_
    refine .p rfl rfl rfl ?_
    refine .r (cv T.u3 T.u100 rfl rfl) ?_ rfl rfl
    refine .r (cv T.u100 T.u3 rfl rfl) ?_ rfl rfl
    refine .p rfl rfl rfl ?_
    refine .nil ?_
    refine .ret ?_
    cases h
    exact fin_ret (vs := [_]) () (rt rfl rn) rfl (hS.to [] rfl)
theorem impl_formatOf_ok {a0 : Int} {w : World} {r : Int} (h : impl_formatOf a0 = some r) : Calls Tryd.prog 89 #[.int .i64 a0] w (Ret No w (fun s : Unit => .int .u8 r) (fun s => [])) := by
  unfold impl_formatOf at h
  refine enter Tryd.func89 rfl rfl ?_
  have hS := Sep.start w
  refine .seq ?_
  refine .region ?_
  refine .p rfl rfl rfl ?_
  refine .nil ?_
  refine .seq ?_
  refine .block ?_
  refine .seq ?_
  refine .region ?_
  refine .p rfl rfl rfl ?_
  refine .p rfl rfl rfl ?_
  refine .p rfl rfl rfl ?_
  refine .chunk 3 9 ((decide (a0 ≥ 1)) && (decide (a0 ≤ 11))) hS ?_ ?_
  · refine .both (decide (a0 ≥ 1)) (fun hb => ?_) (fun hb => ?_)
    · have hg1 := hb
      refine .g hg1 (.p rfl rfl rfl ?_) rfl
      refine .g hg1 (.p rfl rfl rfl ?_) rfl
      refine .r (pkt hg1 rfl rfl rfl) ?_ rfl rfl
      exact .nil (ck 3 hS rfl (and_t hg1) rfl rfl)
    · skip
      refine .x hb ?_ rfl rfl
      refine .x hb ?_ rfl rfl
      refine .r (pkf hb rfl rfl rfl) ?_ rfl rfl
      exact .nil (ck 3 hS rfl (and_f hb) rfl rfl)
  intro W hS
  refine .p rfl rfl rfl ?_
  refine .nil ?_
  refine .cond rfl (fun hb => ?_) (fun hb => ?_)
  · have h := sel_t hb h
    refine .seq ?_
    refine .region ?_
    refine .p rfl rfl rfl ?_
    refine .nil ?_
    refine .ret ?_
    cases h
    exact fin_ret (vs := [_]) () (rt rfl rn) rfl (hS.to [] rfl)
  · have h := sel_f hb h
    refine .seq ?_
    refine .region ?_
    refine .p rfl rfl rfl ?_
    refine .p rfl rfl rfl ?_
    refine .p rfl rfl rfl ?_
    refine .chunk 3 16 ((decide (a0 ≥ 12)) && (decide (a0 ≤ 15))) hS ?_ ?_
    · refine .both (decide (a0 ≥ 12)) (fun hb => ?_) (fun hb => ?_)
      · have hg2 := hb
        refine .g hg2 (.p rfl rfl rfl ?_) rfl
        refine .g hg2 (.p rfl rfl rfl ?_) rfl
        refine .r (pkt hg2 rfl rfl rfl) ?_ rfl rfl
        exact .nil (ck 3 hS rfl (and_t hg2) rfl rfl)
      · skip
        refine .x hb ?_ rfl rfl
        refine .x hb ?_ rfl rfl
        refine .r (pkf hb rfl rfl rfl) ?_ rfl rfl
        exact .nil (ck 3 hS rfl (and_f hb) rfl rfl)
    intro W hS
    refine .p rfl rfl rfl ?_
    refine .nil ?_
    refine .cond rfl (fun hb => ?_) (fun hb => ?_)
    · have h := sel_t hb h
      refine .seq ?_
      refine .region ?_
      refine .p rfl rfl rfl ?_
      refine .nil ?_
      refine .ret ?_
      cases h
      exact fin_ret (vs := [_]) () (rt rfl rn) rfl (hS.to [] rfl)
    · have h := sel_f hb h
      refine .seq ?_
      refine .region ?_
      refine .p rfl rfl rfl ?_
      refine .p rfl rfl rfl ?_
      refine .p rfl rfl rfl ?_
      refine .nil ?_
      refine .cond rfl (fun hb => ?_) (fun hb => ?_)
      · have h := sel_t hb h
        refine .seq ?_
        refine .region ?_
        refine .p rfl rfl rfl ?_
        refine .nil ?_
        refine .ret ?_
        cases h
        exact fin_ret (vs := [_]) () (rt rfl rn) rfl (hS.to [] rfl)
      · have h := sel_f hb h
        refine .seq ?_
        refine .region ?_
        refine .p rfl rfl rfl ?_
        refine .p rfl rfl rfl ?_
        refine .p rfl rfl rfl ?_
        refine .chunk 3 26 ((a0 == 17) || (a0 == 18)) hS ?_ ?_
        · refine .both (a0 == 17) (fun hb => ?_) (fun hb => ?_)
          · skip
            refine .x hb ?_ rfl rfl
            refine .x hb ?_ rfl rfl
            refine .r (pkt hb rfl rfl rfl) ?_ rfl rfl
            exact .nil (ck 3 hS rfl (or_t hb) rfl rfl)
          · have hg3 := hb
            refine .g hg3 (.p rfl rfl rfl ?_) rfl
            refine .g hg3 (.p rfl rfl rfl ?_) rfl
            refine .r (pkf hg3 rfl rfl rfl) ?_ rfl rfl
            exact .nil (ck 3 hS rfl (or_f hg3) rfl rfl)
        intro W hS
        refine .p rfl rfl rfl ?_
        refine .nil ?_
        refine .cond rfl (fun hb => ?_) (fun hb => ?_)
        · have h := sel_t hb h
          refine .seq ?_
          refine .region ?_
          refine .p rfl rfl rfl ?_
          refine .nil ?_
          refine .ret ?_
          cases h
          exact fin_ret (vs := [_]) () (rt rfl rn) rfl (hS.to [] rfl)
        · have h := sel_f hb h
          refine .seq ?_
          refine .region ?_
          refine .p rfl rfl rfl ?_
          refine .p rfl rfl rfl ?_
          refine .p rfl rfl rfl ?_
          refine .nil ?_
          refine .cond rfl (fun hb => ?_) (fun hb => ?_)
          · have h := sel_t hb h
            refine .seq ?_
            refine .region ?_
            refine .p rfl rfl rfl ?_
            refine .nil ?_
            refine .ret ?_
            cases h
            exact fin_ret (vs := [_]) () (rt rfl rn) rfl (hS.to [] rfl)
          · have h := sel_f hb h
            refine .seq ?_
            refine .region ?_
            refine .p rfl rfl rfl ?_
            refine .p rfl rfl rfl ?_
            refine .p rfl rfl rfl ?_
            refine .nil ?_
            refine .cond rfl (fun hb => ?_) (fun hb => ?_)
            · have h := sel_t hb h
              refine .seq ?_
              refine .region ?_
              refine .p rfl rfl rfl ?_
              refine .nil ?_
              refine .ret ?_
              cases h
              exact fin_ret (vs := [_]) () (rt rfl rn) rfl (hS.to [] rfl)
            · have h := sel_f hb h
              refine .seq ?_
              refine .region ?_
              refine .p rfl rfl rfl ?_
              refine .p rfl rfl rfl ?_
              refine .p rfl rfl rfl ?_
              refine .nil ?_
              refine .cond rfl (fun hb => ?_) (fun hb => ?_)
              · have h := sel_t hb h
                refine .seq ?_
                refine .region ?_
                refine .p rfl rfl rfl ?_
                refine .nil ?_
                refine .ret ?_
                cases h
                exact fin_ret (vs := [_]) () (rt rfl rn) rfl (hS.to [] rfl)
              · have h := sel_f hb h
                refine .skip ?_
                refine .seq ?_
                refine .region ?_
                refine .p rfl rfl rfl ?_
                refine .nil ?_
                refine .ret ?_
                cases h
                exact fin_ret (vs := [_]) () (rt rfl rn) rfl (hS.to [] rfl)
theorem impl_isMachineReg_ok {a0 : Int} {w : World} {r : Bool} (h : impl_isMachineReg a0 = some r) : Calls Tryd.prog 110 #[.int .i64 a0] w (Ret No w (fun s : Unit => .bool r) (fun s => [])) := by
  unfold impl_isMachineReg at h
  refine enter Tryd.func110 rfl rfl ?_
  have hS := Sep.start w
  refine .seq ?_
  refine .region ?_
  refine .p rfl rfl rfl ?_
  refine .nil ?_
  refine .seq ?_
  refine .region ?_
  refine .p rfl rfl rfl ?_
  refine .p rfl rfl rfl ?_
  refine .p rfl rfl rfl ?_
  refine .chunk 3 8 ((decide (a0 ≥ 0)) && (decide (a0 < 32))) hS ?_ ?_
  · refine .both (decide (a0 ≥ 0)) (fun hb => ?_) (fun hb => ?_)
    · have hg1 := hb
      refine .g hg1 (.p rfl rfl rfl ?_) rfl
      refine .g hg1 (.p rfl rfl rfl ?_) rfl
      refine .r (pkt hg1 rfl rfl rfl) ?_ rfl rfl
      exact .nil (ck 3 hS rfl (and_t hg1) rfl rfl)
    · skip
      refine .x hb ?_ rfl rfl
      refine .x hb ?_ rfl rfl
      refine .r (pkf hb rfl rfl rfl) ?_ rfl rfl
      exact .nil (ck 3 hS rfl (and_f hb) rfl rfl)
  intro W hS
  refine .p rfl rfl rfl ?_
  refine .nil ?_
  refine .ret ?_
  cases h
  exact fin_ret (vs := [_]) () (rt rfl rn) rfl (hS.to [] rfl)
theorem impl_InstrValid_ok {a0 : Instr} {w : World} {r : Bool} (h : impl_InstrValid a0 = some r) : Calls Tryd.prog 86 #[.agg #[.int .i64 a0.Op, .int .i64 a0.Rd, .int .i64 a0.Rs, .int .i64 a0.Rt, .int .i64 a0.Imm]] w (Ret No w (fun s : Unit => .bool r) (fun s => [])) := by
  unfold impl_InstrValid at h
  refine enter Tryd.func86 rfl rfl ?_
  have hS := Sep.start w
  refine .seq ?_
  refine .region ?_
  refine .c (.box hS rfl rfl ?_ rfl rfl)
  intro g1 W hS
  refine .p rfl rfl rfl ?_
  refine .nil ?_
  refine .seq ?_
  refine .rk 12 hS [0] T.mix ?_
  intro W hS
  have hT : Sep _ _ W [.box g1 68 [.int .i64 a0.Op, .int .i64 a0.Rd, .int .i64 a0.Rs, .int .i64 a0.Rt, .int .i64 a0.Imm]] := hS.to [0] rfl
  refine .t1 0 rfl (fun W hT => fa T.f68_1 rfl rfl rfl) hT ?_ (by kernel_rfl) rfl rfl
  refine .t1 1 rfl (fun W hT => ld T.t3 hT rfl rfl rfl rfl rfl) hT ?_ (by kernel_rfl) rfl rfl
  refine .t1 3 rfl (fun W hT => fa T.f68_2 rfl rfl rfl) hT ?_ (by kernel_rfl) rfl rfl
  refine .t1 4 rfl (fun W hT => ld T.t3 hT rfl rfl rfl rfl rfl) hT ?_ (by kernel_rfl) rfl rfl
  refine .t1 6 rfl (fun W hT => fa T.f68_3 rfl rfl rfl) hT ?_ (by kernel_rfl) rfl rfl
  refine .t1 7 rfl (fun W hT => ld T.t3 hT rfl rfl rfl rfl rfl) hT ?_ (by kernel_rfl) rfl rfl
  obtain ⟨y1, hy1, h⟩ := bnd h
  refine .by1 2 rfl (.call0 hS Tryd.func110 (impl_isMachineReg_ok hy1) rfl rfl ?_ rfl (by kernel_rfl) rfl rfl) (by kernel_rfl)
  intro W hS
  have hT : Sep _ _ W [.box g1 68 [.int .i64 a0.Op, .int .i64 a0.Rd, .int .i64 a0.Rs, .int .i64 a0.Rt, .int .i64 a0.Imm]] := hS.to [0] rfl
  refine ⟨fun _ => hT, ?_⟩
  obtain ⟨y2, hy2, h⟩ := bnd h
  refine .by1 5 rfl (.call0 hS Tryd.func110 (impl_isMachineReg_ok hy2) rfl rfl ?_ rfl (by kernel_rfl) rfl rfl) (by kernel_rfl)
  intro W hS
  have hT : Sep _ _ W [.box g1 68 [.int .i64 a0.Op, .int .i64 a0.Rd, .int .i64 a0.Rs, .int .i64 a0.Rt, .int .i64 a0.Imm]] := hS.to [0] rfl
  refine ⟨fun _ => hT, ?_⟩
  obtain ⟨y3, hy3, h⟩ := bnd h
  refine .by1 8 rfl (.call0 hS Tryd.func110 (impl_isMachineReg_ok hy3) rfl rfl ?_ rfl (by kernel_rfl) rfl rfl) (by kernel_rfl)
  intro W hS
  have hT : Sep _ _ W [.box g1 68 [.int .i64 a0.Op, .int .i64 a0.Rd, .int .i64 a0.Rs, .int .i64 a0.Rt, .int .i64 a0.Imm]] := hS.to [0] rfl
  refine ⟨fun _ => hT, ?_⟩
  refine .t1 9 rfl (fun W hT => pr rfl) hT ?_ (by kernel_rfl) rfl rfl
  refine .t1 10 rfl (fun W hT => pr rfl) hT ?_ (by kernel_rfl) rfl rfl
  refine .t1 11 rfl (fun W hT => pr rfl) hT ?_ (by kernel_rfl) rfl rfl
  refine .done ?_ (by kernel_rfl)
  refine .seq ?_
  refine .region ?_
  refine .r (fa T.f68_4 rfl rfl rfl) ?_ rfl rfl
  refine .r (ld T.t3 hS rfl rfl rfl rfl rfl) ?_ rfl rfl
  refine .p rfl rfl rfl ?_
  refine .p rfl rfl rfl ?_
  refine .chunk 4 23 ((decide (a0.Imm ≥ (-2048))) && (decide (a0.Imm ≤ 2047))) hS ?_ ?_
  · refine .both (decide (a0.Imm ≥ (-2048))) (fun hb => ?_) (fun hb => ?_)
    · have hg1 := hb
      refine .g hg1 (.r (fa T.f68_4 rfl rfl rfl) ?_ rfl rfl) rfl
      refine .g hg1 (.r (ld T.t3 hS rfl rfl rfl rfl rfl) ?_ rfl rfl) rfl
      refine .g hg1 (.p rfl rfl rfl ?_) rfl
      refine .r (pkt hg1 rfl rfl rfl) ?_ rfl rfl
      exact .nil (ck 4 hS rfl (and_t hg1) rfl rfl)
    · skip
      refine .x hb ?_ rfl rfl
      refine .x hb ?_ rfl rfl
      refine .x hb ?_ rfl rfl
      refine .r (pkf hb rfl rfl rfl) ?_ rfl rfl
      exact .nil (ck 4 hS rfl (and_f hb) rfl rfl)
  intro W hS
  refine .p rfl rfl rfl ?_
  refine .nil ?_
  refine .seq ?_
  refine .seq ?_
  refine .region ?_
  refine .r (fa T.f68_0 rfl rfl rfl) ?_ rfl rfl
  refine .r (ld T.t3 hS rfl rfl rfl rfl rfl) ?_ rfl rfl
  obtain ⟨y4, hy4, h⟩ := bnd h
  refine .c (.call0 hS Tryd.func89 (impl_formatOf_ok hy4) rfl rfl ?_ rfl (by kernel_rfl) rfl rfl)
  intro W hS
  refine .nil ?_
  refine .block ?_
  refine .seq ?_
  refine .region ?_
  refine .p rfl rfl rfl ?_
  refine .p rfl rfl rfl ?_
  refine .nil ?_
  refine .cond rfl (fun hb => ?_) (fun hb => ?_)
  · have h := sel_t hb h
    refine .seq ?_
    refine .region ?_
    refine .p rfl rfl rfl ?_
    refine .p rfl rfl rfl ?_
    refine .chunk 2 32 (y1 && y2) hS ?_ ?_
    · refine .both (y1) (fun hb => ?_) (fun hb => ?_)
      · have hg2 := hb
        refine .g hg2 (.p rfl rfl rfl ?_) rfl
        refine .r (pkt hg2 rfl rfl rfl) ?_ rfl rfl
        exact .nil (ck 2 hS rfl (and_t hg2) rfl rfl)
      · skip
        refine .x hb ?_ rfl rfl
        refine .r (pkf hb rfl rfl rfl) ?_ rfl rfl
        exact .nil (ck 2 hS rfl (and_f hb) rfl rfl)
    intro W hS
    refine .p rfl rfl rfl ?_
    refine .chunk 2 35 ((y1 && y2) && y3) hS ?_ ?_
    · refine .both (y1 && y2) (fun hb => ?_) (fun hb => ?_)
      · have hg3 := hb
        refine .g hg3 (.p rfl rfl rfl ?_) rfl
        refine .r (pkt hg3 rfl rfl rfl) ?_ rfl rfl
        exact .nil (ck 2 hS rfl (and_t hg3) rfl rfl)
      · skip
        refine .x hb ?_ rfl rfl
        refine .r (pkf hb rfl rfl rfl) ?_ rfl rfl
        exact .nil (ck 2 hS rfl (and_f hb) rfl rfl)
    intro W hS
    refine .p rfl rfl rfl ?_
    refine .chunk 4 40 (((y1 && y2) && y3) && (a0.Imm == 0)) hS ?_ ?_
    · refine .both ((y1 && y2) && y3) (fun hb => ?_) (fun hb => ?_)
      · have hg4 := hb
        refine .g hg4 (.r (fa T.f68_4 rfl rfl rfl) ?_ rfl rfl) rfl
        refine .g hg4 (.r (ld T.t3 hS rfl rfl rfl rfl rfl) ?_ rfl rfl) rfl
        refine .g hg4 (.p rfl rfl rfl ?_) rfl
        refine .r (pkt hg4 rfl rfl rfl) ?_ rfl rfl
        exact .nil (ck 4 hS rfl (and_t hg4) rfl rfl)
      · skip
        refine .x hb ?_ rfl rfl
        refine .x hb ?_ rfl rfl
        refine .x hb ?_ rfl rfl
        refine .r (pkf hb rfl rfl rfl) ?_ rfl rfl
        exact .nil (ck 4 hS rfl (and_f hb) rfl rfl)
    intro W hS
    refine .p rfl rfl rfl ?_
    refine .nil ?_
    refine .ret ?_
    cases h
    exact fin_ret (vs := [_]) () (rt rfl rn) rfl (hS.to [] rfl)
  · have h := sel_f hb h
    refine .seq ?_
    refine .region ?_
    refine .p rfl rfl rfl ?_
    refine .p rfl rfl rfl ?_
    refine .nil ?_
    refine .cond rfl (fun hb => ?_) (fun hb => ?_)
    · have h := sel_t hb h
      refine .seq ?_
      refine .region ?_
      refine .p rfl rfl rfl ?_
      refine .p rfl rfl rfl ?_
      refine .chunk 2 46 (y1 && y2) hS ?_ ?_
      · refine .both (y1) (fun hb => ?_) (fun hb => ?_)
        · have hg5 := hb
          refine .g hg5 (.p rfl rfl rfl ?_) rfl
          refine .r (pkt hg5 rfl rfl rfl) ?_ rfl rfl
          exact .nil (ck 2 hS rfl (and_t hg5) rfl rfl)
        · skip
          refine .x hb ?_ rfl rfl
          refine .r (pkf hb rfl rfl rfl) ?_ rfl rfl
          exact .nil (ck 2 hS rfl (and_f hb) rfl rfl)
      intro W hS
      refine .p rfl rfl rfl ?_
      refine .chunk 4 51 ((y1 && y2) && (a0.Rt == 0)) hS ?_ ?_
      · refine .both (y1 && y2) (fun hb => ?_) (fun hb => ?_)
        · have hg6 := hb
          refine .g hg6 (.r (fa T.f68_3 rfl rfl rfl) ?_ rfl rfl) rfl
          refine .g hg6 (.r (ld T.t3 hS rfl rfl rfl rfl rfl) ?_ rfl rfl) rfl
          refine .g hg6 (.p rfl rfl rfl ?_) rfl
          refine .r (pkt hg6 rfl rfl rfl) ?_ rfl rfl
          exact .nil (ck 4 hS rfl (and_t hg6) rfl rfl)
        · skip
          refine .x hb ?_ rfl rfl
          refine .x hb ?_ rfl rfl
          refine .x hb ?_ rfl rfl
          refine .r (pkf hb rfl rfl rfl) ?_ rfl rfl
          exact .nil (ck 4 hS rfl (and_f hb) rfl rfl)
      intro W hS
      refine .p rfl rfl rfl ?_
      refine .chunk 2 54 (((y1 && y2) && (a0.Rt == 0)) && ((decide (a0.Imm ≥ (-2048))) && (decide (a0.Imm ≤ 2047)))) hS ?_ ?_
      · refine .both ((y1 && y2) && (a0.Rt == 0)) (fun hb => ?_) (fun hb => ?_)
        · have hg7 := hb
          refine .g hg7 (.p rfl rfl rfl ?_) rfl
          refine .r (pkt hg7 rfl rfl rfl) ?_ rfl rfl
          exact .nil (ck 2 hS rfl (and_t hg7) rfl rfl)
        · skip
          refine .x hb ?_ rfl rfl
          refine .r (pkf hb rfl rfl rfl) ?_ rfl rfl
          exact .nil (ck 2 hS rfl (and_f hb) rfl rfl)
      intro W hS
      refine .p rfl rfl rfl ?_
      refine .nil ?_
      refine .ret ?_
      cases h
      exact fin_ret (vs := [_]) () (rt rfl rn) rfl (hS.to [] rfl)
    · have h := sel_f hb h
      refine .seq ?_
      refine .region ?_
      refine .p rfl rfl rfl ?_
      refine .p rfl rfl rfl ?_
      refine .nil ?_
      refine .cond rfl (fun hb => ?_) (fun hb => ?_)
      · have h := sel_t hb h
        refine .seq ?_
        refine .region ?_
        refine .r (fa T.f68_1 rfl rfl rfl) ?_ rfl rfl
        refine .r (ld T.t3 hS rfl rfl rfl rfl rfl) ?_ rfl rfl
        refine .p rfl rfl rfl ?_
        refine .p rfl rfl rfl ?_
        refine .chunk 2 62 ((a0.Rd == 0) && y2) hS ?_ ?_
        · refine .both (a0.Rd == 0) (fun hb => ?_) (fun hb => ?_)
          · have hg8 := hb
            refine .g hg8 (.p rfl rfl rfl ?_) rfl
            refine .r (pkt hg8 rfl rfl rfl) ?_ rfl rfl
            exact .nil (ck 2 hS rfl (and_t hg8) rfl rfl)
          · skip
            refine .x hb ?_ rfl rfl
            refine .r (pkf hb rfl rfl rfl) ?_ rfl rfl
            exact .nil (ck 2 hS rfl (and_f hb) rfl rfl)
        intro W hS
        refine .p rfl rfl rfl ?_
        refine .chunk 2 65 (((a0.Rd == 0) && y2) && y3) hS ?_ ?_
        · refine .both ((a0.Rd == 0) && y2) (fun hb => ?_) (fun hb => ?_)
          · have hg9 := hb
            refine .g hg9 (.p rfl rfl rfl ?_) rfl
            refine .r (pkt hg9 rfl rfl rfl) ?_ rfl rfl
            exact .nil (ck 2 hS rfl (and_t hg9) rfl rfl)
          · skip
            refine .x hb ?_ rfl rfl
            refine .r (pkf hb rfl rfl rfl) ?_ rfl rfl
            exact .nil (ck 2 hS rfl (and_f hb) rfl rfl)
        intro W hS
        refine .p rfl rfl rfl ?_
        refine .chunk 2 68 ((((a0.Rd == 0) && y2) && y3) && ((decide (a0.Imm ≥ (-2048))) && (decide (a0.Imm ≤ 2047)))) hS ?_ ?_
        · refine .both (((a0.Rd == 0) && y2) && y3) (fun hb => ?_) (fun hb => ?_)
          · have hg10 := hb
            refine .g hg10 (.p rfl rfl rfl ?_) rfl
            refine .r (pkt hg10 rfl rfl rfl) ?_ rfl rfl
            exact .nil (ck 2 hS rfl (and_t hg10) rfl rfl)
          · skip
            refine .x hb ?_ rfl rfl
            refine .r (pkf hb rfl rfl rfl) ?_ rfl rfl
            exact .nil (ck 2 hS rfl (and_f hb) rfl rfl)
        intro W hS
        refine .p rfl rfl rfl ?_
        refine .nil ?_
        refine .ret ?_
        cases h
        exact fin_ret (vs := [_]) () (rt rfl rn) rfl (hS.to [] rfl)
      · have h := sel_f hb h
        refine .seq ?_
        refine .region ?_
        refine .p rfl rfl rfl ?_
        refine .p rfl rfl rfl ?_
        refine .nil ?_
        refine .cond rfl (fun hb => ?_) (fun hb => ?_)
        · have h := sel_t hb h
          refine .seq ?_
          refine .region ?_
          refine .r (fa T.f68_1 rfl rfl rfl) ?_ rfl rfl
          refine .r (ld T.t3 hS rfl rfl rfl rfl rfl) ?_ rfl rfl
          refine .p rfl rfl rfl ?_
          refine .p rfl rfl rfl ?_
          refine .chunk 2 76 ((a0.Rd == 0) && y2) hS ?_ ?_
          · refine .both (a0.Rd == 0) (fun hb => ?_) (fun hb => ?_)
            · have hg11 := hb
              refine .g hg11 (.p rfl rfl rfl ?_) rfl
              refine .r (pkt hg11 rfl rfl rfl) ?_ rfl rfl
              exact .nil (ck 2 hS rfl (and_t hg11) rfl rfl)
            · skip
              refine .x hb ?_ rfl rfl
              refine .r (pkf hb rfl rfl rfl) ?_ rfl rfl
              exact .nil (ck 2 hS rfl (and_f hb) rfl rfl)
          intro W hS
          refine .p rfl rfl rfl ?_
          refine .chunk 2 79 (((a0.Rd == 0) && y2) && y3) hS ?_ ?_
          · refine .both ((a0.Rd == 0) && y2) (fun hb => ?_) (fun hb => ?_)
            · have hg12 := hb
              refine .g hg12 (.p rfl rfl rfl ?_) rfl
              refine .r (pkt hg12 rfl rfl rfl) ?_ rfl rfl
              exact .nil (ck 2 hS rfl (and_t hg12) rfl rfl)
            · skip
              refine .x hb ?_ rfl rfl
              refine .r (pkf hb rfl rfl rfl) ?_ rfl rfl
              exact .nil (ck 2 hS rfl (and_f hb) rfl rfl)
          intro W hS
          refine .p rfl rfl rfl ?_
          refine .chunk 4 84 ((((a0.Rd == 0) && y2) && y3) && (decide (a0.Imm ≥ (-4096)))) hS ?_ ?_
          · refine .both (((a0.Rd == 0) && y2) && y3) (fun hb => ?_) (fun hb => ?_)
            · have hg13 := hb
              refine .g hg13 (.r (fa T.f68_4 rfl rfl rfl) ?_ rfl rfl) rfl
              refine .g hg13 (.r (ld T.t3 hS rfl rfl rfl rfl rfl) ?_ rfl rfl) rfl
              refine .g hg13 (.p rfl rfl rfl ?_) rfl
              refine .r (pkt hg13 rfl rfl rfl) ?_ rfl rfl
              exact .nil (ck 4 hS rfl (and_t hg13) rfl rfl)
            · skip
              refine .x hb ?_ rfl rfl
              refine .x hb ?_ rfl rfl
              refine .x hb ?_ rfl rfl
              refine .r (pkf hb rfl rfl rfl) ?_ rfl rfl
              exact .nil (ck 4 hS rfl (and_f hb) rfl rfl)
          intro W hS
          refine .p rfl rfl rfl ?_
          refine .chunk 4 89 (((((a0.Rd == 0) && y2) && y3) && (decide (a0.Imm ≥ (-4096)))) && (decide (a0.Imm ≤ 4094))) hS ?_ ?_
          · refine .both ((((a0.Rd == 0) && y2) && y3) && (decide (a0.Imm ≥ (-4096)))) (fun hb => ?_) (fun hb => ?_)
            · have hg14 := hb
              refine .g hg14 (.r (fa T.f68_4 rfl rfl rfl) ?_ rfl rfl) rfl
              refine .g hg14 (.r (ld T.t3 hS rfl rfl rfl rfl rfl) ?_ rfl rfl) rfl
              refine .g hg14 (.p rfl rfl rfl ?_) rfl
              refine .r (pkt hg14 rfl rfl rfl) ?_ rfl rfl
              exact .nil (ck 4 hS rfl (and_t hg14) rfl rfl)
            · skip
              refine .x hb ?_ rfl rfl
              refine .x hb ?_ rfl rfl
              refine .x hb ?_ rfl rfl
              refine .r (pkf hb rfl rfl rfl) ?_ rfl rfl
              exact .nil (ck 4 hS rfl (and_f hb) rfl rfl)
          intro W hS
          refine .p rfl rfl rfl ?_
          refine .chunk 5 95 ((((((a0.Rd == 0) && y2) && y3) && (decide (a0.Imm ≥ (-4096)))) && (decide (a0.Imm ≤ 4094))) && ((Int.tmod a0.Imm 2) == 0)) hS ?_ ?_
          · refine .both (((((a0.Rd == 0) && y2) && y3) && (decide (a0.Imm ≥ (-4096)))) && (decide (a0.Imm ≤ 4094))) (fun hb => ?_) (fun hb => ?_)
            · have hg15 := hb
              refine .g hg15 (.r (fa T.f68_4 rfl rfl rfl) ?_ rfl rfl) rfl
              refine .g hg15 (.r (ld T.t3 hS rfl rfl rfl rfl rfl) ?_ rfl rfl) rfl
              refine .g hg15 (.p rfl rfl rfl ?_) rfl
              refine .g hg15 (.p rfl rfl rfl ?_) rfl
              refine .r (pkt hg15 rfl rfl rfl) ?_ rfl rfl
              exact .nil (ck 5 hS rfl (and_t hg15) rfl rfl)
            · skip
              refine .x hb ?_ rfl rfl
              refine .x hb ?_ rfl rfl
              refine .x hb ?_ rfl rfl
              refine .x hb ?_ rfl rfl
              refine .r (pkf hb rfl rfl rfl) ?_ rfl rfl
              exact .nil (ck 5 hS rfl (and_f hb) rfl rfl)
          intro W hS
          refine .p rfl rfl rfl ?_
          refine .nil ?_
          refine .ret ?_
          cases h
          exact fin_ret (vs := [_]) () (rt rfl rn) rfl (hS.to [] rfl)
        · have h := sel_f hb h
          refine .seq ?_
          refine .region ?_
          refine .p rfl rfl rfl ?_
          refine .p rfl rfl rfl ?_
          refine .nil ?_
          refine .cond rfl (fun hb => ?_) (fun hb => ?_)
          · have h := sel_t hb h
            refine .seq ?_
            refine .region ?_
            refine .p rfl rfl rfl ?_
            refine .p rfl rfl rfl ?_
            refine .chunk 4 103 (y1 && (a0.Rs == 0)) hS ?_ ?_
            · refine .both (y1) (fun hb => ?_) (fun hb => ?_)
              · have hg16 := hb
                refine .g hg16 (.r (fa T.f68_2 rfl rfl rfl) ?_ rfl rfl) rfl
                refine .g hg16 (.r (ld T.t3 hS rfl rfl rfl rfl rfl) ?_ rfl rfl) rfl
                refine .g hg16 (.p rfl rfl rfl ?_) rfl
                refine .r (pkt hg16 rfl rfl rfl) ?_ rfl rfl
                exact .nil (ck 4 hS rfl (and_t hg16) rfl rfl)
              · skip
                refine .x hb ?_ rfl rfl
                refine .x hb ?_ rfl rfl
                refine .x hb ?_ rfl rfl
                refine .r (pkf hb rfl rfl rfl) ?_ rfl rfl
                exact .nil (ck 4 hS rfl (and_f hb) rfl rfl)
            intro W hS
            refine .p rfl rfl rfl ?_
            refine .chunk 4 108 ((y1 && (a0.Rs == 0)) && (a0.Rt == 0)) hS ?_ ?_
            · refine .both (y1 && (a0.Rs == 0)) (fun hb => ?_) (fun hb => ?_)
              · have hg17 := hb
                refine .g hg17 (.r (fa T.f68_3 rfl rfl rfl) ?_ rfl rfl) rfl
                refine .g hg17 (.r (ld T.t3 hS rfl rfl rfl rfl rfl) ?_ rfl rfl) rfl
                refine .g hg17 (.p rfl rfl rfl ?_) rfl
                refine .r (pkt hg17 rfl rfl rfl) ?_ rfl rfl
                exact .nil (ck 4 hS rfl (and_t hg17) rfl rfl)
              · skip
                refine .x hb ?_ rfl rfl
                refine .x hb ?_ rfl rfl
                refine .x hb ?_ rfl rfl
                refine .r (pkf hb rfl rfl rfl) ?_ rfl rfl
                exact .nil (ck 4 hS rfl (and_f hb) rfl rfl)
            intro W hS
            refine .p rfl rfl rfl ?_
            refine .chunk 4 113 (((y1 && (a0.Rs == 0)) && (a0.Rt == 0)) && (decide (a0.Imm ≥ 0))) hS ?_ ?_
            · refine .both ((y1 && (a0.Rs == 0)) && (a0.Rt == 0)) (fun hb => ?_) (fun hb => ?_)
              · have hg18 := hb
                refine .g hg18 (.r (fa T.f68_4 rfl rfl rfl) ?_ rfl rfl) rfl
                refine .g hg18 (.r (ld T.t3 hS rfl rfl rfl rfl rfl) ?_ rfl rfl) rfl
                refine .g hg18 (.p rfl rfl rfl ?_) rfl
                refine .r (pkt hg18 rfl rfl rfl) ?_ rfl rfl
                exact .nil (ck 4 hS rfl (and_t hg18) rfl rfl)
              · skip
                refine .x hb ?_ rfl rfl
                refine .x hb ?_ rfl rfl
                refine .x hb ?_ rfl rfl
                refine .r (pkf hb rfl rfl rfl) ?_ rfl rfl
                exact .nil (ck 4 hS rfl (and_f hb) rfl rfl)
            intro W hS
            refine .p rfl rfl rfl ?_
            refine .chunk 4 118 ((((y1 && (a0.Rs == 0)) && (a0.Rt == 0)) && (decide (a0.Imm ≥ 0))) && (decide (a0.Imm ≤ 1048575))) hS ?_ ?_
            · refine .both (((y1 && (a0.Rs == 0)) && (a0.Rt == 0)) && (decide (a0.Imm ≥ 0))) (fun hb => ?_) (fun hb => ?_)
              · have hg19 := hb
                refine .g hg19 (.r (fa T.f68_4 rfl rfl rfl) ?_ rfl rfl) rfl
                refine .g hg19 (.r (ld T.t3 hS rfl rfl rfl rfl rfl) ?_ rfl rfl) rfl
                refine .g hg19 (.p rfl rfl rfl ?_) rfl
                refine .r (pkt hg19 rfl rfl rfl) ?_ rfl rfl
                exact .nil (ck 4 hS rfl (and_t hg19) rfl rfl)
              · skip
                refine .x hb ?_ rfl rfl
                refine .x hb ?_ rfl rfl
                refine .x hb ?_ rfl rfl
                refine .r (pkf hb rfl rfl rfl) ?_ rfl rfl
                exact .nil (ck 4 hS rfl (and_f hb) rfl rfl)
            intro W hS
            refine .p rfl rfl rfl ?_
            refine .nil ?_
            refine .ret ?_
            cases h
            exact fin_ret (vs := [_]) () (rt rfl rn) rfl (hS.to [] rfl)
          · have h := sel_f hb h
            refine .seq ?_
            refine .region ?_
            refine .p rfl rfl rfl ?_
            refine .p rfl rfl rfl ?_
            refine .nil ?_
            refine .cond rfl (fun hb => ?_) (fun hb => ?_)
            · have h := sel_t hb h
              refine .seq ?_
              refine .region ?_
              refine .p rfl rfl rfl ?_
              refine .p rfl rfl rfl ?_
              refine .chunk 4 126 (y1 && (a0.Rs == 0)) hS ?_ ?_
              · refine .both (y1) (fun hb => ?_) (fun hb => ?_)
                · have hg20 := hb
                  refine .g hg20 (.r (fa T.f68_2 rfl rfl rfl) ?_ rfl rfl) rfl
                  refine .g hg20 (.r (ld T.t3 hS rfl rfl rfl rfl rfl) ?_ rfl rfl) rfl
                  refine .g hg20 (.p rfl rfl rfl ?_) rfl
                  refine .r (pkt hg20 rfl rfl rfl) ?_ rfl rfl
                  exact .nil (ck 4 hS rfl (and_t hg20) rfl rfl)
                · skip
                  refine .x hb ?_ rfl rfl
                  refine .x hb ?_ rfl rfl
                  refine .x hb ?_ rfl rfl
                  refine .r (pkf hb rfl rfl rfl) ?_ rfl rfl
                  exact .nil (ck 4 hS rfl (and_f hb) rfl rfl)
              intro W hS
              refine .p rfl rfl rfl ?_
              refine .chunk 4 131 ((y1 && (a0.Rs == 0)) && (a0.Rt == 0)) hS ?_ ?_
              · refine .both (y1 && (a0.Rs == 0)) (fun hb => ?_) (fun hb => ?_)
                · have hg21 := hb
                  refine .g hg21 (.r (fa T.f68_3 rfl rfl rfl) ?_ rfl rfl) rfl
                  refine .g hg21 (.r (ld T.t3 hS rfl rfl rfl rfl rfl) ?_ rfl rfl) rfl
                  refine .g hg21 (.p rfl rfl rfl ?_) rfl
                  refine .r (pkt hg21 rfl rfl rfl) ?_ rfl rfl
                  exact .nil (ck 4 hS rfl (and_t hg21) rfl rfl)
                · skip
                  refine .x hb ?_ rfl rfl
                  refine .x hb ?_ rfl rfl
                  refine .x hb ?_ rfl rfl
                  refine .r (pkf hb rfl rfl rfl) ?_ rfl rfl
                  exact .nil (ck 4 hS rfl (and_f hb) rfl rfl)
              intro W hS
              refine .p rfl rfl rfl ?_
              refine .chunk 4 136 (((y1 && (a0.Rs == 0)) && (a0.Rt == 0)) && (decide (a0.Imm ≥ (-1048576)))) hS ?_ ?_
              · refine .both ((y1 && (a0.Rs == 0)) && (a0.Rt == 0)) (fun hb => ?_) (fun hb => ?_)
                · have hg22 := hb
                  refine .g hg22 (.r (fa T.f68_4 rfl rfl rfl) ?_ rfl rfl) rfl
                  refine .g hg22 (.r (ld T.t3 hS rfl rfl rfl rfl rfl) ?_ rfl rfl) rfl
                  refine .g hg22 (.p rfl rfl rfl ?_) rfl
                  refine .r (pkt hg22 rfl rfl rfl) ?_ rfl rfl
                  exact .nil (ck 4 hS rfl (and_t hg22) rfl rfl)
                · skip
                  refine .x hb ?_ rfl rfl
                  refine .x hb ?_ rfl rfl
                  refine .x hb ?_ rfl rfl
                  refine .r (pkf hb rfl rfl rfl) ?_ rfl rfl
                  exact .nil (ck 4 hS rfl (and_f hb) rfl rfl)
              intro W hS
              refine .p rfl rfl rfl ?_
              refine .chunk 4 141 ((((y1 && (a0.Rs == 0)) && (a0.Rt == 0)) && (decide (a0.Imm ≥ (-1048576)))) && (decide (a0.Imm ≤ 1048574))) hS ?_ ?_
              · refine .both (((y1 && (a0.Rs == 0)) && (a0.Rt == 0)) && (decide (a0.Imm ≥ (-1048576)))) (fun hb => ?_) (fun hb => ?_)
                · have hg23 := hb
                  refine .g hg23 (.r (fa T.f68_4 rfl rfl rfl) ?_ rfl rfl) rfl
                  refine .g hg23 (.r (ld T.t3 hS rfl rfl rfl rfl rfl) ?_ rfl rfl) rfl
                  refine .g hg23 (.p rfl rfl rfl ?_) rfl
                  refine .r (pkt hg23 rfl rfl rfl) ?_ rfl rfl
                  exact .nil (ck 4 hS rfl (and_t hg23) rfl rfl)
                · skip
                  refine .x hb ?_ rfl rfl
                  refine .x hb ?_ rfl rfl
                  refine .x hb ?_ rfl rfl
                  refine .r (pkf hb rfl rfl rfl) ?_ rfl rfl
                  exact .nil (ck 4 hS rfl (and_f hb) rfl rfl)
              intro W hS
              refine .p rfl rfl rfl ?_
              refine .chunk 5 147 (((((y1 && (a0.Rs == 0)) && (a0.Rt == 0)) && (decide (a0.Imm ≥ (-1048576)))) && (decide (a0.Imm ≤ 1048574))) && ((Int.tmod a0.Imm 2) == 0)) hS ?_ ?_
              · refine .both ((((y1 && (a0.Rs == 0)) && (a0.Rt == 0)) && (decide (a0.Imm ≥ (-1048576)))) && (decide (a0.Imm ≤ 1048574))) (fun hb => ?_) (fun hb => ?_)
                · have hg24 := hb
                  refine .g hg24 (.r (fa T.f68_4 rfl rfl rfl) ?_ rfl rfl) rfl
                  refine .g hg24 (.r (ld T.t3 hS rfl rfl rfl rfl rfl) ?_ rfl rfl) rfl
                  refine .g hg24 (.p rfl rfl rfl ?_) rfl
                  refine .g hg24 (.p rfl rfl rfl ?_) rfl
                  refine .r (pkt hg24 rfl rfl rfl) ?_ rfl rfl
                  exact .nil (ck 5 hS rfl (and_t hg24) rfl rfl)
                · skip
                  refine .x hb ?_ rfl rfl
                  refine .x hb ?_ rfl rfl
                  refine .x hb ?_ rfl rfl
                  refine .x hb ?_ rfl rfl
                  refine .r (pkf hb rfl rfl rfl) ?_ rfl rfl
                  exact .nil (ck 5 hS rfl (and_f hb) rfl rfl)
              intro W hS
              refine .p rfl rfl rfl ?_
              refine .nil ?_
              refine .ret ?_
              cases h
              exact fin_ret (vs := [_]) () (rt rfl rn) rfl (hS.to [] rfl)
            · have h := sel_f hb h
              refine .seq ?_
              refine .region ?_
              refine .p rfl rfl rfl ?_
              refine .p rfl rfl rfl ?_
              refine .nil ?_
              refine .cond rfl (fun hb => ?_) (fun hb => ?_)
              · have h := sel_t hb h
                refine .seq ?_
                refine .region ?_
                refine .r (ld T.t68 hS rfl rfl rfl rfl rfl) ?_ rfl rfl
                refine .r (bs T.s68 rfl rfl) ?_ rfl rfl
                refine .r (eqs T.e68 rfl rfl rfl rfl) ?_ rfl rfl
                refine .p rfl rfl rfl ?_
                refine .nil ?_
                refine .ret ?_
                cases h
                exact fin_ret (vs := [_]) () (rt rfl rn) rfl (hS.to [] rfl)
              · have h := sel_f hb h
                refine .skip ?_
                refine .seq ?_
                refine .region ?_
                refine .p rfl rfl rfl ?_
                refine .nil ?_
                refine .ret ?_
                cases h
                exact fin_ret (vs := [_]) () (rt rfl rn) rfl (hS.to [] rfl)
theorem impl_isUnsigned_ok {a0 : Int} {w : World} {r : Bool} (h : impl_isUnsigned a0 = some r) : Calls Tryd.prog 97 #[.int .i64 a0] w (Ret No w (fun s : Unit => .bool r) (fun s => [])) := by
  unfold impl_isUnsigned at h
  refine enter Tryd.func97 rfl rfl ?_
  have hS := Sep.start w
  refine .seq ?_
  refine .region ?_
  refine .p rfl rfl rfl ?_
  refine .nil ?_
  refine .seq ?_
  refine .region ?_
  refine .p rfl rfl rfl ?_
  refine .p rfl rfl rfl ?_
  refine .p rfl rfl rfl ?_
  refine .chunk 3 8 ((decide (a0 ≥ 0)) && (decide (a0 < 4294967296))) hS ?_ ?_
  · refine .both (decide (a0 ≥ 0)) (fun hb => ?_) (fun hb => ?_)
    · have hg1 := hb
      refine .g hg1 (.p rfl rfl rfl ?_) rfl
      refine .g hg1 (.p rfl rfl rfl ?_) rfl
      refine .r (pkt hg1 rfl rfl rfl) ?_ rfl rfl
      exact .nil (ck 3 hS rfl (and_t hg1) rfl rfl)
    · skip
      refine .x hb ?_ rfl rfl
      refine .x hb ?_ rfl rfl
      refine .r (pkf hb rfl rfl rfl) ?_ rfl rfl
      exact .nil (ck 3 hS rfl (and_f hb) rfl rfl)
  intro W hS
  refine .p rfl rfl rfl ?_
  refine .nil ?_
  refine .ret ?_
  cases h
  exact fin_ret (vs := [_]) () (rt rfl rn) rfl (hS.to [] rfl)
theorem impl_Bits_ok {a0 : Int} {a1 : Int} {a2 : Int} {w : World} {r : Int} (h : impl_Bits a0 a1 a2 = some r) : Calls Tryd.prog 88 #[.int .i64 a0, .int .i64 a1, .int .i64 a2] w (Ret No w (fun s : Unit => .int .i64 r) (fun s => [])) := by
  unfold impl_Bits at h
  refine enter Tryd.func88 rfl rfl ?_
  have hS := Sep.start w
  refine .seq ?_
  refine .region ?_
  refine .p rfl rfl rfl ?_
  refine .nil ?_
  refine .seq ?_
  refine .seq ?_
  refine .region ?_
  refine .p rfl rfl rfl ?_
  obtain ⟨y1, hy1, h⟩ := bnd h
  refine .c (.call0 hS Tryd.func97 (impl_isUnsigned_ok hy1) rfl rfl ?_ rfl (by kernel_rfl) rfl rfl)
  intro W hS
  refine .p rfl rfl rfl ?_
  refine .p rfl rfl rfl ?_
  refine .chunk 3 13 ((!y1) || (decide (a1 < 0))) hS ?_ ?_
  · refine .both (!y1) (fun hb => ?_) (fun hb => ?_)
    · skip
      refine .x hb ?_ rfl rfl
      refine .x hb ?_ rfl rfl
      refine .r (pkt hb rfl rfl rfl) ?_ rfl rfl
      exact .nil (ck 3 hS rfl (or_t hb) rfl rfl)
    · have hg1 := hb
      refine .g hg1 (.p rfl rfl rfl ?_) rfl
      refine .g hg1 (.p rfl rfl rfl ?_) rfl
      refine .r (pkf hg1 rfl rfl rfl) ?_ rfl rfl
      exact .nil (ck 3 hS rfl (or_f hg1) rfl rfl)
  intro W hS
  refine .p rfl rfl rfl ?_
  refine .chunk 3 17 (((!y1) || (decide (a1 < 0))) || (decide (a1 > 31))) hS ?_ ?_
  · refine .both ((!y1) || (decide (a1 < 0))) (fun hb => ?_) (fun hb => ?_)
    · skip
      refine .x hb ?_ rfl rfl
      refine .x hb ?_ rfl rfl
      refine .r (pkt hb rfl rfl rfl) ?_ rfl rfl
      exact .nil (ck 3 hS rfl (or_t hb) rfl rfl)
    · have hg2 := hb
      refine .g hg2 (.p rfl rfl rfl ?_) rfl
      refine .g hg2 (.p rfl rfl rfl ?_) rfl
      refine .r (pkf hg2 rfl rfl rfl) ?_ rfl rfl
      exact .nil (ck 3 hS rfl (or_f hg2) rfl rfl)
  intro W hS
  refine .p rfl rfl rfl ?_
  refine .chunk 3 21 ((((!y1) || (decide (a1 < 0))) || (decide (a1 > 31))) || (decide (a2 < 1))) hS ?_ ?_
  · refine .both (((!y1) || (decide (a1 < 0))) || (decide (a1 > 31))) (fun hb => ?_) (fun hb => ?_)
    · skip
      refine .x hb ?_ rfl rfl
      refine .x hb ?_ rfl rfl
      refine .r (pkt hb rfl rfl rfl) ?_ rfl rfl
      exact .nil (ck 3 hS rfl (or_t hb) rfl rfl)
    · have hg3 := hb
      refine .g hg3 (.p rfl rfl rfl ?_) rfl
      refine .g hg3 (.p rfl rfl rfl ?_) rfl
      refine .r (pkf hg3 rfl rfl rfl) ?_ rfl rfl
      exact .nil (ck 3 hS rfl (or_f hg3) rfl rfl)
  intro W hS
  refine .p rfl rfl rfl ?_
  refine .chunk 5 27 (((((!y1) || (decide (a1 < 0))) || (decide (a1 > 31))) || (decide (a2 < 1))) || (decide (a2 > (w64 (32 - a1))))) hS ?_ ?_
  · refine .both ((((!y1) || (decide (a1 < 0))) || (decide (a1 > 31))) || (decide (a2 < 1))) (fun hb => ?_) (fun hb => ?_)
    · skip
      refine .x hb ?_ rfl rfl
      refine .x hb ?_ rfl rfl
      refine .x hb ?_ rfl rfl
      refine .x hb ?_ rfl rfl
      refine .r (pkt hb rfl rfl rfl) ?_ rfl rfl
      exact .nil (ck 5 hS rfl (or_t hb) rfl rfl)
    · have hg4 := hb
      refine .g hg4 (.p rfl rfl rfl ?_) rfl
      refine .g hg4 (.p rfl rfl rfl ?_) rfl
      refine .g hg4 (.p rfl rfl rfl ?_) rfl
      refine .g hg4 (.p rfl rfl rfl ?_) rfl
      refine .r (pkf hg4 rfl rfl rfl) ?_ rfl rfl
      exact .nil (ck 5 hS rfl (or_f hg4) rfl rfl)
  intro W hS
  refine .nil ?_
  refine .cond rfl (fun hb => ?_) (fun hb => ?_)
  · have h := sel_t hb h
    refine .seq ?_
    refine .region ?_
    refine .p rfl rfl rfl ?_
    refine .nil ?_
    refine .ret ?_
    cases h
    exact fin_ret (vs := [_]) () (rt rfl rn) rfl (hS.to [] rfl)
  · have h := sel_f hb h
    refine .skip ?_
    refine .seq ?_
    refine .rk 8 hS [] T.mix ?_
    intro W hS
    have hT : Sep _ _ W [] := hS.to [] rfl
    refine .t1 0 rfl (fun W hT => pr rfl) hT ?_ (by kernel_rfl) rfl rfl
    refine .t1 1 rfl (fun W hT => pr rfl) hT ?_ (by kernel_rfl) rfl rfl
    obtain ⟨d1, hd1, h⟩ := bnd h
    refine .t1 2 rfl (fun W hT => shr_run hd1 rfl rfl rfl) hT ?_ (by kernel_rfl) rfl rfl
    refine .t1 3 rfl (fun W hT => pr rfl) hT ?_ (by kernel_rfl) rfl rfl
    obtain ⟨d2, hd2, h⟩ := bnd h
    refine .t1 4 rfl (fun W hT => shr_run hd2 rfl rfl rfl) hT ?_ (by kernel_rfl) rfl rfl
    refine .t1 5 rfl (fun W hT => pr rfl) hT ?_ (by kernel_rfl) rfl rfl
    refine .t1 6 rfl (fun W hT => pr rfl) hT ?_ (by kernel_rfl) rfl rfl
    refine .t1 7 rfl (fun W hT => pr rfl) hT ?_ (by kernel_rfl) rfl rfl
    refine .done ?_ (by kernel_rfl)
    refine .ret ?_
    cases h
    exact fin_ret (vs := [_]) () (rt rfl rn) rfl (hS.to [] rfl)
theorem impl_InstrEncode_1_ok {a0 : Int} {a1 : Int} {a2 : Int} {a3 : Int} {g_3 : Nat} {S : Nat → Prop} {w : World} {r : Int} (h : impl_InstrEncode_1 a0 a1 a2 a3 = some r) (hO : Owns w [.box g_3 3 [.int .i64 a3]] S) (hlt : ∀ b, S b → b < w.heap.size) : Calls Tryd.prog 87 #[.int .i64 a0, .int .i64 a1, .int .i64 a2, .pointer (some ⟨g_3, 0, none⟩)] w (Ret S w (fun s : Unit => .int .i64 r) (fun s => [.box g_3 3 [.int .i64 a3]])) := by
  unfold impl_InstrEncode_1 at h
  refine enter Tryd.func87 rfl rfl ?_
  have hS := Sep.startM hO hlt
  refine .seq ?_
  refine .region ?_
  refine .p rfl rfl rfl ?_
  refine .nil ?_
  refine .seq ?_
  refine .region ?_
  refine .r (ld T.t3 hS rfl rfl rfl rfl rfl) ?_ rfl rfl
  refine .p rfl rfl rfl ?_
  refine .p rfl rfl rfl ?_
  obtain ⟨y1, hy1, h⟩ := bnd h
  refine .c (.call0 hS Tryd.func88 (impl_Bits_ok hy1) rfl rfl ?_ rfl (by kernel_rfl) rfl rfl)
  intro W hS
  refine .p rfl rfl rfl ?_
  obtain ⟨d1, hd1, h⟩ := bnd h
  refine .r (shr_run hd1 rfl rfl rfl) ?_ rfl rfl
  refine .p rfl rfl rfl ?_
  refine .nil ?_
  refine .ret ?_
  cases h
  exact fin_ret (vs := [_]) () (rt rfl rn) rfl (hS.to [0] rfl)
theorem impl_InstrEncode_ok {a0 : Instr} {w : World} {r : Int × Bool} (h : impl_InstrEncode a0 = some r) (hG : Gl w) : Calls Tryd.prog 53 #[.agg #[.int .i64 a0.Op, .int .i64 a0.Rd, .int .i64 a0.Rs, .int .i64 a0.Rt, .int .i64 a0.Imm]] w (Ret No w (fun s : Unit => .tuple #[.int .i64 r.1, .bool r.2]) (fun s => [])) := by
  unfold impl_InstrEncode at h
  refine enter Tryd.func53 rfl rfl ?_
  have hS := Sep.start w
  refine .seq ?_
  refine .region ?_
  refine .c (.box hS rfl rfl ?_ rfl rfl)
  intro g1 W hS
  refine .p rfl rfl rfl ?_
  refine .p rfl rfl rfl ?_
  refine .nil ?_
  refine .seq ?_
  refine .seq ?_
  refine .region ?_
  refine .r (ld T.t68 hS rfl rfl rfl rfl rfl) ?_ rfl rfl
  obtain ⟨y1, hy1, h⟩ := bnd h
  refine .c (.call0 hS Tryd.func86 (impl_InstrValid_ok hy1) rfl rfl ?_ rfl (by kernel_rfl) rfl rfl)
  intro W hS
  refine .p rfl rfl rfl ?_
  refine .nil ?_
  refine .cond rfl (fun hb => ?_) (fun hb => ?_)
  · have h := sel_t hb h
    refine .seq ?_
    refine .region ?_
    refine .p rfl rfl rfl ?_
    refine .p rfl rfl rfl ?_
    refine .nil ?_
    refine .ret ?_
    cases h
    exact fin_ret (vs := [_, _]) () (rt rfl (rt rfl rn)) rfl (hS.to [] rfl)
  · have h := sel_f hb h
    refine .skip ?_
    refine .seq ?_
    refine .region ?_
    refine .r (fa T.f68_0 rfl rfl rfl) ?_ rfl rfl
    refine .r (ld T.t3 hS rfl rfl rfl rfl rfl) ?_ rfl rfl
    refine .p rfl rfl rfl ?_
    obtain ⟨x1, hx1, h⟩ := bnd h
    refine .r (ixt hx1 rfl T.u94 T.t93 rfl rfl rfl) ?_ rfl rfl
    refine .r (ldt (hG.at hS (fun _ _ h => h)).2 hx1 T.t93 rfl rfl rfl rfl rfl) ?_ rfl rfl
    refine .c (.alloc T.t93 hS ?_ rfl rfl rfl)
    intro g2 W hS
    refine .c (.st T.t93 hS rfl rfl rfl ?_ rfl rfl rfl rfl rfl)
    intro W hS
    refine .nil ?_
    refine .seq ?_
    refine .region ?_
    refine .r (fa T.f68_4 rfl rfl rfl) ?_ rfl rfl
    refine .r (ld T.t3 hS.p1 rfl rfl rfl rfl rfl) ?_ rfl rfl
    obtain ⟨y2, hy2, h⟩ := bnd h
    refine .c (.call0 hS Tryd.func73 (impl_Unsigned_ok hy2) rfl rfl ?_ rfl (by kernel_rfl) rfl rfl)
    intro W hS
    refine .c (.alloc T.t3 hS ?_ rfl rfl rfl)
    intro g3 W hS
    refine .c (.st T.t3 hS rfl rfl rfl ?_ rfl rfl rfl rfl rfl)
    intro W hS
    refine .nil ?_
    refine .seq ?_
    refine .region ?_
    refine .r (mf rfl rfl) ?_ rfl rfl
    refine .p rfl rfl rfl ?_
    refine .nil ?_
    refine .seq ?_
    refine .region ?_
    refine .r (fa T.f68_3 rfl rfl rfl) ?_ rfl rfl
    refine .r (ld T.t3 hS.p2 rfl rfl rfl rfl rfl) ?_ rfl rfl
    refine .p rfl rfl rfl ?_
    refine .r (fa T.f68_2 rfl rfl rfl) ?_ rfl rfl
    refine .r (ld T.t3 hS.p2 rfl rfl rfl rfl rfl) ?_ rfl rfl
    refine .p rfl rfl rfl ?_
    refine .p rfl rfl rfl ?_
    refine .r (fa T.f93_2 rfl rfl rfl) ?_ rfl rfl
    refine .r (ld T.t3 hS.p1 rfl rfl rfl rfl rfl) ?_ rfl rfl
    refine .p rfl rfl rfl ?_
    refine .p rfl rfl rfl ?_
    refine .r (fa T.f93_1 rfl rfl rfl) ?_ rfl rfl
    refine .r (ld T.t3 hS.p1 rfl rfl rfl rfl rfl) ?_ rfl rfl
    refine .p rfl rfl rfl ?_
    refine .p rfl rfl rfl ?_
    refine .nil ?_
    refine .seq ?_
    refine .seq ?_
    refine .region ?_
    refine .r (fa T.f68_0 rfl rfl rfl) ?_ rfl rfl
    refine .r (ld T.t3 hS.p2 rfl rfl rfl rfl rfl) ?_ rfl rfl
    obtain ⟨y3, hy3, h⟩ := bnd h
    refine .c (.call0 hS Tryd.func89 (impl_formatOf_ok hy3) rfl rfl ?_ rfl (by kernel_rfl) rfl rfl)
    intro W hS
    refine .nil ?_
    refine .block ?_
    refine .seq ?_
    refine .region ?_
    refine .p rfl rfl rfl ?_
    refine .p rfl rfl rfl ?_
    refine .nil ?_
    refine .cond rfl (fun hb => ?_) (fun hb => ?_)
    · have h := sel_t hb h
      refine .seq ?_
      refine .region ?_
      refine .r (fa T.f93_3 rfl rfl rfl) ?_ rfl rfl
      refine .r (ld T.t3 hS.p1 rfl rfl rfl rfl rfl) ?_ rfl rfl
      refine .p rfl rfl rfl ?_
      refine .p rfl rfl rfl ?_
      refine .p rfl rfl rfl ?_
      refine .r (fa T.f68_1 rfl rfl rfl) ?_ rfl rfl
      refine .r (ld T.t3 hS.p2 rfl rfl rfl rfl rfl) ?_ rfl rfl
      refine .p rfl rfl rfl ?_
      refine .p rfl rfl rfl ?_
      refine .p rfl rfl rfl ?_
      refine .p rfl rfl rfl ?_
      refine .nil ?_
      refine .ret ?_
      cases h
      exact fin_ret (vs := [_, _]) () (rt rfl (rt rfl rn)) rfl (hS.to [] rfl)
    · have h := sel_f hb h
      refine .seq ?_
      refine .region ?_
      refine .p rfl rfl rfl ?_
      refine .p rfl rfl rfl ?_
      refine .nil ?_
      refine .cond rfl (fun hb => ?_) (fun hb => ?_)
      · have h := sel_t hb h
        refine .seq ?_
        refine .rk 10 hS [0, 0, 0] T.mix ?_
        intro W hS
        have hT : Sep _ _ W [.box g3 3 [.int .i64 y2], .box g2 93 [.string x1.name, .int .i64 x1.opcode, .int .i64 x1.funct3, .int .i64 x1.funct7], .box g1 68 [.int .i64 a0.Op, .int .i64 a0.Rd, .int .i64 a0.Rs, .int .i64 a0.Rt, .int .i64 a0.Imm]] := hS.to [0, 0, 0] rfl
        refine .t1 0 rfl (fun W hT => pr rfl) hT ?_ (by kernel_rfl) rfl rfl
        refine .t1 2 rfl (fun W hT => pr rfl) hT ?_ (by kernel_rfl) rfl rfl
        refine .t1 4 rfl (fun W hT => fa T.f68_1 rfl rfl rfl) hT ?_ (by kernel_rfl) rfl rfl
        refine .t1 5 rfl (fun W hT => ld T.t3 hT.p2 rfl rfl rfl rfl rfl) hT ?_ (by kernel_rfl) rfl rfl
        refine .t1 6 rfl (fun W hT => pr rfl) hT ?_ (by kernel_rfl) rfl rfl
        obtain ⟨y4, hy4, h⟩ := bnd h
        refine .by1 1 rfl (.callC (L0 := [.box g3 3 [.int .i64 y2]]) (vs := [.int .i64 0, .int .i64 12, .int .i64 20]) (cap := [.pointer (some ⟨g3, 0, none⟩)]) hS Tryd.func87 (fun S h1 h2 h3 => (impl_InstrEncode_1_ok hy4 h2 (fun b hb => (h1 b hb).2))) rfl rfl rfl ?_ rfl (by kernel_rfl) rfl rfl) (by kernel_rfl)
        rintro ⟨⟩ W hS
        have hS : Sep _ _ W [.box g3 3 [.int .i64 y2], .box g2 93 [.string x1.name, .int .i64 x1.opcode, .int .i64 x1.funct3, .int .i64 x1.funct7], .box g1 68 [.int .i64 a0.Op, .int .i64 a0.Rd, .int .i64 a0.Rs, .int .i64 a0.Rt, .int .i64 a0.Imm]] := hS
        have hT : Sep _ _ W [.box g3 3 [.int .i64 y2], .box g2 93 [.string x1.name, .int .i64 x1.opcode, .int .i64 x1.funct3, .int .i64 x1.funct7], .box g1 68 [.int .i64 a0.Op, .int .i64 a0.Rd, .int .i64 a0.Rs, .int .i64 a0.Rt, .int .i64 a0.Imm]] := hS.to [0, 0, 0] rfl
        refine ⟨fun _ => hT, ?_⟩
        refine .t1 3 rfl (fun W hT => pr rfl) hT ?_ (by kernel_rfl) rfl rfl
        refine .t1 7 rfl (fun W hT => pr rfl) hT ?_ (by kernel_rfl) rfl rfl
        refine .t1 8 rfl (fun W hT => pr rfl) hT ?_ (by kernel_rfl) rfl rfl
        refine .t1 9 rfl (fun W hT => pr rfl) hT ?_ (by kernel_rfl) rfl rfl
        refine .done ?_ (by kernel_rfl)
        refine .ret ?_
        cases h
        exact fin_ret (vs := [_, _]) () (rt rfl (rt rfl rn)) rfl (hS.to [] rfl)
      · have h := sel_f hb h
        refine .seq ?_
        refine .region ?_
        refine .p rfl rfl rfl ?_
        refine .p rfl rfl rfl ?_
        refine .nil ?_
        refine .cond rfl (fun hb => ?_) (fun hb => ?_)
        · have h := sel_t hb h
          refine .seq ?_
          refine .region ?_
          refine .p rfl rfl rfl ?_
          obtain ⟨y5, hy5, h⟩ := bnd h
          refine .c (.callC (L0 := [.box g3 3 [.int .i64 y2]]) (vs := [.int .i64 5, .int .i64 7, .int .i64 25]) (cap := [.pointer (some ⟨g3, 0, none⟩)]) hS Tryd.func87 (fun S h1 h2 h3 => (impl_InstrEncode_1_ok hy5 h2 (fun b hb => (h1 b hb).2))) rfl rfl rfl ?_ rfl (by kernel_rfl) rfl rfl)
          rintro ⟨⟩ W hS
          have hS : Sep _ _ W [.box g3 3 [.int .i64 y2], .box g2 93 [.string x1.name, .int .i64 x1.opcode, .int .i64 x1.funct3, .int .i64 x1.funct7], .box g1 68 [.int .i64 a0.Op, .int .i64 a0.Rd, .int .i64 a0.Rs, .int .i64 a0.Rt, .int .i64 a0.Imm]] := hS
          refine .p rfl rfl rfl ?_
          refine .p rfl rfl rfl ?_
          refine .p rfl rfl rfl ?_
          obtain ⟨y6, hy6, h⟩ := bnd h
          refine .c (.callC (L0 := [.box g3 3 [.int .i64 y2]]) (vs := [.int .i64 0, .int .i64 5, .int .i64 7]) (cap := [.pointer (some ⟨g3, 0, none⟩)]) hS Tryd.func87 (fun S h1 h2 h3 => (impl_InstrEncode_1_ok hy6 h2 (fun b hb => (h1 b hb).2))) rfl rfl rfl ?_ rfl (by kernel_rfl) rfl rfl)
          rintro ⟨⟩ W hS
          have hS : Sep _ _ W [.box g3 3 [.int .i64 y2], .box g2 93 [.string x1.name, .int .i64 x1.opcode, .int .i64 x1.funct3, .int .i64 x1.funct7], .box g1 68 [.int .i64 a0.Op, .int .i64 a0.Rd, .int .i64 a0.Rs, .int .i64 a0.Rt, .int .i64 a0.Imm]] := hS
          refine .p rfl rfl rfl ?_
          refine .p rfl rfl rfl ?_
          refine .p rfl rfl rfl ?_
          refine .nil ?_
          refine .ret ?_
          cases h
          exact fin_ret (vs := [_, _]) () (rt rfl (rt rfl rn)) rfl (hS.to [] rfl)
        · have h := sel_f hb h
          refine .seq ?_
          refine .region ?_
          refine .p rfl rfl rfl ?_
          refine .p rfl rfl rfl ?_
          refine .nil ?_
          refine .cond rfl (fun hb => ?_) (fun hb => ?_)
          · have h := sel_t hb h
            refine .seq ?_
            refine .region ?_
            refine .p rfl rfl rfl ?_
            obtain ⟨y7, hy7, h⟩ := bnd h
            refine .c (.callC (L0 := [.box g3 3 [.int .i64 y2]]) (vs := [.int .i64 12, .int .i64 1, .int .i64 31]) (cap := [.pointer (some ⟨g3, 0, none⟩)]) hS Tryd.func87 (fun S h1 h2 h3 => (impl_InstrEncode_1_ok hy7 h2 (fun b hb => (h1 b hb).2))) rfl rfl rfl ?_ rfl (by kernel_rfl) rfl rfl)
            rintro ⟨⟩ W hS
            have hS : Sep _ _ W [.box g3 3 [.int .i64 y2], .box g2 93 [.string x1.name, .int .i64 x1.opcode, .int .i64 x1.funct3, .int .i64 x1.funct7], .box g1 68 [.int .i64 a0.Op, .int .i64 a0.Rd, .int .i64 a0.Rs, .int .i64 a0.Rt, .int .i64 a0.Imm]] := hS
            refine .p rfl rfl rfl ?_
            obtain ⟨y8, hy8, h⟩ := bnd h
            refine .c (.callC (L0 := [.box g3 3 [.int .i64 y2]]) (vs := [.int .i64 5, .int .i64 6, .int .i64 25]) (cap := [.pointer (some ⟨g3, 0, none⟩)]) hS Tryd.func87 (fun S h1 h2 h3 => (impl_InstrEncode_1_ok hy8 h2 (fun b hb => (h1 b hb).2))) rfl rfl rfl ?_ rfl (by kernel_rfl) rfl rfl)
            rintro ⟨⟩ W hS
            have hS : Sep _ _ W [.box g3 3 [.int .i64 y2], .box g2 93 [.string x1.name, .int .i64 x1.opcode, .int .i64 x1.funct3, .int .i64 x1.funct7], .box g1 68 [.int .i64 a0.Op, .int .i64 a0.Rd, .int .i64 a0.Rs, .int .i64 a0.Rt, .int .i64 a0.Imm]] := hS
            refine .p rfl rfl rfl ?_
            refine .p rfl rfl rfl ?_
            refine .p rfl rfl rfl ?_
            refine .p rfl rfl rfl ?_
            obtain ⟨y9, hy9, h⟩ := bnd h
            refine .c (.callC (L0 := [.box g3 3 [.int .i64 y2]]) (vs := [.int .i64 1, .int .i64 4, .int .i64 8]) (cap := [.pointer (some ⟨g3, 0, none⟩)]) hS Tryd.func87 (fun S h1 h2 h3 => (impl_InstrEncode_1_ok hy9 h2 (fun b hb => (h1 b hb).2))) rfl rfl rfl ?_ rfl (by kernel_rfl) rfl rfl)
            rintro ⟨⟩ W hS
            have hS : Sep _ _ W [.box g3 3 [.int .i64 y2], .box g2 93 [.string x1.name, .int .i64 x1.opcode, .int .i64 x1.funct3, .int .i64 x1.funct7], .box g1 68 [.int .i64 a0.Op, .int .i64 a0.Rd, .int .i64 a0.Rs, .int .i64 a0.Rt, .int .i64 a0.Imm]] := hS
            refine .p rfl rfl rfl ?_
            refine .p rfl rfl rfl ?_
            obtain ⟨y10, hy10, h⟩ := bnd h
            refine .c (.callC (L0 := [.box g3 3 [.int .i64 y2]]) (vs := [.int .i64 11, .int .i64 1, .int .i64 7]) (cap := [.pointer (some ⟨g3, 0, none⟩)]) hS Tryd.func87 (fun S h1 h2 h3 => (impl_InstrEncode_1_ok hy10 h2 (fun b hb => (h1 b hb).2))) rfl rfl rfl ?_ rfl (by kernel_rfl) rfl rfl)
            rintro ⟨⟩ W hS
            have hS : Sep _ _ W [.box g3 3 [.int .i64 y2], .box g2 93 [.string x1.name, .int .i64 x1.opcode, .int .i64 x1.funct3, .int .i64 x1.funct7], .box g1 68 [.int .i64 a0.Op, .int .i64 a0.Rd, .int .i64 a0.Rs, .int .i64 a0.Rt, .int .i64 a0.Imm]] := hS
            refine .p rfl rfl rfl ?_
            refine .p rfl rfl rfl ?_
            refine .p rfl rfl rfl ?_
            refine .nil ?_
            refine .ret ?_
            cases h
            exact fin_ret (vs := [_, _]) () (rt rfl (rt rfl rn)) rfl (hS.to [] rfl)
          · have h := sel_f hb h
            refine .seq ?_
            refine .region ?_
            refine .p rfl rfl rfl ?_
            refine .p rfl rfl rfl ?_
            refine .nil ?_
            refine .cond rfl (fun hb => ?_) (fun hb => ?_)
            · have h := sel_t hb h
              refine .seq ?_
              refine .rk 11 hS [0, 0, 0] T.mix ?_
              intro W hS
              have hT : Sep _ _ W [.box g3 3 [.int .i64 y2], .box g2 93 [.string x1.name, .int .i64 x1.opcode, .int .i64 x1.funct3, .int .i64 x1.funct7], .box g1 68 [.int .i64 a0.Op, .int .i64 a0.Rd, .int .i64 a0.Rs, .int .i64 a0.Rt, .int .i64 a0.Imm]] := hS.to [0, 0, 0] rfl
              refine .t1 0 rfl (fun W hT => pr rfl) hT ?_ (by kernel_rfl) rfl rfl
              refine .t1 2 rfl (fun W hT => fa T.f68_1 rfl rfl rfl) hT ?_ (by kernel_rfl) rfl rfl
              refine .t1 3 rfl (fun W hT => ld T.t3 hT.p2 rfl rfl rfl rfl rfl) hT ?_ (by kernel_rfl) rfl rfl
              refine .t1 4 rfl (fun W hT => pr rfl) hT ?_ (by kernel_rfl) rfl rfl
              refine .t1 6 rfl (fun W hT => fa T.f93_1 rfl rfl rfl) hT ?_ (by kernel_rfl) rfl rfl
              refine .t1 7 rfl (fun W hT => ld T.t3 hT.p1 rfl rfl rfl rfl rfl) hT ?_ (by kernel_rfl) rfl rfl
              obtain ⟨y11, hy11, h⟩ := bnd h
              refine .by1 1 rfl (.callC (L0 := [.box g3 3 [.int .i64 y2]]) (vs := [.int .i64 0, .int .i64 20, .int .i64 12]) (cap := [.pointer (some ⟨g3, 0, none⟩)]) hS Tryd.func87 (fun S h1 h2 h3 => (impl_InstrEncode_1_ok hy11 h2 (fun b hb => (h1 b hb).2))) rfl rfl rfl ?_ rfl (by kernel_rfl) rfl rfl) (by kernel_rfl)
              rintro ⟨⟩ W hS
              have hS : Sep _ _ W [.box g3 3 [.int .i64 y2], .box g2 93 [.string x1.name, .int .i64 x1.opcode, .int .i64 x1.funct3, .int .i64 x1.funct7], .box g1 68 [.int .i64 a0.Op, .int .i64 a0.Rd, .int .i64 a0.Rs, .int .i64 a0.Rt, .int .i64 a0.Imm]] := hS
              have hT : Sep _ _ W [.box g3 3 [.int .i64 y2], .box g2 93 [.string x1.name, .int .i64 x1.opcode, .int .i64 x1.funct3, .int .i64 x1.funct7], .box g1 68 [.int .i64 a0.Op, .int .i64 a0.Rd, .int .i64 a0.Rs, .int .i64 a0.Rt, .int .i64 a0.Imm]] := hS.to [0, 0, 0] rfl
              refine ⟨fun _ => hT, ?_⟩
              refine .t1 5 rfl (fun W hT => pr rfl) hT ?_ (by kernel_rfl) rfl rfl
              refine .t1 8 rfl (fun W hT => pr rfl) hT ?_ (by kernel_rfl) rfl rfl
              refine .t1 9 rfl (fun W hT => pr rfl) hT ?_ (by kernel_rfl) rfl rfl
              refine .t1 10 rfl (fun W hT => pr rfl) hT ?_ (by kernel_rfl) rfl rfl
              refine .done ?_ (by kernel_rfl)
              refine .ret ?_
              cases h
              exact fin_ret (vs := [_, _]) () (rt rfl (rt rfl rn)) rfl (hS.to [] rfl)
            · have h := sel_f hb h
              refine .seq ?_
              refine .region ?_
              refine .p rfl rfl rfl ?_
              refine .p rfl rfl rfl ?_
              refine .nil ?_
              refine .cond rfl (fun hb => ?_) (fun hb => ?_)
              · have h := sel_t hb h
                refine .seq ?_
                refine .rk 20 hS [0, 0, 0] T.mix ?_
                intro W hS
                have hT : Sep _ _ W [.box g3 3 [.int .i64 y2], .box g2 93 [.string x1.name, .int .i64 x1.opcode, .int .i64 x1.funct3, .int .i64 x1.funct7], .box g1 68 [.int .i64 a0.Op, .int .i64 a0.Rd, .int .i64 a0.Rs, .int .i64 a0.Rt, .int .i64 a0.Imm]] := hS.to [0, 0, 0] rfl
                refine .t1 0 rfl (fun W hT => pr rfl) hT ?_ (by kernel_rfl) rfl rfl
                refine .t1 2 rfl (fun W hT => pr rfl) hT ?_ (by kernel_rfl) rfl rfl
                refine .t1 5 rfl (fun W hT => pr rfl) hT ?_ (by kernel_rfl) rfl rfl
                refine .t1 8 rfl (fun W hT => pr rfl) hT ?_ (by kernel_rfl) rfl rfl
                refine .t1 11 rfl (fun W hT => fa T.f68_1 rfl rfl rfl) hT ?_ (by kernel_rfl) rfl rfl
                refine .t1 12 rfl (fun W hT => ld T.t3 hT.p2 rfl rfl rfl rfl rfl) hT ?_ (by kernel_rfl) rfl rfl
                refine .t1 13 rfl (fun W hT => pr rfl) hT ?_ (by kernel_rfl) rfl rfl
                refine .t1 15 rfl (fun W hT => fa T.f93_1 rfl rfl rfl) hT ?_ (by kernel_rfl) rfl rfl
                refine .t1 16 rfl (fun W hT => ld T.t3 hT.p1 rfl rfl rfl rfl rfl) hT ?_ (by kernel_rfl) rfl rfl
                obtain ⟨y12, hy12, h⟩ := bnd h
                refine .by1 1 rfl (.callC (L0 := [.box g3 3 [.int .i64 y2]]) (vs := [.int .i64 20, .int .i64 1, .int .i64 31]) (cap := [.pointer (some ⟨g3, 0, none⟩)]) hS Tryd.func87 (fun S h1 h2 h3 => (impl_InstrEncode_1_ok hy12 h2 (fun b hb => (h1 b hb).2))) rfl rfl rfl ?_ rfl (by kernel_rfl) rfl rfl) (by kernel_rfl)
                rintro ⟨⟩ W hS
                have hS : Sep _ _ W [.box g3 3 [.int .i64 y2], .box g2 93 [.string x1.name, .int .i64 x1.opcode, .int .i64 x1.funct3, .int .i64 x1.funct7], .box g1 68 [.int .i64 a0.Op, .int .i64 a0.Rd, .int .i64 a0.Rs, .int .i64 a0.Rt, .int .i64 a0.Imm]] := hS
                have hT : Sep _ _ W [.box g3 3 [.int .i64 y2], .box g2 93 [.string x1.name, .int .i64 x1.opcode, .int .i64 x1.funct3, .int .i64 x1.funct7], .box g1 68 [.int .i64 a0.Op, .int .i64 a0.Rd, .int .i64 a0.Rs, .int .i64 a0.Rt, .int .i64 a0.Imm]] := hS.to [0, 0, 0] rfl
                refine ⟨fun _ => hT, ?_⟩
                obtain ⟨y13, hy13, h⟩ := bnd h
                refine .by1 3 rfl (.callC (L0 := [.box g3 3 [.int .i64 y2]]) (vs := [.int .i64 1, .int .i64 10, .int .i64 21]) (cap := [.pointer (some ⟨g3, 0, none⟩)]) hS Tryd.func87 (fun S h1 h2 h3 => (impl_InstrEncode_1_ok hy13 h2 (fun b hb => (h1 b hb).2))) rfl rfl rfl ?_ rfl (by kernel_rfl) rfl rfl) (by kernel_rfl)
                rintro ⟨⟩ W hS
                have hS : Sep _ _ W [.box g3 3 [.int .i64 y2], .box g2 93 [.string x1.name, .int .i64 x1.opcode, .int .i64 x1.funct3, .int .i64 x1.funct7], .box g1 68 [.int .i64 a0.Op, .int .i64 a0.Rd, .int .i64 a0.Rs, .int .i64 a0.Rt, .int .i64 a0.Imm]] := hS
                have hT : Sep _ _ W [.box g3 3 [.int .i64 y2], .box g2 93 [.string x1.name, .int .i64 x1.opcode, .int .i64 x1.funct3, .int .i64 x1.funct7], .box g1 68 [.int .i64 a0.Op, .int .i64 a0.Rd, .int .i64 a0.Rs, .int .i64 a0.Rt, .int .i64 a0.Imm]] := hS.to [0, 0, 0] rfl
                refine ⟨fun _ => hT, ?_⟩
                refine .t1 4 rfl (fun W hT => pr rfl) hT ?_ (by kernel_rfl) rfl rfl
                obtain ⟨y14, hy14, h⟩ := bnd h
                refine .by1 6 rfl (.callC (L0 := [.box g3 3 [.int .i64 y2]]) (vs := [.int .i64 11, .int .i64 1, .int .i64 20]) (cap := [.pointer (some ⟨g3, 0, none⟩)]) hS Tryd.func87 (fun S h1 h2 h3 => (impl_InstrEncode_1_ok hy14 h2 (fun b hb => (h1 b hb).2))) rfl rfl rfl ?_ rfl (by kernel_rfl) rfl rfl) (by kernel_rfl)
                rintro ⟨⟩ W hS
                have hS : Sep _ _ W [.box g3 3 [.int .i64 y2], .box g2 93 [.string x1.name, .int .i64 x1.opcode, .int .i64 x1.funct3, .int .i64 x1.funct7], .box g1 68 [.int .i64 a0.Op, .int .i64 a0.Rd, .int .i64 a0.Rs, .int .i64 a0.Rt, .int .i64 a0.Imm]] := hS
                have hT : Sep _ _ W [.box g3 3 [.int .i64 y2], .box g2 93 [.string x1.name, .int .i64 x1.opcode, .int .i64 x1.funct3, .int .i64 x1.funct7], .box g1 68 [.int .i64 a0.Op, .int .i64 a0.Rd, .int .i64 a0.Rs, .int .i64 a0.Rt, .int .i64 a0.Imm]] := hS.to [0, 0, 0] rfl
                refine ⟨fun _ => hT, ?_⟩
                refine .t1 7 rfl (fun W hT => pr rfl) hT ?_ (by kernel_rfl) rfl rfl
                obtain ⟨y15, hy15, h⟩ := bnd h
                refine .by1 9 rfl (.callC (L0 := [.box g3 3 [.int .i64 y2]]) (vs := [.int .i64 12, .int .i64 8, .int .i64 12]) (cap := [.pointer (some ⟨g3, 0, none⟩)]) hS Tryd.func87 (fun S h1 h2 h3 => (impl_InstrEncode_1_ok hy15 h2 (fun b hb => (h1 b hb).2))) rfl rfl rfl ?_ rfl (by kernel_rfl) rfl rfl) (by kernel_rfl)
                rintro ⟨⟩ W hS
                have hS : Sep _ _ W [.box g3 3 [.int .i64 y2], .box g2 93 [.string x1.name, .int .i64 x1.opcode, .int .i64 x1.funct3, .int .i64 x1.funct7], .box g1 68 [.int .i64 a0.Op, .int .i64 a0.Rd, .int .i64 a0.Rs, .int .i64 a0.Rt, .int .i64 a0.Imm]] := hS
                have hT : Sep _ _ W [.box g3 3 [.int .i64 y2], .box g2 93 [.string x1.name, .int .i64 x1.opcode, .int .i64 x1.funct3, .int .i64 x1.funct7], .box g1 68 [.int .i64 a0.Op, .int .i64 a0.Rd, .int .i64 a0.Rs, .int .i64 a0.Rt, .int .i64 a0.Imm]] := hS.to [0, 0, 0] rfl
                refine ⟨fun _ => hT, ?_⟩
                refine .t1 10 rfl (fun W hT => pr rfl) hT ?_ (by kernel_rfl) rfl rfl
                refine .t1 14 rfl (fun W hT => pr rfl) hT ?_ (by kernel_rfl) rfl rfl
                refine .t1 17 rfl (fun W hT => pr rfl) hT ?_ (by kernel_rfl) rfl rfl
                refine .t1 18 rfl (fun W hT => pr rfl) hT ?_ (by kernel_rfl) rfl rfl
                refine .t1 19 rfl (fun W hT => pr rfl) hT ?_ (by kernel_rfl) rfl rfl
                refine .done ?_ (by kernel_rfl)
                refine .ret ?_
                cases h
                exact fin_ret (vs := [_, _]) () (rt rfl (rt rfl rn)) rfl (hS.to [] rfl)
              · have h := sel_f hb h
                refine .skip ?_
                refine .seq ?_
                refine .region ?_
                refine .r (fa T.f93_1 rfl rfl rfl) ?_ rfl rfl
                refine .r (ld T.t3 hS.p1 rfl rfl rfl rfl rfl) ?_ rfl rfl
                refine .p rfl rfl rfl ?_
                refine .p rfl rfl rfl ?_
                refine .nil ?_
                refine .ret ?_
                cases h
                exact fin_ret (vs := [_, _]) () (rt rfl (rt rfl rn)) rfl (hS.to [] rfl)
end Go.Proofs.YtdohklfimhkicaaDoor.N
