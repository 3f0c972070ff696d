/- Printed by a program of mine: that the program's functions compute it. -/
import Derived.Test.YtdohklfimhkicaaDoorT9
set_option linter.unusedVariables false
set_option maxRecDepth 100000
set_option maxHeartbeats 4000000
namespace Go.Proofs.YtdohklfimhkicaaDoor.N
open Go.Proofs.YtdohklfimhkicaaDoor.X
theorem laws_szInstrS_ok {a0 : List Instr} {a1 : Int} {v_0 : Hd} {w : World} {r : Int} (h : laws_szInstrS a0 a1 = some r) (q_0 : RV w (Old No w) (sv v_0) 71 5 dInstr a0) : Calls Tryd.prog 22 #[(sv v_0), .int .i64 a1] w (Ret No w (fun s : Unit => .int .i64 r) (fun s => [])) := by
  unfold laws_szInstrS at h
  refine enter Tryd.func22 rfl rfl ?_
  have hS := Sep.start w
  refine .seq ?_
  refine .region ?_
  refine .p rfl rfl rfl ?_
  refine .nil ?_
  refine .seq ?_
  refine .region ?_
  refine .p rfl rfl rfl ?_
  refine .p rfl rfl rfl ?_
  refine .r (lenv (hS.keep q_0) T.u46 rfl rfl) ?_ rfl rfl
  refine .p rfl rfl rfl ?_
  refine .p rfl rfl rfl ?_
  refine .nil ?_
  refine .seq ?_
  refine .seq ?_
  refine .region ?_
  refine .p rfl rfl rfl ?_
  refine .p rfl rfl rfl ?_
  refine .nil ?_
  refine .cond rfl (fun hb => ?_) (fun hb => ?_)
  · have h := sel_t hb h
    refine .seq ?_
    refine .region ?_
    refine .p rfl rfl rfl ?_
    refine .nil ?_
    refine .ret ?_
    cases h
    exact fin_ret (vs := [_]) () (rt rfl rn) rfl (hS.to [] rfl)
  · have h := sel_f hb h
    refine .skip ?_
    refine .seq ?_
    refine .region ?_
    refine .p rfl rfl rfl ?_
    refine .p rfl rfl rfl ?_
    refine .nil ?_
    refine .ret ?_
    cases h
    exact fin_ret (vs := [_]) () (rt rfl rn) rfl (hS.to [] rfl)
def laws_szInstrSS_F (w : World) (r : Int) : Env → World → Prop := Fin Tryd.prog Tryd.f5 No w (fun s : Unit => .int .i64 r) (fun s => []) .ret
theorem laws_szInstrSS_ok {a0 : List (List Instr)} {a1 : Int} {v_0 : Hd} {w : World} {r : Int} (h : laws_szInstrSS a0 a1 = some r) (q_0 : RV w (Old No w) (sv v_0) 46 1 (fun (l : List Instr) => D.row 71 5 (l.map dInstr)) a0) : Calls Tryd.prog 5 #[(sv v_0), .int .i64 a1] w (Ret No w (fun s : Unit => .int .i64 r) (fun s => [])) := by
  unfold laws_szInstrSS at h
  refine enter Tryd.func5 rfl rfl ?_
  have hS := Sep.start w
  refine .seq ?_
  refine .region ?_
  refine .p rfl rfl rfl ?_
  refine .nil ?_
  refine .seq ?_
  refine .region ?_
  refine .p rfl rfl rfl ?_
  refine .p rfl rfl rfl ?_
  refine .r (lenv (hS.keep q_0) T.u23 rfl rfl) ?_ rfl rfl
  refine .p rfl rfl rfl ?_
  refine .p rfl rfl rfl ?_
  refine .nil ?_
  refine .seq ?_
  refine .seq ?_
  refine .region ?_
  refine .p rfl rfl rfl ?_
  refine .p rfl rfl rfl ?_
  refine .nil ?_
  refine .cond rfl (fun hb => ?_) (fun hb => ?_)
  · have h := sel_t hb h
    refine .seq ?_
    refine .region ?_
    refine .p rfl rfl rfl ?_
    refine .nil ?_
    refine .ret ?_
    cases h
    exact fin_ret (vs := [_]) () (rt rfl rn) rfl (hS.to [] rfl)
  · have h := sel_f hb h
    refine .skip ?_
    refine .seq ?_
    refine .seq ?_
    refine .region ?_
    refine .p rfl rfl rfl ?_
    refine .nil ?_
    refine .block ?_
    obtain ⟨y1, hy1, h⟩ := bnd h
    refine .via (.iter (fun s1 E' W' => SubL E' [(0, (sv v_0)), (1, .int .i64 s1.1), (5, .int .i64 s1.2)] ∧ Sep No w W' []) (fun y2 x E' W' => (match y2 with | .inl o1 => x = .ret ∧ laws_szInstrSS_F w o1 E' W' | .inr o2 => x = .exit 0 ∧ SubL E' [(1, .int .i64 o2)] ∧ Sep No w W' [])) hy1 ⟨sb rfl, hS.to [] rfl⟩ ?_) ?_
    · intro s1 y3 E W h hI
      obtain ⟨hE, hS⟩ := hI
      refine CW.sub hE ?_
      unfold laws_szInstrSS_b1 at h
      refine .seq ?_
      refine .seq ?_
      refine .region ?_
      refine .p rfl rfl rfl ?_
      refine .p rfl rfl rfl ?_
      refine .r (lenv (hS.keep q_0) T.u23 rfl rfl) ?_ rfl rfl
      refine .p rfl rfl rfl ?_
      refine .nil ?_
      refine .cond rfl (fun hb => ?_) (fun hb => ?_)
      · have h := sel_t hb h
        refine .skip ?_
        refine .seq ?_
        refine .block ?_
        refine .seq ?_
        refine .region ?_
        refine .p rfl rfl rfl ?_
        refine .p rfl rfl rfl ?_
        obtain ⟨x1, hx1, h⟩ := bnd h
        obtain ⟨k1, hd, hck1⟩ := RV.el2 q_0 hx1
        obtain ⟨v1, k1, rfl, q1, hd⟩ := rrowv q_0 hd
        obtain rfl := rnil q_0 hd
        refine .r (ixv (hS.keep q_0) hx1 T.u23 T.t46 rfl rfl rfl) ?_ rfl rfl
        refine .r (lde (hck1 _ hS.agree) T.t46 rfl rfl rfl rfl rfl) ?_ rfl rfl
        refine .p rfl rfl rfl ?_
        obtain ⟨y4, hy4, h⟩ := bnd h
        refine .c (.call0 hS Tryd.func22 (laws_szInstrS_ok hy4 (hS.keep (q1 _ q_0))) rfl rfl ?_ rfl (by kernel_rfl) rfl rfl)
        intro W hS
        refine .p rfl rfl rfl ?_
        refine .nil ?_
        refine .seq ?_
        refine .region ?_
        refine .p rfl rfl rfl ?_
        refine .p rfl rfl rfl ?_
        refine .nil ?_
        refine .cond rfl (fun hb => ?_) (fun hb => ?_)
        · have h := sel_t hb h
          refine .seq ?_
          refine .region ?_
          refine .p rfl rfl rfl ?_
          refine .nil ?_
          refine .ret ?_
          cases h
          exact ⟨by simp, rfl, fin_ret (vs := [_]) () (rt rfl rn) rfl (hS.to [] rfl)⟩
        · have h := sel_f hb h
          refine .skip ?_
          refine .region ?_
          refine .p rfl rfl rfl ?_
          refine .p rfl rfl rfl ?_
          refine .p rfl rfl rfl ?_
          refine .nil ?_
          cases h
          exact ⟨rfl, sb rfl, hS.to [] rfl⟩
      · have h := sel_f hb h
        refine .exit ?_
        cases h
        exact ⟨by simp, rfl, sb rfl, hS.to [] rfl⟩
    · intro x E W hJ
      rcases y1 with o3 | o4
      · skip
        obtain ⟨rfl, hF⟩ := hJ
        refine ⟨_, fun _ _ h => h, ?_⟩
        cases h
        exact hF
      · skip
        obtain ⟨rfl, hE, hS⟩ := hJ
        refine ⟨_, hE.sub, ?_⟩
        refine .seq ?_
        refine .region ?_
        refine .p rfl rfl rfl ?_
        refine .p rfl rfl rfl ?_
        refine .nil ?_
        refine .ret ?_
        cases h
        exact fin_ret (vs := [_]) () (rt rfl rn) rfl (hS.to [] rfl)
theorem spec_l6In_ok {a0 : Int} {a1 : Int} {a2 : Int} {w : World} {r : Bool} (h : spec_l6In a0 a1 a2 = some r) : Calls Tryd.prog 24 #[.int .i64 a0, .int .i64 a1, .int .i64 a2] w (Ret No w (fun s : Unit => .bool r) (fun s => [])) := by
  unfold spec_l6In at h
  refine enter Tryd.func24 rfl rfl ?_
  have hS := Sep.start w
  refine .seq ?_
  refine .region ?_
  refine .p rfl rfl rfl ?_
  refine .nil ?_
  refine .seq ?_
  refine .region ?_
  refine .p rfl rfl rfl ?_
  refine .p rfl rfl rfl ?_
  refine .p rfl rfl rfl ?_
  refine .p rfl rfl rfl ?_
  refine .chunk 4 14 ((decide (a0 ≥ a1)) && (decide (a0 ≤ a2))) hS ?_ ?_
  · refine .both (decide (a0 ≥ a1)) (fun hb => ?_) (fun hb => ?_)
    · have hg1 := hb
      refine .g hg1 (.p rfl rfl rfl ?_) rfl
      refine .g hg1 (.p rfl rfl rfl ?_) rfl
      refine .g hg1 (.p rfl rfl rfl ?_) rfl
      refine .r (pkt hg1 rfl rfl rfl) ?_ rfl rfl
      exact .nil (ck 4 hS rfl (and_t hg1) rfl rfl)
    · skip
      refine .x hb ?_ rfl rfl
      refine .x hb ?_ rfl rfl
      refine .x hb ?_ rfl rfl
      refine .r (pkf hb rfl rfl rfl) ?_ rfl rfl
      exact .nil (ck 4 hS rfl (and_f hb) rfl rfl)
  intro W hS
  refine .p rfl rfl rfl ?_
  refine .nil ?_
  refine .ret ?_
  cases h
  exact fin_ret (vs := [_]) () (rt rfl rn) rfl (hS.to [] rfl)
def spec_l12Rooms_F (w : World) (r : Bool) : Env → World → Prop := Fin Tryd.prog Tryd.f23 No w (fun s : Unit => .bool r) (fun s => []) .ret
theorem spec_l12Rooms_ok {a0 : List Int} {v_0 : Hd} {w : World} {r : Bool} (h : spec_l12Rooms a0 = some r) (q_0 : RV w (Old No w) (sv v_0) 3 1 (D.int .i64) a0) : Calls Tryd.prog 23 #[(sv v_0)] w (Ret No w (fun s : Unit => .bool r) (fun s => [])) := by
  unfold spec_l12Rooms at h
  refine enter Tryd.func23 rfl rfl ?_
  have hS := Sep.start w
  refine .seq ?_
  refine .region ?_
  refine .p rfl rfl rfl ?_
  refine .nil ?_
  refine .seq ?_
  refine .seq ?_
  refine .region ?_
  refine .p rfl rfl rfl ?_
  refine .nil ?_
  refine .block ?_
  obtain ⟨y1, hy1, h⟩ := bnd h
  refine .via (.iter (fun s1 E' W' => SubL E' [(0, (sv v_0)), (3, .int .i64 s1)] ∧ Sep No w W' []) (fun y2 x E' W' => (match y2 with | .inl o1 => x = .ret ∧ spec_l12Rooms_F w o1 E' W' | .inr o2 => x = .exit 0 ∧ SubL E' [(0, (sv v_0))] ∧ Sep No w W' [])) hy1 ⟨sb rfl, hS.to [] rfl⟩ ?_) ?_
  · intro s1 y3 E W h hI
    obtain ⟨hE, hS⟩ := hI
    refine CW.sub hE ?_
    unfold spec_l12Rooms_b1 at h
    refine .seq ?_
    refine .seq ?_
    refine .region ?_
    refine .p rfl rfl rfl ?_
    refine .p rfl rfl rfl ?_
    refine .r (lenv (hS.keep q_0) T.u22 rfl rfl) ?_ rfl rfl
    refine .p rfl rfl rfl ?_
    refine .nil ?_
    refine .cond rfl (fun hb => ?_) (fun hb => ?_)
    · have h := sel_t hb h
      refine .skip ?_
      refine .seq ?_
      refine .block ?_
      refine .seq ?_
      refine .region ?_
      refine .p rfl rfl rfl ?_
      refine .p rfl rfl rfl ?_
      obtain ⟨x1, hx1, h⟩ := bnd h
      refine .r (ixv (hS.keep q_0) hx1 T.u22 T.t3 rfl rfl rfl) ?_ rfl rfl
      refine .r (lde (RV.flat (hS.keep q_0) hx1 rfl) T.t3 rfl rfl rfl rfl rfl) ?_ rfl rfl
      obtain ⟨y4, hy4, h⟩ := bnd h
      refine .c (.call0 hS Tryd.func24 (spec_l6In_ok hy4) rfl rfl ?_ rfl (by kernel_rfl) rfl rfl)
      intro W hS
      refine .p rfl rfl rfl ?_
      refine .nil ?_
      refine .cond rfl (fun hb => ?_) (fun hb => ?_)
      · have h := sel_t hb h
        refine .seq ?_
        refine .region ?_
        refine .p rfl rfl rfl ?_
        refine .nil ?_
        refine .ret ?_
        cases h
        exact ⟨by simp, rfl, fin_ret (vs := [_]) () (rt rfl rn) rfl (hS.to [] rfl)⟩
      · have h := sel_f hb h
        refine .skip ?_
        refine .region ?_
        refine .p rfl rfl rfl ?_
        refine .p rfl rfl rfl ?_
        refine .p rfl rfl rfl ?_
        refine .nil ?_
        cases h
        exact ⟨rfl, sb rfl, hS.to [] rfl⟩
    · have h := sel_f hb h
      refine .exit ?_
      cases h
      exact ⟨by simp, rfl, sb rfl, hS.to [] rfl⟩
  · intro x E W hJ
    rcases y1 with o3 | o4
    · skip
      obtain ⟨rfl, hF⟩ := hJ
      refine ⟨_, fun _ _ h => h, ?_⟩
      cases h
      exact hF
    · skip
      obtain ⟨rfl, hE, hS⟩ := hJ
      refine ⟨_, hE.sub, ?_⟩
      refine .seq ?_
      refine .region ?_
      refine .p rfl rfl rfl ?_
      refine .r (lenv (hS.keep q_0) T.u22 rfl rfl) ?_ rfl rfl
      refine .p rfl rfl rfl ?_
      refine .p rfl rfl rfl ?_
      refine .nil ?_
      refine .ret ?_
      cases h
      exact fin_ret (vs := [_]) () (rt rfl rn) rfl (hS.to [] rfl)
theorem spec_l42Regs_ok {a0 : Instr} {a1 : Int} {a2 : Int} {a3 : Int} {w : World} {r : Bool} (h : spec_l42Regs a0 a1 a2 a3 = some r) : Calls Tryd.prog 100 #[.agg #[.int .i64 a0.Op, .int .i64 a0.Rd, .int .i64 a0.Rs, .int .i64 a0.Rt, .int .i64 a0.Imm], .int .i64 a1, .int .i64 a2, .int .i64 a3] w (Ret No w (fun s : Unit => .bool r) (fun s => [])) := by
  unfold spec_l42Regs at h
  refine enter Tryd.func100 rfl rfl ?_
  have hS := Sep.start w
  refine .seq ?_
  refine .region ?_
  refine .c (.box hS rfl rfl ?_ rfl rfl)
  intro g1 W hS
  refine .p rfl rfl rfl ?_
  refine .nil ?_
  refine .seq ?_
  refine .region ?_
  refine .r (fa T.f68_1 rfl rfl rfl) ?_ rfl rfl
  refine .r (ld T.t3 hS rfl rfl rfl rfl rfl) ?_ rfl rfl
  refine .p rfl rfl rfl ?_
  refine .p rfl rfl rfl ?_
  obtain ⟨y1, hy1, h⟩ := bnd h
  refine .c (.call0 hS Tryd.func24 (spec_l6In_ok hy1) rfl rfl ?_ rfl (by kernel_rfl) rfl rfl)
  intro W hS
  refine .p rfl rfl rfl ?_
  obtain ⟨b1, hb1, h⟩ := bnd h
  refine .chunk 6 20 (b1) hS ?_ ?_
  · refine .both (y1) (fun hb => ?_) (fun hb => ?_)
    · have hg1 := hb
      have h := sel_t hb hb1
      refine .g hg1 (.r (fa T.f68_2 rfl rfl rfl) ?_ rfl rfl) rfl
      refine .g hg1 (.r (ld T.t3 hS rfl rfl rfl rfl rfl) ?_ rfl rfl) rfl
      refine .g hg1 (.p rfl rfl rfl ?_) rfl
      refine .g hg1 (.p rfl rfl rfl ?_) rfl
      obtain ⟨y2, hy2, h⟩ := bnd h
      refine .g hg1 (.c (.call0 hS Tryd.func24 (spec_l6In_ok hy2) rfl rfl ?_ rfl (by kernel_rfl) rfl rfl)) rfl
      intro W hS
      refine .r (pkt hg1 rfl rfl rfl) ?_ rfl rfl
      cases h
      exact .nil (ck 6 hS rfl rfl rfl rfl)
    · skip
      refine .x hb ?_ rfl rfl
      refine .x hb ?_ rfl rfl
      refine .x hb ?_ rfl rfl
      refine .x hb ?_ rfl rfl
      refine .x hb ?_ rfl rfl
      cases sel_f hb hb1
      refine .r (pkf hb rfl rfl rfl) ?_ rfl rfl
      exact .nil (ck 6 hS rfl rfl rfl rfl)
  intro W hS
  refine .p rfl rfl rfl ?_
  obtain ⟨b2, hb2, h⟩ := bnd h
  refine .chunk 6 27 (b2) hS ?_ ?_
  · refine .both (b1) (fun hb => ?_) (fun hb => ?_)
    · have hg2 := hb
      have h := sel_t hb hb2
      refine .g hg2 (.r (fa T.f68_3 rfl rfl rfl) ?_ rfl rfl) rfl
      refine .g hg2 (.r (ld T.t3 hS rfl rfl rfl rfl rfl) ?_ rfl rfl) rfl
      refine .g hg2 (.p rfl rfl rfl ?_) rfl
      refine .g hg2 (.p rfl rfl rfl ?_) rfl
      obtain ⟨y3, hy3, h⟩ := bnd h
      refine .g hg2 (.c (.call0 hS Tryd.func24 (spec_l6In_ok hy3) rfl rfl ?_ rfl (by kernel_rfl) rfl rfl)) rfl
      intro W hS
      refine .r (pkt hg2 rfl rfl rfl) ?_ rfl rfl
      cases h
      exact .nil (ck 6 hS rfl rfl rfl rfl)
    · skip
      refine .x hb ?_ rfl rfl
      refine .x hb ?_ rfl rfl
      refine .x hb ?_ rfl rfl
      refine .x hb ?_ rfl rfl
      refine .x hb ?_ rfl rfl
      cases sel_f hb hb2
      refine .r (pkf hb rfl rfl rfl) ?_ rfl rfl
      exact .nil (ck 6 hS rfl rfl rfl rfl)
  intro W hS
  refine .p rfl rfl rfl ?_
  refine .nil ?_
  refine .ret ?_
  cases h
  exact fin_ret (vs := [_]) () (rt rfl rn) rfl (hS.to [] rfl)
theorem spec_l42Even_ok {a0 : Int} {a1 : Int} {a2 : Int} {w : World} {r : Bool} (h : spec_l42Even a0 a1 a2 = some r) : Calls Tryd.prog 101 #[.int .i64 a0, .int .i64 a1, .int .i64 a2] w (Ret No w (fun s : Unit => .bool r) (fun s => [])) := by
  unfold spec_l42Even at h
  refine enter Tryd.func101 rfl rfl ?_
  have hS := Sep.start w
  refine .seq ?_
  refine .region ?_
  refine .p rfl rfl rfl ?_
  refine .nil ?_
  refine .seq ?_
  refine .region ?_
  refine .p rfl rfl rfl ?_
  refine .p rfl rfl rfl ?_
  refine .p rfl rfl rfl ?_
  obtain ⟨y1, hy1, h⟩ := bnd h
  refine .c (.call0 hS Tryd.func24 (spec_l6In_ok hy1) rfl rfl ?_ rfl (by kernel_rfl) rfl rfl)
  intro W hS
  refine .p rfl rfl rfl ?_
  refine .chunk 4 15 (y1 && ((Int.tmod a0 2) == 0)) hS ?_ ?_
  · refine .both (y1) (fun hb => ?_) (fun hb => ?_)
    · have hg1 := hb
      refine .g hg1 (.p rfl rfl rfl ?_) rfl
      refine .g hg1 (.p rfl rfl rfl ?_) rfl
      refine .g hg1 (.p rfl rfl rfl ?_) rfl
      refine .r (pkt hg1 rfl rfl rfl) ?_ rfl rfl
      exact .nil (ck 4 hS rfl (and_t hg1) rfl rfl)
    · skip
      refine .x hb ?_ rfl rfl
      refine .x hb ?_ rfl rfl
      refine .x hb ?_ rfl rfl
      refine .r (pkf hb rfl rfl rfl) ?_ rfl rfl
      exact .nil (ck 4 hS rfl (and_f hb) rfl rfl)
  intro W hS
  refine .p rfl rfl rfl ?_
  refine .nil ?_
  refine .ret ?_
  cases h
  exact fin_ret (vs := [_]) () (rt rfl rn) rfl (hS.to [] rfl)
theorem spec_InstrValid_ok {a0 : Instr} {w : World} {r : Bool} (h : spec_InstrValid a0 = some r) : Calls Tryd.prog 77 #[.agg #[.int .i64 a0.Op, .int .i64 a0.Rd, .int .i64 a0.Rs, .int .i64 a0.Rt, .int .i64 a0.Imm]] w (Ret No w (fun s : Unit => .bool r) (fun s => [])) := by
  unfold spec_InstrValid at h
  refine enter Tryd.func77 rfl rfl ?_
  have hS := Sep.start w
  refine .seq ?_
  refine .region ?_
  refine .c (.box hS rfl rfl ?_ rfl rfl)
  intro g1 W hS
  refine .p rfl rfl rfl ?_
  refine .nil ?_
  refine .seq ?_
  refine .block ?_
  refine .seq ?_
  refine .region ?_
  refine .r (fa T.f68_0 rfl rfl rfl) ?_ rfl rfl
  refine .r (ld T.t3 hS rfl rfl rfl rfl rfl) ?_ rfl rfl
  obtain ⟨y1, hy1, h⟩ := bnd h
  refine .c (.call0 hS Tryd.func24 (spec_l6In_ok hy1) rfl rfl ?_ rfl (by kernel_rfl) rfl rfl)
  intro W hS
  refine .p rfl rfl rfl ?_
  refine .nil ?_
  refine .cond rfl (fun hb => ?_) (fun hb => ?_)
  · have h := sel_t hb h
    refine .seq ?_
    refine .region ?_
    refine .r (ld T.t68 hS rfl rfl rfl rfl rfl) ?_ rfl rfl
    obtain ⟨y2, hy2, h⟩ := bnd h
    refine .c (.call0 hS Tryd.func100 (spec_l42Regs_ok hy2) rfl rfl ?_ rfl (by kernel_rfl) rfl rfl)
    intro W hS
    refine .p rfl rfl rfl ?_
    refine .chunk 4 13 (y2 && (a0.Imm == 0)) hS ?_ ?_
    · refine .both (y2) (fun hb => ?_) (fun hb => ?_)
      · have hg1 := hb
        refine .g hg1 (.r (fa T.f68_4 rfl rfl rfl) ?_ rfl rfl) rfl
        refine .g hg1 (.r (ld T.t3 hS rfl rfl rfl rfl rfl) ?_ rfl rfl) rfl
        refine .g hg1 (.p rfl rfl rfl ?_) rfl
        refine .r (pkt hg1 rfl rfl rfl) ?_ rfl rfl
        exact .nil (ck 4 hS rfl (and_t hg1) rfl rfl)
      · skip
        refine .x hb ?_ rfl rfl
        refine .x hb ?_ rfl rfl
        refine .x hb ?_ rfl rfl
        refine .r (pkf hb rfl rfl rfl) ?_ rfl rfl
        exact .nil (ck 4 hS rfl (and_f hb) rfl rfl)
    intro W hS
    refine .p rfl rfl rfl ?_
    refine .nil ?_
    refine .ret ?_
    cases h
    exact fin_ret (vs := [_]) () (rt rfl rn) rfl (hS.to [] rfl)
  · have h := sel_f hb h
    refine .seq ?_
    refine .region ?_
    refine .r (fa T.f68_0 rfl rfl rfl) ?_ rfl rfl
    refine .r (ld T.t3 hS rfl rfl rfl rfl rfl) ?_ rfl rfl
    obtain ⟨y3, hy3, h⟩ := bnd h
    refine .c (.call0 hS Tryd.func24 (spec_l6In_ok hy3) rfl rfl ?_ rfl (by kernel_rfl) rfl rfl)
    intro W hS
    refine .p rfl rfl rfl ?_
    refine .nil ?_
    refine .cond rfl (fun hb => ?_) (fun hb => ?_)
    · have h := sel_t hb h
      refine .seq ?_
      refine .region ?_
      refine .r (ld T.t68 hS rfl rfl rfl rfl rfl) ?_ rfl rfl
      obtain ⟨y4, hy4, h⟩ := bnd h
      refine .c (.call0 hS Tryd.func100 (spec_l42Regs_ok hy4) rfl rfl ?_ rfl (by kernel_rfl) rfl rfl)
      intro W hS
      refine .p rfl rfl rfl ?_
      obtain ⟨b1, hb1, h⟩ := bnd h
      refine .chunk 4 24 (b1) hS ?_ ?_
      · refine .both (y4) (fun hb => ?_) (fun hb => ?_)
        · have hg2 := hb
          have h := sel_t hb hb1
          refine .g hg2 (.r (fa T.f68_4 rfl rfl rfl) ?_ rfl rfl) rfl
          refine .g hg2 (.r (ld T.t3 hS rfl rfl rfl rfl rfl) ?_ rfl rfl) rfl
          obtain ⟨y5, hy5, h⟩ := bnd h
          refine .g hg2 (.c (.call0 hS Tryd.func24 (spec_l6In_ok hy5) rfl rfl ?_ rfl (by kernel_rfl) rfl rfl)) rfl
          intro W hS
          refine .r (pkt hg2 rfl rfl rfl) ?_ rfl rfl
          cases h
          exact .nil (ck 4 hS rfl rfl rfl rfl)
        · skip
          refine .x hb ?_ rfl rfl
          refine .x hb ?_ rfl rfl
          refine .x hb ?_ rfl rfl
          cases sel_f hb hb1
          refine .r (pkf hb rfl rfl rfl) ?_ rfl rfl
          exact .nil (ck 4 hS rfl rfl rfl rfl)
      intro W hS
      refine .p rfl rfl rfl ?_
      refine .nil ?_
      refine .ret ?_
      cases h
      exact fin_ret (vs := [_]) () (rt rfl rn) rfl (hS.to [] rfl)
    · have h := sel_f hb h
      refine .seq ?_
      refine .region ?_
      refine .r (fa T.f68_0 rfl rfl rfl) ?_ rfl rfl
      refine .r (ld T.t3 hS rfl rfl rfl rfl rfl) ?_ rfl rfl
      refine .p rfl rfl rfl ?_
      refine .p rfl rfl rfl ?_
      refine .nil ?_
      refine .cond rfl (fun hb => ?_) (fun hb => ?_)
      · have h := sel_t hb h
        refine .seq ?_
        refine .region ?_
        refine .r (ld T.t68 hS rfl rfl rfl rfl rfl) ?_ rfl rfl
        obtain ⟨y6, hy6, h⟩ := bnd h
        refine .c (.call0 hS Tryd.func100 (spec_l42Regs_ok hy6) rfl rfl ?_ rfl (by kernel_rfl) rfl rfl)
        intro W hS
        refine .p rfl rfl rfl ?_
        obtain ⟨b2, hb2, h⟩ := bnd h
        refine .chunk 4 35 (b2) hS ?_ ?_
        · refine .both (y6) (fun hb => ?_) (fun hb => ?_)
          · have hg3 := hb
            have h := sel_t hb hb2
            refine .g hg3 (.r (fa T.f68_4 rfl rfl rfl) ?_ rfl rfl) rfl
            refine .g hg3 (.r (ld T.t3 hS rfl rfl rfl rfl rfl) ?_ rfl rfl) rfl
            obtain ⟨y7, hy7, h⟩ := bnd h
            refine .g hg3 (.c (.call0 hS Tryd.func24 (spec_l6In_ok hy7) rfl rfl ?_ rfl (by kernel_rfl) rfl rfl)) rfl
            intro W hS
            refine .r (pkt hg3 rfl rfl rfl) ?_ rfl rfl
            cases h
            exact .nil (ck 4 hS rfl rfl rfl rfl)
          · skip
            refine .x hb ?_ rfl rfl
            refine .x hb ?_ rfl rfl
            refine .x hb ?_ rfl rfl
            cases sel_f hb hb2
            refine .r (pkf hb rfl rfl rfl) ?_ rfl rfl
            exact .nil (ck 4 hS rfl rfl rfl rfl)
        intro W hS
        refine .p rfl rfl rfl ?_
        refine .nil ?_
        refine .ret ?_
        cases h
        exact fin_ret (vs := [_]) () (rt rfl rn) rfl (hS.to [] rfl)
      · have h := sel_f hb h
        refine .seq ?_
        refine .region ?_
        refine .r (fa T.f68_0 rfl rfl rfl) ?_ rfl rfl
        refine .r (ld T.t3 hS rfl rfl rfl rfl rfl) ?_ rfl rfl
        refine .p rfl rfl rfl ?_
        refine .p rfl rfl rfl ?_
        refine .chunk 4 44 ((a0.Op == 17) || (a0.Op == 18)) hS ?_ ?_
        · refine .both (a0.Op == 17) (fun hb => ?_) (fun hb => ?_)
          · skip
            refine .x hb ?_ rfl rfl
            refine .x hb ?_ rfl rfl
            refine .x hb ?_ rfl rfl
            refine .r (pkt hb rfl rfl rfl) ?_ rfl rfl
            exact .nil (ck 4 hS rfl (or_t hb) rfl rfl)
          · have hg4 := hb
            refine .g hg4 (.r (fa T.f68_0 rfl rfl rfl) ?_ rfl rfl) rfl
            refine .g hg4 (.r (ld T.t3 hS rfl rfl rfl rfl rfl) ?_ rfl rfl) rfl
            refine .g hg4 (.p rfl rfl rfl ?_) rfl
            refine .r (pkf hg4 rfl rfl rfl) ?_ rfl rfl
            exact .nil (ck 4 hS rfl (or_f hg4) rfl rfl)
        intro W hS
        refine .p rfl rfl rfl ?_
        refine .nil ?_
        refine .cond rfl (fun hb => ?_) (fun hb => ?_)
        · have h := sel_t hb h
          refine .seq ?_
          refine .region ?_
          refine .r (ld T.t68 hS rfl rfl rfl rfl rfl) ?_ rfl rfl
          obtain ⟨y8, hy8, h⟩ := bnd h
          refine .c (.call0 hS Tryd.func100 (spec_l42Regs_ok hy8) rfl rfl ?_ rfl (by kernel_rfl) rfl rfl)
          intro W hS
          refine .p rfl rfl rfl ?_
          obtain ⟨b3, hb3, h⟩ := bnd h
          refine .chunk 4 51 (b3) hS ?_ ?_
          · refine .both (y8) (fun hb => ?_) (fun hb => ?_)
            · have hg5 := hb
              have h := sel_t hb hb3
              refine .g hg5 (.r (fa T.f68_4 rfl rfl rfl) ?_ rfl rfl) rfl
              refine .g hg5 (.r (ld T.t3 hS rfl rfl rfl rfl rfl) ?_ rfl rfl) rfl
              obtain ⟨y9, hy9, h⟩ := bnd h
              refine .g hg5 (.c (.call0 hS Tryd.func101 (spec_l42Even_ok hy9) rfl rfl ?_ rfl (by kernel_rfl) rfl rfl)) rfl
              intro W hS
              refine .r (pkt hg5 rfl rfl rfl) ?_ rfl rfl
              cases h
              exact .nil (ck 4 hS rfl rfl rfl rfl)
            · skip
              refine .x hb ?_ rfl rfl
              refine .x hb ?_ rfl rfl
              refine .x hb ?_ rfl rfl
              cases sel_f hb hb3
              refine .r (pkf hb rfl rfl rfl) ?_ rfl rfl
              exact .nil (ck 4 hS rfl rfl rfl rfl)
          intro W hS
          refine .p rfl rfl rfl ?_
          refine .nil ?_
          refine .ret ?_
          cases h
          exact fin_ret (vs := [_]) () (rt rfl rn) rfl (hS.to [] rfl)
        · have h := sel_f hb h
          refine .seq ?_
          refine .region ?_
          refine .r (fa T.f68_0 rfl rfl rfl) ?_ rfl rfl
          refine .r (ld T.t3 hS rfl rfl rfl rfl rfl) ?_ rfl rfl
          refine .p rfl rfl rfl ?_
          refine .p rfl rfl rfl ?_
          refine .nil ?_
          refine .cond rfl (fun hb => ?_) (fun hb => ?_)
          · have h := sel_t hb h
            refine .seq ?_
            refine .region ?_
            refine .r (ld T.t68 hS rfl rfl rfl rfl rfl) ?_ rfl rfl
            obtain ⟨y10, hy10, h⟩ := bnd h
            refine .c (.call0 hS Tryd.func100 (spec_l42Regs_ok hy10) rfl rfl ?_ rfl (by kernel_rfl) rfl rfl)
            intro W hS
            refine .p rfl rfl rfl ?_
            obtain ⟨b4, hb4, h⟩ := bnd h
            refine .chunk 4 62 (b4) hS ?_ ?_
            · refine .both (y10) (fun hb => ?_) (fun hb => ?_)
              · have hg6 := hb
                have h := sel_t hb hb4
                refine .g hg6 (.r (fa T.f68_4 rfl rfl rfl) ?_ rfl rfl) rfl
                refine .g hg6 (.r (ld T.t3 hS rfl rfl rfl rfl rfl) ?_ rfl rfl) rfl
                obtain ⟨y11, hy11, h⟩ := bnd h
                refine .g hg6 (.c (.call0 hS Tryd.func24 (spec_l6In_ok hy11) rfl rfl ?_ rfl (by kernel_rfl) rfl rfl)) rfl
                intro W hS
                refine .r (pkt hg6 rfl rfl rfl) ?_ rfl rfl
                cases h
                exact .nil (ck 4 hS rfl rfl rfl rfl)
              · skip
                refine .x hb ?_ rfl rfl
                refine .x hb ?_ rfl rfl
                refine .x hb ?_ rfl rfl
                cases sel_f hb hb4
                refine .r (pkf hb rfl rfl rfl) ?_ rfl rfl
                exact .nil (ck 4 hS rfl rfl rfl rfl)
            intro W hS
            refine .p rfl rfl rfl ?_
            refine .nil ?_
            refine .ret ?_
            cases h
            exact fin_ret (vs := [_]) () (rt rfl rn) rfl (hS.to [] rfl)
          · have h := sel_f hb h
            refine .seq ?_
            refine .region ?_
            refine .r (fa T.f68_0 rfl rfl rfl) ?_ rfl rfl
            refine .r (ld T.t3 hS rfl rfl rfl rfl rfl) ?_ rfl rfl
            refine .p rfl rfl rfl ?_
            refine .p rfl rfl rfl ?_
            refine .nil ?_
            refine .cond rfl (fun hb => ?_) (fun hb => ?_)
            · have h := sel_t hb h
              refine .seq ?_
              refine .region ?_
              refine .r (ld T.t68 hS rfl rfl rfl rfl rfl) ?_ rfl rfl
              obtain ⟨y12, hy12, h⟩ := bnd h
              refine .c (.call0 hS Tryd.func100 (spec_l42Regs_ok hy12) rfl rfl ?_ rfl (by kernel_rfl) rfl rfl)
              intro W hS
              refine .p rfl rfl rfl ?_
              obtain ⟨b5, hb5, h⟩ := bnd h
              refine .chunk 4 73 (b5) hS ?_ ?_
              · refine .both (y12) (fun hb => ?_) (fun hb => ?_)
                · have hg7 := hb
                  have h := sel_t hb hb5
                  refine .g hg7 (.r (fa T.f68_4 rfl rfl rfl) ?_ rfl rfl) rfl
                  refine .g hg7 (.r (ld T.t3 hS rfl rfl rfl rfl rfl) ?_ rfl rfl) rfl
                  obtain ⟨y13, hy13, h⟩ := bnd h
                  refine .g hg7 (.c (.call0 hS Tryd.func101 (spec_l42Even_ok hy13) rfl rfl ?_ rfl (by kernel_rfl) rfl rfl)) rfl
                  intro W hS
                  refine .r (pkt hg7 rfl rfl rfl) ?_ rfl rfl
                  cases h
                  exact .nil (ck 4 hS rfl rfl rfl rfl)
                · skip
                  refine .x hb ?_ rfl rfl
                  refine .x hb ?_ rfl rfl
                  refine .x hb ?_ rfl rfl
                  cases sel_f hb hb5
                  refine .r (pkf hb rfl rfl rfl) ?_ rfl rfl
                  exact .nil (ck 4 hS rfl rfl rfl rfl)
              intro W hS
              refine .p rfl rfl rfl ?_
              refine .nil ?_
              refine .ret ?_
              cases h
              exact fin_ret (vs := [_]) () (rt rfl rn) rfl (hS.to [] rfl)
            · have h := sel_f hb h
              refine .skip ?_
              refine .seq ?_
              refine .region ?_
              refine .r (fa T.f68_0 rfl rfl rfl) ?_ rfl rfl
              refine .r (ld T.t3 hS rfl rfl rfl rfl rfl) ?_ rfl rfl
              refine .p rfl rfl rfl ?_
              refine .p rfl rfl rfl ?_
              obtain ⟨b6, hb6, h⟩ := bnd h
              refine .chunk 3 80 (b6) hS ?_ ?_
              · refine .both (a0.Op == 21) (fun hb => ?_) (fun hb => ?_)
                · have hg8 := hb
                  have h := sel_t hb hb6
                  refine .g hg8 (.r (ld T.t68 hS rfl rfl rfl rfl rfl) ?_ rfl rfl) rfl
                  obtain ⟨y14, hy14, h⟩ := bnd h
                  refine .g hg8 (.c (.call0 hS Tryd.func100 (spec_l42Regs_ok hy14) rfl rfl ?_ rfl (by kernel_rfl) rfl rfl)) rfl
                  intro W hS
                  refine .r (pkt hg8 rfl rfl rfl) ?_ rfl rfl
                  cases h
                  exact .nil (ck 3 hS rfl rfl rfl rfl)
                · skip
                  refine .x hb ?_ rfl rfl
                  refine .x hb ?_ rfl rfl
                  cases sel_f hb hb6
                  refine .r (pkf hb rfl rfl rfl) ?_ rfl rfl
                  exact .nil (ck 3 hS rfl rfl rfl rfl)
              intro W hS
              refine .p rfl rfl rfl ?_
              refine .chunk 4 85 (b6 && (a0.Imm == 0)) hS ?_ ?_
              · refine .both (b6) (fun hb => ?_) (fun hb => ?_)
                · have hg9 := hb
                  refine .g hg9 (.r (fa T.f68_4 rfl rfl rfl) ?_ rfl rfl) rfl
                  refine .g hg9 (.r (ld T.t3 hS rfl rfl rfl rfl rfl) ?_ rfl rfl) rfl
                  refine .g hg9 (.p rfl rfl rfl ?_) rfl
                  refine .r (pkt hg9 rfl rfl rfl) ?_ rfl rfl
                  exact .nil (ck 4 hS rfl (and_t hg9) rfl rfl)
                · skip
                  refine .x hb ?_ rfl rfl
                  refine .x hb ?_ rfl rfl
                  refine .x hb ?_ rfl rfl
                  refine .r (pkf hb rfl rfl rfl) ?_ rfl rfl
                  exact .nil (ck 4 hS rfl (and_f hb) rfl rfl)
              intro W hS
              refine .p rfl rfl rfl ?_
              refine .nil ?_
              refine .ret ?_
              cases h
              exact fin_ret (vs := [_]) () (rt rfl rn) rfl (hS.to [] rfl)
theorem spec_l42Mod_ok {a0 : Int} {a1 : Int} {w : World} {r : Int} (h : spec_l42Mod a0 a1 = some r) : Calls Tryd.prog 103 #[.int .i64 a0, .int .i64 a1] w (Ret No w (fun s : Unit => .int .i64 r) (fun s => [])) := by
  unfold spec_l42Mod at h
  refine enter Tryd.func103 rfl rfl ?_
  have hS := Sep.start w
  refine .seq ?_
  refine .region ?_
  refine .p rfl rfl rfl ?_
  refine .nil ?_
  refine .seq ?_
  refine .seq ?_
  refine .region ?_
  refine .p rfl rfl rfl ?_
  refine .p rfl rfl rfl ?_
  refine .nil ?_
  refine .cond rfl (fun hb => ?_) (fun hb => ?_)
  · have h := sel_t hb h
    refine .seq ?_
    refine .region ?_
    refine .p rfl rfl rfl ?_
    refine .p rfl rfl rfl ?_
    refine .p rfl rfl rfl ?_
    refine .p rfl rfl rfl ?_
    refine .nil ?_
    refine .ret ?_
    cases h
    exact fin_ret (vs := [_]) () (rt rfl rn) rfl (hS.to [] rfl)
  · have h := sel_f hb h
    refine .skip ?_
    refine .seq ?_
    refine .region ?_
    refine .p rfl rfl rfl ?_
    refine .p rfl rfl rfl ?_
    refine .nil ?_
    refine .ret ?_
    cases h
    exact fin_ret (vs := [_]) () (rt rfl rn) rfl (hS.to [] rfl)
theorem spec_l1Power_ok {a0 : Int} {w : World} {r : Int} (h : spec_l1Power a0 = some r) : Calls Tryd.prog 115 #[.int .i64 a0] w (Ret No w (fun s : Unit => .int .i64 r) (fun s => [])) := by
  unfold spec_l1Power at h
  refine enter Tryd.func115 rfl rfl ?_
  have hS := Sep.start w
  refine .seq ?_
  refine .region ?_
  refine .p rfl rfl rfl ?_
  refine .nil ?_
  refine .seq ?_
  refine .region ?_
  refine .p rfl rfl rfl ?_
  refine .nil ?_
  refine .seq ?_
  refine .seq ?_
  refine .region ?_
  refine .p rfl rfl rfl ?_
  refine .nil ?_
  refine .block ?_
  obtain ⟨y1, hy1, h⟩ := bnd h
  refine .via (.iter (fun s1 E' W' => SubL E' [(0, .int .i64 a0), (3, .int .i64 s1.1), (4, .int .i64 s1.2)] ∧ Sep No w W' []) (fun y2 x E' W' => x = .exit 0 ∧ SubL E' [(3, .int .i64 y2)] ∧ Sep No w W' []) hy1 ⟨sb rfl, hS.to [] rfl⟩ ?_) ?_
  · intro s1 y3 E W h hI
    obtain ⟨hE, hS⟩ := hI
    refine CW.sub hE ?_
    unfold spec_l1Power_b1 at h
    refine .seq ?_
    refine .seq ?_
    refine .region ?_
    refine .p rfl rfl rfl ?_
    refine .p rfl rfl rfl ?_
    refine .p rfl rfl rfl ?_
    refine .nil ?_
    refine .cond rfl (fun hb => ?_) (fun hb => ?_)
    · have h := sel_t hb h
      refine .skip ?_
      refine .seq ?_
      refine .block ?_
      refine .region ?_
      refine .p rfl rfl rfl ?_
      refine .p rfl rfl rfl ?_
      refine .p rfl rfl rfl ?_
      refine .nil ?_
      refine .region ?_
      refine .p rfl rfl rfl ?_
      refine .p rfl rfl rfl ?_
      refine .p rfl rfl rfl ?_
      refine .nil ?_
      cases h
      exact ⟨rfl, sb rfl, hS.to [] rfl⟩
    · have h := sel_f hb h
      refine .exit ?_
      cases h
      exact ⟨by simp, rfl, sb rfl, hS.to [] rfl⟩
  · intro x E W hJ
    obtain ⟨rfl, hE, hS⟩ := hJ
    refine ⟨_, hE.sub, ?_⟩
    refine .seq ?_
    refine .region ?_
    refine .p rfl rfl rfl ?_
    refine .p rfl rfl rfl ?_
    refine .nil ?_
    refine .ret ?_
    cases h
    exact fin_ret (vs := [_]) () (rt rfl rn) rfl (hS.to [] rfl)
theorem spec_l42Put_ok {a0 : Int} {a1 : Int} {w : World} {r : Int} (h : spec_l42Put a0 a1 = some r) : Calls Tryd.prog 104 #[.int .i64 a0, .int .i64 a1] w (Ret No w (fun s : Unit => .int .i64 r) (fun s => [])) := by
  unfold spec_l42Put at h
  refine enter Tryd.func104 rfl rfl ?_
  have hS := Sep.start w
  refine .seq ?_
  refine .region ?_
  refine .p rfl rfl rfl ?_
  refine .nil ?_
  refine .seq ?_
  refine .region ?_
  refine .p rfl rfl rfl ?_
  refine .p rfl rfl rfl ?_
  obtain ⟨y1, hy1, h⟩ := bnd h
  refine .c (.call0 hS Tryd.func115 (spec_l1Power_ok hy1) rfl rfl ?_ rfl (by kernel_rfl) rfl rfl)
  intro W hS
  refine .p rfl rfl rfl ?_
  refine .p rfl rfl rfl ?_
  refine .nil ?_
  refine .ret ?_
  cases h
  exact fin_ret (vs := [_]) () (rt rfl rn) rfl (hS.to [] rfl)
theorem spec_l42Three_ok {a0 : Int} {w : World} {r : Int} (h : spec_l42Three a0 = some r) : Calls Tryd.prog 111 #[.int .i64 a0] w (Ret No w (fun s : Unit => .int .i64 r) (fun s => [])) := by
  unfold spec_l42Three at h
  refine enter Tryd.func111 rfl rfl ?_
  have hS := Sep.start w
  refine .seq ?_
  refine .region ?_
  refine .p rfl rfl rfl ?_
  refine .nil ?_
  refine .seq ?_
  refine .region ?_
  refine .c (.liv [0, 0, 0, 4, 6, 7, 6, 4, 1, 5, 2, 0, 3, 2, 0, 2, 0, 1, 0, 0, 0] (D.int .i64) T.u22 T.t3 hS rfl rfl rfl rfl ?_ rfl (fun _ => rfl) rfl rfl rfl rfl)
  intro v1 W hS
  refine .p rfl rfl rfl ?_
  refine .p rfl rfl rfl ?_
  obtain ⟨x1, hx1, h⟩ := bnd h
  refine .r (ixv hS.lendv hx1 T.u22 T.t3 rfl rfl rfl) ?_ rfl rfl
  refine .r (lde (RV.flat hS.lendv hx1 rfl) T.t3 rfl rfl rfl rfl rfl) ?_ rfl rfl
  refine .p rfl rfl rfl ?_
  refine .nil ?_
  refine .ret ?_
  cases h
  exact fin_ret (vs := [_]) () (rt rfl rn) rfl (hS.to [] rfl)
theorem spec_l42Mid_ok {a0 : Instr} {a1 : Int} {w : World} {r : Int} (h : spec_l42Mid a0 a1 = some r) : Calls Tryd.prog 106 #[.agg #[.int .i64 a0.Op, .int .i64 a0.Rd, .int .i64 a0.Rs, .int .i64 a0.Rt, .int .i64 a0.Imm], .int .i64 a1] w (Ret No w (fun s : Unit => .int .i64 r) (fun s => [])) := by
  unfold spec_l42Mid at h
  refine enter Tryd.func106 rfl rfl ?_
  have hS := Sep.start w
  refine .seq ?_
  refine .region ?_
  refine .c (.box hS rfl rfl ?_ rfl rfl)
  intro g1 W hS
  refine .p rfl rfl rfl ?_
  refine .nil ?_
  refine .seq ?_
  refine .rk 11 hS [0] T.mix ?_
  intro W hS
  have hT : Sep _ _ W [.box g1 68 [.int .i64 a0.Op, .int .i64 a0.Rd, .int .i64 a0.Rs, .int .i64 a0.Rt, .int .i64 a0.Imm]] := hS.to [0] rfl
  refine .t1 0 rfl (fun W hT => fa T.f68_2 rfl rfl rfl) hT ?_ (by kernel_rfl) rfl rfl
  refine .t1 1 rfl (fun W hT => ld T.t3 hT rfl rfl rfl rfl rfl) hT ?_ (by kernel_rfl) rfl rfl
  refine .t1 3 rfl (fun W hT => fa T.f68_0 rfl rfl rfl) hT ?_ (by kernel_rfl) rfl rfl
  refine .t1 4 rfl (fun W hT => ld T.t3 hT rfl rfl rfl rfl rfl) hT ?_ (by kernel_rfl) rfl rfl
  refine .t1 8 rfl (fun W hT => pr rfl) hT ?_ (by kernel_rfl) rfl rfl
  obtain ⟨y1, hy1, h⟩ := bnd h
  refine .by1 2 rfl (.call0 hS Tryd.func104 (spec_l42Put_ok hy1) rfl rfl ?_ rfl (by kernel_rfl) rfl rfl) (by kernel_rfl)
  intro W hS
  have hT : Sep _ _ W [.box g1 68 [.int .i64 a0.Op, .int .i64 a0.Rd, .int .i64 a0.Rs, .int .i64 a0.Rt, .int .i64 a0.Imm]] := hS.to [0] rfl
  refine ⟨fun _ => hT, ?_⟩
  obtain ⟨y2, hy2, h⟩ := bnd h
  refine .by1 5 rfl (.call0 hS Tryd.func111 (spec_l42Three_ok hy2) rfl rfl ?_ rfl (by kernel_rfl) rfl rfl) (by kernel_rfl)
  intro W hS
  have hT : Sep _ _ W [.box g1 68 [.int .i64 a0.Op, .int .i64 a0.Rd, .int .i64 a0.Rs, .int .i64 a0.Rt, .int .i64 a0.Imm]] := hS.to [0] rfl
  refine ⟨fun _ => hT, ?_⟩
  obtain ⟨y3, hy3, h⟩ := bnd h
  refine .by1 6 rfl (.call0 hS Tryd.func104 (spec_l42Put_ok hy3) rfl rfl ?_ rfl (by kernel_rfl) rfl rfl) (by kernel_rfl)
  intro W hS
  have hT : Sep _ _ W [.box g1 68 [.int .i64 a0.Op, .int .i64 a0.Rd, .int .i64 a0.Rs, .int .i64 a0.Rt, .int .i64 a0.Imm]] := hS.to [0] rfl
  refine ⟨fun _ => hT, ?_⟩
  refine .t1 7 rfl (fun W hT => pr rfl) hT ?_ (by kernel_rfl) rfl rfl
  refine .t1 9 rfl (fun W hT => pr rfl) hT ?_ (by kernel_rfl) rfl rfl
  refine .t1 10 rfl (fun W hT => pr rfl) hT ?_ (by kernel_rfl) rfl rfl
  refine .done ?_ (by kernel_rfl)
  refine .ret ?_
  cases h
  exact fin_ret (vs := [_]) () (rt rfl rn) rfl (hS.to [] rfl)
theorem spec_l42Imm_ok {a0 : Instr} {a1 : Int} {w : World} {r : Int} (h : spec_l42Imm a0 a1 = some r) : Calls Tryd.prog 102 #[.agg #[.int .i64 a0.Op, .int .i64 a0.Rd, .int .i64 a0.Rs, .int .i64 a0.Rt, .int .i64 a0.Imm], .int .i64 a1] w (Ret No w (fun s : Unit => .int .i64 r) (fun s => [])) := by
  unfold spec_l42Imm at h
  refine enter Tryd.func102 rfl rfl ?_
  have hS := Sep.start w
  refine .seq ?_
  refine .region ?_
  refine .c (.box hS rfl rfl ?_ rfl rfl)
  intro g1 W hS
  refine .p rfl rfl rfl ?_
  refine .nil ?_
  refine .seq ?_
  refine .rk 13 hS [0] T.mix ?_
  intro W hS
  have hT : Sep _ _ W [.box g1 68 [.int .i64 a0.Op, .int .i64 a0.Rd, .int .i64 a0.Rs, .int .i64 a0.Rt, .int .i64 a0.Imm]] := hS.to [0] rfl
  refine .t1 0 rfl (fun W hT => fa T.f68_4 rfl rfl rfl) hT ?_ (by kernel_rfl) rfl rfl
  refine .t1 1 rfl (fun W hT => ld T.t3 hT rfl rfl rfl rfl rfl) hT ?_ (by kernel_rfl) rfl rfl
  refine .t1 4 rfl (fun W hT => ld T.t68 hT rfl rfl rfl rfl rfl) hT ?_ (by kernel_rfl) rfl rfl
  refine .t1 5 rfl (fun W hT => pr rfl) hT ?_ (by kernel_rfl) rfl rfl
  refine .t1 8 rfl (fun W hT => fa T.f68_1 rfl rfl rfl) hT ?_ (by kernel_rfl) rfl rfl
  refine .t1 9 rfl (fun W hT => ld T.t3 hT rfl rfl rfl rfl rfl) hT ?_ (by kernel_rfl) rfl rfl
  obtain ⟨y1, hy1, h⟩ := bnd h
  refine .by1 2 rfl (.call0 hS Tryd.func103 (spec_l42Mod_ok hy1) rfl rfl ?_ rfl (by kernel_rfl) rfl rfl) (by kernel_rfl)
  intro W hS
  have hT : Sep _ _ W [.box g1 68 [.int .i64 a0.Op, .int .i64 a0.Rd, .int .i64 a0.Rs, .int .i64 a0.Rt, .int .i64 a0.Imm]] := hS.to [0] rfl
  refine ⟨fun _ => hT, ?_⟩
  obtain ⟨y2, hy2, h⟩ := bnd h
  refine .by1 3 rfl (.call0 hS Tryd.func104 (spec_l42Put_ok hy2) rfl rfl ?_ rfl (by kernel_rfl) rfl rfl) (by kernel_rfl)
  intro W hS
  have hT : Sep _ _ W [.box g1 68 [.int .i64 a0.Op, .int .i64 a0.Rd, .int .i64 a0.Rs, .int .i64 a0.Rt, .int .i64 a0.Imm]] := hS.to [0] rfl
  refine ⟨fun _ => hT, ?_⟩
  obtain ⟨y3, hy3, h⟩ := bnd h
  refine .by1 6 rfl (.call0 hS Tryd.func106 (spec_l42Mid_ok hy3) rfl rfl ?_ rfl (by kernel_rfl) rfl rfl) (by kernel_rfl)
  intro W hS
  have hT : Sep _ _ W [.box g1 68 [.int .i64 a0.Op, .int .i64 a0.Rd, .int .i64 a0.Rs, .int .i64 a0.Rt, .int .i64 a0.Imm]] := hS.to [0] rfl
  refine ⟨fun _ => hT, ?_⟩
  refine .t1 7 rfl (fun W hT => pr rfl) hT ?_ (by kernel_rfl) rfl rfl
  obtain ⟨y4, hy4, h⟩ := bnd h
  refine .by1 10 rfl (.call0 hS Tryd.func104 (spec_l42Put_ok hy4) rfl rfl ?_ rfl (by kernel_rfl) rfl rfl) (by kernel_rfl)
  intro W hS
  have hT : Sep _ _ W [.box g1 68 [.int .i64 a0.Op, .int .i64 a0.Rd, .int .i64 a0.Rs, .int .i64 a0.Rt, .int .i64 a0.Imm]] := hS.to [0] rfl
  refine ⟨fun _ => hT, ?_⟩
  refine .t1 11 rfl (fun W hT => pr rfl) hT ?_ (by kernel_rfl) rfl rfl
  refine .t1 12 rfl (fun W hT => pr rfl) hT ?_ (by kernel_rfl) rfl rfl
  refine .done ?_ (by kernel_rfl)
  refine .ret ?_
  cases h
  exact fin_ret (vs := [_]) () (rt rfl rn) rfl (hS.to [] rfl)
theorem spec_Bits_ok {a0 : Int} {a1 : Int} {a2 : Int} {w : World} {r : Int} (h : spec_Bits a0 a1 a2 = some r) : Calls Tryd.prog 105 #[.int .i64 a0, .int .i64 a1, .int .i64 a2] w (Ret No w (fun s : Unit => .int .i64 r) (fun s => [])) := by
  unfold spec_Bits at h
  refine enter Tryd.func105 rfl rfl ?_
  have hS := Sep.start w
  refine .seq ?_
  refine .region ?_
  refine .p rfl rfl rfl ?_
  refine .nil ?_
  refine .seq ?_
  refine .seq ?_
  refine .region ?_
  refine .p rfl rfl rfl ?_
  obtain ⟨y1, hy1, h⟩ := bnd h
  refine .c (.call0 hS Tryd.func24 (spec_l6In_ok hy1) rfl rfl ?_ rfl (by kernel_rfl) rfl rfl)
  intro W hS
  refine .p rfl rfl rfl ?_
  refine .p rfl rfl rfl ?_
  obtain ⟨b1, hb1, h⟩ := bnd h
  refine .chunk 4 14 (b1) hS ?_ ?_
  · refine .both (!y1) (fun hb => ?_) (fun hb => ?_)
    · skip
      refine .x hb ?_ rfl rfl
      refine .x hb ?_ rfl rfl
      refine .x hb ?_ rfl rfl
      cases sel_t hb hb1
      refine .r (pkt hb rfl rfl rfl) ?_ rfl rfl
      exact .nil (ck 4 hS rfl rfl rfl rfl)
    · have hg1 := hb
      have h := sel_f hb hb1
      refine .g hg1 (.p rfl rfl rfl ?_) rfl
      obtain ⟨y2, hy2, h⟩ := bnd h
      refine .g hg1 (.c (.call0 hS Tryd.func24 (spec_l6In_ok hy2) rfl rfl ?_ rfl (by kernel_rfl) rfl rfl)) rfl
      intro W hS
      refine .g hg1 (.p rfl rfl rfl ?_) rfl
      refine .r (pkf hg1 rfl rfl rfl) ?_ rfl rfl
      cases h
      exact .nil (ck 4 hS rfl rfl rfl rfl)
  intro W hS
  refine .p rfl rfl rfl ?_
  obtain ⟨b2, hb2, h⟩ := bnd h
  refine .chunk 6 21 (b2) hS ?_ ?_
  · refine .both (b1) (fun hb => ?_) (fun hb => ?_)
    · skip
      refine .x hb ?_ rfl rfl
      refine .x hb ?_ rfl rfl
      refine .x hb ?_ rfl rfl
      refine .x hb ?_ rfl rfl
      refine .x hb ?_ rfl rfl
      cases sel_t hb hb2
      refine .r (pkt hb rfl rfl rfl) ?_ rfl rfl
      exact .nil (ck 6 hS rfl rfl rfl rfl)
    · have hg2 := hb
      have h := sel_f hb hb2
      refine .g hg2 (.p rfl rfl rfl ?_) rfl
      refine .g hg2 (.p rfl rfl rfl ?_) rfl
      refine .g hg2 (.p rfl rfl rfl ?_) rfl
      obtain ⟨y3, hy3, h⟩ := bnd h
      refine .g hg2 (.c (.call0 hS Tryd.func24 (spec_l6In_ok hy3) rfl rfl ?_ rfl (by kernel_rfl) rfl rfl)) rfl
      intro W hS
      refine .g hg2 (.p rfl rfl rfl ?_) rfl
      refine .r (pkf hg2 rfl rfl rfl) ?_ rfl rfl
      cases h
      exact .nil (ck 6 hS rfl rfl rfl rfl)
  intro W hS
  refine .nil ?_
  refine .cond rfl (fun hb => ?_) (fun hb => ?_)
  · have h := sel_t hb h
    refine .seq ?_
    refine .region ?_
    refine .p rfl rfl rfl ?_
    refine .nil ?_
    refine .ret ?_
    cases h
    exact fin_ret (vs := [_]) () (rt rfl rn) rfl (hS.to [] rfl)
  · have h := sel_f hb h
    refine .skip ?_
    refine .seq ?_
    refine .rk 8 hS [] T.mix ?_
    intro W hS
    have hT : Sep _ _ W [] := hS.to [] rfl
    refine .t1 0 rfl (fun W hT => pr rfl) hT ?_ (by kernel_rfl) rfl rfl
    refine .t1 1 rfl (fun W hT => pr rfl) hT ?_ (by kernel_rfl) rfl rfl
    refine .t1 4 rfl (fun W hT => pr rfl) hT ?_ (by kernel_rfl) rfl rfl
    obtain ⟨y4, hy4, h⟩ := bnd h
    refine .by1 2 rfl (.call0 hS Tryd.func115 (spec_l1Power_ok hy4) rfl rfl ?_ rfl (by kernel_rfl) rfl rfl) (by kernel_rfl)
    intro W hS
    have hT : Sep _ _ W [] := hS.to [] rfl
    refine ⟨fun _ => hT, ?_⟩
    obtain ⟨d1, hd1, h⟩ := bnd h
    refine .t1 3 rfl (fun W hT => dq hd1 rfl rfl rfl) hT ?_ (by kernel_rfl) rfl rfl
    obtain ⟨y5, hy5, h⟩ := bnd h
    refine .by1 5 rfl (.call0 hS Tryd.func115 (spec_l1Power_ok hy5) rfl rfl ?_ rfl (by kernel_rfl) rfl rfl) (by kernel_rfl)
    intro W hS
    have hT : Sep _ _ W [] := hS.to [] rfl
    refine ⟨fun _ => hT, ?_⟩
    obtain ⟨d2, hd2, h⟩ := bnd h
    refine .t1 6 rfl (fun W hT => dr hd2 rfl rfl rfl) hT ?_ (by kernel_rfl) rfl rfl
    refine .t1 7 rfl (fun W hT => pr rfl) hT ?_ (by kernel_rfl) rfl rfl
    refine .done ?_ (by kernel_rfl)
    refine .ret ?_
    cases h
    exact fin_ret (vs := [_]) () (rt rfl rn) rfl (hS.to [] rfl)
theorem spec_l42Branch_ok {a0 : Instr} {w : World} {r : Int} (h : spec_l42Branch a0 = some r) : Calls Tryd.prog 107 #[.agg #[.int .i64 a0.Op, .int .i64 a0.Rd, .int .i64 a0.Rs, .int .i64 a0.Rt, .int .i64 a0.Imm]] w (Ret No w (fun s : Unit => .int .i64 r) (fun s => [])) := by
  unfold spec_l42Branch at h
  refine enter Tryd.func107 rfl rfl ?_
  have hS := Sep.start w
  refine .seq ?_
  refine .region ?_
  refine .c (.box hS rfl rfl ?_ rfl rfl)
  intro g1 W hS
  refine .p rfl rfl rfl ?_
  refine .nil ?_
  refine .seq ?_
  refine .region ?_
  refine .r (fa T.f68_4 rfl rfl rfl) ?_ rfl rfl
  refine .r (ld T.t3 hS rfl rfl rfl rfl rfl) ?_ rfl rfl
  obtain ⟨y1, hy1, h⟩ := bnd h
  refine .c (.call0 hS Tryd.func103 (spec_l42Mod_ok hy1) rfl rfl ?_ rfl (by kernel_rfl) rfl rfl)
  intro W hS
  refine .p rfl rfl rfl ?_
  refine .nil ?_
  refine .seq ?_
  refine .rk 12 hS [0] T.mix ?_
  intro W hS
  have hT : Sep _ _ W [.box g1 68 [.int .i64 a0.Op, .int .i64 a0.Rd, .int .i64 a0.Rs, .int .i64 a0.Rt, .int .i64 a0.Imm]] := hS.to [0] rfl
  refine .t1 0 rfl (fun W hT => pr rfl) hT ?_ (by kernel_rfl) rfl rfl
  refine .t1 3 rfl (fun W hT => pr rfl) hT ?_ (by kernel_rfl) rfl rfl
  refine .t1 7 rfl (fun W hT => fa T.f68_3 rfl rfl rfl) hT ?_ (by kernel_rfl) rfl rfl
  refine .t1 8 rfl (fun W hT => ld T.t3 hT rfl rfl rfl rfl rfl) hT ?_ (by kernel_rfl) rfl rfl
  obtain ⟨y2, hy2, h⟩ := bnd h
  refine .by1 1 rfl (.call0 hS Tryd.func105 (spec_Bits_ok hy2) rfl rfl ?_ rfl (by kernel_rfl) rfl rfl) (by kernel_rfl)
  intro W hS
  have hT : Sep _ _ W [.box g1 68 [.int .i64 a0.Op, .int .i64 a0.Rd, .int .i64 a0.Rs, .int .i64 a0.Rt, .int .i64 a0.Imm]] := hS.to [0] rfl
  refine ⟨fun _ => hT, ?_⟩
  obtain ⟨y3, hy3, h⟩ := bnd h
  refine .by1 2 rfl (.call0 hS Tryd.func104 (spec_l42Put_ok hy3) rfl rfl ?_ rfl (by kernel_rfl) rfl rfl) (by kernel_rfl)
  intro W hS
  have hT : Sep _ _ W [.box g1 68 [.int .i64 a0.Op, .int .i64 a0.Rd, .int .i64 a0.Rs, .int .i64 a0.Rt, .int .i64 a0.Imm]] := hS.to [0] rfl
  refine ⟨fun _ => hT, ?_⟩
  obtain ⟨y4, hy4, h⟩ := bnd h
  refine .by1 4 rfl (.call0 hS Tryd.func105 (spec_Bits_ok hy4) rfl rfl ?_ rfl (by kernel_rfl) rfl rfl) (by kernel_rfl)
  intro W hS
  have hT : Sep _ _ W [.box g1 68 [.int .i64 a0.Op, .int .i64 a0.Rd, .int .i64 a0.Rs, .int .i64 a0.Rt, .int .i64 a0.Imm]] := hS.to [0] rfl
  refine ⟨fun _ => hT, ?_⟩
  obtain ⟨y5, hy5, h⟩ := bnd h
  refine .by1 5 rfl (.call0 hS Tryd.func104 (spec_l42Put_ok hy5) rfl rfl ?_ rfl (by kernel_rfl) rfl rfl) (by kernel_rfl)
  intro W hS
  have hT : Sep _ _ W [.box g1 68 [.int .i64 a0.Op, .int .i64 a0.Rd, .int .i64 a0.Rs, .int .i64 a0.Rt, .int .i64 a0.Imm]] := hS.to [0] rfl
  refine ⟨fun _ => hT, ?_⟩
  refine .t1 6 rfl (fun W hT => pr rfl) hT ?_ (by kernel_rfl) rfl rfl
  obtain ⟨y6, hy6, h⟩ := bnd h
  refine .by1 9 rfl (.call0 hS Tryd.func104 (spec_l42Put_ok hy6) rfl rfl ?_ rfl (by kernel_rfl) rfl rfl) (by kernel_rfl)
  intro W hS
  have hT : Sep _ _ W [.box g1 68 [.int .i64 a0.Op, .int .i64 a0.Rd, .int .i64 a0.Rs, .int .i64 a0.Rt, .int .i64 a0.Imm]] := hS.to [0] rfl
  refine ⟨fun _ => hT, ?_⟩
  refine .t1 10 rfl (fun W hT => pr rfl) hT ?_ (by kernel_rfl) rfl rfl
  refine .t1 11 rfl (fun W hT => pr rfl) hT ?_ (by kernel_rfl) rfl rfl
  refine .done ?_ (by kernel_rfl)
  refine .seq ?_
  refine .region ?_
  refine .p rfl rfl rfl ?_
  refine .r (ld T.t68 hS rfl rfl rfl rfl rfl) ?_ rfl rfl
  obtain ⟨y7, hy7, h⟩ := bnd h
  refine .c (.call0 hS Tryd.func106 (spec_l42Mid_ok hy7) rfl rfl ?_ rfl (by kernel_rfl) rfl rfl)
  intro W hS
  refine .p rfl rfl rfl ?_
  refine .p rfl rfl rfl ?_
  obtain ⟨y8, hy8, h⟩ := bnd h
  refine .c (.call0 hS Tryd.func105 (spec_Bits_ok hy8) rfl rfl ?_ rfl (by kernel_rfl) rfl rfl)
  intro W hS
  obtain ⟨y9, hy9, h⟩ := bnd h
  refine .c (.call0 hS Tryd.func104 (spec_l42Put_ok hy9) rfl rfl ?_ rfl (by kernel_rfl) rfl rfl)
  intro W hS
  refine .p rfl rfl rfl ?_
  refine .p rfl rfl rfl ?_
  obtain ⟨y10, hy10, h⟩ := bnd h
  refine .c (.call0 hS Tryd.func105 (spec_Bits_ok hy10) rfl rfl ?_ rfl (by kernel_rfl) rfl rfl)
  intro W hS
  obtain ⟨y11, hy11, h⟩ := bnd h
  refine .c (.call0 hS Tryd.func104 (spec_l42Put_ok hy11) rfl rfl ?_ rfl (by kernel_rfl) rfl rfl)
  intro W hS
  refine .p rfl rfl rfl ?_
  refine .p rfl rfl rfl ?_
  refine .nil ?_
  refine .ret ?_
  cases h
  exact fin_ret (vs := [_]) () (rt rfl rn) rfl (hS.to [] rfl)
theorem spec_l42Jump_ok {a0 : Instr} {w : World} {r : Int} (h : spec_l42Jump a0 = some r) : Calls Tryd.prog 108 #[.agg #[.int .i64 a0.Op, .int .i64 a0.Rd, .int .i64 a0.Rs, .int .i64 a0.Rt, .int .i64 a0.Imm]] w (Ret No w (fun s : Unit => .int .i64 r) (fun s => [])) := by
  unfold spec_l42Jump at h
  refine enter Tryd.func108 rfl rfl ?_
  have hS := Sep.start w
  refine .seq ?_
  refine .region ?_
  refine .c (.box hS rfl rfl ?_ rfl rfl)
  intro g1 W hS
  refine .p rfl rfl rfl ?_
  refine .nil ?_
  refine .seq ?_
  refine .region ?_
  refine .r (fa T.f68_4 rfl rfl rfl) ?_ rfl rfl
  refine .r (ld T.t3 hS rfl rfl rfl rfl rfl) ?_ rfl rfl
  obtain ⟨y1, hy1, h⟩ := bnd h
  refine .c (.call0 hS Tryd.func103 (spec_l42Mod_ok hy1) rfl rfl ?_ rfl (by kernel_rfl) rfl rfl)
  intro W hS
  refine .p rfl rfl rfl ?_
  refine .nil ?_
  refine .seq ?_
  refine .region ?_
  refine .p rfl rfl rfl ?_
  obtain ⟨y2, hy2, h⟩ := bnd h
  refine .c (.call0 hS Tryd.func105 (spec_Bits_ok hy2) rfl rfl ?_ rfl (by kernel_rfl) rfl rfl)
  intro W hS
  obtain ⟨y3, hy3, h⟩ := bnd h
  refine .c (.call0 hS Tryd.func104 (spec_l42Put_ok hy3) rfl rfl ?_ rfl (by kernel_rfl) rfl rfl)
  intro W hS
  refine .p rfl rfl rfl ?_
  obtain ⟨y4, hy4, h⟩ := bnd h
  refine .c (.call0 hS Tryd.func105 (spec_Bits_ok hy4) rfl rfl ?_ rfl (by kernel_rfl) rfl rfl)
  intro W hS
  obtain ⟨y5, hy5, h⟩ := bnd h
  refine .c (.call0 hS Tryd.func104 (spec_l42Put_ok hy5) rfl rfl ?_ rfl (by kernel_rfl) rfl rfl)
  intro W hS
  refine .p rfl rfl rfl ?_
  refine .p rfl rfl rfl ?_
  obtain ⟨y6, hy6, h⟩ := bnd h
  refine .c (.call0 hS Tryd.func105 (spec_Bits_ok hy6) rfl rfl ?_ rfl (by kernel_rfl) rfl rfl)
  intro W hS
  obtain ⟨y7, hy7, h⟩ := bnd h
  refine .c (.call0 hS Tryd.func104 (spec_l42Put_ok hy7) rfl rfl ?_ rfl (by kernel_rfl) rfl rfl)
  intro W hS
  refine .p rfl rfl rfl ?_
  refine .p rfl rfl rfl ?_
  refine .nil ?_
  refine .seq ?_
  refine .rk 11 hS [0] T.mix ?_
  intro W hS
  have hT : Sep _ _ W [.box g1 68 [.int .i64 a0.Op, .int .i64 a0.Rd, .int .i64 a0.Rs, .int .i64 a0.Rt, .int .i64 a0.Imm]] := hS.to [0] rfl
  refine .t1 0 rfl (fun W hT => pr rfl) hT ?_ (by kernel_rfl) rfl rfl
  refine .t1 1 rfl (fun W hT => pr rfl) hT ?_ (by kernel_rfl) rfl rfl
  refine .t1 5 rfl (fun W hT => fa T.f68_1 rfl rfl rfl) hT ?_ (by kernel_rfl) rfl rfl
  refine .t1 6 rfl (fun W hT => ld T.t3 hT rfl rfl rfl rfl rfl) hT ?_ (by kernel_rfl) rfl rfl
  obtain ⟨y8, hy8, h⟩ := bnd h
  refine .by1 2 rfl (.call0 hS Tryd.func105 (spec_Bits_ok hy8) rfl rfl ?_ rfl (by kernel_rfl) rfl rfl) (by kernel_rfl)
  intro W hS
  have hT : Sep _ _ W [.box g1 68 [.int .i64 a0.Op, .int .i64 a0.Rd, .int .i64 a0.Rs, .int .i64 a0.Rt, .int .i64 a0.Imm]] := hS.to [0] rfl
  refine ⟨fun _ => hT, ?_⟩
  obtain ⟨y9, hy9, h⟩ := bnd h
  refine .by1 3 rfl (.call0 hS Tryd.func104 (spec_l42Put_ok hy9) rfl rfl ?_ rfl (by kernel_rfl) rfl rfl) (by kernel_rfl)
  intro W hS
  have hT : Sep _ _ W [.box g1 68 [.int .i64 a0.Op, .int .i64 a0.Rd, .int .i64 a0.Rs, .int .i64 a0.Rt, .int .i64 a0.Imm]] := hS.to [0] rfl
  refine ⟨fun _ => hT, ?_⟩
  refine .t1 4 rfl (fun W hT => pr rfl) hT ?_ (by kernel_rfl) rfl rfl
  obtain ⟨y10, hy10, h⟩ := bnd h
  refine .by1 7 rfl (.call0 hS Tryd.func104 (spec_l42Put_ok hy10) rfl rfl ?_ rfl (by kernel_rfl) rfl rfl) (by kernel_rfl)
  intro W hS
  have hT : Sep _ _ W [.box g1 68 [.int .i64 a0.Op, .int .i64 a0.Rd, .int .i64 a0.Rs, .int .i64 a0.Rt, .int .i64 a0.Imm]] := hS.to [0] rfl
  refine ⟨fun _ => hT, ?_⟩
  refine .t1 8 rfl (fun W hT => pr rfl) hT ?_ (by kernel_rfl) rfl rfl
  refine .t1 9 rfl (fun W hT => pr rfl) hT ?_ (by kernel_rfl) rfl rfl
  refine .t1 10 rfl (fun W hT => pr rfl) hT ?_ (by kernel_rfl) rfl rfl
  refine .done ?_ (by kernel_rfl)
  refine .ret ?_
  cases h
  exact fin_ret (vs := [_]) () (rt rfl rn) rfl (hS.to [] rfl)
theorem spec_l42Seven_ok {a0 : Int} {w : World} {r : Int} (h : spec_l42Seven a0 = some r) : Calls Tryd.prog 109 #[.int .i64 a0] w (Ret No w (fun s : Unit => .int .i64 r) (fun s => [])) := by
  unfold spec_l42Seven at h
  refine enter Tryd.func109 rfl rfl ?_
  have hS := Sep.start w
  refine .seq ?_
  refine .region ?_
  refine .p rfl rfl rfl ?_
  refine .nil ?_
  refine .seq ?_
  refine .region ?_
  refine .c (.liv [0, 32, 1, 1, 1, 0, 0, 0, 0, 32, 0] (D.int .i64) T.u22 T.t3 hS rfl rfl rfl rfl ?_ rfl (fun _ => rfl) rfl rfl rfl rfl)
  intro v1 W hS
  refine .p rfl rfl rfl ?_
  refine .p rfl rfl rfl ?_
  obtain ⟨x1, hx1, h⟩ := bnd h
  refine .r (ixv hS.lendv hx1 T.u22 T.t3 rfl rfl rfl) ?_ rfl rfl
  refine .r (lde (RV.flat hS.lendv hx1 rfl) T.t3 rfl rfl rfl rfl rfl) ?_ rfl rfl
  refine .p rfl rfl rfl ?_
  refine .nil ?_
  refine .ret ?_
  cases h
  exact fin_ret (vs := [_]) () (rt rfl rn) rfl (hS.to [] rfl)
theorem spec_l42Encode_ok {a0 : Instr} {w : World} {r : Int} (h : spec_l42Encode a0 = some r) : Calls Tryd.prog 78 #[.agg #[.int .i64 a0.Op, .int .i64 a0.Rd, .int .i64 a0.Rs, .int .i64 a0.Rt, .int .i64 a0.Imm]] w (Ret No w (fun s : Unit => .int .i64 r) (fun s => [])) := by
  unfold spec_l42Encode at h
  refine enter Tryd.func78 rfl rfl ?_
  have hS := Sep.start w
  refine .seq ?_
  refine .region ?_
  refine .c (.box hS rfl rfl ?_ rfl rfl)
  intro g1 W hS
  refine .p rfl rfl rfl ?_
  refine .nil ?_
  refine .seq ?_
  refine .seq ?_
  refine .region ?_
  refine .r (fa T.f68_0 rfl rfl rfl) ?_ rfl rfl
  refine .r (ld T.t3 hS rfl rfl rfl rfl rfl) ?_ rfl rfl
  refine .nil ?_
  refine .block ?_
  obtain ⟨y1, hy1, h⟩ := bnd h
  refine .seq (CW.via (R' := fun x E' W' => x = .normal ∧ SubL E' [(1, .pointer (some ⟨g1, 0, none⟩)), (5, .int .i64 a0.Op), (6, .bool y1)] ∧ Sep No w W' [.box g1 68 [.int .i64 a0.Op, .int .i64 a0.Rd, .int .i64 a0.Rs, .int .i64 a0.Rt, .int .i64 a0.Imm]]) ?_ ?_)
  · have h := hy1
    refine .seq ?_
    refine .region ?_
    refine .p rfl rfl rfl ?_
    refine .p rfl rfl rfl ?_
    refine .nil ?_
    refine .cond rfl (fun hb => ?_) (fun hb => ?_)
    · have h := sel_t hb h
      refine .skip ?_
      cases h
      exact ⟨rfl, sb rfl, hS.to [0] rfl⟩
    · have h := sel_f hb h
      refine .region ?_
      refine .p rfl rfl rfl ?_
      refine .p rfl rfl rfl ?_
      refine .nil ?_
      cases h
      exact ⟨rfl, sb rfl, hS.to [0] rfl⟩
  · intro x E W hJ
    obtain ⟨rfl, hE, hS⟩ := hJ
    refine ⟨_, hE.sub, ?_⟩
    refine .cond rfl (fun hb => ?_) (fun hb => ?_)
    · have h := sel_t hb h
      refine .seq ?_
      refine .region ?_
      refine .r (ld T.t68 hS rfl rfl rfl rfl rfl) ?_ rfl rfl
      obtain ⟨y2, hy2, h⟩ := bnd h
      refine .c (.call0 hS Tryd.func102 (spec_l42Imm_ok hy2) rfl rfl ?_ rfl (by kernel_rfl) rfl rfl)
      intro W hS
      refine .p rfl rfl rfl ?_
      refine .nil ?_
      refine .ret ?_
      cases h
      exact fin_ret (vs := [_]) () (rt rfl rn) rfl (hS.to [] rfl)
    · have h := sel_f hb h
      refine .seq ?_
      refine .region ?_
      refine .p rfl rfl rfl ?_
      refine .p rfl rfl rfl ?_
      refine .nil ?_
      refine .cond rfl (fun hb => ?_) (fun hb => ?_)
      · have h := sel_t hb h
        refine .seq ?_
        refine .region ?_
        refine .r (ld T.t68 hS rfl rfl rfl rfl rfl) ?_ rfl rfl
        obtain ⟨y3, hy3, h⟩ := bnd h
        refine .c (.call0 hS Tryd.func102 (spec_l42Imm_ok hy3) rfl rfl ?_ rfl (by kernel_rfl) rfl rfl)
        intro W hS
        refine .p rfl rfl rfl ?_
        refine .nil ?_
        refine .ret ?_
        cases h
        exact fin_ret (vs := [_]) () (rt rfl rn) rfl (hS.to [] rfl)
      · have h := sel_f hb h
        refine .seq ?_
        refine .region ?_
        refine .p rfl rfl rfl ?_
        refine .p rfl rfl rfl ?_
        refine .nil ?_
        refine .cond rfl (fun hb => ?_) (fun hb => ?_)
        · have h := sel_t hb h
          refine .seq ?_
          refine .region ?_
          refine .r (ld T.t68 hS rfl rfl rfl rfl rfl) ?_ rfl rfl
          obtain ⟨y4, hy4, h⟩ := bnd h
          refine .c (.call0 hS Tryd.func102 (spec_l42Imm_ok hy4) rfl rfl ?_ rfl (by kernel_rfl) rfl rfl)
          intro W hS
          refine .p rfl rfl rfl ?_
          refine .nil ?_
          refine .ret ?_
          cases h
          exact fin_ret (vs := [_]) () (rt rfl rn) rfl (hS.to [] rfl)
        · have h := sel_f hb h
          refine .seq ?_
          refine .region ?_
          refine .p rfl rfl rfl ?_
          refine .p rfl rfl rfl ?_
          refine .nil ?_
          refine .cond rfl (fun hb => ?_) (fun hb => ?_)
          · have h := sel_t hb h
            refine .seq ?_
            refine .region ?_
            refine .r (fa T.f68_4 rfl rfl rfl) ?_ rfl rfl
            refine .r (ld T.t3 hS rfl rfl rfl rfl rfl) ?_ rfl rfl
            obtain ⟨y5, hy5, h⟩ := bnd h
            refine .c (.call0 hS Tryd.func103 (spec_l42Mod_ok hy5) rfl rfl ?_ rfl (by kernel_rfl) rfl rfl)
            intro W hS
            refine .p rfl rfl rfl ?_
            refine .nil ?_
            refine .seq ?_
            refine .rk 15 hS [0] T.mix ?_
            intro W hS
            have hT : Sep _ _ W [.box g1 68 [.int .i64 a0.Op, .int .i64 a0.Rd, .int .i64 a0.Rs, .int .i64 a0.Rt, .int .i64 a0.Imm]] := hS.to [0] rfl
            refine .t1 0 rfl (fun W hT => pr rfl) hT ?_ (by kernel_rfl) rfl rfl
            refine .t1 3 rfl (fun W hT => fa T.f68_3 rfl rfl rfl) hT ?_ (by kernel_rfl) rfl rfl
            refine .t1 4 rfl (fun W hT => ld T.t3 hT rfl rfl rfl rfl rfl) hT ?_ (by kernel_rfl) rfl rfl
            refine .t1 7 rfl (fun W hT => ld T.t68 hT rfl rfl rfl rfl rfl) hT ?_ (by kernel_rfl) rfl rfl
            refine .t1 10 rfl (fun W hT => pr rfl) hT ?_ (by kernel_rfl) rfl rfl
            obtain ⟨y6, hy6, h⟩ := bnd h
            refine .by1 1 rfl (.call0 hS Tryd.func105 (spec_Bits_ok hy6) rfl rfl ?_ rfl (by kernel_rfl) rfl rfl) (by kernel_rfl)
            intro W hS
            have hT : Sep _ _ W [.box g1 68 [.int .i64 a0.Op, .int .i64 a0.Rd, .int .i64 a0.Rs, .int .i64 a0.Rt, .int .i64 a0.Imm]] := hS.to [0] rfl
            refine ⟨fun _ => hT, ?_⟩
            obtain ⟨y7, hy7, h⟩ := bnd h
            refine .by1 2 rfl (.call0 hS Tryd.func104 (spec_l42Put_ok hy7) rfl rfl ?_ rfl (by kernel_rfl) rfl rfl) (by kernel_rfl)
            intro W hS
            have hT : Sep _ _ W [.box g1 68 [.int .i64 a0.Op, .int .i64 a0.Rd, .int .i64 a0.Rs, .int .i64 a0.Rt, .int .i64 a0.Imm]] := hS.to [0] rfl
            refine ⟨fun _ => hT, ?_⟩
            obtain ⟨y8, hy8, h⟩ := bnd h
            refine .by1 5 rfl (.call0 hS Tryd.func104 (spec_l42Put_ok hy8) rfl rfl ?_ rfl (by kernel_rfl) rfl rfl) (by kernel_rfl)
            intro W hS
            have hT : Sep _ _ W [.box g1 68 [.int .i64 a0.Op, .int .i64 a0.Rd, .int .i64 a0.Rs, .int .i64 a0.Rt, .int .i64 a0.Imm]] := hS.to [0] rfl
            refine ⟨fun _ => hT, ?_⟩
            refine .t1 6 rfl (fun W hT => pr rfl) hT ?_ (by kernel_rfl) rfl rfl
            obtain ⟨y9, hy9, h⟩ := bnd h
            refine .by1 8 rfl (.call0 hS Tryd.func106 (spec_l42Mid_ok hy9) rfl rfl ?_ rfl (by kernel_rfl) rfl rfl) (by kernel_rfl)
            intro W hS
            have hT : Sep _ _ W [.box g1 68 [.int .i64 a0.Op, .int .i64 a0.Rd, .int .i64 a0.Rs, .int .i64 a0.Rt, .int .i64 a0.Imm]] := hS.to [0] rfl
            refine ⟨fun _ => hT, ?_⟩
            refine .t1 9 rfl (fun W hT => pr rfl) hT ?_ (by kernel_rfl) rfl rfl
            obtain ⟨y10, hy10, h⟩ := bnd h
            refine .by1 11 rfl (.call0 hS Tryd.func105 (spec_Bits_ok hy10) rfl rfl ?_ rfl (by kernel_rfl) rfl rfl) (by kernel_rfl)
            intro W hS
            have hT : Sep _ _ W [.box g1 68 [.int .i64 a0.Op, .int .i64 a0.Rd, .int .i64 a0.Rs, .int .i64 a0.Rt, .int .i64 a0.Imm]] := hS.to [0] rfl
            refine ⟨fun _ => hT, ?_⟩
            obtain ⟨y11, hy11, h⟩ := bnd h
            refine .by1 12 rfl (.call0 hS Tryd.func104 (spec_l42Put_ok hy11) rfl rfl ?_ rfl (by kernel_rfl) rfl rfl) (by kernel_rfl)
            intro W hS
            have hT : Sep _ _ W [.box g1 68 [.int .i64 a0.Op, .int .i64 a0.Rd, .int .i64 a0.Rs, .int .i64 a0.Rt, .int .i64 a0.Imm]] := hS.to [0] rfl
            refine ⟨fun _ => hT, ?_⟩
            refine .t1 13 rfl (fun W hT => pr rfl) hT ?_ (by kernel_rfl) rfl rfl
            refine .t1 14 rfl (fun W hT => pr rfl) hT ?_ (by kernel_rfl) rfl rfl
            refine .done ?_ (by kernel_rfl)
            refine .ret ?_
            cases h
            exact fin_ret (vs := [_]) () (rt rfl rn) rfl (hS.to [] rfl)
          · have h := sel_f hb h
            obtain ⟨y12, hy12, h⟩ := bnd h
            refine .seq (CW.via (R' := fun x E' W' => x = .normal ∧ SubL E' [(1, .pointer (some ⟨g1, 0, none⟩)), (5, .int .i64 a0.Op), (38, .bool y12)] ∧ Sep No w W' [.box g1 68 [.int .i64 a0.Op, .int .i64 a0.Rd, .int .i64 a0.Rs, .int .i64 a0.Rt, .int .i64 a0.Imm]]) ?_ ?_)
            · have h := hy12
              refine .seq ?_
              refine .region ?_
              refine .p rfl rfl rfl ?_
              refine .p rfl rfl rfl ?_
              refine .nil ?_
              refine .cond rfl (fun hb => ?_) (fun hb => ?_)
              · have h := sel_t hb h
                refine .skip ?_
                cases h
                exact ⟨rfl, sb rfl, hS.to [0] rfl⟩
              · have h := sel_f hb h
                refine .region ?_
                refine .p rfl rfl rfl ?_
                refine .p rfl rfl rfl ?_
                refine .nil ?_
                cases h
                exact ⟨rfl, sb rfl, hS.to [0] rfl⟩
            · intro x E W hJ
              obtain ⟨rfl, hE, hS⟩ := hJ
              refine ⟨_, hE.sub, ?_⟩
              refine .cond rfl (fun hb => ?_) (fun hb => ?_)
              · have h := sel_t hb h
                refine .seq ?_
                refine .region ?_
                refine .r (ld T.t68 hS rfl rfl rfl rfl rfl) ?_ rfl rfl
                obtain ⟨y13, hy13, h⟩ := bnd h
                refine .c (.call0 hS Tryd.func107 (spec_l42Branch_ok hy13) rfl rfl ?_ rfl (by kernel_rfl) rfl rfl)
                intro W hS
                refine .p rfl rfl rfl ?_
                refine .nil ?_
                refine .ret ?_
                cases h
                exact fin_ret (vs := [_]) () (rt rfl rn) rfl (hS.to [] rfl)
              · have h := sel_f hb h
                refine .seq ?_
                refine .region ?_
                refine .p rfl rfl rfl ?_
                refine .p rfl rfl rfl ?_
                refine .nil ?_
                refine .cond rfl (fun hb => ?_) (fun hb => ?_)
                · have h := sel_t hb h
                  refine .seq ?_
                  refine .rk 9 hS [0] T.mix ?_
                  intro W hS
                  have hT : Sep _ _ W [.box g1 68 [.int .i64 a0.Op, .int .i64 a0.Rd, .int .i64 a0.Rs, .int .i64 a0.Rt, .int .i64 a0.Imm]] := hS.to [0] rfl
                  refine .t1 0 rfl (fun W hT => fa T.f68_4 rfl rfl rfl) hT ?_ (by kernel_rfl) rfl rfl
                  refine .t1 1 rfl (fun W hT => ld T.t3 hT rfl rfl rfl rfl rfl) hT ?_ (by kernel_rfl) rfl rfl
                  refine .t1 3 rfl (fun W hT => fa T.f68_1 rfl rfl rfl) hT ?_ (by kernel_rfl) rfl rfl
                  refine .t1 4 rfl (fun W hT => ld T.t3 hT rfl rfl rfl rfl rfl) hT ?_ (by kernel_rfl) rfl rfl
                  obtain ⟨y14, hy14, h⟩ := bnd h
                  refine .by1 2 rfl (.call0 hS Tryd.func104 (spec_l42Put_ok hy14) rfl rfl ?_ rfl (by kernel_rfl) rfl rfl) (by kernel_rfl)
                  intro W hS
                  have hT : Sep _ _ W [.box g1 68 [.int .i64 a0.Op, .int .i64 a0.Rd, .int .i64 a0.Rs, .int .i64 a0.Rt, .int .i64 a0.Imm]] := hS.to [0] rfl
                  refine ⟨fun _ => hT, ?_⟩
                  obtain ⟨y15, hy15, h⟩ := bnd h
                  refine .by1 5 rfl (.call0 hS Tryd.func104 (spec_l42Put_ok hy15) rfl rfl ?_ rfl (by kernel_rfl) rfl rfl) (by kernel_rfl)
                  intro W hS
                  have hT : Sep _ _ W [.box g1 68 [.int .i64 a0.Op, .int .i64 a0.Rd, .int .i64 a0.Rs, .int .i64 a0.Rt, .int .i64 a0.Imm]] := hS.to [0] rfl
                  refine ⟨fun _ => hT, ?_⟩
                  refine .t1 6 rfl (fun W hT => pr rfl) hT ?_ (by kernel_rfl) rfl rfl
                  refine .t1 7 rfl (fun W hT => pr rfl) hT ?_ (by kernel_rfl) rfl rfl
                  refine .t1 8 rfl (fun W hT => pr rfl) hT ?_ (by kernel_rfl) rfl rfl
                  refine .done ?_ (by kernel_rfl)
                  refine .ret ?_
                  cases h
                  exact fin_ret (vs := [_]) () (rt rfl rn) rfl (hS.to [] rfl)
                · have h := sel_f hb h
                  refine .seq ?_
                  refine .region ?_
                  refine .p rfl rfl rfl ?_
                  refine .p rfl rfl rfl ?_
                  refine .nil ?_
                  refine .cond rfl (fun hb => ?_) (fun hb => ?_)
                  · have h := sel_t hb h
                    refine .seq ?_
                    refine .region ?_
                    refine .r (ld T.t68 hS rfl rfl rfl rfl rfl) ?_ rfl rfl
                    obtain ⟨y16, hy16, h⟩ := bnd h
                    refine .c (.call0 hS Tryd.func108 (spec_l42Jump_ok hy16) rfl rfl ?_ rfl (by kernel_rfl) rfl rfl)
                    intro W hS
                    refine .p rfl rfl rfl ?_
                    refine .nil ?_
                    refine .ret ?_
                    cases h
                    exact fin_ret (vs := [_]) () (rt rfl rn) rfl (hS.to [] rfl)
                  · have h := sel_f hb h
                    refine .seq ?_
                    refine .region ?_
                    refine .p rfl rfl rfl ?_
                    refine .p rfl rfl rfl ?_
                    refine .nil ?_
                    refine .cond rfl (fun hb => ?_) (fun hb => ?_)
                    · have h := sel_t hb h
                      refine .seq ?_
                      refine .region ?_
                      refine .p rfl rfl rfl ?_
                      refine .nil ?_
                      refine .ret ?_
                      cases h
                      exact fin_ret (vs := [_]) () (rt rfl rn) rfl (hS.to [] rfl)
                    · have h := sel_f hb h
                      refine .skip ?_
                      refine .seq ?_
                      refine .rk 16 hS [0] T.mix ?_
                      intro W hS
                      have hT : Sep _ _ W [.box g1 68 [.int .i64 a0.Op, .int .i64 a0.Rd, .int .i64 a0.Rs, .int .i64 a0.Rt, .int .i64 a0.Imm]] := hS.to [0] rfl
                      refine .t1 0 rfl (fun W hT => fa T.f68_0 rfl rfl rfl) hT ?_ (by kernel_rfl) rfl rfl
                      refine .t1 1 rfl (fun W hT => ld T.t3 hT rfl rfl rfl rfl rfl) hT ?_ (by kernel_rfl) rfl rfl
                      refine .t1 4 rfl (fun W hT => fa T.f68_3 rfl rfl rfl) hT ?_ (by kernel_rfl) rfl rfl
                      refine .t1 5 rfl (fun W hT => ld T.t3 hT rfl rfl rfl rfl rfl) hT ?_ (by kernel_rfl) rfl rfl
                      refine .t1 8 rfl (fun W hT => ld T.t68 hT rfl rfl rfl rfl rfl) hT ?_ (by kernel_rfl) rfl rfl
                      refine .t1 11 rfl (fun W hT => fa T.f68_1 rfl rfl rfl) hT ?_ (by kernel_rfl) rfl rfl
                      refine .t1 12 rfl (fun W hT => ld T.t3 hT rfl rfl rfl rfl rfl) hT ?_ (by kernel_rfl) rfl rfl
                      obtain ⟨y17, hy17, h⟩ := bnd h
                      refine .by1 2 rfl (.call0 hS Tryd.func109 (spec_l42Seven_ok hy17) rfl rfl ?_ rfl (by kernel_rfl) rfl rfl) (by kernel_rfl)
                      intro W hS
                      have hT : Sep _ _ W [.box g1 68 [.int .i64 a0.Op, .int .i64 a0.Rd, .int .i64 a0.Rs, .int .i64 a0.Rt, .int .i64 a0.Imm]] := hS.to [0] rfl
                      refine ⟨fun _ => hT, ?_⟩
                      obtain ⟨y18, hy18, h⟩ := bnd h
                      refine .by1 3 rfl (.call0 hS Tryd.func104 (spec_l42Put_ok hy18) rfl rfl ?_ rfl (by kernel_rfl) rfl rfl) (by kernel_rfl)
                      intro W hS
                      have hT : Sep _ _ W [.box g1 68 [.int .i64 a0.Op, .int .i64 a0.Rd, .int .i64 a0.Rs, .int .i64 a0.Rt, .int .i64 a0.Imm]] := hS.to [0] rfl
                      refine ⟨fun _ => hT, ?_⟩
                      obtain ⟨y19, hy19, h⟩ := bnd h
                      refine .by1 6 rfl (.call0 hS Tryd.func104 (spec_l42Put_ok hy19) rfl rfl ?_ rfl (by kernel_rfl) rfl rfl) (by kernel_rfl)
                      intro W hS
                      have hT : Sep _ _ W [.box g1 68 [.int .i64 a0.Op, .int .i64 a0.Rd, .int .i64 a0.Rs, .int .i64 a0.Rt, .int .i64 a0.Imm]] := hS.to [0] rfl
                      refine ⟨fun _ => hT, ?_⟩
                      refine .t1 7 rfl (fun W hT => pr rfl) hT ?_ (by kernel_rfl) rfl rfl
                      obtain ⟨y20, hy20, h⟩ := bnd h
                      refine .by1 9 rfl (.call0 hS Tryd.func106 (spec_l42Mid_ok hy20) rfl rfl ?_ rfl (by kernel_rfl) rfl rfl) (by kernel_rfl)
                      intro W hS
                      have hT : Sep _ _ W [.box g1 68 [.int .i64 a0.Op, .int .i64 a0.Rd, .int .i64 a0.Rs, .int .i64 a0.Rt, .int .i64 a0.Imm]] := hS.to [0] rfl
                      refine ⟨fun _ => hT, ?_⟩
                      refine .t1 10 rfl (fun W hT => pr rfl) hT ?_ (by kernel_rfl) rfl rfl
                      obtain ⟨y21, hy21, h⟩ := bnd h
                      refine .by1 13 rfl (.call0 hS Tryd.func104 (spec_l42Put_ok hy21) rfl rfl ?_ rfl (by kernel_rfl) rfl rfl) (by kernel_rfl)
                      intro W hS
                      have hT : Sep _ _ W [.box g1 68 [.int .i64 a0.Op, .int .i64 a0.Rd, .int .i64 a0.Rs, .int .i64 a0.Rt, .int .i64 a0.Imm]] := hS.to [0] rfl
                      refine ⟨fun _ => hT, ?_⟩
                      refine .t1 14 rfl (fun W hT => pr rfl) hT ?_ (by kernel_rfl) rfl rfl
                      refine .t1 15 rfl (fun W hT => pr rfl) hT ?_ (by kernel_rfl) rfl rfl
                      refine .done ?_ (by kernel_rfl)
                      refine .ret ?_
                      cases h
                      exact fin_ret (vs := [_]) () (rt rfl rn) rfl (hS.to [] rfl)
theorem spec_InstrEncode_ok {a0 : Instr} {w : World} {r : Int × Bool} (h : spec_InstrEncode a0 = some r) : Calls Tryd.prog 43 #[.agg #[.int .i64 a0.Op, .int .i64 a0.Rd, .int .i64 a0.Rs, .int .i64 a0.Rt, .int .i64 a0.Imm]] w (Ret No w (fun s : Unit => .tuple #[.int .i64 r.1, .bool r.2]) (fun s => [])) := by
  unfold spec_InstrEncode at h
  refine enter Tryd.func43 rfl rfl ?_
  have hS := Sep.start w
  refine .seq ?_
  refine .region ?_
  refine .c (.box hS rfl rfl ?_ rfl rfl)
  intro g1 W hS
  refine .p rfl rfl rfl ?_
  refine .p rfl rfl rfl ?_
  refine .nil ?_
  refine .seq ?_
  refine .seq ?_
  refine .region ?_
  refine .r (ld T.t68 hS rfl rfl rfl rfl rfl) ?_ rfl rfl
  obtain ⟨y1, hy1, h⟩ := bnd h
  refine .c (.call0 hS Tryd.func77 (spec_InstrValid_ok hy1) rfl rfl ?_ rfl (by kernel_rfl) rfl rfl)
  intro W hS
  refine .p rfl rfl rfl ?_
  refine .nil ?_
  refine .cond rfl (fun hb => ?_) (fun hb => ?_)
  · have h := sel_t hb h
    refine .seq ?_
    refine .region ?_
    refine .p rfl rfl rfl ?_
    refine .p rfl rfl rfl ?_
    refine .nil ?_
    refine .ret ?_
    cases h
    exact fin_ret (vs := [_, _]) () (rt rfl (rt rfl rn)) rfl (hS.to [] rfl)
  · have h := sel_f hb h
    refine .skip ?_
    refine .seq ?_
    refine .region ?_
    refine .r (ld T.t68 hS rfl rfl rfl rfl rfl) ?_ rfl rfl
    obtain ⟨y2, hy2, h⟩ := bnd h
    refine .c (.call0 hS Tryd.func78 (spec_l42Encode_ok hy2) rfl rfl ?_ rfl (by kernel_rfl) rfl rfl)
    intro W hS
    refine .p rfl rfl rfl ?_
    refine .p rfl rfl rfl ?_
    refine .nil ?_
    refine .ret ?_
    cases h
    exact fin_ret (vs := [_, _]) () (rt rfl (rt rfl rn)) rfl (hS.to [] rfl)
theorem spec_Wrap_ok {a0 : Int} {w : World} {r : Int} (h : spec_Wrap a0 = some r) : Calls Tryd.prog 44 #[.int .i64 a0] w (Ret No w (fun s : Unit => .int .i64 r) (fun s => [])) := by
  unfold spec_Wrap at h
  refine enter Tryd.func44 rfl rfl ?_
  have hS := Sep.start w
  refine .seq ?_
  refine .region ?_
  refine .p rfl rfl rfl ?_
  refine .nil ?_
  refine .seq ?_
  refine .region ?_
  refine .p rfl rfl rfl ?_
  refine .p rfl rfl rfl ?_
  refine .p rfl rfl rfl ?_
  refine .nil ?_
  refine .seq ?_
  refine .seq ?_
  refine .region ?_
  refine .p rfl rfl rfl ?_
  refine .p rfl rfl rfl ?_
  refine .nil ?_
  refine .cond rfl (fun hb => ?_) (fun hb => ?_)
  · have h := sel_t hb h
    refine .seq ?_
    refine .region ?_
    refine .p rfl rfl rfl ?_
    refine .p rfl rfl rfl ?_
    refine .p rfl rfl rfl ?_
    refine .nil ?_
    refine .ret ?_
    cases h
    exact fin_ret (vs := [_]) () (rt rfl rn) rfl (hS.to [] rfl)
  · have h := sel_f hb h
    refine .skip ?_
    refine .seq ?_
    refine .seq ?_
    refine .region ?_
    refine .p rfl rfl rfl ?_
    refine .p rfl rfl rfl ?_
    refine .nil ?_
    refine .cond rfl (fun hb => ?_) (fun hb => ?_)
    · have h := sel_t hb h
      refine .seq ?_
      refine .region ?_
      refine .p rfl rfl rfl ?_
      refine .p rfl rfl rfl ?_
      refine .p rfl rfl rfl ?_
      refine .nil ?_
      refine .ret ?_
      cases h
      exact fin_ret (vs := [_]) () (rt rfl rn) rfl (hS.to [] rfl)
    · have h := sel_f hb h
      refine .skip ?_
      refine .seq ?_
      refine .region ?_
      refine .p rfl rfl rfl ?_
      refine .p rfl rfl rfl ?_
      refine .nil ?_
      refine .ret ?_
      cases h
      exact fin_ret (vs := [_]) () (rt rfl rn) rfl (hS.to [] rfl)
def spec_l45Code_F (w : World) (S : Nat → Prop) (v_0 : Hd) (v_1 : Hd) (a0 : List Int) (a1 : List Instr) (r : (List Int) × Bool) : Env → World → Prop := Fin Tryd.prog Tryd.f25 S w (fun s : Hd => .tuple #[(sv s), .bool r.2]) (fun s => [rowV (sv s) 3 1 (D.int .i64) r.1]) .ret
theorem spec_l45Code_ok {a0 : List Int} {a1 : List Instr} {v_0 : Hd} {v_1 : Hd} {S : Nat → Prop} {w : World} {r : (List Int) × Bool} (h : spec_l45Code a0 a1 = some r) (q_1 : RV w (Old S w) (sv v_1) 68 5 dInstr a1) (hO : Owns w [rowV (sv v_0) 3 1 (D.int .i64) a0] S) (hlt : ∀ b, S b → b < w.heap.size) : Calls Tryd.prog 25 #[(sv v_0), (sv v_1)] w (Ret S w (fun s : Hd => .tuple #[(sv s), .bool r.2]) (fun s => [rowV (sv s) 3 1 (D.int .i64) r.1])) := by
  unfold spec_l45Code at h
  refine enter Tryd.func25 rfl rfl ?_
  have hS := Sep.startM hO hlt
  refine .seq ?_
  refine .region ?_
  refine .p rfl rfl rfl ?_
  refine .p rfl rfl rfl ?_
  refine .nil ?_
  refine .seq ?_
  refine .seq ?_
  refine .region ?_
  refine .p rfl rfl rfl ?_
  refine .nil ?_
  refine .block ?_
  obtain ⟨y1, hy1, h⟩ := bnd h
  refine .via (.iter (fun s1 E' W' => ∃ (v3 : Hd), SubL E' [(0, (sv v3)), (1, (sv v_1)), (6, .int .i64 s1.2)] ∧ Sep S w W' [rowV (sv v3) 3 1 (D.int .i64) s1.1]) (fun y2 x E' W' => (match y2 with | .inl o1 => x = .ret ∧ spec_l45Code_F w S v_0 v_1 a0 a1 o1 E' W' | .inr o2 => x = .exit 0 ∧ ∃ (v4 : Hd), SubL E' [(0, (sv v4))] ∧ Sep S w W' [rowV (sv v4) 3 1 (D.int .i64) o2])) hy1 ⟨v_0, sb rfl, hS.to [0] rfl⟩ ?_) ?_
  · intro s1 y3 E W h hI
    obtain ⟨v2, hE, hS⟩ := hI
    refine CW.sub hE ?_
    unfold spec_l45Code_b1 at h
    refine .seq ?_
    refine .seq ?_
    refine .region ?_
    refine .p rfl rfl rfl ?_
    refine .p rfl rfl rfl ?_
    refine .r (lenv (hS.keep q_1) T.u51 rfl rfl) ?_ rfl rfl
    refine .p rfl rfl rfl ?_
    refine .nil ?_
    refine .cond rfl (fun hb => ?_) (fun hb => ?_)
    · have h := sel_t hb h
      refine .skip ?_
      refine .seq ?_
      refine .block ?_
      refine .seq ?_
      refine .region ?_
      refine .p rfl rfl rfl ?_
      refine .p rfl rfl rfl ?_
      obtain ⟨x1, hx1, h⟩ := bnd h
      refine .r (ixv (hS.keep q_1) hx1 T.u51 T.t68 rfl rfl rfl) ?_ rfl rfl
      refine .r (lde (RV.flat (hS.keep q_1) hx1 rfl) T.t68 rfl rfl rfl rfl rfl) ?_ rfl rfl
      obtain ⟨y4, hy4, h⟩ := bnd h
      refine .c (.call0 hS Tryd.func43 (spec_InstrEncode_ok hy4) rfl rfl ?_ rfl (by kernel_rfl) rfl rfl)
      intro W hS
      refine .p rfl rfl rfl ?_
      refine .p rfl rfl rfl ?_
      refine .p rfl rfl rfl ?_
      refine .p rfl rfl rfl ?_
      refine .p rfl rfl rfl ?_
      refine .nil ?_
      refine .seq ?_
      refine .seq ?_
      refine .region ?_
      refine .p rfl rfl rfl ?_
      refine .p rfl rfl rfl ?_
      refine .nil ?_
      refine .cond rfl (fun hb => ?_) (fun hb => ?_)
      · have h := sel_t hb h
        refine .seq ?_
        refine .region ?_
        refine .p rfl rfl rfl ?_
        refine .p rfl rfl rfl ?_
        refine .p rfl rfl rfl ?_
        refine .nil ?_
        refine .ret ?_
        cases h
        exact ⟨by simp, rfl, fin_ret (vs := [_, _]) v2 (rt rfl (rt rfl rn)) rfl (hS.to [0] rfl)⟩
      · have h := sel_f hb h
        refine .skip ?_
        refine .region ?_
        refine .p rfl rfl rfl ?_
        refine .p rfl rfl rfl ?_
        obtain ⟨y5, hy5, h⟩ := bnd h
        refine .c (.call0 hS Tryd.func44 (spec_Wrap_ok hy5) rfl rfl ?_ rfl (by kernel_rfl) rfl rfl)
        intro W hS
        refine .c (.liv [y5] (D.int .i64) T.u22 T.t3 hS rfl rfl rfl rfl ?_ rfl (fun _ => rfl) rfl rfl rfl rfl)
        intro v5 W hS
        obtain ⟨r1, hr1, h⟩ := bnd h
        have hT0 := hS.p1
        refine .c (.apprv hr1 hT0 hT0.p1.lendv (fun _ => rfl) T.u22 T.t3 rfl rfl rfl ?_ rfl rfl rfl rfl rfl)
        intro v6 W hS
        refine .p rfl rfl rfl ?_
        refine .nil ?_
        refine .region ?_
        refine .p rfl rfl rfl ?_
        refine .p rfl rfl rfl ?_
        refine .p rfl rfl rfl ?_
        refine .nil ?_
        cases h
        exact ⟨rfl, v6, sb rfl, hS.to [0] rfl⟩
    · have h := sel_f hb h
      refine .exit ?_
      cases h
      exact ⟨by simp, rfl, v2, sb rfl, hS.to [0] rfl⟩
  · intro x E W hJ
    rcases y1 with o3 | o4
    · skip
      obtain ⟨rfl, hF⟩ := hJ
      refine ⟨_, fun _ _ h => h, ?_⟩
      cases h
      exact hF
    · skip
      obtain ⟨rfl, v7, hE, hS⟩ := hJ
      refine ⟨_, hE.sub, ?_⟩
      refine .seq ?_
      refine .region ?_
      refine .p rfl rfl rfl ?_
      refine .p rfl rfl rfl ?_
      refine .p rfl rfl rfl ?_
      refine .nil ?_
      refine .ret ?_
      cases h
      exact fin_ret (vs := [_, _]) v7 (rt rfl (rt rfl rn)) rfl (hS.to [0] rfl)
theorem spec_l46Addi_ok {a0 : Int} {a1 : Int} {a2 : Int} {w : World} {r : Instr} (h : spec_l46Addi a0 a1 a2 = some r) : Calls Tryd.prog 51 #[.int .i64 a0, .int .i64 a1, .int .i64 a2] w (Ret No w (fun s : Unit => .agg #[.int .i64 r.Op, .int .i64 r.Rd, .int .i64 r.Rs, .int .i64 r.Rt, .int .i64 r.Imm]) (fun s => [])) := by
  unfold spec_l46Addi at h
  refine enter Tryd.func51 rfl rfl ?_
  have hS := Sep.start w
  refine .seq ?_
  refine .region ?_
  refine .c (.alloc T.t68 hS ?_ rfl rfl rfl)
  intro g1 W hS
  refine .nil ?_
  refine .seq ?_
  refine .region ?_
  refine .p rfl rfl rfl ?_
  refine .p rfl rfl rfl ?_
  refine .p rfl rfl rfl ?_
  refine .r (bs T.s68 rfl rfl) ?_ rfl rfl
  refine .c (.st T.t68 hS rfl rfl rfl ?_ rfl rfl rfl rfl rfl)
  intro W hS
  refine .nil ?_
  refine .ret ?_
  cases h
  exact fin_ret (vs := [_]) () (rc hS T.t68 rfl rn rfl rfl) rfl (hS.to [] rfl)
theorem spec_l46If_ok {a0 : Int} {a1 : Int} {a2 : Int} {a3 : Int} {a4 : Int} {w : World} {r : Instr} (h : spec_l46If a0 a1 a2 a3 a4 = some r) : Calls Tryd.prog 79 #[.int .i64 a0, .int .i64 a1, .int .i64 a2, .int .i64 a3, .int .i64 a4] w (Ret No w (fun s : Unit => .agg #[.int .i64 r.Op, .int .i64 r.Rd, .int .i64 r.Rs, .int .i64 r.Rt, .int .i64 r.Imm]) (fun s => [])) := by
  unfold spec_l46If at h
  refine enter Tryd.func79 rfl rfl ?_
  have hS := Sep.start w
  refine .seq ?_
  refine .region ?_
  refine .c (.alloc T.t68 hS ?_ rfl rfl rfl)
  intro g1 W hS
  refine .nil ?_
  refine .seq ?_
  refine .region ?_
  refine .p rfl rfl rfl ?_
  refine .p rfl rfl rfl ?_
  refine .p rfl rfl rfl ?_
  refine .p rfl rfl rfl ?_
  refine .p rfl rfl rfl ?_
  refine .p rfl rfl rfl ?_
  refine .p rfl rfl rfl ?_
  refine .r (bs T.s68 rfl rfl) ?_ rfl rfl
  refine .c (.st T.t68 hS rfl rfl rfl ?_ rfl rfl rfl rfl rfl)
  intro W hS
  refine .nil ?_
  refine .ret ?_
  cases h
  exact fin_ret (vs := [_]) () (rc hS T.t68 rfl rn rfl rfl) rfl (hS.to [] rfl)
theorem spec_l46To_ok {a0 : Int} {a1 : Int} {w : World} {r : Instr} (h : spec_l46To a0 a1 = some r) : Calls Tryd.prog 80 #[.int .i64 a0, .int .i64 a1] w (Ret No w (fun s : Unit => .agg #[.int .i64 r.Op, .int .i64 r.Rd, .int .i64 r.Rs, .int .i64 r.Rt, .int .i64 r.Imm]) (fun s => [])) := by
  unfold spec_l46To at h
  refine enter Tryd.func80 rfl rfl ?_
  have hS := Sep.start w
  refine .seq ?_
  refine .region ?_
  refine .c (.alloc T.t68 hS ?_ rfl rfl rfl)
  intro g1 W hS
  refine .nil ?_
  refine .seq ?_
  refine .region ?_
  refine .p rfl rfl rfl ?_
  refine .p rfl rfl rfl ?_
  refine .p rfl rfl rfl ?_
  refine .p rfl rfl rfl ?_
  refine .r (bs T.s68 rfl rfl) ?_ rfl rfl
  refine .c (.st T.t68 hS rfl rfl rfl ?_ rfl rfl rfl rfl rfl)
  intro W hS
  refine .nil ?_
  refine .ret ?_
  cases h
  exact fin_ret (vs := [_]) () (rc hS T.t68 rfl rn rfl rfl) rfl (hS.to [] rfl)
theorem spec_l46Entry_ok {w : World} {r : (List Instr)} (h : spec_l46Entry = some r) : Calls Tryd.prog 45 #[] w (Ret No w (fun s : Hd => (sv s)) (fun s => [rowV (sv s) 68 5 dInstr r])) := by
  unfold spec_l46Entry at h
  refine enter Tryd.func45 rfl rfl ?_
  have hS := Sep.start w
  refine .seq ?_
  refine .region ?_
  refine .p rfl rfl rfl ?_
  refine .nil ?_
  refine .seq ?_
  refine .region ?_
  obtain ⟨y1, hy1, h⟩ := bnd h
  refine .c (.call0 hS Tryd.func51 (spec_l46Addi_ok hy1) rfl rfl ?_ rfl (by kernel_rfl) rfl rfl)
  intro W hS
  obtain ⟨y2, hy2, h⟩ := bnd h
  refine .c (.call0 hS Tryd.func79 (spec_l46If_ok hy2) rfl rfl ?_ rfl (by kernel_rfl) rfl rfl)
  intro W hS
  obtain ⟨y3, hy3, h⟩ := bnd h
  refine .c (.call0 hS Tryd.func51 (spec_l46Addi_ok hy3) rfl rfl ?_ rfl (by kernel_rfl) rfl rfl)
  intro W hS
  obtain ⟨y4, hy4, h⟩ := bnd h
  refine .c (.call0 hS Tryd.func79 (spec_l46If_ok hy4) rfl rfl ?_ rfl (by kernel_rfl) rfl rfl)
  intro W hS
  obtain ⟨y5, hy5, h⟩ := bnd h
  refine .c (.call0 hS Tryd.func51 (spec_l46Addi_ok hy5) rfl rfl ?_ rfl (by kernel_rfl) rfl rfl)
  intro W hS
  obtain ⟨y6, hy6, h⟩ := bnd h
  refine .c (.call0 hS Tryd.func79 (spec_l46If_ok hy6) rfl rfl ?_ rfl (by kernel_rfl) rfl rfl)
  intro W hS
  obtain ⟨y7, hy7, h⟩ := bnd h
  refine .c (.call0 hS Tryd.func51 (spec_l46Addi_ok hy7) rfl rfl ?_ rfl (by kernel_rfl) rfl rfl)
  intro W hS
  obtain ⟨y8, hy8, h⟩ := bnd h
  refine .c (.call0 hS Tryd.func79 (spec_l46If_ok hy8) rfl rfl ?_ rfl (by kernel_rfl) rfl rfl)
  intro W hS
  obtain ⟨y9, hy9, h⟩ := bnd h
  refine .c (.call0 hS Tryd.func80 (spec_l46To_ok hy9) rfl rfl ?_ rfl (by kernel_rfl) rfl rfl)
  intro W hS
  refine .c (.liv [y1, y2, y3, y4, y5, y6, y7, y8, y9] dInstr T.u51 T.t68 hS rfl rfl rfl rfl ?_ rfl (fun _ => rfl) rfl rfl rfl rfl)
  intro v1 W hS
  refine .p rfl rfl rfl ?_
  refine .nil ?_
  refine .ret ?_
  cases h
  exact fin_ret (vs := [_]) v1 (rt rfl rn) rfl (hS.to [0] rfl)
theorem spec_l46R_ok {a0 : Int} {a1 : Int} {a2 : Int} {a3 : Int} {w : World} {r : Instr} (h : spec_l46R a0 a1 a2 a3 = some r) : Calls Tryd.prog 81 #[.int .i64 a0, .int .i64 a1, .int .i64 a2, .int .i64 a3] w (Ret No w (fun s : Unit => .agg #[.int .i64 r.Op, .int .i64 r.Rd, .int .i64 r.Rs, .int .i64 r.Rt, .int .i64 r.Imm]) (fun s => [])) := by
  unfold spec_l46R at h
  refine enter Tryd.func81 rfl rfl ?_
  have hS := Sep.start w
  refine .seq ?_
  refine .region ?_
  refine .c (.alloc T.t68 hS ?_ rfl rfl rfl)
  intro g1 W hS
  refine .nil ?_
  refine .seq ?_
  refine .region ?_
  refine .p rfl rfl rfl ?_
  refine .p rfl rfl rfl ?_
  refine .p rfl rfl rfl ?_
  refine .p rfl rfl rfl ?_
  refine .r (bs T.s68 rfl rfl) ?_ rfl rfl
  refine .c (.st T.t68 hS rfl rfl rfl ?_ rfl rfl rfl rfl rfl)
  intro W hS
  refine .nil ?_
  refine .ret ?_
  cases h
  exact fin_ret (vs := [_]) () (rc hS T.t68 rfl rn rfl rfl) rfl (hS.to [] rfl)
theorem spec_l46Lw_ok {a0 : Int} {a1 : Int} {a2 : Int} {w : World} {r : Instr} (h : spec_l46Lw a0 a1 a2 = some r) : Calls Tryd.prog 82 #[.int .i64 a0, .int .i64 a1, .int .i64 a2] w (Ret No w (fun s : Unit => .agg #[.int .i64 r.Op, .int .i64 r.Rd, .int .i64 r.Rs, .int .i64 r.Rt, .int .i64 r.Imm]) (fun s => [])) := by
  unfold spec_l46Lw at h
  refine enter Tryd.func82 rfl rfl ?_
  have hS := Sep.start w
  refine .seq ?_
  refine .region ?_
  refine .c (.alloc T.t68 hS ?_ rfl rfl rfl)
  intro g1 W hS
  refine .nil ?_
  refine .seq ?_
  refine .region ?_
  refine .p rfl rfl rfl ?_
  refine .p rfl rfl rfl ?_
  refine .p rfl rfl rfl ?_
  refine .r (bs T.s68 rfl rfl) ?_ rfl rfl
  refine .c (.st T.t68 hS rfl rfl rfl ?_ rfl rfl rfl rfl rfl)
  intro W hS
  refine .nil ?_
  refine .ret ?_
  cases h
  exact fin_ret (vs := [_]) () (rc hS T.t68 rfl rn rfl rfl) rfl (hS.to [] rfl)
theorem spec_l46Sw_ok {a0 : Int} {a1 : Int} {a2 : Int} {w : World} {r : Instr} (h : spec_l46Sw a0 a1 a2 = some r) : Calls Tryd.prog 83 #[.int .i64 a0, .int .i64 a1, .int .i64 a2] w (Ret No w (fun s : Unit => .agg #[.int .i64 r.Op, .int .i64 r.Rd, .int .i64 r.Rs, .int .i64 r.Rt, .int .i64 r.Imm]) (fun s => [])) := by
  unfold spec_l46Sw at h
  refine enter Tryd.func83 rfl rfl ?_
  have hS := Sep.start w
  refine .seq ?_
  refine .region ?_
  refine .c (.alloc T.t68 hS ?_ rfl rfl rfl)
  intro g1 W hS
  refine .nil ?_
  refine .seq ?_
  refine .region ?_
  refine .p rfl rfl rfl ?_
  refine .p rfl rfl rfl ?_
  refine .p rfl rfl rfl ?_
  refine .r (bs T.s68 rfl rfl) ?_ rfl rfl
  refine .c (.st T.t68 hS rfl rfl rfl ?_ rfl rfl rfl rfl rfl)
  intro W hS
  refine .nil ?_
  refine .ret ?_
  cases h
  exact fin_ret (vs := [_]) () (rc hS T.t68 rfl rn rfl rfl) rfl (hS.to [] rfl)
theorem spec_l46Back_ok {a0 : Int} {w : World} {r : Instr} (h : spec_l46Back a0 = some r) : Calls Tryd.prog 84 #[.int .i64 a0] w (Ret No w (fun s : Unit => .agg #[.int .i64 r.Op, .int .i64 r.Rd, .int .i64 r.Rs, .int .i64 r.Rt, .int .i64 r.Imm]) (fun s => [])) := by
  unfold spec_l46Back at h
  refine enter Tryd.func84 rfl rfl ?_
  have hS := Sep.start w
  refine .seq ?_
  refine .region ?_
  refine .c (.alloc T.t68 hS ?_ rfl rfl rfl)
  intro g1 W hS
  refine .nil ?_
  refine .seq ?_
  refine .region ?_
  refine .p rfl rfl rfl ?_
  refine .r (bs T.s68 rfl rfl) ?_ rfl rfl
  refine .c (.st T.t68 hS rfl rfl rfl ?_ rfl rfl rfl rfl rfl)
  intro W hS
  refine .nil ?_
  refine .ret ?_
  cases h
  exact fin_ret (vs := [_]) () (rc hS T.t68 rfl rn rfl rfl) rfl (hS.to [] rfl)
theorem spec_l46Send_ok {w : World} {r : (List Instr)} (h : spec_l46Send = some r) : Calls Tryd.prog 46 #[] w (Ret No w (fun s : Hd => (sv s)) (fun s => [rowV (sv s) 68 5 dInstr r])) := by
  unfold spec_l46Send at h
  refine enter Tryd.func46 rfl rfl ?_
  have hS := Sep.start w
  refine .seq ?_
  refine .region ?_
  refine .p rfl rfl rfl ?_
  refine .nil ?_
  refine .seq ?_
  refine .region ?_
  obtain ⟨y1, hy1, h⟩ := bnd h
  refine .c (.call0 hS Tryd.func51 (spec_l46Addi_ok hy1) rfl rfl ?_ rfl (by kernel_rfl) rfl rfl)
  intro W hS
  obtain ⟨y2, hy2, h⟩ := bnd h
  refine .c (.call0 hS Tryd.func81 (spec_l46R_ok hy2) rfl rfl ?_ rfl (by kernel_rfl) rfl rfl)
  intro W hS
  obtain ⟨y3, hy3, h⟩ := bnd h
  refine .c (.call0 hS Tryd.func81 (spec_l46R_ok hy3) rfl rfl ?_ rfl (by kernel_rfl) rfl rfl)
  intro W hS
  obtain ⟨y4, hy4, h⟩ := bnd h
  refine .c (.call0 hS Tryd.func82 (spec_l46Lw_ok hy4) rfl rfl ?_ rfl (by kernel_rfl) rfl rfl)
  intro W hS
  obtain ⟨y5, hy5, h⟩ := bnd h
  refine .c (.call0 hS Tryd.func82 (spec_l46Lw_ok hy5) rfl rfl ?_ rfl (by kernel_rfl) rfl rfl)
  intro W hS
  obtain ⟨y6, hy6, h⟩ := bnd h
  refine .c (.call0 hS Tryd.func79 (spec_l46If_ok hy6) rfl rfl ?_ rfl (by kernel_rfl) rfl rfl)
  intro W hS
  obtain ⟨y7, hy7, h⟩ := bnd h
  refine .c (.call0 hS Tryd.func82 (spec_l46Lw_ok hy7) rfl rfl ?_ rfl (by kernel_rfl) rfl rfl)
  intro W hS
  obtain ⟨y8, hy8, h⟩ := bnd h
  refine .c (.call0 hS Tryd.func81 (spec_l46R_ok hy8) rfl rfl ?_ rfl (by kernel_rfl) rfl rfl)
  intro W hS
  obtain ⟨y9, hy9, h⟩ := bnd h
  refine .c (.call0 hS Tryd.func81 (spec_l46R_ok hy9) rfl rfl ?_ rfl (by kernel_rfl) rfl rfl)
  intro W hS
  obtain ⟨y10, hy10, h⟩ := bnd h
  refine .c (.call0 hS Tryd.func51 (spec_l46Addi_ok hy10) rfl rfl ?_ rfl (by kernel_rfl) rfl rfl)
  intro W hS
  obtain ⟨y11, hy11, h⟩ := bnd h
  refine .c (.call0 hS Tryd.func81 (spec_l46R_ok hy11) rfl rfl ?_ rfl (by kernel_rfl) rfl rfl)
  intro W hS
  obtain ⟨y12, hy12, h⟩ := bnd h
  refine .c (.call0 hS Tryd.func81 (spec_l46R_ok hy12) rfl rfl ?_ rfl (by kernel_rfl) rfl rfl)
  intro W hS
  obtain ⟨y13, hy13, h⟩ := bnd h
  refine .c (.call0 hS Tryd.func83 (spec_l46Sw_ok hy13) rfl rfl ?_ rfl (by kernel_rfl) rfl rfl)
  intro W hS
  obtain ⟨y14, hy14, h⟩ := bnd h
  refine .c (.call0 hS Tryd.func51 (spec_l46Addi_ok hy14) rfl rfl ?_ rfl (by kernel_rfl) rfl rfl)
  intro W hS
  obtain ⟨y15, hy15, h⟩ := bnd h
  refine .c (.call0 hS Tryd.func83 (spec_l46Sw_ok hy15) rfl rfl ?_ rfl (by kernel_rfl) rfl rfl)
  intro W hS
  obtain ⟨y16, hy16, h⟩ := bnd h
  refine .c (.call0 hS Tryd.func83 (spec_l46Sw_ok hy16) rfl rfl ?_ rfl (by kernel_rfl) rfl rfl)
  intro W hS
  obtain ⟨y17, hy17, h⟩ := bnd h
  refine .c (.call0 hS Tryd.func84 (spec_l46Back_ok hy17) rfl rfl ?_ rfl (by kernel_rfl) rfl rfl)
  intro W hS
  refine .c (.liv [y1, y2, y3, y4, y5, y6, y7, y8, y9, y10, y11, y12, y13, y14, y15, y16, y17] dInstr T.u51 T.t68 hS rfl rfl rfl rfl ?_ rfl (fun _ => rfl) rfl rfl rfl rfl)
  intro v1 W hS
  refine .p rfl rfl rfl ?_
  refine .nil ?_
  refine .ret ?_
  cases h
  exact fin_ret (vs := [_]) v1 (rt rfl rn) rfl (hS.to [0] rfl)
theorem spec_l46Recv_ok {w : World} {r : (List Instr)} (h : spec_l46Recv = some r) : Calls Tryd.prog 47 #[] w (Ret No w (fun s : Hd => (sv s)) (fun s => [rowV (sv s) 68 5 dInstr r])) := by
  unfold spec_l46Recv at h
  refine enter Tryd.func47 rfl rfl ?_
  have hS := Sep.start w
  refine .seq ?_
  refine .region ?_
  refine .p rfl rfl rfl ?_
  refine .nil ?_
  refine .seq ?_
  refine .region ?_
  obtain ⟨y1, hy1, h⟩ := bnd h
  refine .c (.call0 hS Tryd.func51 (spec_l46Addi_ok hy1) rfl rfl ?_ rfl (by kernel_rfl) rfl rfl)
  intro W hS
  obtain ⟨y2, hy2, h⟩ := bnd h
  refine .c (.call0 hS Tryd.func81 (spec_l46R_ok hy2) rfl rfl ?_ rfl (by kernel_rfl) rfl rfl)
  intro W hS
  obtain ⟨y3, hy3, h⟩ := bnd h
  refine .c (.call0 hS Tryd.func81 (spec_l46R_ok hy3) rfl rfl ?_ rfl (by kernel_rfl) rfl rfl)
  intro W hS
  obtain ⟨y4, hy4, h⟩ := bnd h
  refine .c (.call0 hS Tryd.func82 (spec_l46Lw_ok hy4) rfl rfl ?_ rfl (by kernel_rfl) rfl rfl)
  intro W hS
  obtain ⟨y5, hy5, h⟩ := bnd h
  refine .c (.call0 hS Tryd.func79 (spec_l46If_ok hy5) rfl rfl ?_ rfl (by kernel_rfl) rfl rfl)
  intro W hS
  obtain ⟨y6, hy6, h⟩ := bnd h
  refine .c (.call0 hS Tryd.func82 (spec_l46Lw_ok hy6) rfl rfl ?_ rfl (by kernel_rfl) rfl rfl)
  intro W hS
  obtain ⟨y7, hy7, h⟩ := bnd h
  refine .c (.call0 hS Tryd.func82 (spec_l46Lw_ok hy7) rfl rfl ?_ rfl (by kernel_rfl) rfl rfl)
  intro W hS
  obtain ⟨y8, hy8, h⟩ := bnd h
  refine .c (.call0 hS Tryd.func51 (spec_l46Addi_ok hy8) rfl rfl ?_ rfl (by kernel_rfl) rfl rfl)
  intro W hS
  obtain ⟨y9, hy9, h⟩ := bnd h
  refine .c (.call0 hS Tryd.func81 (spec_l46R_ok hy9) rfl rfl ?_ rfl (by kernel_rfl) rfl rfl)
  intro W hS
  obtain ⟨y10, hy10, h⟩ := bnd h
  refine .c (.call0 hS Tryd.func81 (spec_l46R_ok hy10) rfl rfl ?_ rfl (by kernel_rfl) rfl rfl)
  intro W hS
  obtain ⟨y11, hy11, h⟩ := bnd h
  refine .c (.call0 hS Tryd.func82 (spec_l46Lw_ok hy11) rfl rfl ?_ rfl (by kernel_rfl) rfl rfl)
  intro W hS
  obtain ⟨y12, hy12, h⟩ := bnd h
  refine .c (.call0 hS Tryd.func51 (spec_l46Addi_ok hy12) rfl rfl ?_ rfl (by kernel_rfl) rfl rfl)
  intro W hS
  obtain ⟨y13, hy13, h⟩ := bnd h
  refine .c (.call0 hS Tryd.func81 (spec_l46R_ok hy13) rfl rfl ?_ rfl (by kernel_rfl) rfl rfl)
  intro W hS
  obtain ⟨y14, hy14, h⟩ := bnd h
  refine .c (.call0 hS Tryd.func83 (spec_l46Sw_ok hy14) rfl rfl ?_ rfl (by kernel_rfl) rfl rfl)
  intro W hS
  obtain ⟨y15, hy15, h⟩ := bnd h
  refine .c (.call0 hS Tryd.func51 (spec_l46Addi_ok hy15) rfl rfl ?_ rfl (by kernel_rfl) rfl rfl)
  intro W hS
  obtain ⟨y16, hy16, h⟩ := bnd h
  refine .c (.call0 hS Tryd.func83 (spec_l46Sw_ok hy16) rfl rfl ?_ rfl (by kernel_rfl) rfl rfl)
  intro W hS
  obtain ⟨y17, hy17, h⟩ := bnd h
  refine .c (.call0 hS Tryd.func83 (spec_l46Sw_ok hy17) rfl rfl ?_ rfl (by kernel_rfl) rfl rfl)
  intro W hS
  obtain ⟨y18, hy18, h⟩ := bnd h
  refine .c (.call0 hS Tryd.func84 (spec_l46Back_ok hy18) rfl rfl ?_ rfl (by kernel_rfl) rfl rfl)
  intro W hS
  refine .c (.liv [y1, y2, y3, y4, y5, y6, y7, y8, y9, y10, y11, y12, y13, y14, y15, y16, y17, y18] dInstr T.u51 T.t68 hS rfl rfl rfl rfl ?_ rfl (fun _ => rfl) rfl rfl rfl rfl)
  intro v1 W hS
  refine .p rfl rfl rfl ?_
  refine .nil ?_
  refine .ret ?_
  cases h
  exact fin_ret (vs := [_]) v1 (rt rfl rn) rfl (hS.to [0] rfl)
theorem spec_l46Other_ok {w : World} {r : (List Instr)} (h : spec_l46Other = some r) : Calls Tryd.prog 48 #[] w (Ret No w (fun s : Hd => (sv s)) (fun s => [rowV (sv s) 68 5 dInstr r])) := by
  unfold spec_l46Other at h
  refine enter Tryd.func48 rfl rfl ?_
  have hS := Sep.start w
  refine .seq ?_
  refine .region ?_
  refine .p rfl rfl rfl ?_
  refine .nil ?_
  refine .seq ?_
  refine .region ?_
  refine .r (bs T.s68 rfl rfl) ?_ rfl rfl
  obtain ⟨y1, hy1, h⟩ := bnd h
  refine .c (.call0 hS Tryd.func83 (spec_l46Sw_ok hy1) rfl rfl ?_ rfl (by kernel_rfl) rfl rfl)
  intro W hS
  obtain ⟨y2, hy2, h⟩ := bnd h
  refine .c (.call0 hS Tryd.func84 (spec_l46Back_ok hy2) rfl rfl ?_ rfl (by kernel_rfl) rfl rfl)
  intro W hS
  obtain ⟨y3, hy3, h⟩ := bnd h
  refine .c (.call0 hS Tryd.func51 (spec_l46Addi_ok hy3) rfl rfl ?_ rfl (by kernel_rfl) rfl rfl)
  intro W hS
  obtain ⟨y4, hy4, h⟩ := bnd h
  refine .c (.call0 hS Tryd.func83 (spec_l46Sw_ok hy4) rfl rfl ?_ rfl (by kernel_rfl) rfl rfl)
  intro W hS
  obtain ⟨y5, hy5, h⟩ := bnd h
  refine .c (.call0 hS Tryd.func80 (spec_l46To_ok hy5) rfl rfl ?_ rfl (by kernel_rfl) rfl rfl)
  intro W hS
  obtain ⟨y6, hy6, h⟩ := bnd h
  refine .c (.call0 hS Tryd.func51 (spec_l46Addi_ok hy6) rfl rfl ?_ rfl (by kernel_rfl) rfl rfl)
  intro W hS
  obtain ⟨y7, hy7, h⟩ := bnd h
  refine .c (.call0 hS Tryd.func82 (spec_l46Lw_ok hy7) rfl rfl ?_ rfl (by kernel_rfl) rfl rfl)
  intro W hS
  obtain ⟨y8, hy8, h⟩ := bnd h
  refine .c (.call0 hS Tryd.func51 (spec_l46Addi_ok hy8) rfl rfl ?_ rfl (by kernel_rfl) rfl rfl)
  intro W hS
  obtain ⟨y9, hy9, h⟩ := bnd h
  refine .c (.call0 hS Tryd.func83 (spec_l46Sw_ok hy9) rfl rfl ?_ rfl (by kernel_rfl) rfl rfl)
  intro W hS
  refine .c (.liv [(Instr.mk 21 0 0 0 0), y1, y2, y3, y4, y5, y6, y7, y8, y9] dInstr T.u51 T.t68 hS rfl rfl rfl rfl ?_ rfl (fun _ => rfl) rfl rfl rfl rfl)
  intro v1 W hS
  refine .p rfl rfl rfl ?_
  refine .nil ?_
  refine .ret ?_
  cases h
  exact fin_ret (vs := [_]) v1 (rt rfl rn) rfl (hS.to [0] rfl)
theorem spec_l46Saved_ok {w : World} {r : (List Int)} (h : spec_l46Saved = some r) : Calls Tryd.prog 85 #[] w (Ret No w (fun s : Hd => (sv s)) (fun s => [rowV (sv s) 3 1 (D.int .i64) r])) := by
  unfold spec_l46Saved at h
  refine enter Tryd.func85 rfl rfl ?_
  have hS := Sep.start w
  refine .seq ?_
  refine .region ?_
  refine .p rfl rfl rfl ?_
  refine .nil ?_
  refine .seq ?_
  refine .region ?_
  refine .c (.liv [1, 2, 8, 9, 18, 19, 20, 21, 22, 23, 10, 11, 17] (D.int .i64) T.u22 T.t3 hS rfl rfl rfl rfl ?_ rfl (fun _ => rfl) rfl rfl rfl rfl)
  intro v1 W hS
  refine .p rfl rfl rfl ?_
  refine .nil ?_
  refine .ret ?_
  cases h
  exact fin_ret (vs := [_]) v1 (rt rfl rn) rfl (hS.to [0] rfl)
theorem spec_l46Save_ok {w : World} {r : (List Instr)} (h : spec_l46Save = some r) : Calls Tryd.prog 49 #[] w (Ret No w (fun s : Hd => (sv s)) (fun s => [rowV (sv s) 68 5 dInstr r])) := by
  unfold spec_l46Save at h
  refine enter Tryd.func49 rfl rfl ?_
  have hS := Sep.start w
  refine .seq ?_
  refine .region ?_
  refine .p rfl rfl rfl ?_
  refine .nil ?_
  refine .seq ?_
  refine .region ?_
  obtain ⟨y1, hy1, h⟩ := bnd h
  refine .c (.call0 hS Tryd.func83 (spec_l46Sw_ok hy1) rfl rfl ?_ rfl (by kernel_rfl) rfl rfl)
  intro W hS
  refine .c (.liv [y1] dInstr T.u51 T.t68 hS rfl rfl rfl rfl ?_ rfl (fun _ => rfl) rfl rfl rfl rfl)
  intro v1 W hS
  refine .p rfl rfl rfl ?_
  refine .nil ?_
  refine .seq ?_
  refine .region ?_
  obtain ⟨y2, hy2, h⟩ := bnd h
  refine .c (.call1v hS Tryd.func85 (spec_l46Saved_ok hy2) rfl rfl ?_ rfl (by kernel_rfl) rfl rfl)
  intro v2 W hS
  refine .p rfl rfl rfl ?_
  refine .nil ?_
  refine .seq ?_
  refine .seq ?_
  refine .region ?_
  refine .p rfl rfl rfl ?_
  refine .nil ?_
  refine .block ?_
  obtain ⟨y3, hy3, h⟩ := bnd h
  refine .via (.iter (fun s1 E' W' => ∃ (v5 : Hd), SubL E' [(1, (sv v5)), (2, (sv v2)), (3, .int .i64 s1.2)] ∧ Sep No w W' [rowV (sv v2) 3 1 (D.int .i64) y2, rowV (sv v5) 68 5 dInstr s1.1]) (fun y4 x E' W' => x = .exit 0 ∧ ∃ (v6 : Hd), SubL E' [(1, (sv v6))] ∧ Sep No w W' [rowV (sv v2) 3 1 (D.int .i64) y2, rowV (sv v6) 68 5 dInstr y4]) hy3 ⟨v1, sb rfl, hS.to [0, 0] rfl⟩ ?_) ?_
  · intro s1 y5 E W h hI
    obtain ⟨v4, hE, hS⟩ := hI
    refine CW.sub hE ?_
    unfold spec_l46Save_b1 at h
    refine .seq ?_
    refine .seq ?_
    refine .region ?_
    refine .p rfl rfl rfl ?_
    refine .p rfl rfl rfl ?_
    refine .r (lenv hS.lendv T.u22 rfl rfl) ?_ rfl rfl
    refine .p rfl rfl rfl ?_
    refine .nil ?_
    refine .cond rfl (fun hb => ?_) (fun hb => ?_)
    · have h := sel_t hb h
      refine .skip ?_
      refine .seq ?_
      refine .block ?_
      refine .region ?_
      refine .p rfl rfl rfl ?_
      refine .p rfl rfl rfl ?_
      refine .p rfl rfl rfl ?_
      obtain ⟨x1, hx1, h⟩ := bnd h
      refine .r (ixv hS.lendv hx1 T.u22 T.t3 rfl rfl rfl) ?_ rfl rfl
      refine .r (lde (RV.flat hS.lendv hx1 rfl) T.t3 rfl rfl rfl rfl rfl) ?_ rfl rfl
      refine .p rfl rfl rfl ?_
      refine .p rfl rfl rfl ?_
      refine .p rfl rfl rfl ?_
      obtain ⟨y6, hy6, h⟩ := bnd h
      refine .c (.call0 hS Tryd.func83 (spec_l46Sw_ok hy6) rfl rfl ?_ rfl (by kernel_rfl) rfl rfl)
      intro W hS
      refine .c (.liv [y6] dInstr T.u51 T.t68 hS rfl rfl rfl rfl ?_ rfl (fun _ => rfl) rfl rfl rfl rfl)
      intro v7 W hS
      obtain ⟨r1, hr1, h⟩ := bnd h
      have hT0 := hS.p2
      refine .c (.apprv hr1 hT0 hT0.p1.lendv (fun _ => rfl) T.u51 T.t68 rfl rfl rfl ?_ rfl rfl rfl rfl rfl)
      intro v8 W hS
      refine .p rfl rfl rfl ?_
      refine .nil ?_
      refine .region ?_
      refine .p rfl rfl rfl ?_
      refine .p rfl rfl rfl ?_
      refine .p rfl rfl rfl ?_
      refine .nil ?_
      cases h
      exact ⟨rfl, v8, sb rfl, hS.to [2, 0] rfl⟩
    · have h := sel_f hb h
      refine .exit ?_
      cases h
      exact ⟨by simp, rfl, v4, sb rfl, hS.to [0, 0] rfl⟩
  · intro x E W hJ
    obtain ⟨rfl, v9, hE, hS⟩ := hJ
    refine ⟨_, hE.sub, ?_⟩
    refine .seq ?_
    refine .region ?_
    refine .p rfl rfl rfl ?_
    refine .p rfl rfl rfl ?_
    refine .nil ?_
    refine .ret ?_
    cases h
    exact fin_ret (vs := [_]) v9 (rt rfl rn) rfl (hS.to [1] rfl)
theorem spec_l46Load_ok {w : World} {r : (List Instr)} (h : spec_l46Load = some r) : Calls Tryd.prog 50 #[] w (Ret No w (fun s : Hd => (sv s)) (fun s => [rowV (sv s) 68 5 dInstr r])) := by
  unfold spec_l46Load at h
  refine enter Tryd.func50 rfl rfl ?_
  have hS := Sep.start w
  refine .seq ?_
  refine .region ?_
  refine .p rfl rfl rfl ?_
  refine .nil ?_
  refine .seq ?_
  refine .region ?_
  obtain ⟨y1, hy1, h⟩ := bnd h
  refine .c (.call0 hS Tryd.func82 (spec_l46Lw_ok hy1) rfl rfl ?_ rfl (by kernel_rfl) rfl rfl)
  intro W hS
  obtain ⟨y2, hy2, h⟩ := bnd h
  refine .c (.call0 hS Tryd.func82 (spec_l46Lw_ok hy2) rfl rfl ?_ rfl (by kernel_rfl) rfl rfl)
  intro W hS
  obtain ⟨y3, hy3, h⟩ := bnd h
  refine .c (.call0 hS Tryd.func79 (spec_l46If_ok hy3) rfl rfl ?_ rfl (by kernel_rfl) rfl rfl)
  intro W hS
  obtain ⟨y4, hy4, h⟩ := bnd h
  refine .c (.call0 hS Tryd.func51 (spec_l46Addi_ok hy4) rfl rfl ?_ rfl (by kernel_rfl) rfl rfl)
  intro W hS
  obtain ⟨y5, hy5, h⟩ := bnd h
  refine .c (.call0 hS Tryd.func82 (spec_l46Lw_ok hy5) rfl rfl ?_ rfl (by kernel_rfl) rfl rfl)
  intro W hS
  obtain ⟨y6, hy6, h⟩ := bnd h
  refine .c (.call0 hS Tryd.func79 (spec_l46If_ok hy6) rfl rfl ?_ rfl (by kernel_rfl) rfl rfl)
  intro W hS
  obtain ⟨y7, hy7, h⟩ := bnd h
  refine .c (.call0 hS Tryd.func82 (spec_l46Lw_ok hy7) rfl rfl ?_ rfl (by kernel_rfl) rfl rfl)
  intro W hS
  refine .c (.liv [y1, y2, y3, y4, y5, y6, y7] dInstr T.u51 T.t68 hS rfl rfl rfl rfl ?_ rfl (fun _ => rfl) rfl rfl rfl rfl)
  intro v1 W hS
  refine .p rfl rfl rfl ?_
  refine .nil ?_
  refine .seq ?_
  refine .region ?_
  obtain ⟨y8, hy8, h⟩ := bnd h
  refine .c (.call1v hS Tryd.func85 (spec_l46Saved_ok hy8) rfl rfl ?_ rfl (by kernel_rfl) rfl rfl)
  intro v2 W hS
  refine .p rfl rfl rfl ?_
  refine .nil ?_
  refine .seq ?_
  refine .seq ?_
  refine .region ?_
  refine .p rfl rfl rfl ?_
  refine .nil ?_
  refine .block ?_
  obtain ⟨y9, hy9, h⟩ := bnd h
  refine .via (.iter (fun s1 E' W' => ∃ (v5 : Hd), SubL E' [(1, (sv v5)), (2, (sv v2)), (3, .int .i64 s1.2)] ∧ Sep No w W' [rowV (sv v2) 3 1 (D.int .i64) y8, rowV (sv v5) 68 5 dInstr s1.1]) (fun y10 x E' W' => x = .exit 0 ∧ ∃ (v6 : Hd), SubL E' [(1, (sv v6))] ∧ Sep No w W' [rowV (sv v2) 3 1 (D.int .i64) y8, rowV (sv v6) 68 5 dInstr y10]) hy9 ⟨v1, sb rfl, hS.to [0, 0] rfl⟩ ?_) ?_
  · intro s1 y11 E W h hI
    obtain ⟨v4, hE, hS⟩ := hI
    refine CW.sub hE ?_
    unfold spec_l46Load_b1 at h
    refine .seq ?_
    refine .seq ?_
    refine .region ?_
    refine .p rfl rfl rfl ?_
    refine .p rfl rfl rfl ?_
    refine .r (lenv hS.lendv T.u22 rfl rfl) ?_ rfl rfl
    refine .p rfl rfl rfl ?_
    refine .nil ?_
    refine .cond rfl (fun hb => ?_) (fun hb => ?_)
    · have h := sel_t hb h
      refine .skip ?_
      refine .seq ?_
      refine .block ?_
      refine .region ?_
      refine .p rfl rfl rfl ?_
      refine .p rfl rfl rfl ?_
      refine .p rfl rfl rfl ?_
      obtain ⟨x1, hx1, h⟩ := bnd h
      refine .r (ixv hS.lendv hx1 T.u22 T.t3 rfl rfl rfl) ?_ rfl rfl
      refine .r (lde (RV.flat hS.lendv hx1 rfl) T.t3 rfl rfl rfl rfl rfl) ?_ rfl rfl
      refine .p rfl rfl rfl ?_
      refine .p rfl rfl rfl ?_
      refine .p rfl rfl rfl ?_
      obtain ⟨y12, hy12, h⟩ := bnd h
      refine .c (.call0 hS Tryd.func82 (spec_l46Lw_ok hy12) rfl rfl ?_ rfl (by kernel_rfl) rfl rfl)
      intro W hS
      refine .c (.liv [y12] dInstr T.u51 T.t68 hS rfl rfl rfl rfl ?_ rfl (fun _ => rfl) rfl rfl rfl rfl)
      intro v7 W hS
      obtain ⟨r1, hr1, h⟩ := bnd h
      have hT0 := hS.p2
      refine .c (.apprv hr1 hT0 hT0.p1.lendv (fun _ => rfl) T.u51 T.t68 rfl rfl rfl ?_ rfl rfl rfl rfl rfl)
      intro v8 W hS
      refine .p rfl rfl rfl ?_
      refine .nil ?_
      refine .region ?_
      refine .p rfl rfl rfl ?_
      refine .p rfl rfl rfl ?_
      refine .p rfl rfl rfl ?_
      refine .nil ?_
      cases h
      exact ⟨rfl, v8, sb rfl, hS.to [2, 0] rfl⟩
    · have h := sel_f hb h
      refine .exit ?_
      cases h
      exact ⟨by simp, rfl, v4, sb rfl, hS.to [0, 0] rfl⟩
  · intro x E W hJ
    obtain ⟨rfl, v9, hE, hS⟩ := hJ
    refine ⟨_, hE.sub, ?_⟩
    refine .seq ?_
    refine .region ?_
    refine .p rfl rfl rfl ?_
    obtain ⟨y13, hy13, h⟩ := bnd h
    refine .c (.call0 hS Tryd.func82 (spec_l46Lw_ok hy13) rfl rfl ?_ rfl (by kernel_rfl) rfl rfl)
    intro W hS
    obtain ⟨y14, hy14, h⟩ := bnd h
    refine .c (.call0 hS Tryd.func84 (spec_l46Back_ok hy14) rfl rfl ?_ rfl (by kernel_rfl) rfl rfl)
    intro W hS
    refine .c (.liv [y13, y14] dInstr T.u51 T.t68 hS rfl rfl rfl rfl ?_ rfl (fun _ => rfl) rfl rfl rfl rfl)
    intro v10 W hS
    obtain ⟨r2, hr2, h⟩ := bnd h
    have hT0 := hS.p2
    refine .c (.apprv hr2 hT0 hT0.p1.lendv (fun _ => rfl) T.u51 T.t68 rfl rfl rfl ?_ rfl rfl rfl rfl rfl)
    intro v11 W hS
    refine .p rfl rfl rfl ?_
    refine .nil ?_
    refine .ret ?_
    cases h
    exact fin_ret (vs := [_]) v11 (rt rfl rn) rfl (hS.to [0] rfl)
theorem spec_l46Code_ok {w : World} {r : (List Instr)} (h : spec_l46Code = some r) : Calls Tryd.prog 26 #[] w (Ret No w (fun s : Hd => (sv s)) (fun s => [rowV (sv s) 68 5 dInstr r])) := by
  unfold spec_l46Code at h
  refine enter Tryd.func26 rfl rfl ?_
  have hS := Sep.start w
  refine .seq ?_
  refine .region ?_
  refine .p rfl rfl rfl ?_
  refine .nil ?_
  refine .seq ?_
  refine .region ?_
  obtain ⟨y1, hy1, h⟩ := bnd h
  refine .c (.call1v hS Tryd.func45 (spec_l46Entry_ok hy1) rfl rfl ?_ rfl (by kernel_rfl) rfl rfl)
  intro v1 W hS
  obtain ⟨y2, hy2, h⟩ := bnd h
  refine .c (.call1v hS Tryd.func46 (spec_l46Send_ok hy2) rfl rfl ?_ rfl (by kernel_rfl) rfl rfl)
  intro v2 W hS
  obtain ⟨r1, hr1, h⟩ := bnd h
  have hT0 := hS.p1
  refine .c (.apprv hr1 hT0 hT0.p1.lendv (fun _ => rfl) T.u51 T.t68 rfl rfl rfl ?_ rfl rfl rfl rfl rfl)
  intro v3 W hS
  refine .p rfl rfl rfl ?_
  refine .nil ?_
  refine .seq ?_
  refine .region ?_
  refine .p rfl rfl rfl ?_
  obtain ⟨y3, hy3, h⟩ := bnd h
  refine .c (.call1v hS Tryd.func47 (spec_l46Recv_ok hy3) rfl rfl ?_ rfl (by kernel_rfl) rfl rfl)
  intro v4 W hS
  obtain ⟨r2, hr2, h⟩ := bnd h
  have hT0 := hS.p1
  refine .c (.apprv hr2 hT0 hT0.p1.lendv (fun _ => rfl) T.u51 T.t68 rfl rfl rfl ?_ rfl rfl rfl rfl rfl)
  intro v5 W hS
  refine .p rfl rfl rfl ?_
  refine .nil ?_
  refine .seq ?_
  refine .region ?_
  refine .p rfl rfl rfl ?_
  obtain ⟨y4, hy4, h⟩ := bnd h
  refine .c (.call1v hS Tryd.func48 (spec_l46Other_ok hy4) rfl rfl ?_ rfl (by kernel_rfl) rfl rfl)
  intro v6 W hS
  obtain ⟨r3, hr3, h⟩ := bnd h
  have hT0 := hS.p1
  refine .c (.apprv hr3 hT0 hT0.p1.lendv (fun _ => rfl) T.u51 T.t68 rfl rfl rfl ?_ rfl rfl rfl rfl rfl)
  intro v7 W hS
  refine .p rfl rfl rfl ?_
  refine .nil ?_
  refine .seq ?_
  refine .region ?_
  refine .p rfl rfl rfl ?_
  obtain ⟨y5, hy5, h⟩ := bnd h
  refine .c (.call1v hS Tryd.func49 (spec_l46Save_ok hy5) rfl rfl ?_ rfl (by kernel_rfl) rfl rfl)
  intro v8 W hS
  obtain ⟨r4, hr4, h⟩ := bnd h
  have hT0 := hS.p1
  refine .c (.apprv hr4 hT0 hT0.p1.lendv (fun _ => rfl) T.u51 T.t68 rfl rfl rfl ?_ rfl rfl rfl rfl rfl)
  intro v9 W hS
  refine .p rfl rfl rfl ?_
  refine .nil ?_
  refine .seq ?_
  refine .region ?_
  refine .p rfl rfl rfl ?_
  obtain ⟨y6, hy6, h⟩ := bnd h
  refine .c (.call1v hS Tryd.func50 (spec_l46Load_ok hy6) rfl rfl ?_ rfl (by kernel_rfl) rfl rfl)
  intro v10 W hS
  obtain ⟨r5, hr5, h⟩ := bnd h
  have hT0 := hS.p1
  refine .c (.apprv hr5 hT0 hT0.p1.lendv (fun _ => rfl) T.u51 T.t68 rfl rfl rfl ?_ rfl rfl rfl rfl rfl)
  intro v11 W hS
  refine .p rfl rfl rfl ?_
  refine .nil ?_
  refine .seq ?_
  refine .region ?_
  refine .p rfl rfl rfl ?_
  obtain ⟨y7, hy7, h⟩ := bnd h
  refine .c (.call0 hS Tryd.func51 (spec_l46Addi_ok hy7) rfl rfl ?_ rfl (by kernel_rfl) rfl rfl)
  intro W hS
  refine .r (bs T.s68 rfl rfl) ?_ rfl rfl
  refine .c (.liv [y7, (Instr.mk 21 0 0 0 0)] dInstr T.u51 T.t68 hS rfl rfl rfl rfl ?_ rfl (fun _ => rfl) rfl rfl rfl rfl)
  intro v12 W hS
  obtain ⟨r6, hr6, h⟩ := bnd h
  have hT0 := hS.p1
  refine .c (.apprv hr6 hT0 hT0.p1.lendv (fun _ => rfl) T.u51 T.t68 rfl rfl rfl ?_ rfl rfl rfl rfl rfl)
  intro v13 W hS
  refine .p rfl rfl rfl ?_
  refine .nil ?_
  refine .ret ?_
  cases h
  exact fin_ret (vs := [_]) v13 (rt rfl rn) rfl (hS.to [0] rfl)
theorem spec_l47Data_ok {a0 : Int} {a1 : List Int} {a2 : List Int} {v_1 : Hd} {v_2 : Hd} {w : World} {r : (List Int)} (h : spec_l47Data a0 a1 a2 = some r) (q_1 : RV w (Old No w) (sv v_1) 3 1 (D.int .i64) a1) (q_2 : RV w (Old No w) (sv v_2) 3 1 (D.int .i64) a2) : Calls Tryd.prog 27 #[.int .i64 a0, (sv v_1), (sv v_2)] w (Ret No w (fun s : Hd => (sv s)) (fun s => [rowV (sv s) 3 1 (D.int .i64) r])) := by
  unfold spec_l47Data at h
  refine enter Tryd.func27 rfl rfl ?_
  have hS := Sep.start w
  refine .seq ?_
  refine .region ?_
  refine .p rfl rfl rfl ?_
  refine .nil ?_
  refine .seq ?_
  refine .region ?_
  refine .p rfl rfl rfl ?_
  refine .r (lenv (hS.keep q_2) T.u22 rfl rfl) ?_ rfl rfl
  refine .p rfl rfl rfl ?_
  refine .nil ?_
  refine .seq ?_
  refine .region ?_
  refine .p rfl rfl rfl ?_
  refine .p rfl rfl rfl ?_
  refine .p rfl rfl rfl ?_
  refine .p rfl rfl rfl ?_
  refine .nil ?_
  refine .seq ?_
  refine .region ?_
  refine .p rfl rfl rfl ?_
  refine .p rfl rfl rfl ?_
  refine .p rfl rfl rfl ?_
  refine .p rfl rfl rfl ?_
  refine .p rfl rfl rfl ?_
  refine .p rfl rfl rfl ?_
  refine .p rfl rfl rfl ?_
  refine .p rfl rfl rfl ?_
  refine .c (.liv [0, (a2.length : Int), w64 (4 * (w64 ((w64 (a0 + 4)) + 24))), w64 (4 * (w64 ((w64 ((w64 (a0 + 4)) + 24)) + (w64 (16 * (a2.length : Int))))))] (D.int .i64) T.u22 T.t3 hS rfl rfl rfl rfl ?_ rfl (fun _ => rfl) rfl rfl rfl rfl)
  intro v1 W hS
  refine .p rfl rfl rfl ?_
  refine .nil ?_
  refine .seq ?_
  refine .seq ?_
  refine .region ?_
  refine .p rfl rfl rfl ?_
  refine .nil ?_
  refine .block ?_
  obtain ⟨y1, hy1, h⟩ := bnd h
  refine .via (.iter (fun s1 E' W' => ∃ (v4 : Hd), SubL E' [(1, (sv v_1)), (2, (sv v_2)), (7, .int .i64 (a2.length : Int)), (8, .int .i64 (w64 ((w64 (a0 + 4)) + 24))), (9, (sv v4)), (10, .int .i64 s1.2)] ∧ Sep No w W' [rowV (sv v4) 3 1 (D.int .i64) s1.1]) (fun y2 x E' W' => x = .exit 0 ∧ ∃ (v5 : Hd), SubL E' [(2, (sv v_2)), (7, .int .i64 (a2.length : Int)), (8, .int .i64 (w64 ((w64 (a0 + 4)) + 24))), (9, (sv v5))] ∧ Sep No w W' [rowV (sv v5) 3 1 (D.int .i64) y2]) hy1 ⟨v1, sb rfl, hS.to [0] rfl⟩ ?_) ?_
  · intro s1 y3 E W h hI
    obtain ⟨v3, hE, hS⟩ := hI
    refine CW.sub hE ?_
    unfold spec_l47Data_b1 at h
    refine .seq ?_
    refine .seq ?_
    refine .region ?_
    refine .p rfl rfl rfl ?_
    refine .p rfl rfl rfl ?_
    refine .nil ?_
    refine .cond rfl (fun hb => ?_) (fun hb => ?_)
    · have h := sel_t hb h
      refine .skip ?_
      refine .seq ?_
      refine .block ?_
      refine .seq ?_
      refine .region ?_
      refine .p rfl rfl rfl ?_
      refine .nil ?_
      obtain ⟨y4, hy4, h⟩ := bnd h
      refine .seq (CW.via (R' := fun x E' W' => x = .normal ∧ SubL E' [(1, (sv v_1)), (2, (sv v_2)), (7, .int .i64 (a2.length : Int)), (8, .int .i64 (w64 ((w64 (a0 + 4)) + 24))), (9, (sv v3)), (10, .int .i64 s1.2), (11, .int .i64 y4)] ∧ Sep No w W' [rowV (sv v3) 3 1 (D.int .i64) s1.1]) ?_ ?_)
      · have h := hy4
        refine .seq ?_
        refine .region ?_
        refine .p rfl rfl rfl ?_
        refine .p rfl rfl rfl ?_
        refine .r (lenv (hS.keep q_1) T.u22 rfl rfl) ?_ rfl rfl
        refine .p rfl rfl rfl ?_
        refine .nil ?_
        refine .cond rfl (fun hb => ?_) (fun hb => ?_)
        · have h := sel_t hb h
          refine .region ?_
          refine .p rfl rfl rfl ?_
          refine .p rfl rfl rfl ?_
          obtain ⟨x1, hx1, h⟩ := bnd h
          refine .r (ixv (hS.keep q_1) hx1 T.u22 T.t3 rfl rfl rfl) ?_ rfl rfl
          refine .r (lde (RV.flat (hS.keep q_1) hx1 rfl) T.t3 rfl rfl rfl rfl rfl) ?_ rfl rfl
          refine .p rfl rfl rfl ?_
          refine .nil ?_
          cases h
          exact ⟨rfl, sb rfl, hS.to [0] rfl⟩
        · have h := sel_f hb h
          refine .skip ?_
          cases h
          exact ⟨rfl, sb rfl, hS.to [0] rfl⟩
      · intro x E W hJ
        obtain ⟨rfl, hE, hS⟩ := hJ
        refine ⟨_, hE.sub, ?_⟩
        refine .region ?_
        refine .p rfl rfl rfl ?_
        refine .p rfl rfl rfl ?_
        refine .c (.liv [y4, 0, 0, 0, 0, 0, 0, 0] (D.int .i64) T.u22 T.t3 hS rfl rfl rfl rfl ?_ rfl (fun _ => rfl) rfl rfl rfl rfl)
        intro v6 W hS
        obtain ⟨r1, hr1, h⟩ := bnd h
        have hT0 := hS.p1
        refine .c (.apprv hr1 hT0 hT0.p1.lendv (fun _ => rfl) T.u22 T.t3 rfl rfl rfl ?_ rfl rfl rfl rfl rfl)
        intro v7 W hS
        refine .p rfl rfl rfl ?_
        refine .nil ?_
        refine .region ?_
        refine .p rfl rfl rfl ?_
        refine .p rfl rfl rfl ?_
        refine .p rfl rfl rfl ?_
        refine .nil ?_
        cases h
        exact ⟨rfl, v7, sb rfl, hS.to [0] rfl⟩
    · have h := sel_f hb h
      refine .exit ?_
      cases h
      exact ⟨by simp, rfl, v3, sb rfl, hS.to [0] rfl⟩
  · intro x E W hJ
    obtain ⟨rfl, v8, hE, hS⟩ := hJ
    refine ⟨_, hE.sub, ?_⟩
    refine .seq ?_
    refine .seq ?_
    refine .region ?_
    refine .p rfl rfl rfl ?_
    refine .nil ?_
    refine .block ?_
    obtain ⟨y5, hy5, h⟩ := bnd h
    refine .via (.iter (fun s2 E' W' => ∃ (v11 : Hd), SubL E' [(2, (sv v_2)), (7, .int .i64 (a2.length : Int)), (8, .int .i64 (w64 ((w64 (a0 + 4)) + 24))), (9, (sv v11)), (12, .int .i64 s2.2)] ∧ Sep No w W' [rowV (sv v11) 3 1 (D.int .i64) s2.1]) (fun y6 x E' W' => x = .exit 2 ∧ ∃ (v12 : Hd), SubL E' [(7, .int .i64 (a2.length : Int)), (9, (sv v12))] ∧ Sep No w W' [rowV (sv v12) 3 1 (D.int .i64) y6]) hy5 ⟨v8, sb rfl, hS.to [0] rfl⟩ ?_) ?_
    · intro s2 y7 E W h hI
      obtain ⟨v10, hE, hS⟩ := hI
      refine CW.sub hE ?_
      unfold spec_l47Data_b2 at h
      refine .seq ?_
      refine .seq ?_
      refine .region ?_
      refine .p rfl rfl rfl ?_
      refine .p rfl rfl rfl ?_
      refine .p rfl rfl rfl ?_
      refine .nil ?_
      refine .cond rfl (fun hb => ?_) (fun hb => ?_)
      · have h := sel_t hb h
        refine .skip ?_
        refine .seq ?_
        refine .block ?_
        refine .seq ?_
        refine .region ?_
        obtain ⟨r2, hr2, h⟩ := bnd h
        refine .c (.mkv 0 (D.int .i64) hr2 T.u22 T.t3 hS rfl rfl rfl rfl rfl (fun _ => rfl) ?_ rfl rfl rfl)
        intro v13 W hS
        refine .p rfl rfl rfl ?_
        refine .nil ?_
        refine .seq ?_
        refine .region ?_
        refine .p rfl rfl rfl ?_
        refine .p rfl rfl rfl ?_
        refine .p rfl rfl rfl ?_
        obtain ⟨x2, hx2, h⟩ := bnd h
        refine .r (ixv (hS.keep q_2) hx2 T.u22 T.t3 rfl rfl rfl) ?_ rfl rfl
        refine .r (lde (RV.flat (hS.keep q_2) hx2 rfl) T.t3 rfl rfl rfl rfl rfl) ?_ rfl rfl
        refine .p rfl rfl rfl ?_
        obtain ⟨x3, hx3, h⟩ := bnd h
        refine .r (ixv hS.lendv hx3 T.u22 T.t3 rfl rfl rfl) ?_ rfl rfl
        obtain ⟨r3, hr3, h⟩ := bnd h
        refine .c (.sev hr3 hx3 hS T.t3 rfl rfl rfl rfl rfl rfl ?_ rfl rfl rfl rfl rfl rfl)
        intro W hS
        refine .nil ?_
        refine .seq ?_
        refine .region ?_
        refine .p rfl rfl rfl ?_
        refine .p rfl rfl rfl ?_
        refine .p rfl rfl rfl ?_
        refine .p rfl rfl rfl ?_
        refine .p rfl rfl rfl ?_
        refine .p rfl rfl rfl ?_
        refine .p rfl rfl rfl ?_
        refine .p rfl rfl rfl ?_
        refine .p rfl rfl rfl ?_
        obtain ⟨x4, hx4, h⟩ := bnd h
        refine .r (ixv hS.lendv hx4 T.u22 T.t3 rfl rfl rfl) ?_ rfl rfl
        obtain ⟨r4, hr4, h⟩ := bnd h
        refine .c (.sev hr4 hx4 hS T.t3 rfl rfl rfl rfl rfl rfl ?_ rfl rfl rfl rfl rfl rfl)
        intro W hS
        refine .nil ?_
        refine .region ?_
        refine .p rfl rfl rfl ?_
        refine .p rfl rfl rfl ?_
        obtain ⟨r5, hr5, h⟩ := bnd h
        have hT0 := hS.p1
        refine .c (.apprv hr5 hT0 hT0.p1.lendv (fun _ => rfl) T.u22 T.t3 rfl rfl rfl ?_ rfl rfl rfl rfl rfl)
        intro v14 W hS
        refine .p rfl rfl rfl ?_
        refine .nil ?_
        refine .region ?_
        refine .p rfl rfl rfl ?_
        refine .p rfl rfl rfl ?_
        refine .p rfl rfl rfl ?_
        refine .nil ?_
        cases h
        exact ⟨rfl, v14, sb rfl, hS.to [0] rfl⟩
      · have h := sel_f hb h
        refine .exit ?_
        cases h
        exact ⟨by simp, rfl, v10, sb rfl, hS.to [0] rfl⟩
    · intro x E W hJ
      obtain ⟨rfl, v15, hE, hS⟩ := hJ
      refine ⟨_, hE.sub, ?_⟩
      refine .seq ?_
      refine .region ?_
      refine .p rfl rfl rfl ?_
      refine .p rfl rfl rfl ?_
      refine .p rfl rfl rfl ?_
      obtain ⟨r6, hr6, h⟩ := bnd h
      refine .c (.appz 0 hr6 hS T.u22 T.u3 T.t3 rfl rfl rfl rfl ?_ (fun _ => rfl) rfl rfl rfl rfl rfl rfl)
      intro v16 W hS
      refine .p rfl rfl rfl ?_
      refine .nil ?_
      refine .ret ?_
      cases h
      exact fin_ret (vs := [_]) v16 (rt rfl rn) rfl (hS.to [0] rfl)
theorem spec_l47Boot_ok {a0 : List Int} {a1 : Int} {a2 : Int} {v_0 : Hd} {S : Nat → Prop} {w : World} {r : Machine} (h : spec_l47Boot a0 a1 a2 = some r) (hO : Owns w [rowV (sv v_0) 3 1 (D.int .i64) a0] S) (hlt : ∀ b, S b → b < w.heap.size) : Calls Tryd.prog 28 #[(sv v_0), .int .i64 a1, .int .i64 a2] w (Ret S w (fun s : Hd × Hd => .agg #[(sv s.1), .int .i64 r.Pc, (sv s.2)]) (fun s => [rowV (sv s.1) 3 1 (D.int .i64) r.Regs, rowV (sv s.2) 3 1 (D.int .i64) r.Mem])) := by
  unfold spec_l47Boot at h
  refine enter Tryd.func28 rfl rfl ?_
  have hS := Sep.startM hO hlt
  refine .seq ?_
  refine .region ?_
  refine .c (.alloc T.t26 hS ?_ rfl rfl rfl)
  intro g1 W hS
  refine .nil ?_
  refine .seq ?_
  refine .region ?_
  obtain ⟨r1, hr1, h⟩ := bnd h
  refine .c (.mkv 0 (D.int .i64) hr1 T.u22 T.t3 hS rfl rfl rfl rfl rfl (fun _ => rfl) ?_ rfl rfl rfl)
  intro v1 W hS
  refine .p rfl rfl rfl ?_
  refine .p rfl rfl rfl ?_
  refine .p rfl rfl rfl ?_
  refine .r (bs T.s26 rfl rfl) ?_ rfl rfl
  refine .c (.alloc T.t26 hS ?_ rfl rfl rfl)
  intro g2 W hS
  refine .c (.st T.t26 hS rfl rfl rfl ?_ rfl rfl rfl rfl rfl)
  intro W hS
  refine .nil ?_
  refine .seq ?_
  refine .region ?_
  refine .p rfl rfl rfl ?_
  refine .p rfl rfl rfl ?_
  refine .p rfl rfl rfl ?_
  refine .p rfl rfl rfl ?_
  refine .nil ?_
  refine .seq ?_
  refine .rk 8 hS [0, 0, 0, 0] T.mix ?_
  intro W hS
  have hT : Sep _ _ W [.box g2 26 [(sv v1), .int .i64 (w64 (4 * a2)), (sv v_0)], rowV (sv v1) 3 1 (D.int .i64) r1, .box g1 26 [(sv nilH), .int .i64 0, (sv nilH)], rowV (sv v_0) 3 1 (D.int .i64) a0] := hS.to [0, 0, 0, 0] rfl
  refine .t1 0 rfl (fun W hT => fa T.f26_0 rfl rfl rfl) hT ?_ (by kernel_rfl) rfl rfl
  refine .t1 1 rfl (fun W hT => ld T.t22 hT rfl rfl rfl rfl rfl) hT ?_ (by kernel_rfl) rfl rfl
  refine .t1 2 rfl (fun W hT => pr rfl) hT ?_ (by kernel_rfl) rfl rfl
  refine .t1 3 rfl (fun W hT => pr rfl) hT ?_ (by kernel_rfl) rfl rfl
  refine .t1 4 rfl (fun W hT => pr rfl) hT ?_ (by kernel_rfl) rfl rfl
  obtain ⟨x1, hx1, h⟩ := bnd h
  refine .t1 5 rfl (fun W hT => ixv hS.p3.lendv hx1 T.u22 T.t3 rfl rfl rfl) hT ?_ (by kernel_rfl) rfl rfl
  refine .t1 6 rfl (fun W hT => lde (RV.flat hT.p3.lendv hx1 rfl) T.t3 rfl rfl rfl rfl rfl) hT ?_ (by kernel_rfl) rfl rfl
  obtain ⟨x2, hx2, h⟩ := bnd h
  refine .t1 7 rfl (fun W hT => ixv hS.p1.lendv hx2 T.u22 T.t3 rfl rfl rfl) hT ?_ (by kernel_rfl) rfl rfl
  obtain ⟨r2, hr2, h⟩ := bnd h
  refine .by1 8 rfl (.sev hr2 hx2 hS.p1 T.t3 rfl rfl rfl rfl rfl rfl ?_ rfl rfl rfl rfl rfl rfl) (by kernel_rfl)
  intro W hS
  refine ⟨fun h => absurd rfl h, ?_⟩
  refine .done ?_ (by kernel_rfl)
  refine .seq ?_
  refine .region ?_
  refine .r (fa T.f26_0 rfl rfl rfl) ?_ rfl rfl
  refine .r (ld T.t22 hS.p1 rfl rfl rfl rfl rfl) ?_ rfl rfl
  refine .p rfl rfl rfl ?_
  refine .p rfl rfl rfl ?_
  obtain ⟨x3, hx3, h⟩ := bnd h
  refine .r (ixv hS.lendv hx3 T.u22 T.t3 rfl rfl rfl) ?_ rfl rfl
  obtain ⟨r3, hr3, h⟩ := bnd h
  refine .c (.sev hr3 hx3 hS T.t3 rfl rfl rfl rfl rfl rfl ?_ rfl rfl rfl rfl rfl rfl)
  intro W hS
  refine .nil ?_
  refine .seq ?_
  refine .region ?_
  refine .r (fa T.f26_0 rfl rfl rfl) ?_ rfl rfl
  refine .r (ld T.t22 hS.p1 rfl rfl rfl rfl rfl) ?_ rfl rfl
  refine .p rfl rfl rfl ?_
  refine .p rfl rfl rfl ?_
  obtain ⟨x4, hx4, h⟩ := bnd h
  refine .r (ixv hS.lendv hx4 T.u22 T.t3 rfl rfl rfl) ?_ rfl rfl
  obtain ⟨r4, hr4, h⟩ := bnd h
  refine .c (.sev hr4 hx4 hS T.t3 rfl rfl rfl rfl rfl rfl ?_ rfl rfl rfl rfl rfl rfl)
  intro W hS
  refine .nil ?_
  refine .seq ?_
  refine .region ?_
  refine .r (ld T.t26 hS.p1 rfl rfl rfl rfl rfl) ?_ rfl rfl
  refine .c (.st T.t26 hS.p2 rfl rfl rfl ?_ rfl rfl rfl rfl rfl)
  intro W hS
  refine .nil ?_
  refine .ret ?_
  cases h
  exact fin_ret (vs := [_]) (v1, v_0) (rc hS T.t26 rfl rn rfl rfl) rfl (hS.to [1, 2] rfl)
def spec_ImageNew_F (w : World) (r : Machine × Int × Bool) : Env → World → Prop := Fin Tryd.prog Tryd.f6 No w (fun s : Hd × Hd => .tuple #[.agg #[(sv s.1), .int .i64 r.1.Pc, (sv s.2)], .int .i64 r.2.1, .bool r.2.2]) (fun s => [rowV (sv s.1) 3 1 (D.int .i64) r.1.Regs, rowV (sv s.2) 3 1 (D.int .i64) r.1.Mem]) .ret
theorem spec_ImageNew_ok {a0 : List Int} {a1 : List (List Instr)} {v_0 : Hd} {v_1 : Hd} {w : World} {r : Machine × Int × Bool} (h : spec_ImageNew a0 a1 = some r) (q_0 : RV w (Old No w) (sv v_0) 3 1 (D.int .i64) a0) (q_1 : RV w (Old No w) (sv v_1) 51 1 (fun (l : List Instr) => D.row 68 5 (l.map dInstr)) a1) : Calls Tryd.prog 6 #[(sv v_0), (sv v_1)] w (Ret No w (fun s : Hd × Hd => .tuple #[.agg #[(sv s.1), .int .i64 r.1.Pc, (sv s.2)], .int .i64 r.2.1, .bool r.2.2]) (fun s => [rowV (sv s.1) 3 1 (D.int .i64) r.1.Regs, rowV (sv s.2) 3 1 (D.int .i64) r.1.Mem])) := by
  unfold spec_ImageNew at h
  refine enter Tryd.func6 rfl rfl ?_
  have hS := Sep.start w
  refine .seq ?_
  refine .region ?_
  refine .c (.alloc T.t26 hS ?_ rfl rfl rfl)
  intro g1 W hS
  refine .p rfl rfl rfl ?_
  refine .p rfl rfl rfl ?_
  refine .nil ?_
  refine .seq ?_
  refine .region ?_
  refine .r (bs T.s26 rfl rfl) ?_ rfl rfl
  refine .c (.alloc T.t26 hS ?_ rfl rfl rfl)
  intro g2 W hS
  refine .c (.st T.t26 hS rfl rfl rfl ?_ rfl rfl rfl rfl rfl)
  intro W hS
  refine .nil ?_
  refine .seq ?_
  refine .seq ?_
  refine .region ?_
  refine .p rfl rfl rfl ?_
  obtain ⟨y1, hy1, h⟩ := bnd h
  refine .c (.call0 hS Tryd.func23 (spec_l12Rooms_ok hy1 (hS.keep q_0)) rfl rfl ?_ rfl (by kernel_rfl) rfl rfl)
  intro W hS
  refine .p rfl rfl rfl ?_
  refine .p rfl rfl rfl ?_
  obtain ⟨b1, hb1, h⟩ := bnd h
  refine .chunk 5 24 (b1) hS ?_ ?_
  · refine .both (!y1) (fun hb => ?_) (fun hb => ?_)
    · skip
      refine .x hb ?_ rfl rfl
      refine .x hb ?_ rfl rfl
      refine .x hb ?_ rfl rfl
      refine .x hb ?_ rfl rfl
      cases sel_t hb hb1
      refine .r (pkt hb rfl rfl rfl) ?_ rfl rfl
      exact .nil (ck 5 hS rfl rfl rfl rfl)
    · have hg1 := hb
      have h := sel_f hb hb1
      refine .g hg1 (.p rfl rfl rfl ?_) rfl
      refine .g hg1 (.r (lenv (hS.keep q_1) T.u30 rfl rfl) ?_ rfl rfl) rfl
      obtain ⟨y2, hy2, h⟩ := bnd h
      refine .g hg1 (.c (.call0 hS Tryd.func24 (spec_l6In_ok hy2) rfl rfl ?_ rfl (by kernel_rfl) rfl rfl)) rfl
      intro W hS
      refine .g hg1 (.p rfl rfl rfl ?_) rfl
      refine .r (pkf hg1 rfl rfl rfl) ?_ rfl rfl
      cases h
      exact .nil (ck 5 hS rfl rfl rfl rfl)
  intro W hS
  refine .nil ?_
  refine .cond rfl (fun hb => ?_) (fun hb => ?_)
  · have h := sel_t hb h
    refine .seq ?_
    refine .region ?_
    refine .r (ld T.t26 hS rfl rfl rfl rfl rfl) ?_ rfl rfl
    refine .c (.st T.t26 hS.p1 rfl rfl rfl ?_ rfl rfl rfl rfl rfl)
    intro W hS
    refine .p rfl rfl rfl ?_
    refine .p rfl rfl rfl ?_
    refine .nil ?_
    refine .ret ?_
    have hS := hS.nilv 3 1 (D.int .i64)
    have hS := hS.nilv 3 1 (D.int .i64)
    cases h
    exact fin_ret (vs := [_, _, _]) (nilH, nilH) (rc hS.p2 T.t26 rfl (rt rfl (rt rfl rn)) rfl rfl) rfl (hS.to [1, 0] rfl)
  · have h := sel_f hb h
    refine .skip ?_
    refine .seq ?_
    refine .region ?_
    refine .c (.liv [] (D.int .i64) T.u22 T.t3 hS rfl rfl rfl rfl ?_ rfl (fun _ => rfl) rfl rfl rfl rfl)
    intro v1 W hS
    obtain ⟨y3, hy3, h⟩ := bnd h
    refine .c (.call1v hS Tryd.func26 (spec_l46Code_ok hy3) rfl rfl ?_ rfl (by kernel_rfl) rfl rfl)
    intro v2 W hS
    obtain ⟨y4, hy4, h⟩ := bnd h
    have hS := hS.p1
    refine .c (.callS2 (L0 := [rowV (sv v1) 3 1 (D.int .i64) []]) hS Tryd.func25 (fun S h1 h2 h3 => (spec_l45Code_ok hy4 (h3.rdv (k := 0) rfl) h2 (fun b hb => (h1 b hb).2))) rfl rfl ?_ rfl (by kernel_rfl) rfl rfl)
    rintro v3 W hS
    have hS : Sep _ _ W [rowV (sv v3) 3 1 (D.int .i64) y4.1, rowV (sv v2) 68 5 dInstr y3, .box g2 26 [(sv nilH), .int .i64 0, (sv nilH)], .box g1 26 [(sv nilH), .int .i64 0, (sv nilH)]] := hS
    refine .p rfl rfl rfl ?_
    refine .p rfl rfl rfl ?_
    refine .p rfl rfl rfl ?_
    refine .p rfl rfl rfl ?_
    refine .p rfl rfl rfl ?_
    refine .nil ?_
    refine .seq ?_
    refine .region ?_
    refine .c (.liv [] (D.int .i64) T.u22 T.t3 hS rfl rfl rfl rfl ?_ rfl (fun _ => rfl) rfl rfl rfl rfl)
    intro v4 W hS
    refine .p rfl rfl rfl ?_
    refine .nil ?_
    refine .seq ?_
    refine .seq ?_
    refine .region ?_
    refine .p rfl rfl rfl ?_
    refine .nil ?_
    refine .block ?_
    obtain ⟨y5, hy5, h⟩ := bnd h
    refine .via (.iter (fun s1 E' W' => ∃ (v9 : Hd) (v10 : Hd), SubL E' [(0, (sv v_0)), (1, (sv v_1)), (4, .pointer (some ⟨g1, 0, none⟩)), (7, .pointer (some ⟨g2, 0, none⟩)), (8, (sv v9)), (10, (sv v10)), (11, .int .i64 s1.2.2)] ∧ Sep No w W' [rowV (sv v2) 68 5 dInstr y3, .box g2 26 [(sv nilH), .int .i64 0, (sv nilH)], .box g1 26 [(sv nilH), .int .i64 0, (sv nilH)], rowV (sv v9) 3 1 (D.int .i64) s1.1, rowV (sv v10) 3 1 (D.int .i64) s1.2.1]) (fun y6 x E' W' => (match y6 with | .inl o1 => x = .ret ∧ spec_ImageNew_F w o1 E' W' | .inr o2 => x = .exit 0 ∧ ∃ (v11 : Hd) (v12 : Hd), SubL E' [(0, (sv v_0)), (4, .pointer (some ⟨g1, 0, none⟩)), (7, .pointer (some ⟨g2, 0, none⟩)), (8, (sv v11)), (10, (sv v12))] ∧ Sep No w W' [rowV (sv v2) 68 5 dInstr y3, .box g2 26 [(sv nilH), .int .i64 0, (sv nilH)], .box g1 26 [(sv nilH), .int .i64 0, (sv nilH)], rowV (sv v11) 3 1 (D.int .i64) o2.1, rowV (sv v12) 3 1 (D.int .i64) o2.2])) hy5 ⟨v3, v4, sb rfl, hS.to [2, 2, 2, 1, 0] rfl⟩ ?_) ?_
    · intro s1 y7 E W h hI
      obtain ⟨v7, v8, hE, hS⟩ := hI
      refine CW.sub hE ?_
      unfold spec_ImageNew_b1 at h
      refine .seq ?_
      refine .seq ?_
      refine .region ?_
      refine .p rfl rfl rfl ?_
      refine .p rfl rfl rfl ?_
      refine .r (lenv (hS.keep q_1) T.u30 rfl rfl) ?_ rfl rfl
      refine .p rfl rfl rfl ?_
      refine .nil ?_
      refine .cond rfl (fun hb => ?_) (fun hb => ?_)
      · have h := sel_t hb h
        refine .skip ?_
        refine .seq ?_
        refine .block ?_
        refine .seq ?_
        refine .region ?_
        refine .p rfl rfl rfl ?_
        refine .p rfl rfl rfl ?_
        refine .r (lenv hS.p3.lendv T.u22 rfl rfl) ?_ rfl rfl
        refine .c (.liv [(s1.1.length : Int)] (D.int .i64) T.u22 T.t3 hS rfl rfl rfl rfl ?_ rfl (fun _ => rfl) rfl rfl rfl rfl)
        intro v13 W hS
        obtain ⟨r1, hr1, h⟩ := bnd h
        have hT0 := hS.p5
        refine .c (.apprv hr1 hT0 hT0.p1.lendv (fun _ => rfl) T.u22 T.t3 rfl rfl rfl ?_ rfl rfl rfl rfl rfl)
        intro v14 W hS
        refine .p rfl rfl rfl ?_
        refine .nil ?_
        refine .seq ?_
        refine .seq ?_
        refine .region ?_
        refine .p rfl rfl rfl ?_
        refine .p rfl rfl rfl ?_
        obtain ⟨x1, hx1, h⟩ := bnd h
        obtain ⟨k1, hd, hck1⟩ := RV.el2 q_1 hx1
        obtain ⟨v15, k1, rfl, q9, hd⟩ := rrowv q_1 hd
        obtain rfl := rnil q_1 hd
        refine .r (ixv (hS.keep q_1) hx1 T.u30 T.t51 rfl rfl rfl) ?_ rfl rfl
        refine .r (lde (hck1 _ hS.agree) T.t51 rfl rfl rfl rfl rfl) ?_ rfl rfl
        refine .r (lenv (hS.keep (q9 _ q_1)) T.u51 rfl rfl) ?_ rfl rfl
        refine .p rfl rfl rfl ?_
        refine .nil ?_
        refine .cond rfl (fun hb => ?_) (fun hb => ?_)
        · have h := sel_t hb h
          refine .seq ?_
          refine .region ?_
          refine .r (ld T.t26 hS.p3 rfl rfl rfl rfl rfl) ?_ rfl rfl
          refine .c (.st T.t26 hS.p4 rfl rfl rfl ?_ rfl rfl rfl rfl rfl)
          intro W hS
          refine .p rfl rfl rfl ?_
          refine .p rfl rfl rfl ?_
          refine .nil ?_
          refine .ret ?_
          have hS := hS.nilv 3 1 (D.int .i64)
          have hS := hS.nilv 3 1 (D.int .i64)
          cases h
          exact ⟨by simp, rfl, fin_ret (vs := [_, _, _]) (nilH, nilH) (rc hS.p2 T.t26 rfl (rt rfl (rt rfl rn)) rfl rfl) rfl (hS.to [1, 0] rfl)⟩
        · have h := sel_f hb h
          refine .skip ?_
          refine .seq ?_
          refine .region ?_
          refine .p rfl rfl rfl ?_
          refine .p rfl rfl rfl ?_
          refine .p rfl rfl rfl ?_
          obtain ⟨x2, hx2, h⟩ := bnd h
          obtain ⟨k2, hd, hck2⟩ := RV.el2 q_1 hx2
          obtain ⟨v16, k2, rfl, q10, hd⟩ := rrowv q_1 hd
          obtain rfl := rnil q_1 hd
          refine .r (ixv (hS.keep q_1) hx2 T.u30 T.t51 rfl rfl rfl) ?_ rfl rfl
          refine .r (lde (hck2 _ hS.agree) T.t51 rfl rfl rfl rfl rfl) ?_ rfl rfl
          obtain ⟨y8, hy8, h⟩ := bnd h
          have hS := hS.p5
          refine .c (.callS2 (L0 := [rowV (sv v7) 3 1 (D.int .i64) s1.1]) hS Tryd.func25 (fun S h1 h2 h3 => (spec_l45Code_ok hy8 (hS.keepS (q10 _ q_1) h1) h2 (fun b hb => (h1 b hb).2))) rfl rfl ?_ rfl (by kernel_rfl) rfl rfl)
          rintro v17 W hS
          have hS : Sep _ _ W [rowV (sv v17) 3 1 (D.int .i64) y8.1, rowV (sv v14) 3 1 (D.int .i64) r1, rowV (sv v13) 3 1 (D.int .i64) [(s1.1.length : Int)], rowV (sv v2) 68 5 dInstr y3, .box g2 26 [(sv nilH), .int .i64 0, (sv nilH)], .box g1 26 [(sv nilH), .int .i64 0, (sv nilH)]] := hS
          refine .p rfl rfl rfl ?_
          refine .p rfl rfl rfl ?_
          refine .p rfl rfl rfl ?_
          refine .p rfl rfl rfl ?_
          refine .p rfl rfl rfl ?_
          refine .nil ?_
          refine .seq ?_
          refine .seq ?_
          refine .region ?_
          refine .p rfl rfl rfl ?_
          refine .p rfl rfl rfl ?_
          refine .nil ?_
          refine .cond rfl (fun hb => ?_) (fun hb => ?_)
          · have h := sel_t hb h
            refine .seq ?_
            refine .region ?_
            refine .r (ld T.t26 hS.p4 rfl rfl rfl rfl rfl) ?_ rfl rfl
            refine .c (.st T.t26 hS.p5 rfl rfl rfl ?_ rfl rfl rfl rfl rfl)
            intro W hS
            refine .p rfl rfl rfl ?_
            refine .p rfl rfl rfl ?_
            refine .nil ?_
            refine .ret ?_
            have hS := hS.nilv 3 1 (D.int .i64)
            have hS := hS.nilv 3 1 (D.int .i64)
            cases h
            exact ⟨by simp, rfl, fin_ret (vs := [_, _, _]) (nilH, nilH) (rc hS.p2 T.t26 rfl (rt rfl (rt rfl rn)) rfl rfl) rfl (hS.to [1, 0] rfl)⟩
          · have h := sel_f hb h
            refine .skip ?_
            refine .region ?_
            refine .p rfl rfl rfl ?_
            refine .p rfl rfl rfl ?_
            refine .nil ?_
            refine .region ?_
            refine .p rfl rfl rfl ?_
            refine .p rfl rfl rfl ?_
            refine .p rfl rfl rfl ?_
            refine .nil ?_
            cases h
            exact ⟨rfl, v17, v14, sb rfl, hS.to [3, 3, 3, 0, 0] rfl⟩
      · have h := sel_f hb h
        refine .exit ?_
        cases h
        exact ⟨by simp, rfl, v7, v8, sb rfl, hS.to [0, 0, 0, 0, 0] rfl⟩
    · intro x E W hJ
      rcases y5 with o3 | o4
      · skip
        obtain ⟨rfl, hF⟩ := hJ
        refine ⟨_, fun _ _ h => h, ?_⟩
        cases h
        exact hF
      · skip
        obtain ⟨rfl, v18, v19, hE, hS⟩ := hJ
        refine ⟨_, hE.sub, ?_⟩
        refine .seq ?_
        refine .region ?_
        refine .p rfl rfl rfl ?_
        refine .r (lenv hS.p3.lendv T.u22 rfl rfl) ?_ rfl rfl
        refine .p rfl rfl rfl ?_
        refine .nil ?_
        refine .seq ?_
        refine .region ?_
        refine .p rfl rfl rfl ?_
        refine .p rfl rfl rfl ?_
        refine .p rfl rfl rfl ?_
        refine .p rfl rfl rfl ?_
        obtain ⟨y9, hy9, h⟩ := bnd h
        refine .c (.call1v hS Tryd.func27 (spec_l47Data_ok hy9 (hS.keep q_0) hS.p4.lendv) rfl rfl ?_ rfl (by kernel_rfl) rfl rfl)
        intro v20 W hS
        obtain ⟨r2, hr2, h⟩ := bnd h
        have hT0 := hS.p4
        refine .c (.apprv hr2 hT0 hT0.p1.lendv (fun _ => rfl) T.u22 T.t3 rfl rfl rfl ?_ rfl rfl rfl rfl rfl)
        intro v21 W hS
        refine .p rfl rfl rfl ?_
        refine .nil ?_
        refine .seq ?_
        refine .seq ?_
        refine .region ?_
        refine .p rfl rfl rfl ?_
        refine .r (lenv hS.lendv T.u22 rfl rfl) ?_ rfl rfl
        refine .p rfl rfl rfl ?_
        refine .nil ?_
        refine .cond rfl (fun hb => ?_) (fun hb => ?_)
        · have h := sel_t hb h
          refine .seq ?_
          refine .region ?_
          refine .r (ld T.t26 hS.p3 rfl rfl rfl rfl rfl) ?_ rfl rfl
          refine .c (.st T.t26 hS.p4 rfl rfl rfl ?_ rfl rfl rfl rfl rfl)
          intro W hS
          refine .p rfl rfl rfl ?_
          refine .p rfl rfl rfl ?_
          refine .nil ?_
          refine .ret ?_
          have hS := hS.nilv 3 1 (D.int .i64)
          have hS := hS.nilv 3 1 (D.int .i64)
          cases h
          exact fin_ret (vs := [_, _, _]) (nilH, nilH) (rc hS.p2 T.t26 rfl (rt rfl (rt rfl rn)) rfl rfl) rfl (hS.to [1, 0] rfl)
        · have h := sel_f hb h
          refine .skip ?_
          refine .seq ?_
          refine .region ?_
          refine .p rfl rfl rfl ?_
          refine .p rfl rfl rfl ?_
          refine .p rfl rfl rfl ?_
          obtain ⟨x3, hx3, h⟩ := bnd h
          refine .r (ixv hS.p5.lendv hx3 T.u22 T.t3 rfl rfl rfl) ?_ rfl rfl
          refine .r (lde (RV.flat hS.p5.lendv hx3 rfl) T.t3 rfl rfl rfl rfl rfl) ?_ rfl rfl
          obtain ⟨y10, hy10, h⟩ := bnd h
          refine .c (.callS2 (L0 := [rowV (sv v21) 3 1 (D.int .i64) r2]) hS Tryd.func28 (fun S h1 h2 h3 => (spec_l47Boot_ok hy10 h2 (fun b hb => (h1 b hb).2))) rfl rfl ?_ rfl (by kernel_rfl) rfl rfl)
          rintro ⟨v22, v23⟩ W hS
          have hS : Sep _ _ W [rowV (sv v22) 3 1 (D.int .i64) y10.Regs, rowV (sv v23) 3 1 (D.int .i64) y10.Mem, rowV (sv v20) 3 1 (D.int .i64) y9, rowV (sv v2) 68 5 dInstr y3, .box g2 26 [(sv nilH), .int .i64 0, (sv nilH)], .box g1 26 [(sv nilH), .int .i64 0, (sv nilH)], rowV (sv v19) 3 1 (D.int .i64) o4.2] := hS
          refine .p rfl rfl rfl ?_
          refine .p rfl rfl rfl ?_
          refine .c (.st T.t26 hS.p5 rfl rfl rfl ?_ rfl rfl rfl rfl rfl)
          intro W hS
          refine .p rfl rfl rfl ?_
          refine .p rfl rfl rfl ?_
          refine .nil ?_
          refine .ret ?_
          cases h
          exact fin_ret (vs := [_, _, _]) (v22, v23) (rc hS T.t26 rfl (rt rfl (rt rfl rn)) rfl rfl) rfl (hS.to [1, 1] rfl)
theorem laws_toIntS_ok {a0 : List Int} {v_0 : Hd} {w : World} {r : (List Int)} (h : laws_toIntS a0 = some r) (q_0 : RV w (Old No w) (sv v_0) 3 1 (D.int .i64) a0) : Calls Tryd.prog 7 #[(sv v_0)] w (Ret No w (fun s : Hd => (sv s)) (fun s => [rowV (sv s) 3 1 (D.int .i64) r])) := by
  unfold laws_toIntS at h
  refine enter Tryd.func7 rfl rfl ?_
  have hS := Sep.start w
  refine .seq ?_
  refine .region ?_
  refine .p rfl rfl rfl ?_
  refine .nil ?_
  refine .seq ?_
  refine .region ?_
  refine .p rfl rfl rfl ?_
  refine .r (lenv (hS.keep q_0) T.u22 rfl rfl) ?_ rfl rfl
  obtain ⟨r1, hr1, h⟩ := bnd h
  refine .c (.mkv 0 (D.int .i64) hr1 T.u22 T.t3 hS rfl rfl rfl rfl rfl (fun _ => rfl) ?_ rfl rfl rfl)
  intro v1 W hS
  refine .p rfl rfl rfl ?_
  refine .nil ?_
  refine .seq ?_
  refine .seq ?_
  refine .region ?_
  refine .p rfl rfl rfl ?_
  refine .nil ?_
  refine .block ?_
  obtain ⟨y1, hy1, h⟩ := bnd h
  refine .via (.iter (fun s1 E' W' => SubL E' [(0, (sv v_0)), (3, (sv v1)), (4, .int .i64 s1.1)] ∧ Sep No w W' [rowV (sv v1) 3 1 (D.int .i64) s1.2]) (fun y2 x E' W' => x = .exit 0 ∧ SubL E' [(3, (sv v1))] ∧ Sep No w W' [rowV (sv v1) 3 1 (D.int .i64) y2]) hy1 ⟨sb rfl, hS.to [0] rfl⟩ ?_) ?_
  · intro s1 y3 E W h hI
    obtain ⟨hE, hS⟩ := hI
    refine CW.sub hE ?_
    unfold laws_toIntS_b1 at h
    refine .seq ?_
    refine .seq ?_
    refine .region ?_
    refine .p rfl rfl rfl ?_
    refine .p rfl rfl rfl ?_
    refine .r (lenv (hS.keep q_0) T.u22 rfl rfl) ?_ rfl rfl
    refine .p rfl rfl rfl ?_
    refine .nil ?_
    refine .cond rfl (fun hb => ?_) (fun hb => ?_)
    · have h := sel_t hb h
      refine .skip ?_
      refine .seq ?_
      refine .block ?_
      refine .region ?_
      refine .p rfl rfl rfl ?_
      refine .p rfl rfl rfl ?_
      refine .p rfl rfl rfl ?_
      refine .p rfl rfl rfl ?_
      obtain ⟨x1, hx1, h⟩ := bnd h
      refine .r (ixv (hS.keep q_0) hx1 T.u22 T.t3 rfl rfl rfl) ?_ rfl rfl
      refine .r (lde (RV.flat (hS.keep q_0) hx1 rfl) T.t3 rfl rfl rfl rfl rfl) ?_ rfl rfl
      obtain ⟨x2, hx2, h⟩ := bnd h
      refine .r (ixv hS.lendv hx2 T.u22 T.t3 rfl rfl rfl) ?_ rfl rfl
      obtain ⟨r2, hr2, h⟩ := bnd h
      refine .c (.sev hr2 hx2 hS T.t3 rfl rfl rfl rfl rfl rfl ?_ rfl rfl rfl rfl rfl rfl)
      intro W hS
      refine .nil ?_
      refine .region ?_
      refine .p rfl rfl rfl ?_
      refine .p rfl rfl rfl ?_
      refine .p rfl rfl rfl ?_
      refine .nil ?_
      cases h
      exact ⟨rfl, sb rfl, hS.to [0] rfl⟩
    · have h := sel_f hb h
      refine .exit ?_
      cases h
      exact ⟨by simp, rfl, sb rfl, hS.to [0] rfl⟩
  · intro x E W hJ
    obtain ⟨rfl, hE, hS⟩ := hJ
    refine ⟨_, hE.sub, ?_⟩
    refine .seq ?_
    refine .region ?_
    refine .p rfl rfl rfl ?_
    refine .p rfl rfl rfl ?_
    refine .nil ?_
    refine .ret ?_
    cases h
    exact fin_ret (vs := [_]) v1 (rt rfl rn) rfl (hS.to [0] rfl)
theorem laws_toInstr_ok {a0 : Instr} {w : World} {r : Instr} (h : laws_toInstr a0 = some r) : Calls Tryd.prog 52 #[.agg #[.int .i64 a0.Op, .int .i64 a0.Rd, .int .i64 a0.Rs, .int .i64 a0.Rt, .int .i64 a0.Imm]] w (Ret No w (fun s : Unit => .agg #[.int .i64 r.Op, .int .i64 r.Rd, .int .i64 r.Rs, .int .i64 r.Rt, .int .i64 r.Imm]) (fun s => [])) := by
  unfold laws_toInstr at h
  refine enter Tryd.func52 rfl rfl ?_
  have hS := Sep.start w
  refine .seq ?_
  refine .region ?_
  refine .c (.box hS rfl rfl ?_ rfl rfl)
  intro g1 W hS
  refine .c (.alloc T.t68 hS ?_ rfl rfl rfl)
  intro g2 W hS
  refine .nil ?_
  refine .seq ?_
  refine .region ?_
  refine .c (.alloc T.t68 hS ?_ rfl rfl rfl)
  intro g3 W hS
  refine .nil ?_
  refine .seq ?_
  refine .region ?_
  refine .r (fa T.f71_0 rfl rfl rfl) ?_ rfl rfl
  refine .r (ld T.t3 hS.p2 rfl rfl rfl rfl rfl) ?_ rfl rfl
  refine .r (fa T.f68_0 rfl rfl rfl) ?_ rfl rfl
  refine .c (.st T.t3 hS rfl rfl rfl ?_ rfl rfl rfl rfl rfl)
  intro W hS
  refine .nil ?_
  refine .seq ?_
  refine .region ?_
  refine .r (fa T.f71_1 rfl rfl rfl) ?_ rfl rfl
  refine .r (ld T.t3 hS.p2 rfl rfl rfl rfl rfl) ?_ rfl rfl
  refine .r (fa T.f68_1 rfl rfl rfl) ?_ rfl rfl
  refine .c (.st T.t3 hS rfl rfl rfl ?_ rfl rfl rfl rfl rfl)
  intro W hS
  refine .nil ?_
  refine .seq ?_
  refine .region ?_
  refine .r (fa T.f71_2 rfl rfl rfl) ?_ rfl rfl
  refine .r (ld T.t3 hS.p2 rfl rfl rfl rfl rfl) ?_ rfl rfl
  refine .r (fa T.f68_2 rfl rfl rfl) ?_ rfl rfl
  refine .c (.st T.t3 hS rfl rfl rfl ?_ rfl rfl rfl rfl rfl)
  intro W hS
  refine .nil ?_
  refine .seq ?_
  refine .region ?_
  refine .r (fa T.f71_3 rfl rfl rfl) ?_ rfl rfl
  refine .r (ld T.t3 hS.p2 rfl rfl rfl rfl rfl) ?_ rfl rfl
  refine .r (fa T.f68_3 rfl rfl rfl) ?_ rfl rfl
  refine .c (.st T.t3 hS rfl rfl rfl ?_ rfl rfl rfl rfl rfl)
  intro W hS
  refine .nil ?_
  refine .seq ?_
  refine .region ?_
  refine .r (fa T.f71_4 rfl rfl rfl) ?_ rfl rfl
  refine .r (ld T.t3 hS.p2 rfl rfl rfl rfl rfl) ?_ rfl rfl
  refine .r (fa T.f68_4 rfl rfl rfl) ?_ rfl rfl
  refine .c (.st T.t3 hS rfl rfl rfl ?_ rfl rfl rfl rfl rfl)
  intro W hS
  refine .nil ?_
  refine .seq ?_
  refine .region ?_
  refine .r (ld T.t68 hS rfl rfl rfl rfl rfl) ?_ rfl rfl
  refine .c (.st T.t68 hS.p1 rfl rfl rfl ?_ rfl rfl rfl rfl rfl)
  intro W hS
  refine .nil ?_
  refine .ret ?_
  cases h
  exact fin_ret (vs := [_]) () (rc hS T.t68 rfl rn rfl rfl) rfl (hS.to [] rfl)
theorem laws_toInstrS_ok {a0 : List Instr} {v_0 : Hd} {w : World} {r : (List Instr)} (h : laws_toInstrS a0 = some r) (q_0 : RV w (Old No w) (sv v_0) 71 5 dInstr a0) : Calls Tryd.prog 29 #[(sv v_0)] w (Ret No w (fun s : Hd => (sv s)) (fun s => [rowV (sv s) 68 5 dInstr r])) := by
  unfold laws_toInstrS at h
  refine enter Tryd.func29 rfl rfl ?_
  have hS := Sep.start w
  refine .seq ?_
  refine .region ?_
  refine .p rfl rfl rfl ?_
  refine .nil ?_
  refine .seq ?_
  refine .region ?_
  refine .p rfl rfl rfl ?_
  refine .r (lenv (hS.keep q_0) T.u46 rfl rfl) ?_ rfl rfl
  obtain ⟨r1, hr1, h⟩ := bnd h
  refine .c (.mkv (Instr.mk 0 0 0 0 0) dInstr hr1 T.u51 T.t68 hS rfl rfl rfl rfl rfl (fun _ => rfl) ?_ rfl rfl rfl)
  intro v1 W hS
  refine .p rfl rfl rfl ?_
  refine .nil ?_
  refine .seq ?_
  refine .seq ?_
  refine .region ?_
  refine .p rfl rfl rfl ?_
  refine .nil ?_
  refine .block ?_
  obtain ⟨y1, hy1, h⟩ := bnd h
  refine .via (.iter (fun s1 E' W' => SubL E' [(0, (sv v_0)), (3, (sv v1)), (4, .int .i64 s1.1)] ∧ Sep No w W' [rowV (sv v1) 68 5 dInstr s1.2]) (fun y2 x E' W' => x = .exit 0 ∧ SubL E' [(3, (sv v1))] ∧ Sep No w W' [rowV (sv v1) 68 5 dInstr y2]) hy1 ⟨sb rfl, hS.to [0] rfl⟩ ?_) ?_
  · intro s1 y3 E W h hI
    obtain ⟨hE, hS⟩ := hI
    refine CW.sub hE ?_
    unfold laws_toInstrS_b1 at h
    refine .seq ?_
    refine .seq ?_
    refine .region ?_
    refine .p rfl rfl rfl ?_
    refine .p rfl rfl rfl ?_
    refine .r (lenv (hS.keep q_0) T.u46 rfl rfl) ?_ rfl rfl
    refine .p rfl rfl rfl ?_
    refine .nil ?_
    refine .cond rfl (fun hb => ?_) (fun hb => ?_)
    · have h := sel_t hb h
      refine .skip ?_
      refine .seq ?_
      refine .block ?_
      refine .region ?_
      refine .p rfl rfl rfl ?_
      refine .p rfl rfl rfl ?_
      refine .p rfl rfl rfl ?_
      refine .p rfl rfl rfl ?_
      obtain ⟨x1, hx1, h⟩ := bnd h
      refine .r (ixv (hS.keep q_0) hx1 T.u46 T.t71 rfl rfl rfl) ?_ rfl rfl
      refine .r (lde (RV.flat (hS.keep q_0) hx1 rfl) T.t71 rfl rfl rfl rfl rfl) ?_ rfl rfl
      obtain ⟨y4, hy4, h⟩ := bnd h
      refine .c (.call0 hS Tryd.func52 (laws_toInstr_ok hy4) rfl rfl ?_ rfl (by kernel_rfl) rfl rfl)
      intro W hS
      obtain ⟨x2, hx2, h⟩ := bnd h
      refine .r (ixv hS.lendv hx2 T.u51 T.t68 rfl rfl rfl) ?_ rfl rfl
      obtain ⟨r2, hr2, h⟩ := bnd h
      refine .c (.sev hr2 hx2 hS T.t68 rfl rfl rfl rfl rfl rfl ?_ rfl rfl rfl rfl rfl rfl)
      intro W hS
      refine .nil ?_
      refine .region ?_
      refine .p rfl rfl rfl ?_
      refine .p rfl rfl rfl ?_
      refine .p rfl rfl rfl ?_
      refine .nil ?_
      cases h
      exact ⟨rfl, sb rfl, hS.to [0] rfl⟩
    · have h := sel_f hb h
      refine .exit ?_
      cases h
      exact ⟨by simp, rfl, sb rfl, hS.to [0] rfl⟩
  · intro x E W hJ
    obtain ⟨rfl, hE, hS⟩ := hJ
    refine ⟨_, hE.sub, ?_⟩
    refine .seq ?_
    refine .region ?_
    refine .p rfl rfl rfl ?_
    refine .p rfl rfl rfl ?_
    refine .nil ?_
    refine .ret ?_
    cases h
    exact fin_ret (vs := [_]) v1 (rt rfl rn) rfl (hS.to [0] rfl)
theorem laws_toInstrSS_ok {a0 : List (List Instr)} {v_0 : Hd} {w : World} {r : (List (List Instr))} (h : laws_toInstrSS a0 = some r) (q_0 : RV w (Old No w) (sv v_0) 46 1 (fun (l : List Instr) => D.row 71 5 (l.map dInstr)) a0) : Calls Tryd.prog 8 #[(sv v_0)] w (Ret No w (fun s : Hd => (sv s)) (fun s => [rowV (sv s) 51 1 (fun (l : List Instr) => D.row 68 5 (l.map dInstr)) r])) := by
  unfold laws_toInstrSS at h
  refine enter Tryd.func8 rfl rfl ?_
  have hS := Sep.start w
  refine .seq ?_
  refine .region ?_
  refine .p rfl rfl rfl ?_
  refine .nil ?_
  refine .seq ?_
  refine .region ?_
  refine .p rfl rfl rfl ?_
  refine .r (lenv (hS.keep q_0) T.u23 rfl rfl) ?_ rfl rfl
  obtain ⟨r1, hr1, h⟩ := bnd h
  refine .c (.mkv [] (fun (l : List Instr) => D.row 68 5 (l.map dInstr)) hr1 T.u30 T.t51 hS rfl rfl rfl rfl rfl (fun _ => rfl) ?_ rfl rfl rfl)
  intro v1 W hS
  refine .p rfl rfl rfl ?_
  refine .nil ?_
  refine .seq ?_
  refine .seq ?_
  refine .region ?_
  refine .p rfl rfl rfl ?_
  refine .nil ?_
  refine .block ?_
  obtain ⟨y1, hy1, h⟩ := bnd h
  refine .via (.iter (fun s1 E' W' => SubL E' [(0, (sv v_0)), (3, (sv v1)), (4, .int .i64 s1.1)] ∧ Sep No w W' [rowV (sv v1) 51 1 (fun (l : List Instr) => D.row 68 5 (l.map dInstr)) s1.2]) (fun y2 x E' W' => x = .exit 0 ∧ SubL E' [(3, (sv v1))] ∧ Sep No w W' [rowV (sv v1) 51 1 (fun (l : List Instr) => D.row 68 5 (l.map dInstr)) y2]) hy1 ⟨sb rfl, hS.to [0] rfl⟩ ?_) ?_
  · intro s1 y3 E W h hI
    obtain ⟨hE, hS⟩ := hI
    refine CW.sub hE ?_
    unfold laws_toInstrSS_b1 at h
    refine .seq ?_
    refine .seq ?_
    refine .region ?_
    refine .p rfl rfl rfl ?_
    refine .p rfl rfl rfl ?_
    refine .r (lenv (hS.keep q_0) T.u23 rfl rfl) ?_ rfl rfl
    refine .p rfl rfl rfl ?_
    refine .nil ?_
    refine .cond rfl (fun hb => ?_) (fun hb => ?_)
    · have h := sel_t hb h
      refine .skip ?_
      refine .seq ?_
      refine .block ?_
      refine .region ?_
      refine .p rfl rfl rfl ?_
      refine .p rfl rfl rfl ?_
      refine .p rfl rfl rfl ?_
      refine .p rfl rfl rfl ?_
      obtain ⟨x1, hx1, h⟩ := bnd h
      obtain ⟨k1, hd, hck1⟩ := RV.el2 q_0 hx1
      obtain ⟨v2, k1, rfl, q1, hd⟩ := rrowv q_0 hd
      obtain rfl := rnil q_0 hd
      refine .r (ixv (hS.keep q_0) hx1 T.u23 T.t46 rfl rfl rfl) ?_ rfl rfl
      refine .r (lde (hck1 _ hS.agree) T.t46 rfl rfl rfl rfl rfl) ?_ rfl rfl
      obtain ⟨y4, hy4, h⟩ := bnd h
      refine .c (.call1v hS Tryd.func29 (laws_toInstrS_ok hy4 (hS.keep (q1 _ q_0))) rfl rfl ?_ rfl (by kernel_rfl) rfl rfl)
      intro v3 W hS
      obtain ⟨x2, hx2, h⟩ := bnd h
      refine .r (ixv hS.p1.lendv hx2 T.u30 T.t51 rfl rfl rfl) ?_ rfl rfl
      obtain ⟨k2, hS⟩ := Sep.outv hS.p1 hx2
      obtain ⟨v4, k2, rfl, hS⟩ := hS.orowv
      obtain ⟨rfl, hS⟩ := hS.onil
      have hS : Sep _ _ W [rowV (sv v4) 68 5 dInstr x2, holeV (sv v1) 51 1 (fun (l : List Instr) => D.row 68 5 (l.map dInstr)) s1.2 (Int.toNat s1.1) [(sv v4)], rowV (sv v3) 68 5 dInstr y4] := hS
      refine .c (.sthv hS.p1 T.t51 rfl rfl rfl ?_ rfl rfl rfl rfl rfl rfl)
      intro W hS
      refine .nil ?_
      refine .region ?_
      refine .p rfl rfl rfl ?_
      refine .p rfl rfl rfl ?_
      refine .p rfl rfl rfl ?_
      refine .nil ?_
      have hS := Sep.gat (ds := [.row 68 5 (y4.map dInstr)]) (cs := [(sv v3)]) (L1 := [rowV (sv v3) 68 5 dInstr y4]) (.row (.nil)) (hS.to [2, 0, 0] rfl)
      have hS : Sep _ _ W [rowV (sv v1) 51 1 (fun (l : List Instr) => D.row 68 5 (l.map dInstr)) (s1.2.set (Int.toNat s1.1) y4), rowV (sv v4) 68 5 dInstr x2] := hS.backv
      cases h
      exact ⟨rfl, sb rfl, hS.to [0] rfl⟩
    · have h := sel_f hb h
      refine .exit ?_
      cases h
      exact ⟨by simp, rfl, sb rfl, hS.to [0] rfl⟩
  · intro x E W hJ
    obtain ⟨rfl, hE, hS⟩ := hJ
    refine ⟨_, hE.sub, ?_⟩
    refine .seq ?_
    refine .region ?_
    refine .p rfl rfl rfl ?_
    refine .p rfl rfl rfl ?_
    refine .nil ?_
    refine .ret ?_
    cases h
    exact fin_ret (vs := [_]) v1 (rt rfl rn) rfl (hS.to [0] rfl)
def impl_roomsValid_F (w : World) (r : Bool) : Env → World → Prop := Fin Tryd.prog Tryd.f30 No w (fun s : Unit => .bool r) (fun s => []) .ret
theorem impl_roomsValid_ok {a0 : List Int} {v_0 : Hd} {w : World} {r : Bool} (h : impl_roomsValid a0 = some r) (q_0 : RV w (Old No w) (sv v_0) 3 1 (D.int .i64) a0) : Calls Tryd.prog 30 #[(sv v_0)] w (Ret No w (fun s : Unit => .bool r) (fun s => [])) := by
  unfold impl_roomsValid at h
  refine enter Tryd.func30 rfl rfl ?_
  have hS := Sep.start w
  refine .seq ?_
  refine .region ?_
  refine .p rfl rfl rfl ?_
  refine .nil ?_
  refine .seq ?_
  refine .seq ?_
  refine .region ?_
  refine .p rfl rfl rfl ?_
  refine .r (lenv (hS.keep q_0) T.u22 rfl rfl) ?_ rfl rfl
  refine .p rfl rfl rfl ?_
  refine .nil ?_
  refine .block ?_
  obtain ⟨y1, hy1, h⟩ := bnd h
  refine .via (.iter (fun s1 E' W' => SubL E' [(0, (sv v_0)), (5, (sv v_0)), (6, .int .i64 (a0.length : Int)), (7, .int .i64 s1)] ∧ Sep No w W' []) (fun y2 x E' W' => (match y2 with | .inl o1 => x = .ret ∧ impl_roomsValid_F w o1 E' W' | .inr o2 => x = .exit 0 ∧ SubL E' [(0, (sv v_0))] ∧ Sep No w W' [])) hy1 ⟨sb rfl, hS.to [] rfl⟩ ?_) ?_
  · intro s1 y3 E W h hI
    obtain ⟨hE, hS⟩ := hI
    refine CW.sub hE ?_
    unfold impl_roomsValid_b1 at h
    refine .seq ?_
    refine .region ?_
    refine .p rfl rfl rfl ?_
    refine .nil ?_
    refine .seq ?_
    refine .cond rfl (fun hb => ?_) (fun hb => ?_)
    · have h := sel_t hb h
      refine .skip ?_
      refine .seq ?_
      refine .block ?_
      refine .seq ?_
      refine .region ?_
      obtain ⟨x1, hx1, h⟩ := bnd h
      refine .r (ixv (hS.keep q_0) hx1 T.u22 T.t3 rfl rfl rfl) ?_ rfl rfl
      refine .r (lde (RV.flat (hS.keep q_0) hx1 rfl) T.t3 rfl rfl rfl rfl rfl) ?_ rfl rfl
      refine .p rfl rfl rfl ?_
      refine .nil ?_
      refine .seq ?_
      refine .region ?_
      refine .p rfl rfl rfl ?_
      refine .p rfl rfl rfl ?_
      refine .p rfl rfl rfl ?_
      refine .chunk 3 16 ((decide (x1 < 1)) || (decide (x1 > 4))) hS ?_ ?_
      · refine .both (decide (x1 < 1)) (fun hb => ?_) (fun hb => ?_)
        · skip
          refine .x hb ?_ rfl rfl
          refine .x hb ?_ rfl rfl
          refine .r (pkt hb rfl rfl rfl) ?_ rfl rfl
          exact .nil (ck 3 hS rfl (or_t hb) rfl rfl)
        · have hg1 := hb
          refine .g hg1 (.p rfl rfl rfl ?_) rfl
          refine .g hg1 (.p rfl rfl rfl ?_) rfl
          refine .r (pkf hg1 rfl rfl rfl) ?_ rfl rfl
          exact .nil (ck 3 hS rfl (or_f hg1) rfl rfl)
      intro W hS
      refine .nil ?_
      refine .cond rfl (fun hb => ?_) (fun hb => ?_)
      · have h := sel_t hb h
        refine .seq ?_
        refine .region ?_
        refine .p rfl rfl rfl ?_
        refine .nil ?_
        refine .ret ?_
        cases h
        exact ⟨by simp, rfl, fin_ret (vs := [_]) () (rt rfl rn) rfl (hS.to [] rfl)⟩
      · have h := sel_f hb h
        refine .skip ?_
        refine .region ?_
        refine .p rfl rfl rfl ?_
        refine .p rfl rfl rfl ?_
        refine .nil ?_
        cases h
        exact ⟨rfl, sb rfl, hS.to [] rfl⟩
    · have h := sel_f hb h
      refine .exit ?_
      cases h
      exact ⟨by simp, rfl, sb rfl, hS.to [] rfl⟩
  · intro x E W hJ
    rcases y1 with o3 | o4
    · skip
      obtain ⟨rfl, hF⟩ := hJ
      refine ⟨_, fun _ _ h => h, ?_⟩
      cases h
      exact hF
    · skip
      obtain ⟨rfl, hE, hS⟩ := hJ
      refine ⟨_, hE.sub, ?_⟩
      refine .seq ?_
      refine .region ?_
      refine .p rfl rfl rfl ?_
      refine .r (lenv (hS.keep q_0) T.u22 rfl rfl) ?_ rfl rfl
      refine .p rfl rfl rfl ?_
      refine .p rfl rfl rfl ?_
      refine .nil ?_
      refine .ret ?_
      cases h
      exact fin_ret (vs := [_]) () (rt rfl rn) rfl (hS.to [] rfl)
theorem impl_Wrap_ok {a0 : Int} {w : World} {r : Int} (h : impl_Wrap a0 = some r) : Calls Tryd.prog 42 #[.int .i64 a0] w (Ret No w (fun s : Unit => .int .i64 r) (fun s => [])) := by
  unfold impl_Wrap at h
  refine enter Tryd.func42 rfl rfl ?_
  have hS := Sep.start w
  refine .seq ?_
  refine .region ?_
  refine .p rfl rfl rfl ?_
  refine .nil ?_
  refine .seq ?_
  refine .region ?_
  refine .p rfl rfl rfl ?_
  refine .r (cv T.u3 T.u21 rfl rfl) ?_ rfl rfl
  refine .r (cv T.u21 T.u3 rfl rfl) ?_ rfl rfl
  refine .p rfl rfl rfl ?_
  refine .nil ?_
  refine .ret ?_
  cases h
  exact fin_ret (vs := [_]) () (rt rfl rn) rfl (hS.to [] rfl)
end Go.Proofs.YtdohklfimhkicaaDoor.N
