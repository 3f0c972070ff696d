/- Printed by a program of mine: that the program's functions compute it. -/
import Derived.Test.YtdohklfimhkicaaDoorT10
import Derived.Test.YtdohklfimhkicaaDoorT10a
import Derived.Test.YtdohklfimhkicaaDoorT10b
set_option linter.unusedVariables false
set_option maxRecDepth 100000
set_option maxHeartbeats 4000000
namespace Go.Proofs.YtdohklfimhkicaaDoor.N
open Go.Proofs.YtdohklfimhkicaaDoor.X
theorem impl_instrRow_matches_ok {a0 : InstrRow} {a1 : Int} {a2 : Int} {w : World} {r : Bool} (h : impl_instrRow_matches a0 a1 a2 = some r) : Calls Tryd.prog 98 #[.agg #[.string a0.name, .int .i64 a0.opcode, .int .i64 a0.funct3, .int .i64 a0.funct7], .int .i64 a1, .int .i64 a2] w (Ret No w (fun s : Unit => .bool r) (fun s => [])) := by
  unfold impl_instrRow_matches at h
  refine enter Tryd.func98 rfl rfl ?_
  have hS := Sep.start w
  refine .seq ?_
  refine .region ?_
  refine .c (.box hS rfl rfl ?_ rfl rfl)
  intro g1 W hS
  refine .p rfl rfl rfl ?_
  refine .nil ?_
  refine .seq ?_
  refine .seq ?_
  refine .region ?_
  refine .r (fa T.f93_1 rfl rfl rfl) ?_ rfl rfl
  refine .r (ld T.t3 hS rfl rfl rfl rfl rfl) ?_ rfl rfl
  refine .p rfl rfl rfl ?_
  refine .p rfl rfl rfl ?_
  refine .p rfl rfl rfl ?_
  refine .nil ?_
  refine .cond rfl (fun hb => ?_) (fun hb => ?_)
  · have h := sel_t hb h
    refine .seq ?_
    refine .region ?_
    refine .p rfl rfl rfl ?_
    refine .nil ?_
    refine .ret ?_
    cases h
    exact fin_ret (vs := [_]) () (rt rfl rn) rfl (hS.to [] rfl)
  · have h := sel_f hb h
    refine .skip ?_
    refine .seq ?_
    refine .seq ?_
    refine .region ?_
    refine .p rfl rfl rfl ?_
    obtain ⟨y1, hy1, h⟩ := bnd h
    refine .c (.call0 hS Tryd.func89 (impl_formatOf_ok hy1) rfl rfl ?_ rfl (by kernel_rfl) rfl rfl)
    intro W hS
    refine .nil ?_
    refine .block ?_
    refine .seq ?_
    refine .region ?_
    refine .p rfl rfl rfl ?_
    refine .p rfl rfl rfl ?_
    refine .nil ?_
    refine .cond rfl (fun hb => ?_) (fun hb => ?_)
    · have h := sel_t hb h
      refine .seq ?_
      obtain ⟨y2, hy2, h⟩ := bnd h
      obtain ⟨b1, hb1, h⟩ := bnd h
      refine .via (R' := fun x E' W' => x = .normal ∧ SubL E' [(6, .bool b1)] ∧ Sep No w W' [.box g1 93 [.string a0.name, .int .i64 a0.opcode, .int .i64 a0.funct3, .int .i64 a0.funct7]]) ?_ ?_
      · skip
        refine .rk 13 hS [0] T.mix ?_
        intro W hS
        have hT : Sep _ _ W [.box g1 93 [.string a0.name, .int .i64 a0.opcode, .int .i64 a0.funct3, .int .i64 a0.funct7]] := hS.to [0] rfl
        refine .t1 0 rfl (fun W hT => fa T.f93_2 rfl rfl rfl) hT ?_ (by kernel_rfl) rfl rfl
        refine .t1 1 rfl (fun W hT => ld T.t3 hT rfl rfl rfl rfl rfl) hT ?_ (by kernel_rfl) rfl rfl
        refine .t1 2 rfl (fun W hT => pr rfl) hT ?_ (by kernel_rfl) rfl rfl
        refine .by1 3 rfl (.call0 hS Tryd.func88 (impl_Bits_ok hy2) rfl rfl ?_ rfl (by kernel_rfl) rfl rfl) (by kernel_rfl)
        intro W hS
        have hT : Sep _ _ W [.box g1 93 [.string a0.name, .int .i64 a0.opcode, .int .i64 a0.funct3, .int .i64 a0.funct7]] := hS.to [0] rfl
        refine ⟨fun _ => hT, ?_⟩
        refine .t1 4 rfl (fun W hT => pr rfl) hT ?_ (by kernel_rfl) rfl rfl
        refine .t1 5 rfl (fun W hT => pr rfl) hT ?_ (by kernel_rfl) rfl rfl
        refine .both (a0.funct3 == y2) (fun hb => ?_) (fun hb => ?_)
        · have hg1 := hb
          have h_b1 := sel_t hb hb1
          refine .t1g 6 rfl hg1 (fun W hT => fa T.f93_3 rfl rfl rfl) hT ?_ (by kernel_rfl) rfl rfl
          refine .t1g 7 rfl hg1 (fun W hT => ld T.t3 hT rfl rfl rfl rfl rfl) hT ?_ (by kernel_rfl) rfl rfl
          refine .t1g 8 rfl hg1 (fun W hT => pr rfl) hT ?_ (by kernel_rfl) rfl rfl
          obtain ⟨y3, hy3, h_b1⟩ := bnd h_b1
          refine .by1 9 rfl (.gd hg1 (.call0 hS Tryd.func88 (impl_Bits_ok hy3) rfl rfl ?_ rfl (by kernel_rfl) rfl rfl) rfl) (by kernel_rfl)
          intro W hS
          have hT : Sep _ _ W [.box g1 93 [.string a0.name, .int .i64 a0.opcode, .int .i64 a0.funct3, .int .i64 a0.funct7]] := hS.to [0] rfl
          refine ⟨fun _ => hT, ?_⟩
          refine .t1g 10 rfl hg1 (fun W hT => pr rfl) hT ?_ (by kernel_rfl) rfl rfl
          refine .t1 11 rfl (fun W hT => pkt hg1 rfl rfl rfl) hT ?_ (by kernel_rfl) rfl rfl
          refine .eqv 27 rfl (bool_eq h_b1) ?_
          refine .t1 12 rfl (fun W hT => pr rfl) hT ?_ (by kernel_rfl) rfl rfl
          refine .done ?_ (by kernel_rfl)
          exact ⟨rfl, sb rfl, hS.to [0] rfl⟩
        · skip
          refine .off 6 rfl hb hT ?_ (by kernel_rfl) rfl rfl
          refine .off 7 rfl hb hT ?_ (by kernel_rfl) rfl rfl
          refine .off 8 rfl hb hT ?_ (by kernel_rfl) rfl rfl
          refine .off 9 rfl hb hT ?_ (by kernel_rfl) rfl rfl
          refine .off 10 rfl hb hT ?_ (by kernel_rfl) rfl rfl
          refine .t1 11 rfl (fun W hT => pkf hb rfl rfl rfl) hT ?_ (by kernel_rfl) rfl rfl
          refine .eqv 27 rfl (bool_eq (sel_f hb hb1)) ?_
          refine .t1 12 rfl (fun W hT => pr rfl) hT ?_ (by kernel_rfl) rfl rfl
          refine .done ?_ (by kernel_rfl)
          exact ⟨rfl, sb rfl, hS.to [0] rfl⟩
      · intro x E W hJ
        obtain ⟨rfl, hE, hS⟩ := hJ
        refine ⟨_, hE.sub, ?_⟩
        refine .ret ?_
        cases h
        exact fin_ret (vs := [_]) () (rt rfl rn) rfl (hS.to [] rfl)
    · have h := sel_f hb h
      obtain ⟨y4, hy4, h⟩ := bnd h
      refine .seq (CW.via (R' := fun x E' W' => x = .normal ∧ SubL E' [(2, .int .i64 a2), (3, .pointer (some ⟨g1, 0, none⟩)), (28, .bool y4)] ∧ Sep No w W' [.box g1 93 [.string a0.name, .int .i64 a0.opcode, .int .i64 a0.funct3, .int .i64 a0.funct7]]) ?_ ?_)
      · have h := hy4
        refine .seq ?_
        refine .region ?_
        refine .p rfl rfl rfl ?_
        refine .p rfl rfl rfl ?_
        refine .nil ?_
        refine .cond rfl (fun hb => ?_) (fun hb => ?_)
        · have h := sel_t hb h
          refine .skip ?_
          cases h
          exact ⟨rfl, sb rfl, hS.to [0] rfl⟩
        · have h := sel_f hb h
          refine .seq ?_
          refine .region ?_
          refine .p rfl rfl rfl ?_
          refine .p rfl rfl rfl ?_
          refine .nil ?_
          refine .cond rfl (fun hb => ?_) (fun hb => ?_)
          · have h := sel_t hb h
            refine .skip ?_
            cases h
            exact ⟨rfl, sb rfl, hS.to [0] rfl⟩
          · have h := sel_f hb h
            refine .region ?_
            refine .p rfl rfl rfl ?_
            refine .p rfl rfl rfl ?_
            refine .nil ?_
            cases h
            exact ⟨rfl, sb rfl, hS.to [0] rfl⟩
      · intro x E W hJ
        obtain ⟨rfl, hE, hS⟩ := hJ
        refine ⟨_, hE.sub, ?_⟩
        refine .cond rfl (fun hb => ?_) (fun hb => ?_)
        · have h := sel_t hb h
          refine .seq ?_
          refine .rk 6 hS [0] T.mix ?_
          intro W hS
          have hT : Sep _ _ W [.box g1 93 [.string a0.name, .int .i64 a0.opcode, .int .i64 a0.funct3, .int .i64 a0.funct7]] := hS.to [0] rfl
          refine .t1 0 rfl (fun W hT => fa T.f93_2 rfl rfl rfl) hT ?_ (by kernel_rfl) rfl rfl
          refine .t1 1 rfl (fun W hT => ld T.t3 hT rfl rfl rfl rfl rfl) hT ?_ (by kernel_rfl) rfl rfl
          refine .t1 2 rfl (fun W hT => pr rfl) hT ?_ (by kernel_rfl) rfl rfl
          obtain ⟨y5, hy5, h⟩ := bnd h
          refine .by1 3 rfl (.call0 hS Tryd.func88 (impl_Bits_ok hy5) rfl rfl ?_ rfl (by kernel_rfl) rfl rfl) (by kernel_rfl)
          intro W hS
          have hT : Sep _ _ W [.box g1 93 [.string a0.name, .int .i64 a0.opcode, .int .i64 a0.funct3, .int .i64 a0.funct7]] := hS.to [0] rfl
          refine ⟨fun _ => hT, ?_⟩
          refine .t1 4 rfl (fun W hT => pr rfl) hT ?_ (by kernel_rfl) rfl rfl
          refine .t1 5 rfl (fun W hT => pr rfl) hT ?_ (by kernel_rfl) rfl rfl
          refine .done ?_ (by kernel_rfl)
          refine .ret ?_
          cases h
          exact fin_ret (vs := [_]) () (rt rfl rn) rfl (hS.to [] rfl)
        · have h := sel_f hb h
          refine .skip ?_
          refine .seq ?_
          refine .region ?_
          refine .p rfl rfl rfl ?_
          refine .nil ?_
          refine .ret ?_
          cases h
          exact fin_ret (vs := [_]) () (rt rfl rn) rfl (hS.to [] rfl)
theorem impl_SignExtend_ok {a0 : Int} {a1 : Int} {w : World} {r : Int} (h : impl_SignExtend a0 a1 = some r) : Calls Tryd.prog 114 #[.int .i64 a0, .int .i64 a1] w (Ret No w (fun s : Unit => .int .i64 r) (fun s => [])) := by
  unfold impl_SignExtend at h
  refine enter Tryd.func114 rfl rfl ?_
  have hS := Sep.start w
  refine .seq ?_
  refine .region ?_
  refine .p rfl rfl rfl ?_
  refine .nil ?_
  refine .seq ?_
  refine .seq ?_
  refine .region ?_
  refine .p rfl rfl rfl ?_
  refine .p rfl rfl rfl ?_
  refine .p rfl rfl rfl ?_
  refine .chunk 3 10 ((decide (a1 < 1)) || (decide (a1 > 32))) hS ?_ ?_
  · refine .both (decide (a1 < 1)) (fun hb => ?_) (fun hb => ?_)
    · skip
      refine .x hb ?_ rfl rfl
      refine .x hb ?_ rfl rfl
      refine .r (pkt hb rfl rfl rfl) ?_ rfl rfl
      exact .nil (ck 3 hS rfl (or_t hb) rfl rfl)
    · have hg1 := hb
      refine .g hg1 (.p rfl rfl rfl ?_) rfl
      refine .g hg1 (.p rfl rfl rfl ?_) rfl
      refine .r (pkf hg1 rfl rfl rfl) ?_ rfl rfl
      exact .nil (ck 3 hS rfl (or_f hg1) rfl rfl)
  intro W hS
  refine .p rfl rfl rfl ?_
  refine .chunk 3 14 (((decide (a1 < 1)) || (decide (a1 > 32))) || (decide (a0 < 0))) hS ?_ ?_
  · refine .both ((decide (a1 < 1)) || (decide (a1 > 32))) (fun hb => ?_) (fun hb => ?_)
    · skip
      refine .x hb ?_ rfl rfl
      refine .x hb ?_ rfl rfl
      refine .r (pkt hb rfl rfl rfl) ?_ rfl rfl
      exact .nil (ck 3 hS rfl (or_t hb) rfl rfl)
    · have hg2 := hb
      refine .g hg2 (.p rfl rfl rfl ?_) rfl
      refine .g hg2 (.p rfl rfl rfl ?_) rfl
      refine .r (pkf hg2 rfl rfl rfl) ?_ rfl rfl
      exact .nil (ck 3 hS rfl (or_f hg2) rfl rfl)
  intro W hS
  refine .p rfl rfl rfl ?_
  obtain ⟨b1, hb1, h⟩ := bnd h
  refine .chunk 5 20 (b1) hS ?_ ?_
  · refine .both (((decide (a1 < 1)) || (decide (a1 > 32))) || (decide (a0 < 0))) (fun hb => ?_) (fun hb => ?_)
    · skip
      refine .x hb ?_ rfl rfl
      refine .x hb ?_ rfl rfl
      refine .x hb ?_ rfl rfl
      refine .x hb ?_ rfl rfl
      cases sel_t hb hb1
      refine .r (pkt hb rfl rfl rfl) ?_ rfl rfl
      exact .nil (ck 5 hS rfl rfl rfl rfl)
    · have hg3 := hb
      have h := sel_f hb hb1
      refine .g hg3 (.p rfl rfl rfl ?_) rfl
      refine .g hg3 (.p rfl rfl rfl ?_) rfl
      obtain ⟨d1, hd1, h⟩ := bnd h
      refine .g hg3 (.r (shr_run hd1 rfl rfl rfl) ?_ rfl rfl) rfl
      refine .g hg3 (.p rfl rfl rfl ?_) rfl
      refine .r (pkf hg3 rfl rfl rfl) ?_ rfl rfl
      cases h
      exact .nil (ck 5 hS rfl rfl rfl rfl)
  intro W hS
  refine .nil ?_
  refine .cond rfl (fun hb => ?_) (fun hb => ?_)
  · have h := sel_t hb h
    refine .seq ?_
    refine .region ?_
    refine .p rfl rfl rfl ?_
    refine .nil ?_
    refine .ret ?_
    cases h
    exact fin_ret (vs := [_]) () (rt rfl rn) rfl (hS.to [] rfl)
  · have h := sel_f hb h
    refine .skip ?_
    refine .seq ?_
    refine .seq ?_
    refine .region ?_
    refine .p rfl rfl rfl ?_
    refine .p rfl rfl rfl ?_
    refine .p rfl rfl rfl ?_
    obtain ⟨d2, hd2, h⟩ := bnd h
    refine .r (shr_run hd2 rfl rfl rfl) ?_ rfl rfl
    refine .p rfl rfl rfl ?_
    refine .nil ?_
    refine .cond rfl (fun hb => ?_) (fun hb => ?_)
    · have h := sel_t hb h
      refine .seq ?_
      refine .region ?_
      refine .p rfl rfl rfl ?_
      refine .p rfl rfl rfl ?_
      obtain ⟨d3, hd3, h⟩ := bnd h
      refine .r (shr_run hd3 rfl rfl rfl) ?_ rfl rfl
      refine .p rfl rfl rfl ?_
      refine .p rfl rfl rfl ?_
      refine .nil ?_
      refine .ret ?_
      cases h
      exact fin_ret (vs := [_]) () (rt rfl rn) rfl (hS.to [] rfl)
    · have h := sel_f hb h
      refine .skip ?_
      refine .seq ?_
      refine .region ?_
      refine .p rfl rfl rfl ?_
      refine .p rfl rfl rfl ?_
      refine .nil ?_
      refine .ret ?_
      cases h
      exact fin_ret (vs := [_]) () (rt rfl rn) rfl (hS.to [] rfl)
theorem impl_decodeAs_ok {a0 : Int} {a1 : Int} {w : World} {r : Instr} (h : impl_decodeAs a0 a1 = some r) : Calls Tryd.prog 99 #[.int .i64 a0, .int .i64 a1] w (Ret No w (fun s : Unit => .agg #[.int .i64 r.Op, .int .i64 r.Rd, .int .i64 r.Rs, .int .i64 r.Rt, .int .i64 r.Imm]) (fun s => [])) := by
  unfold impl_decodeAs at h
  refine enter Tryd.func99 rfl rfl ?_
  have hS := Sep.start w
  refine .seq ?_
  refine .region ?_
  refine .c (.alloc T.t68 hS ?_ rfl rfl rfl)
  intro g1 W hS
  refine .nil ?_
  refine .seq ?_
  refine .region ?_
  refine .p rfl rfl rfl ?_
  obtain ⟨y1, hy1, h⟩ := bnd h
  refine .c (.call0 hS Tryd.func88 (impl_Bits_ok hy1) rfl rfl ?_ rfl (by kernel_rfl) rfl rfl)
  intro W hS
  refine .p rfl rfl rfl ?_
  obtain ⟨y2, hy2, h⟩ := bnd h
  refine .c (.call0 hS Tryd.func88 (impl_Bits_ok hy2) rfl rfl ?_ rfl (by kernel_rfl) rfl rfl)
  intro W hS
  refine .p rfl rfl rfl ?_
  obtain ⟨y3, hy3, h⟩ := bnd h
  refine .c (.call0 hS Tryd.func88 (impl_Bits_ok hy3) rfl rfl ?_ rfl (by kernel_rfl) rfl rfl)
  intro W hS
  refine .p rfl rfl rfl ?_
  refine .p rfl rfl rfl ?_
  refine .p rfl rfl rfl ?_
  refine .nil ?_
  refine .seq ?_
  refine .seq ?_
  refine .region ?_
  refine .p rfl rfl rfl ?_
  obtain ⟨y4, hy4, h⟩ := bnd h
  refine .c (.call0 hS Tryd.func89 (impl_formatOf_ok hy4) rfl rfl ?_ rfl (by kernel_rfl) rfl rfl)
  intro W hS
  refine .nil ?_
  refine .block ?_
  refine .seq ?_
  refine .region ?_
  refine .p rfl rfl rfl ?_
  refine .p rfl rfl rfl ?_
  refine .nil ?_
  refine .cond rfl (fun hb => ?_) (fun hb => ?_)
  · have h := sel_t hb h
    refine .seq ?_
    refine .region ?_
    refine .p rfl rfl rfl ?_
    refine .p rfl rfl rfl ?_
    refine .p rfl rfl rfl ?_
    refine .p rfl rfl rfl ?_
    refine .r (bs T.s68 rfl rfl) ?_ rfl rfl
    refine .c (.st T.t68 hS rfl rfl rfl ?_ rfl rfl rfl rfl rfl)
    intro W hS
    refine .nil ?_
    refine .ret ?_
    cases h
    exact fin_ret (vs := [_]) () (rc hS T.t68 rfl rn rfl rfl) rfl (hS.to [] rfl)
  · have h := sel_f hb h
    refine .seq ?_
    refine .region ?_
    refine .p rfl rfl rfl ?_
    refine .p rfl rfl rfl ?_
    refine .nil ?_
    refine .cond rfl (fun hb => ?_) (fun hb => ?_)
    · have h := sel_t hb h
      refine .seq ?_
      refine .region ?_
      refine .p rfl rfl rfl ?_
      refine .p rfl rfl rfl ?_
      refine .p rfl rfl rfl ?_
      refine .p rfl rfl rfl ?_
      obtain ⟨y5, hy5, h⟩ := bnd h
      refine .c (.call0 hS Tryd.func88 (impl_Bits_ok hy5) rfl rfl ?_ rfl (by kernel_rfl) rfl rfl)
      intro W hS
      obtain ⟨y6, hy6, h⟩ := bnd h
      refine .c (.call0 hS Tryd.func114 (impl_SignExtend_ok hy6) rfl rfl ?_ rfl (by kernel_rfl) rfl rfl)
      intro W hS
      refine .r (bs T.s68 rfl rfl) ?_ rfl rfl
      refine .c (.st T.t68 hS rfl rfl rfl ?_ rfl rfl rfl rfl rfl)
      intro W hS
      refine .nil ?_
      refine .ret ?_
      cases h
      exact fin_ret (vs := [_]) () (rc hS T.t68 rfl rn rfl rfl) rfl (hS.to [] rfl)
    · have h := sel_f hb h
      refine .seq ?_
      refine .region ?_
      refine .p rfl rfl rfl ?_
      refine .p rfl rfl rfl ?_
      refine .nil ?_
      refine .cond rfl (fun hb => ?_) (fun hb => ?_)
      · have h := sel_t hb h
        refine .seq ?_
        refine .region ?_
        refine .p rfl rfl rfl ?_
        refine .p rfl rfl rfl ?_
        refine .p rfl rfl rfl ?_
        refine .p rfl rfl rfl ?_
        obtain ⟨y7, hy7, h⟩ := bnd h
        refine .c (.call0 hS Tryd.func88 (impl_Bits_ok hy7) rfl rfl ?_ rfl (by kernel_rfl) rfl rfl)
        intro W hS
        refine .p rfl rfl rfl ?_
        refine .p rfl rfl rfl ?_
        refine .p rfl rfl rfl ?_
        obtain ⟨y8, hy8, h⟩ := bnd h
        refine .c (.call0 hS Tryd.func114 (impl_SignExtend_ok hy8) rfl rfl ?_ rfl (by kernel_rfl) rfl rfl)
        intro W hS
        refine .r (bs T.s68 rfl rfl) ?_ rfl rfl
        refine .c (.st T.t68 hS rfl rfl rfl ?_ rfl rfl rfl rfl rfl)
        intro W hS
        refine .nil ?_
        refine .ret ?_
        cases h
        exact fin_ret (vs := [_]) () (rc hS T.t68 rfl rn rfl rfl) rfl (hS.to [] rfl)
      · have h := sel_f hb h
        refine .seq ?_
        refine .region ?_
        refine .p rfl rfl rfl ?_
        refine .p rfl rfl rfl ?_
        refine .nil ?_
        refine .cond rfl (fun hb => ?_) (fun hb => ?_)
        · have h := sel_t hb h
          refine .seq ?_
          refine .region ?_
          refine .p rfl rfl rfl ?_
          obtain ⟨y9, hy9, h⟩ := bnd h
          refine .c (.call0 hS Tryd.func88 (impl_Bits_ok hy9) rfl rfl ?_ rfl (by kernel_rfl) rfl rfl)
          intro W hS
          refine .p rfl rfl rfl ?_
          refine .p rfl rfl rfl ?_
          obtain ⟨y10, hy10, h⟩ := bnd h
          refine .c (.call0 hS Tryd.func88 (impl_Bits_ok hy10) rfl rfl ?_ rfl (by kernel_rfl) rfl rfl)
          intro W hS
          refine .p rfl rfl rfl ?_
          refine .p rfl rfl rfl ?_
          refine .p rfl rfl rfl ?_
          obtain ⟨y11, hy11, h⟩ := bnd h
          refine .c (.call0 hS Tryd.func88 (impl_Bits_ok hy11) rfl rfl ?_ rfl (by kernel_rfl) rfl rfl)
          intro W hS
          refine .p rfl rfl rfl ?_
          refine .p rfl rfl rfl ?_
          refine .p rfl rfl rfl ?_
          obtain ⟨y12, hy12, h⟩ := bnd h
          refine .c (.call0 hS Tryd.func88 (impl_Bits_ok hy12) rfl rfl ?_ rfl (by kernel_rfl) rfl rfl)
          intro W hS
          refine .p rfl rfl rfl ?_
          refine .p rfl rfl rfl ?_
          refine .p rfl rfl rfl ?_
          refine .nil ?_
          refine .seq ?_
          refine .region ?_
          refine .p rfl rfl rfl ?_
          refine .p rfl rfl rfl ?_
          refine .p rfl rfl rfl ?_
          refine .p rfl rfl rfl ?_
          obtain ⟨y13, hy13, h⟩ := bnd h
          refine .c (.call0 hS Tryd.func114 (impl_SignExtend_ok hy13) rfl rfl ?_ rfl (by kernel_rfl) rfl rfl)
          intro W hS
          refine .r (bs T.s68 rfl rfl) ?_ rfl rfl
          refine .c (.st T.t68 hS rfl rfl rfl ?_ rfl rfl rfl rfl rfl)
          intro W hS
          refine .nil ?_
          refine .ret ?_
          cases h
          exact fin_ret (vs := [_]) () (rc hS T.t68 rfl rn rfl rfl) rfl (hS.to [] rfl)
        · have h := sel_f hb h
          refine .seq ?_
          refine .region ?_
          refine .p rfl rfl rfl ?_
          refine .p rfl rfl rfl ?_
          refine .nil ?_
          refine .cond rfl (fun hb => ?_) (fun hb => ?_)
          · have h := sel_t hb h
            refine .seq ?_
            refine .region ?_
            refine .p rfl rfl rfl ?_
            refine .p rfl rfl rfl ?_
            refine .p rfl rfl rfl ?_
            obtain ⟨y14, hy14, h⟩ := bnd h
            refine .c (.call0 hS Tryd.func88 (impl_Bits_ok hy14) rfl rfl ?_ rfl (by kernel_rfl) rfl rfl)
            intro W hS
            refine .r (bs T.s68 rfl rfl) ?_ rfl rfl
            refine .c (.st T.t68 hS rfl rfl rfl ?_ rfl rfl rfl rfl rfl)
            intro W hS
            refine .nil ?_
            refine .ret ?_
            cases h
            exact fin_ret (vs := [_]) () (rc hS T.t68 rfl rn rfl rfl) rfl (hS.to [] rfl)
          · have h := sel_f hb h
            refine .seq ?_
            refine .region ?_
            refine .p rfl rfl rfl ?_
            refine .p rfl rfl rfl ?_
            refine .nil ?_
            refine .cond rfl (fun hb => ?_) (fun hb => ?_)
            · have h := sel_t hb h
              refine .seq ?_
              refine .region ?_
              refine .p rfl rfl rfl ?_
              obtain ⟨y15, hy15, h⟩ := bnd h
              refine .c (.call0 hS Tryd.func88 (impl_Bits_ok hy15) rfl rfl ?_ rfl (by kernel_rfl) rfl rfl)
              intro W hS
              refine .p rfl rfl rfl ?_
              refine .p rfl rfl rfl ?_
              obtain ⟨y16, hy16, h⟩ := bnd h
              refine .c (.call0 hS Tryd.func88 (impl_Bits_ok hy16) rfl rfl ?_ rfl (by kernel_rfl) rfl rfl)
              intro W hS
              refine .p rfl rfl rfl ?_
              refine .p rfl rfl rfl ?_
              refine .p rfl rfl rfl ?_
              obtain ⟨y17, hy17, h⟩ := bnd h
              refine .c (.call0 hS Tryd.func88 (impl_Bits_ok hy17) rfl rfl ?_ rfl (by kernel_rfl) rfl rfl)
              intro W hS
              refine .p rfl rfl rfl ?_
              refine .p rfl rfl rfl ?_
              refine .p rfl rfl rfl ?_
              obtain ⟨y18, hy18, h⟩ := bnd h
              refine .c (.call0 hS Tryd.func88 (impl_Bits_ok hy18) rfl rfl ?_ rfl (by kernel_rfl) rfl rfl)
              intro W hS
              refine .p rfl rfl rfl ?_
              refine .p rfl rfl rfl ?_
              refine .p rfl rfl rfl ?_
              refine .nil ?_
              refine .seq ?_
              refine .region ?_
              refine .p rfl rfl rfl ?_
              refine .p rfl rfl rfl ?_
              refine .p rfl rfl rfl ?_
              obtain ⟨y19, hy19, h⟩ := bnd h
              refine .c (.call0 hS Tryd.func114 (impl_SignExtend_ok hy19) rfl rfl ?_ rfl (by kernel_rfl) rfl rfl)
              intro W hS
              refine .r (bs T.s68 rfl rfl) ?_ rfl rfl
              refine .c (.st T.t68 hS rfl rfl rfl ?_ rfl rfl rfl rfl rfl)
              intro W hS
              refine .nil ?_
              refine .ret ?_
              cases h
              exact fin_ret (vs := [_]) () (rc hS T.t68 rfl rn rfl rfl) rfl (hS.to [] rfl)
            · have h := sel_f hb h
              refine .skip ?_
              refine .seq ?_
              refine .region ?_
              refine .p rfl rfl rfl ?_
              refine .r (bs T.s68 rfl rfl) ?_ rfl rfl
              refine .c (.st T.t68 hS rfl rfl rfl ?_ rfl rfl rfl rfl rfl)
              intro W hS
              refine .nil ?_
              refine .ret ?_
              cases h
              exact fin_ret (vs := [_]) () (rc hS T.t68 rfl rn rfl rfl) rfl (hS.to [] rfl)
def impl_InstrDecode_F (w : World) (r : Instr × Bool) : Env → World → Prop := Fin Tryd.prog Tryd.f72 No w (fun s : Unit => .tuple #[.agg #[.int .i64 r.1.Op, .int .i64 r.1.Rd, .int .i64 r.1.Rs, .int .i64 r.1.Rt, .int .i64 r.1.Imm], .bool r.2]) (fun s => []) .ret
theorem impl_InstrDecode_ok {a0 : Int} {w : World} {r : Instr × Bool} (h : impl_InstrDecode a0 = some r) (hG : Gl w) : Calls Tryd.prog 72 #[.int .i64 a0] w (Ret No w (fun s : Unit => .tuple #[.agg #[.int .i64 r.1.Op, .int .i64 r.1.Rd, .int .i64 r.1.Rs, .int .i64 r.1.Rt, .int .i64 r.1.Imm], .bool r.2]) (fun s => [])) := by
  unfold impl_InstrDecode at h
  refine enter Tryd.func72 rfl rfl ?_
  have hS := Sep.start w
  refine .seq ?_
  refine .region ?_
  refine .c (.alloc T.t68 hS ?_ rfl rfl rfl)
  intro g1 W hS
  refine .p rfl rfl rfl ?_
  refine .nil ?_
  refine .seq ?_
  refine .seq ?_
  refine .region ?_
  refine .p rfl rfl rfl ?_
  obtain ⟨y1, hy1, h⟩ := bnd h
  refine .c (.call0 hS Tryd.func97 (impl_isUnsigned_ok hy1) rfl rfl ?_ rfl (by kernel_rfl) rfl rfl)
  intro W hS
  refine .p rfl rfl rfl ?_
  refine .nil ?_
  refine .cond rfl (fun hb => ?_) (fun hb => ?_)
  · have h := sel_t hb h
    refine .seq ?_
    refine .region ?_
    refine .r (bs T.s68 rfl rfl) ?_ rfl rfl
    refine .c (.st T.t68 hS rfl rfl rfl ?_ rfl rfl rfl rfl rfl)
    intro W hS
    refine .p rfl rfl rfl ?_
    refine .nil ?_
    refine .ret ?_
    cases h
    exact fin_ret (vs := [_, _]) () (rc hS T.t68 rfl (rt rfl rn) rfl rfl) rfl (hS.to [] rfl)
  · have h := sel_f hb h
    refine .skip ?_
    refine .seq ?_
    refine .seq ?_
    refine .region ?_
    refine .p rfl rfl rfl ?_
    refine .nil ?_
    refine .block ?_
    obtain ⟨y2, hy2, h⟩ := bnd h
    refine .via (.iter (fun s1 E' W' => SubL E' [(0, .int .i64 a0), (2, .pointer (some ⟨g1, 0, none⟩)), (4, .int .i64 s1)] ∧ Sep No w W' [.box g1 68 [.int .i64 0, .int .i64 0, .int .i64 0, .int .i64 0, .int .i64 0]]) (fun y3 x E' W' => (match y3 with | .inl o1 => x = .ret ∧ impl_InstrDecode_F w o1 E' W' | .inr o2 => x = .exit 0 ∧ SubL E' [(2, .pointer (some ⟨g1, 0, none⟩))] ∧ Sep No w W' [.box g1 68 [.int .i64 0, .int .i64 0, .int .i64 0, .int .i64 0, .int .i64 0]])) hy2 ⟨sb rfl, hS.to [0] rfl⟩ ?_) ?_
    · intro s1 y4 E W h hI
      obtain ⟨hE, hS⟩ := hI
      refine CW.sub hE ?_
      unfold impl_InstrDecode_b1 at h
      refine .seq ?_
      refine .seq ?_
      refine .region ?_
      refine .p rfl rfl rfl ?_
      refine .p rfl rfl rfl ?_
      refine .nil ?_
      refine .cond rfl (fun hb => ?_) (fun hb => ?_)
      · have h := sel_t hb h
        refine .skip ?_
        obtain ⟨y5, hy5, h⟩ := bnd h
        refine .seq (CW.via (R' := fun x E' W' => (match y5 with | .inl o3 => x = .normal ∧ SubL E' [(0, .int .i64 a0), (2, .pointer (some ⟨g1, 0, none⟩)), (4, .int .i64 s1)] ∧ Sep No w W' [.box g1 68 [.int .i64 0, .int .i64 0, .int .i64 0, .int .i64 0, .int .i64 0]] | .inr o4 => x = .ret ∧ impl_InstrDecode_F w o4 E' W')) ?_ ?_)
        · have h := hy5
          refine .block ?_
          refine .seq ?_
          refine .seq ?_
          refine .region ?_
          refine .p rfl rfl rfl ?_
          refine .p rfl rfl rfl ?_
          obtain ⟨x1, hx1, h⟩ := bnd h
          refine .r (ixt hx1 rfl T.u94 T.t93 rfl rfl rfl) ?_ rfl rfl
          refine .r (ldt (hG.at hS (fun _ _ h => h)).2 hx1 T.t93 rfl rfl rfl rfl rfl) ?_ rfl rfl
          refine .p rfl rfl rfl ?_
          refine .p rfl rfl rfl ?_
          obtain ⟨y6, hy6, h⟩ := bnd h
          refine .c (.call0 hS Tryd.func98 (impl_instrRow_matches_ok hy6) rfl rfl ?_ rfl (by kernel_rfl) rfl rfl)
          intro W hS
          refine .p rfl rfl rfl ?_
          refine .nil ?_
          refine .cond rfl (fun hb => ?_) (fun hb => ?_)
          · have h := sel_t hb h
            refine .exit ?_
            cases h
            exact ⟨rfl, sb rfl, hS.to [0] rfl⟩
          · have h := sel_f hb h
            refine .skip ?_
            refine .seq ?_
            refine .region ?_
            refine .p rfl rfl rfl ?_
            refine .p rfl rfl rfl ?_
            obtain ⟨y7, hy7, h⟩ := bnd h
            refine .c (.call0 hS Tryd.func99 (impl_decodeAs_ok hy7) rfl rfl ?_ rfl (by kernel_rfl) rfl rfl)
            intro W hS
            refine .c (.alloc T.t68 hS ?_ rfl rfl rfl)
            intro g2 W hS
            refine .c (.st T.t68 hS rfl rfl rfl ?_ rfl rfl rfl rfl rfl)
            intro W hS
            refine .nil ?_
            refine .seq ?_
            refine .region ?_
            refine .r (ld T.t68 hS rfl rfl rfl rfl rfl) ?_ rfl rfl
            obtain ⟨y8, hy8, h⟩ := bnd h
            refine .c (.call0 hS Tryd.func53 (impl_InstrEncode_ok hy8 (hG.at hS (fun _ _ h => h))) rfl rfl ?_ rfl (by kernel_rfl) rfl rfl)
            intro W hS
            refine .p rfl rfl rfl ?_
            refine .p rfl rfl rfl ?_
            refine .p rfl rfl rfl ?_
            refine .p rfl rfl rfl ?_
            refine .p rfl rfl rfl ?_
            refine .nil ?_
            refine .seq ?_
            refine .region ?_
            refine .p rfl rfl rfl ?_
            refine .p rfl rfl rfl ?_
            refine .chunk 4 37 (y8.2 && (y8.1 == a0)) hS ?_ ?_
            · refine .both (y8.2) (fun hb => ?_) (fun hb => ?_)
              · have hg1 := hb
                refine .g hg1 (.p rfl rfl rfl ?_) rfl
                refine .g hg1 (.p rfl rfl rfl ?_) rfl
                refine .g hg1 (.p rfl rfl rfl ?_) rfl
                refine .r (pkt hg1 rfl rfl rfl) ?_ rfl rfl
                exact .nil (ck 4 hS rfl (and_t hg1) rfl rfl)
              · skip
                refine .x hb ?_ rfl rfl
                refine .x hb ?_ rfl rfl
                refine .x hb ?_ rfl rfl
                refine .r (pkf hb rfl rfl rfl) ?_ rfl rfl
                exact .nil (ck 4 hS rfl (and_f hb) rfl rfl)
            intro W hS
            refine .nil ?_
            refine .cond rfl (fun hb => ?_) (fun hb => ?_)
            · have h := sel_t hb h
              refine .seq ?_
              refine .region ?_
              refine .r (ld T.t68 hS rfl rfl rfl rfl rfl) ?_ rfl rfl
              refine .c (.st T.t68 hS.p1 rfl rfl rfl ?_ rfl rfl rfl rfl rfl)
              intro W hS
              refine .p rfl rfl rfl ?_
              refine .nil ?_
              refine .ret ?_
              cases h
              exact ⟨rfl, fin_ret (vs := [_, _]) () (rc hS T.t68 rfl (rt rfl rn) rfl rfl) rfl (hS.to [] rfl)⟩
            · have h := sel_f hb h
              refine .skip ?_
              cases h
              exact ⟨rfl, sb rfl, hS.to [1] rfl⟩
        · intro x E W hJ
          rcases y5 with o5 | o6
          · skip
            obtain ⟨rfl, hE, hS⟩ := hJ
            refine ⟨_, hE.sub, ?_⟩
            refine .region ?_
            refine .p rfl rfl rfl ?_
            refine .p rfl rfl rfl ?_
            refine .p rfl rfl rfl ?_
            refine .nil ?_
            cases h
            exact ⟨rfl, sb rfl, hS.to [0] rfl⟩
          · skip
            obtain ⟨rfl, hF⟩ := hJ
            refine ⟨_, fun _ _ h => h, ?_⟩
            cases h
            exact ⟨by simp, rfl, hF⟩
      · have h := sel_f hb h
        refine .exit ?_
        cases h
        exact ⟨by simp, rfl, sb rfl, hS.to [0] rfl⟩
    · intro x E W hJ
      rcases y2 with o7 | o8
      · skip
        obtain ⟨rfl, hF⟩ := hJ
        refine ⟨_, fun _ _ h => h, ?_⟩
        cases h
        exact hF
      · skip
        obtain ⟨rfl, hE, hS⟩ := hJ
        refine ⟨_, hE.sub, ?_⟩
        refine .seq ?_
        refine .region ?_
        refine .r (bs T.s68 rfl rfl) ?_ rfl rfl
        refine .c (.st T.t68 hS rfl rfl rfl ?_ rfl rfl rfl rfl rfl)
        intro W hS
        refine .p rfl rfl rfl ?_
        refine .nil ?_
        refine .ret ?_
        cases h
        exact fin_ret (vs := [_, _]) () (rc hS T.t68 rfl (rt rfl rn) rfl rfl) rfl (hS.to [] rfl)
theorem impl_Machine_set_ok {a0 : Machine} {a1 : Int} {a2 : Int} {v_0_Regs : Hd} {v_0_Mem : Hd} {g_0 : Nat} {S : Nat → Prop} {w : World} {r : (List Int)} (h : impl_Machine_set a0 a1 a2 = some r) (q_0_Mem : RV w (Old S w) (sv v_0_Mem) 3 1 (D.int .i64) a0.Mem) (hO : Owns w [rowV (sv v_0_Regs) 3 1 (D.int .i64) a0.Regs, .box g_0 26 [(sv v_0_Regs), .int .i64 a0.Pc, (sv v_0_Mem)]] S) (hlt : ∀ b, S b → b < w.heap.size) : Calls Tryd.prog 74 #[.pointer (some ⟨g_0, 0, none⟩), .int .i64 a1, .int .i64 a2] w (Ret S w (fun s : Hd => .tuple #[]) (fun s => [.box g_0 26 [(sv s), .int .i64 a0.Pc, (sv v_0_Mem)], rowV (sv s) 3 1 (D.int .i64) r])) := by
  unfold impl_Machine_set at h
  refine enter Tryd.func74 rfl rfl ?_
  have hS := Sep.startM hO hlt
  refine .seq ?_
  refine .region ?_
  refine .p rfl rfl rfl ?_
  refine .p rfl rfl rfl ?_
  refine .nil ?_
  refine .cond rfl (fun hb => ?_) (fun hb => ?_)
  · have h := sel_t hb h
    refine .region ?_
    refine .p rfl rfl rfl ?_
    refine .p rfl rfl rfl ?_
    refine .r (fa T.f26_0 rfl rfl rfl) ?_ rfl rfl
    refine .r (ld T.t22 hS.p1 rfl rfl rfl rfl rfl) ?_ rfl rfl
    refine .p rfl rfl rfl ?_
    refine .p rfl rfl rfl ?_
    obtain ⟨x1, hx1, h⟩ := bnd h
    refine .r (ixv hS.lendv hx1 T.u22 T.t3 rfl rfl rfl) ?_ rfl rfl
    obtain ⟨r1, hr1, h⟩ := bnd h
    refine .c (.sev hr1 hx1 hS T.t3 rfl rfl rfl rfl rfl rfl ?_ rfl rfl rfl rfl rfl rfl)
    intro W hS
    refine .nil ?_
    cases h
    exact fin_ret (vs := []) v_0_Regs (rn) rfl (hS.to [1, 0] rfl)
  · have h := sel_f hb h
    refine .skip ?_
    cases h
    exact fin_ret (vs := []) v_0_Regs (rn) rfl (hS.to [1, 0] rfl)
theorem impl_truth_ok {a0 : Bool} {w : World} {r : Int} (h : impl_truth a0 = some r) : Calls Tryd.prog 75 #[.bool a0] w (Ret No w (fun s : Unit => .int .i64 r) (fun s => [])) := by
  unfold impl_truth at h
  refine enter Tryd.func75 rfl rfl ?_
  have hS := Sep.start w
  refine .seq ?_
  refine .region ?_
  refine .p rfl rfl rfl ?_
  refine .nil ?_
  refine .seq ?_
  refine .seq ?_
  refine .region ?_
  refine .p rfl rfl rfl ?_
  refine .nil ?_
  refine .cond rfl (fun hb => ?_) (fun hb => ?_)
  · have h := sel_t hb h
    refine .seq ?_
    refine .region ?_
    refine .p rfl rfl rfl ?_
    refine .nil ?_
    refine .ret ?_
    cases h
    exact fin_ret (vs := [_]) () (rt rfl rn) rfl (hS.to [] rfl)
  · have h := sel_f hb h
    refine .skip ?_
    refine .seq ?_
    refine .region ?_
    refine .p rfl rfl rfl ?_
    refine .nil ?_
    refine .ret ?_
    cases h
    exact fin_ret (vs := [_]) () (rt rfl rn) rfl (hS.to [] rfl)
theorem impl_apply_ok {a0 : Int} {a1 : Int} {a2 : Int} {w : World} {r : Int} (h : impl_apply a0 a1 a2 = some r) : Calls Tryd.prog 76 #[.int .i64 a0, .int .i64 a1, .int .i64 a2] w (Ret No w (fun s : Unit => .int .i64 r) (fun s => [])) := by
  unfold impl_apply at h
  refine enter Tryd.func76 rfl rfl ?_
  have hS := Sep.start w
  refine .seq ?_
  refine .region ?_
  refine .p rfl rfl rfl ?_
  refine .nil ?_
  refine .seq ?_
  refine .seq ?_
  refine .region ?_
  refine .p rfl rfl rfl ?_
  refine .nil ?_
  refine .block ?_
  refine .seq ?_
  refine .region ?_
  refine .p rfl rfl rfl ?_
  refine .p rfl rfl rfl ?_
  refine .nil ?_
  refine .cond rfl (fun hb => ?_) (fun hb => ?_)
  · have h := sel_t hb h
    refine .seq ?_
    refine .region ?_
    refine .p rfl rfl rfl ?_
    refine .p rfl rfl rfl ?_
    refine .p rfl rfl rfl ?_
    refine .p rfl rfl rfl ?_
    refine .nil ?_
    refine .ret ?_
    cases h
    exact fin_ret (vs := [_]) () (rt rfl rn) rfl (hS.to [] rfl)
  · have h := sel_f hb h
    refine .seq ?_
    refine .region ?_
    refine .p rfl rfl rfl ?_
    refine .p rfl rfl rfl ?_
    refine .nil ?_
    refine .cond rfl (fun hb => ?_) (fun hb => ?_)
    · have h := sel_t hb h
      refine .seq ?_
      refine .region ?_
      refine .p rfl rfl rfl ?_
      refine .p rfl rfl rfl ?_
      refine .p rfl rfl rfl ?_
      refine .p rfl rfl rfl ?_
      refine .nil ?_
      refine .ret ?_
      cases h
      exact fin_ret (vs := [_]) () (rt rfl rn) rfl (hS.to [] rfl)
    · have h := sel_f hb h
      refine .seq ?_
      refine .region ?_
      refine .p rfl rfl rfl ?_
      refine .p rfl rfl rfl ?_
      refine .nil ?_
      refine .cond rfl (fun hb => ?_) (fun hb => ?_)
      · have h := sel_t hb h
        refine .seq ?_
        refine .region ?_
        refine .p rfl rfl rfl ?_
        refine .p rfl rfl rfl ?_
        refine .p rfl rfl rfl ?_
        refine .p rfl rfl rfl ?_
        refine .nil ?_
        refine .ret ?_
        cases h
        exact fin_ret (vs := [_]) () (rt rfl rn) rfl (hS.to [] rfl)
      · have h := sel_f hb h
        refine .seq ?_
        refine .region ?_
        refine .p rfl rfl rfl ?_
        refine .p rfl rfl rfl ?_
        refine .nil ?_
        refine .cond rfl (fun hb => ?_) (fun hb => ?_)
        · have h := sel_t hb h
          refine .seq ?_
          refine .region ?_
          refine .p rfl rfl rfl ?_
          refine .p rfl rfl rfl ?_
          refine .p rfl rfl rfl ?_
          obtain ⟨y1, hy1, h⟩ := bnd h
          refine .c (.call0 hS Tryd.func75 (impl_truth_ok hy1) rfl rfl ?_ rfl (by kernel_rfl) rfl rfl)
          intro W hS
          refine .p rfl rfl rfl ?_
          refine .nil ?_
          refine .ret ?_
          cases h
          exact fin_ret (vs := [_]) () (rt rfl rn) rfl (hS.to [] rfl)
        · have h := sel_f hb h
          refine .seq ?_
          refine .region ?_
          refine .p rfl rfl rfl ?_
          refine .p rfl rfl rfl ?_
          refine .nil ?_
          refine .cond rfl (fun hb => ?_) (fun hb => ?_)
          · have h := sel_t hb h
            refine .seq ?_
            refine .region ?_
            refine .p rfl rfl rfl ?_
            refine .p rfl rfl rfl ?_
            refine .p rfl rfl rfl ?_
            obtain ⟨y2, hy2, h⟩ := bnd h
            refine .c (.call0 hS Tryd.func75 (impl_truth_ok hy2) rfl rfl ?_ rfl (by kernel_rfl) rfl rfl)
            intro W hS
            refine .p rfl rfl rfl ?_
            refine .nil ?_
            refine .ret ?_
            cases h
            exact fin_ret (vs := [_]) () (rt rfl rn) rfl (hS.to [] rfl)
          · have h := sel_f hb h
            refine .seq ?_
            refine .region ?_
            refine .p rfl rfl rfl ?_
            refine .p rfl rfl rfl ?_
            refine .nil ?_
            refine .cond rfl (fun hb => ?_) (fun hb => ?_)
            · have h := sel_t hb h
              refine .seq ?_
              refine .region ?_
              refine .p rfl rfl rfl ?_
              refine .p rfl rfl rfl ?_
              refine .p rfl rfl rfl ?_
              obtain ⟨d1, hd1, h⟩ := bnd h
              refine .r (shr_run hd1 rfl rfl rfl) ?_ rfl rfl
              obtain ⟨y3, hy3, h⟩ := bnd h
              refine .c (.call0 hS Tryd.func42 (impl_Wrap_ok hy3) rfl rfl ?_ rfl (by kernel_rfl) rfl rfl)
              intro W hS
              refine .p rfl rfl rfl ?_
              refine .nil ?_
              refine .ret ?_
              cases h
              exact fin_ret (vs := [_]) () (rt rfl rn) rfl (hS.to [] rfl)
            · have h := sel_f hb h
              refine .seq ?_
              refine .region ?_
              refine .p rfl rfl rfl ?_
              refine .p rfl rfl rfl ?_
              refine .nil ?_
              refine .cond rfl (fun hb => ?_) (fun hb => ?_)
              · have h := sel_t hb h
                refine .seq ?_
                refine .region ?_
                refine .p rfl rfl rfl ?_
                refine .p rfl rfl rfl ?_
                refine .p rfl rfl rfl ?_
                obtain ⟨d2, hd2, h⟩ := bnd h
                refine .r (shr_run hd2 rfl rfl rfl) ?_ rfl rfl
                refine .p rfl rfl rfl ?_
                refine .nil ?_
                refine .ret ?_
                cases h
                exact fin_ret (vs := [_]) () (rt rfl rn) rfl (hS.to [] rfl)
              · have h := sel_f hb h
                refine .seq ?_
                refine .region ?_
                refine .p rfl rfl rfl ?_
                refine .p rfl rfl rfl ?_
                refine .nil ?_
                refine .cond rfl (fun hb => ?_) (fun hb => ?_)
                · have h := sel_t hb h
                  refine .seq ?_
                  refine .region ?_
                  refine .p rfl rfl rfl ?_
                  refine .p rfl rfl rfl ?_
                  refine .p rfl rfl rfl ?_
                  obtain ⟨y4, hy4, h⟩ := bnd h
                  refine .c (.call0 hS Tryd.func42 (impl_Wrap_ok hy4) rfl rfl ?_ rfl (by kernel_rfl) rfl rfl)
                  intro W hS
                  refine .p rfl rfl rfl ?_
                  refine .nil ?_
                  refine .ret ?_
                  cases h
                  exact fin_ret (vs := [_]) () (rt rfl rn) rfl (hS.to [] rfl)
                · have h := sel_f hb h
                  refine .seq ?_
                  refine .region ?_
                  refine .p rfl rfl rfl ?_
                  refine .p rfl rfl rfl ?_
                  refine .nil ?_
                  refine .cond rfl (fun hb => ?_) (fun hb => ?_)
                  · have h := sel_t hb h
                    refine .seq ?_
                    refine .region ?_
                    refine .p rfl rfl rfl ?_
                    refine .p rfl rfl rfl ?_
                    refine .p rfl rfl rfl ?_
                    obtain ⟨y5, hy5, h⟩ := bnd h
                    refine .c (.call0 hS Tryd.func42 (impl_Wrap_ok hy5) rfl rfl ?_ rfl (by kernel_rfl) rfl rfl)
                    intro W hS
                    refine .p rfl rfl rfl ?_
                    refine .nil ?_
                    refine .ret ?_
                    cases h
                    exact fin_ret (vs := [_]) () (rt rfl rn) rfl (hS.to [] rfl)
                  · have h := sel_f hb h
                    refine .seq ?_
                    refine .region ?_
                    refine .p rfl rfl rfl ?_
                    refine .p rfl rfl rfl ?_
                    refine .nil ?_
                    refine .cond rfl (fun hb => ?_) (fun hb => ?_)
                    · have h := sel_t hb h
                      refine .seq ?_
                      refine .region ?_
                      refine .p rfl rfl rfl ?_
                      refine .p rfl rfl rfl ?_
                      refine .p rfl rfl rfl ?_
                      obtain ⟨y6, hy6, h⟩ := bnd h
                      refine .c (.call0 hS Tryd.func42 (impl_Wrap_ok hy6) rfl rfl ?_ rfl (by kernel_rfl) rfl rfl)
                      intro W hS
                      refine .p rfl rfl rfl ?_
                      refine .nil ?_
                      refine .ret ?_
                      cases h
                      exact fin_ret (vs := [_]) () (rt rfl rn) rfl (hS.to [] rfl)
                    · have h := sel_f hb h
                      refine .seq ?_
                      refine .region ?_
                      refine .p rfl rfl rfl ?_
                      refine .p rfl rfl rfl ?_
                      refine .nil ?_
                      refine .cond rfl (fun hb => ?_) (fun hb => ?_)
                      · have h := sel_t hb h
                        refine .seq ?_
                        refine .seq ?_
                        refine .region ?_
                        refine .p rfl rfl rfl ?_
                        refine .p rfl rfl rfl ?_
                        refine .nil ?_
                        refine .cond rfl (fun hb => ?_) (fun hb => ?_)
                        · have h := sel_t hb h
                          refine .seq ?_
                          refine .region ?_
                          refine .p rfl rfl rfl ?_
                          refine .nil ?_
                          refine .ret ?_
                          cases h
                          exact fin_ret (vs := [_]) () (rt rfl rn) rfl (hS.to [] rfl)
                        · have h := sel_f hb h
                          refine .skip ?_
                          refine .seq ?_
                          refine .region ?_
                          refine .p rfl rfl rfl ?_
                          refine .p rfl rfl rfl ?_
                          obtain ⟨d3, hd3, h⟩ := bnd h
                          refine .r (dq hd3 rfl rfl rfl) ?_ rfl rfl
                          obtain ⟨y7, hy7, h⟩ := bnd h
                          refine .c (.call0 hS Tryd.func42 (impl_Wrap_ok hy7) rfl rfl ?_ rfl (by kernel_rfl) rfl rfl)
                          intro W hS
                          refine .p rfl rfl rfl ?_
                          refine .nil ?_
                          refine .ret ?_
                          cases h
                          exact fin_ret (vs := [_]) () (rt rfl rn) rfl (hS.to [] rfl)
                      · have h := sel_f hb h
                        refine .skip ?_
                        refine .seq ?_
                        refine .seq ?_
                        refine .region ?_
                        refine .p rfl rfl rfl ?_
                        refine .p rfl rfl rfl ?_
                        refine .nil ?_
                        refine .cond rfl (fun hb => ?_) (fun hb => ?_)
                        · have h := sel_t hb h
                          refine .seq ?_
                          refine .region ?_
                          refine .p rfl rfl rfl ?_
                          refine .p rfl rfl rfl ?_
                          refine .nil ?_
                          refine .ret ?_
                          cases h
                          exact fin_ret (vs := [_]) () (rt rfl rn) rfl (hS.to [] rfl)
                        · have h := sel_f hb h
                          refine .skip ?_
                          refine .seq ?_
                          refine .region ?_
                          refine .p rfl rfl rfl ?_
                          refine .p rfl rfl rfl ?_
                          obtain ⟨d4, hd4, h⟩ := bnd h
                          refine .r (dr hd4 rfl rfl rfl) ?_ rfl rfl
                          refine .p rfl rfl rfl ?_
                          refine .nil ?_
                          refine .ret ?_
                          cases h
                          exact fin_ret (vs := [_]) () (rt rfl rn) rfl (hS.to [] rfl)
def impl_Machine_step_F (w : World) (S : Nat → Prop) (v_0_Regs : Hd) (v_0_Mem : Hd) (g_0 : Nat) (a0 : Machine) (r : Int × (List Int) × Int × (List Int)) : Env → World → Prop := Fin Tryd.prog Tryd.f41 S w (fun s : Hd × Hd => .int .i64 r.1) (fun s => [.box g_0 26 [(sv s.1), .int .i64 r.2.2.1, (sv s.2)], rowV (sv s.1) 3 1 (D.int .i64) r.2.1, rowV (sv s.2) 3 1 (D.int .i64) r.2.2.2]) .ret
theorem impl_Machine_step_ok {a0 : Machine} {v_0_Regs : Hd} {v_0_Mem : Hd} {g_0 : Nat} {S : Nat → Prop} {w : World} {r : Int × (List Int) × Int × (List Int)} (h : impl_Machine_step a0 = some r) (hO : Owns w [rowV (sv v_0_Regs) 3 1 (D.int .i64) a0.Regs, rowV (sv v_0_Mem) 3 1 (D.int .i64) a0.Mem, .box g_0 26 [(sv v_0_Regs), .int .i64 a0.Pc, (sv v_0_Mem)]] S) (hlt : ∀ b, S b → b < w.heap.size) (hG : Gl w) (hM : ∀ g, g < NGl → ¬ S g) : Calls Tryd.prog 41 #[.pointer (some ⟨g_0, 0, none⟩)] w (Ret S w (fun s : Hd × Hd => .int .i64 r.1) (fun s => [.box g_0 26 [(sv s.1), .int .i64 r.2.2.1, (sv s.2)], rowV (sv s.1) 3 1 (D.int .i64) r.2.1, rowV (sv s.2) 3 1 (D.int .i64) r.2.2.2])) := by
  unfold impl_Machine_step at h
  refine enter Tryd.func41 rfl rfl ?_
  have hS := Sep.startM hO hlt
  refine .seq ?_
  refine .region ?_
  refine .p rfl rfl rfl ?_
  refine .nil ?_
  refine .seq ?_
  refine .region ?_
  refine .p rfl rfl rfl ?_
  refine .p rfl rfl rfl ?_
  refine .p rfl rfl rfl ?_
  refine .r (fa T.f26_1 rfl rfl rfl) ?_ rfl rfl
  refine .r (ld T.t3 hS.p2 rfl rfl rfl rfl rfl) ?_ rfl rfl
  obtain ⟨y1, hy1, h⟩ := bnd h
  have hS := hS.p2
  refine .c (.callS2 (L0 := [.box g_0 26 [(sv v_0_Regs), .int .i64 a0.Pc, (sv v_0_Mem)]]) hS Tryd.func71 (fun S h1 h2 h3 => (impl_Machine_word_ok hy1 (h3.rdv (k := 0) rfl) (h3.rdv (k := 1) rfl) h2 (fun b hb => (h1 b hb).2))) rfl rfl ?_ rfl (by kernel_rfl) rfl rfl)
  rintro ⟨⟩ W hS
  have hS : Sep _ _ W [.box g_0 26 [(sv v_0_Regs), .int .i64 a0.Pc, (sv v_0_Mem)], rowV (sv v_0_Regs) 3 1 (D.int .i64) a0.Regs, rowV (sv v_0_Mem) 3 1 (D.int .i64) a0.Mem] := hS
  refine .p rfl rfl rfl ?_
  refine .nil ?_
  refine .seq ?_
  refine .seq ?_
  refine .region ?_
  refine .p rfl rfl rfl ?_
  refine .r (nilp T.u83 rfl rfl) ?_ rfl rfl
  refine .nil ?_
  refine .cond rfl (fun hb => ?_) (fun hb => ?_)
  · have h := sel_t hb h
    refine .seq ?_
    refine .region ?_
    refine .p rfl rfl rfl ?_
    refine .nil ?_
    refine .ret ?_
    cases h
    exact fin_ret (vs := [_]) (v_0_Regs, v_0_Mem) (rt rfl rn) rfl (hS.to [0, 0, 0] rfl)
  · have h := sel_f hb h
    refine .skip ?_
    refine .seq ?_
    refine .region ?_
    refine .p rfl rfl rfl ?_
    obtain ⟨x1, hx1, h⟩ := bnd h
    refine .eqv 19 rfl (ptr_at hx1) ?_
    refine .r (pr rfl) ?_ rfl rfl
    refine .r (lde (RV.flat hS.p2.lendv hx1 rfl) T.t3 rfl rfl rfl rfl rfl) ?_ rfl rfl
    obtain ⟨y2, hy2, h⟩ := bnd h
    refine .c (.call0 hS Tryd.func73 (impl_Unsigned_ok hy2) rfl rfl ?_ rfl (by kernel_rfl) rfl rfl)
    intro W hS
    obtain ⟨y3, hy3, h⟩ := bnd h
    refine .c (.call0 hS Tryd.func72 (impl_InstrDecode_ok hy3 (hG.at hS hM)) rfl rfl ?_ rfl (by kernel_rfl) rfl rfl)
    intro W hS
    refine .p rfl rfl rfl ?_
    refine .p rfl rfl rfl ?_
    refine .p rfl rfl rfl ?_
    refine .c (.alloc T.t68 hS ?_ rfl rfl rfl)
    intro g1 W hS
    refine .c (.st T.t68 hS rfl rfl rfl ?_ rfl rfl rfl rfl rfl)
    intro W hS
    refine .p rfl rfl rfl ?_
    refine .nil ?_
    refine .seq ?_
    refine .seq ?_
    refine .region ?_
    refine .p rfl rfl rfl ?_
    refine .p rfl rfl rfl ?_
    refine .nil ?_
    refine .cond rfl (fun hb => ?_) (fun hb => ?_)
    · have h := sel_t hb h
      refine .seq ?_
      refine .region ?_
      refine .p rfl rfl rfl ?_
      refine .nil ?_
      refine .ret ?_
      cases h
      exact fin_ret (vs := [_]) (v_0_Regs, v_0_Mem) (rt rfl rn) rfl (hS.to [1, 1, 1] rfl)
    · have h := sel_f hb h
      refine .skip ?_
      refine .seq ?_
      refine .rk 18 hS [0, 0, 0, 0] T.mix ?_
      intro W hS
      have hT : Sep _ _ W [.box g1 68 [.int .i64 y3.1.Op, .int .i64 y3.1.Rd, .int .i64 y3.1.Rs, .int .i64 y3.1.Rt, .int .i64 y3.1.Imm], .box g_0 26 [(sv v_0_Regs), .int .i64 a0.Pc, (sv v_0_Mem)], rowV (sv v_0_Regs) 3 1 (D.int .i64) a0.Regs, rowV (sv v_0_Mem) 3 1 (D.int .i64) a0.Mem] := hS.to [0, 0, 0, 0] rfl
      refine .t1 0 rfl (fun W hT => pr rfl) hT ?_ (by kernel_rfl) rfl rfl
      refine .t1 1 rfl (fun W hT => pr rfl) hT ?_ (by kernel_rfl) rfl rfl
      refine .t1 2 rfl (fun W hT => fa T.f26_0 rfl rfl rfl) hT ?_ (by kernel_rfl) rfl rfl
      refine .t1 3 rfl (fun W hT => ld T.t22 hT.p1 rfl rfl rfl rfl rfl) hT ?_ (by kernel_rfl) rfl rfl
      refine .t1 4 rfl (fun W hT => fa T.f68_2 rfl rfl rfl) hT ?_ (by kernel_rfl) rfl rfl
      refine .t1 5 rfl (fun W hT => ld T.t3 hT rfl rfl rfl rfl rfl) hT ?_ (by kernel_rfl) rfl rfl
      obtain ⟨x2, hx2, h⟩ := bnd h
      refine .t1 6 rfl (fun W hT => ixv hS.p2.lendv hx2 T.u22 T.t3 rfl rfl rfl) hT ?_ (by kernel_rfl) rfl rfl
      refine .t1 7 rfl (fun W hT => lde (RV.flat hT.p2.lendv hx2 rfl) T.t3 rfl rfl rfl rfl rfl) hT ?_ (by kernel_rfl) rfl rfl
      refine .t1 8 rfl (fun W hT => pr rfl) hT ?_ (by kernel_rfl) rfl rfl
      refine .t1 9 rfl (fun W hT => pr rfl) hT ?_ (by kernel_rfl) rfl rfl
      refine .t1 10 rfl (fun W hT => fa T.f26_0 rfl rfl rfl) hT ?_ (by kernel_rfl) rfl rfl
      refine .t1 11 rfl (fun W hT => ld T.t22 hT.p1 rfl rfl rfl rfl rfl) hT ?_ (by kernel_rfl) rfl rfl
      refine .t1 12 rfl (fun W hT => fa T.f68_3 rfl rfl rfl) hT ?_ (by kernel_rfl) rfl rfl
      refine .t1 13 rfl (fun W hT => ld T.t3 hT rfl rfl rfl rfl rfl) hT ?_ (by kernel_rfl) rfl rfl
      obtain ⟨x3, hx3, h⟩ := bnd h
      refine .t1 14 rfl (fun W hT => ixv hS.p2.lendv hx3 T.u22 T.t3 rfl rfl rfl) hT ?_ (by kernel_rfl) rfl rfl
      refine .t1 15 rfl (fun W hT => lde (RV.flat hT.p2.lendv hx3 rfl) T.t3 rfl rfl rfl rfl rfl) hT ?_ (by kernel_rfl) rfl rfl
      refine .t1 16 rfl (fun W hT => pr rfl) hT ?_ (by kernel_rfl) rfl rfl
      refine .t1 17 rfl (fun W hT => pr rfl) hT ?_ (by kernel_rfl) rfl rfl
      refine .done ?_ (by kernel_rfl)
      refine .seq ?_
      refine .region ?_
      refine .p rfl rfl rfl ?_
      refine .p rfl rfl rfl ?_
      refine .r (fa T.f26_1 rfl rfl rfl) ?_ rfl rfl
      refine .r (ld T.t3 hS.p1 rfl rfl rfl rfl rfl) ?_ rfl rfl
      refine .p rfl rfl rfl ?_
      obtain ⟨y4, hy4, h⟩ := bnd h
      refine .c (.call0 hS Tryd.func42 (impl_Wrap_ok hy4) rfl rfl ?_ rfl (by kernel_rfl) rfl rfl)
      intro W hS
      refine .p rfl rfl rfl ?_
      refine .nil ?_
      obtain ⟨y5, hy5, h⟩ := bnd h
      refine .seq (CW.via (R' := fun x E' W' => (match y5 with | .inl o1 => x = .normal ∧ ∃ (v1 : Hd), SubL E' [(0, .pointer (some ⟨g_0, 0, none⟩)), (8, .int .i64 o1.1)] ∧ Sep S w W' [.box g1 68 [.int .i64 y3.1.Op, .int .i64 y3.1.Rd, .int .i64 y3.1.Rs, .int .i64 y3.1.Rt, .int .i64 y3.1.Imm], .box g_0 26 [(sv v1), .int .i64 a0.Pc, (sv v_0_Mem)], rowV (sv v_0_Mem) 3 1 (D.int .i64) o1.2.2, rowV (sv v1) 3 1 (D.int .i64) o1.2.1] | .inr o2 => x = .ret ∧ impl_Machine_step_F w S v_0_Regs v_0_Mem g_0 a0 o2 E' W')) ?_ ?_)
      · have h := hy5
        refine .seq ?_
        refine .region ?_
        refine .r (fa T.f68_0 rfl rfl rfl) ?_ rfl rfl
        refine .r (ld T.t3 hS rfl rfl rfl rfl rfl) ?_ rfl rfl
        refine .nil ?_
        refine .block ?_
        refine .seq ?_
        refine .region ?_
        refine .p rfl rfl rfl ?_
        refine .p rfl rfl rfl ?_
        refine .nil ?_
        refine .cond rfl (fun hb => ?_) (fun hb => ?_)
        · have h := sel_t hb h
          refine .seq ?_
          refine .region ?_
          refine .p rfl rfl rfl ?_
          refine .nil ?_
          refine .ret ?_
          cases h
          exact ⟨rfl, fin_ret (vs := [_]) (v_0_Regs, v_0_Mem) (rt rfl rn) rfl (hS.to [1, 1, 1] rfl)⟩
        · have h := sel_f hb h
          refine .seq ?_
          refine .region ?_
          refine .p rfl rfl rfl ?_
          refine .p rfl rfl rfl ?_
          refine .nil ?_
          refine .cond rfl (fun hb => ?_) (fun hb => ?_)
          · have h := sel_t hb h
            refine .rk 9 hS [0, 2] T.mix ?_
            intro W hS
            have hT : Sep _ _ W [.box g1 68 [.int .i64 y3.1.Op, .int .i64 y3.1.Rd, .int .i64 y3.1.Rs, .int .i64 y3.1.Rt, .int .i64 y3.1.Imm], rowV (sv v_0_Mem) 3 1 (D.int .i64) a0.Mem] := hS.to [0, 2] rfl
            refine .t1 0 rfl (fun W hT => pr rfl) hT ?_ (by kernel_rfl) rfl rfl
            refine .t1 1 rfl (fun W hT => fa T.f68_1 rfl rfl rfl) hT ?_ (by kernel_rfl) rfl rfl
            refine .t1 2 rfl (fun W hT => ld T.t3 hT rfl rfl rfl rfl rfl) hT ?_ (by kernel_rfl) rfl rfl
            refine .t1 3 rfl (fun W hT => pr rfl) hT ?_ (by kernel_rfl) rfl rfl
            refine .t1 4 rfl (fun W hT => fa T.f68_4 rfl rfl rfl) hT ?_ (by kernel_rfl) rfl rfl
            refine .t1 5 rfl (fun W hT => ld T.t3 hT rfl rfl rfl rfl rfl) hT ?_ (by kernel_rfl) rfl rfl
            refine .t1 6 rfl (fun W hT => pr rfl) hT ?_ (by kernel_rfl) rfl rfl
            obtain ⟨y6, hy6, h⟩ := bnd h
            refine .by1 7 rfl (.call0 hS Tryd.func42 (impl_Wrap_ok hy6) rfl rfl ?_ rfl (by kernel_rfl) rfl rfl) (by kernel_rfl)
            intro W hS
            have hT : Sep _ _ W [.box g1 68 [.int .i64 y3.1.Op, .int .i64 y3.1.Rd, .int .i64 y3.1.Rs, .int .i64 y3.1.Rt, .int .i64 y3.1.Imm], rowV (sv v_0_Mem) 3 1 (D.int .i64) a0.Mem] := hS.to [0, 2] rfl
            refine ⟨fun _ => hT, ?_⟩
            obtain ⟨y7, hy7, h⟩ := bnd h
            have hS := hS.p1
            have hS := hS.p2
            refine .by1 8 rfl (.callS2 (L0 := [rowV (sv v_0_Regs) 3 1 (D.int .i64) a0.Regs, .box g_0 26 [(sv v_0_Regs), .int .i64 a0.Pc, (sv v_0_Mem)]]) hS Tryd.func74 (fun S h1 h2 h3 => (impl_Machine_set_ok hy7 (h3.rdv (k := 1) rfl) h2 (fun b hb => (h1 b hb).2))) rfl rfl ?_ rfl (by kernel_rfl) rfl rfl) (by kernel_rfl)
            rintro v2 W hS
            have hS : Sep _ _ W [.box g_0 26 [(sv v2), .int .i64 a0.Pc, (sv v_0_Mem)], rowV (sv v2) 3 1 (D.int .i64) y7, .box g1 68 [.int .i64 y3.1.Op, .int .i64 y3.1.Rd, .int .i64 y3.1.Rs, .int .i64 y3.1.Rt, .int .i64 y3.1.Imm], rowV (sv v_0_Mem) 3 1 (D.int .i64) a0.Mem] := hS
            have hT : Sep _ _ W [.box g1 68 [.int .i64 y3.1.Op, .int .i64 y3.1.Rd, .int .i64 y3.1.Rs, .int .i64 y3.1.Rt, .int .i64 y3.1.Imm], rowV (sv v_0_Mem) 3 1 (D.int .i64) a0.Mem] := hS.to [2, 2] rfl
            refine ⟨fun _ => hT, ?_⟩
            refine .done ?_ (by kernel_rfl)
            cases h
            exact ⟨rfl, v2, sb rfl, hS.to [2, 0, 1, 0] rfl⟩
          · have h := sel_f hb h
            refine .seq ?_
            refine .region ?_
            refine .p rfl rfl rfl ?_
            refine .p rfl rfl rfl ?_
            refine .nil ?_
            refine .cond rfl (fun hb => ?_) (fun hb => ?_)
            · have h := sel_t hb h
              refine .rk 11 hS [0, 2] T.mix ?_
              intro W hS
              have hT : Sep _ _ W [.box g1 68 [.int .i64 y3.1.Op, .int .i64 y3.1.Rd, .int .i64 y3.1.Rs, .int .i64 y3.1.Rt, .int .i64 y3.1.Imm], rowV (sv v_0_Mem) 3 1 (D.int .i64) a0.Mem] := hS.to [0, 2] rfl
              refine .t1 0 rfl (fun W hT => pr rfl) hT ?_ (by kernel_rfl) rfl rfl
              refine .t1 1 rfl (fun W hT => fa T.f68_1 rfl rfl rfl) hT ?_ (by kernel_rfl) rfl rfl
              refine .t1 2 rfl (fun W hT => ld T.t3 hT rfl rfl rfl rfl rfl) hT ?_ (by kernel_rfl) rfl rfl
              refine .t1 3 rfl (fun W hT => pr rfl) hT ?_ (by kernel_rfl) rfl rfl
              refine .t1 5 rfl (fun W hT => fa T.f68_4 rfl rfl rfl) hT ?_ (by kernel_rfl) rfl rfl
              refine .t1 6 rfl (fun W hT => ld T.t3 hT rfl rfl rfl rfl rfl) hT ?_ (by kernel_rfl) rfl rfl
              obtain ⟨y8, hy8, h⟩ := bnd h
              refine .by1 4 rfl (.call0 hS Tryd.func73 (impl_Unsigned_ok hy8) rfl rfl ?_ rfl (by kernel_rfl) rfl rfl) (by kernel_rfl)
              intro W hS
              have hT : Sep _ _ W [.box g1 68 [.int .i64 y3.1.Op, .int .i64 y3.1.Rd, .int .i64 y3.1.Rs, .int .i64 y3.1.Rt, .int .i64 y3.1.Imm], rowV (sv v_0_Mem) 3 1 (D.int .i64) a0.Mem] := hS.to [0, 2] rfl
              refine ⟨fun _ => hT, ?_⟩
              obtain ⟨y9, hy9, h⟩ := bnd h
              refine .by1 7 rfl (.call0 hS Tryd.func73 (impl_Unsigned_ok hy9) rfl rfl ?_ rfl (by kernel_rfl) rfl rfl) (by kernel_rfl)
              intro W hS
              have hT : Sep _ _ W [.box g1 68 [.int .i64 y3.1.Op, .int .i64 y3.1.Rd, .int .i64 y3.1.Rs, .int .i64 y3.1.Rt, .int .i64 y3.1.Imm], rowV (sv v_0_Mem) 3 1 (D.int .i64) a0.Mem] := hS.to [0, 2] rfl
              refine ⟨fun _ => hT, ?_⟩
              refine .t1 8 rfl (fun W hT => pr rfl) hT ?_ (by kernel_rfl) rfl rfl
              obtain ⟨y10, hy10, h⟩ := bnd h
              refine .by1 9 rfl (.call0 hS Tryd.func75 (impl_truth_ok hy10) rfl rfl ?_ rfl (by kernel_rfl) rfl rfl) (by kernel_rfl)
              intro W hS
              have hT : Sep _ _ W [.box g1 68 [.int .i64 y3.1.Op, .int .i64 y3.1.Rd, .int .i64 y3.1.Rs, .int .i64 y3.1.Rt, .int .i64 y3.1.Imm], rowV (sv v_0_Mem) 3 1 (D.int .i64) a0.Mem] := hS.to [0, 2] rfl
              refine ⟨fun _ => hT, ?_⟩
              obtain ⟨y11, hy11, h⟩ := bnd h
              have hS := hS.p1
              have hS := hS.p2
              refine .by1 10 rfl (.callS2 (L0 := [rowV (sv v_0_Regs) 3 1 (D.int .i64) a0.Regs, .box g_0 26 [(sv v_0_Regs), .int .i64 a0.Pc, (sv v_0_Mem)]]) hS Tryd.func74 (fun S h1 h2 h3 => (impl_Machine_set_ok hy11 (h3.rdv (k := 1) rfl) h2 (fun b hb => (h1 b hb).2))) rfl rfl ?_ rfl (by kernel_rfl) rfl rfl) (by kernel_rfl)
              rintro v3 W hS
              have hS : Sep _ _ W [.box g_0 26 [(sv v3), .int .i64 a0.Pc, (sv v_0_Mem)], rowV (sv v3) 3 1 (D.int .i64) y11, .box g1 68 [.int .i64 y3.1.Op, .int .i64 y3.1.Rd, .int .i64 y3.1.Rs, .int .i64 y3.1.Rt, .int .i64 y3.1.Imm], rowV (sv v_0_Mem) 3 1 (D.int .i64) a0.Mem] := hS
              have hT : Sep _ _ W [.box g1 68 [.int .i64 y3.1.Op, .int .i64 y3.1.Rd, .int .i64 y3.1.Rs, .int .i64 y3.1.Rt, .int .i64 y3.1.Imm], rowV (sv v_0_Mem) 3 1 (D.int .i64) a0.Mem] := hS.to [2, 2] rfl
              refine ⟨fun _ => hT, ?_⟩
              refine .done ?_ (by kernel_rfl)
              cases h
              exact ⟨rfl, v3, sb rfl, hS.to [2, 0, 1, 0] rfl⟩
            · have h := sel_f hb h
              obtain ⟨y12, hy12, h⟩ := bnd h
              refine .seq (CW.via (R' := fun x E' W' => x = .normal ∧ SubL E' [(0, .pointer (some ⟨g_0, 0, none⟩)), (4, .pointer (some ⟨g1, 0, none⟩)), (6, .int .i64 x2), (7, .int .i64 x3), (8, .int .i64 y4), (51, .int .i64 y3.1.Op), (90, .bool y12)] ∧ Sep S w W' [.box g1 68 [.int .i64 y3.1.Op, .int .i64 y3.1.Rd, .int .i64 y3.1.Rs, .int .i64 y3.1.Rt, .int .i64 y3.1.Imm], .box g_0 26 [(sv v_0_Regs), .int .i64 a0.Pc, (sv v_0_Mem)], rowV (sv v_0_Regs) 3 1 (D.int .i64) a0.Regs, rowV (sv v_0_Mem) 3 1 (D.int .i64) a0.Mem]) ?_ ?_)
              · have h := hy12
                refine .seq ?_
                refine .region ?_
                refine .p rfl rfl rfl ?_
                refine .p rfl rfl rfl ?_
                refine .nil ?_
                refine .cond rfl (fun hb => ?_) (fun hb => ?_)
                · have h := sel_t hb h
                  refine .skip ?_
                  cases h
                  exact ⟨rfl, sb rfl, hS.to [0, 0, 0, 0] rfl⟩
                · have h := sel_f hb h
                  refine .region ?_
                  refine .p rfl rfl rfl ?_
                  refine .p rfl rfl rfl ?_
                  refine .nil ?_
                  cases h
                  exact ⟨rfl, sb rfl, hS.to [0, 0, 0, 0] rfl⟩
              · intro x E W hJ
                obtain ⟨rfl, hE, hS⟩ := hJ
                refine ⟨_, hE.sub, ?_⟩
                refine .cond rfl (fun hb => ?_) (fun hb => ?_)
                · have h := sel_t hb h
                  refine .seq ?_
                  refine .region ?_
                  refine .p rfl rfl rfl ?_
                  refine .p rfl rfl rfl ?_
                  refine .r (fa T.f68_4 rfl rfl rfl) ?_ rfl rfl
                  refine .r (ld T.t3 hS rfl rfl rfl rfl rfl) ?_ rfl rfl
                  refine .p rfl rfl rfl ?_
                  obtain ⟨y13, hy13, h⟩ := bnd h
                  refine .c (.call0 hS Tryd.func42 (impl_Wrap_ok hy13) rfl rfl ?_ rfl (by kernel_rfl) rfl rfl)
                  intro W hS
                  obtain ⟨y14, hy14, h⟩ := bnd h
                  have hS := hS.p1
                  refine .c (.callS2 (L0 := [.box g_0 26 [(sv v_0_Regs), .int .i64 a0.Pc, (sv v_0_Mem)]]) hS Tryd.func71 (fun S h1 h2 h3 => (impl_Machine_word_ok hy14 (h3.rdv (k := 1) rfl) (h3.rdv (k := 2) rfl) h2 (fun b hb => (h1 b hb).2))) rfl rfl ?_ rfl (by kernel_rfl) rfl rfl)
                  rintro ⟨⟩ W hS
                  have hS : Sep _ _ W [.box g_0 26 [(sv v_0_Regs), .int .i64 a0.Pc, (sv v_0_Mem)], .box g1 68 [.int .i64 y3.1.Op, .int .i64 y3.1.Rd, .int .i64 y3.1.Rs, .int .i64 y3.1.Rt, .int .i64 y3.1.Imm], rowV (sv v_0_Regs) 3 1 (D.int .i64) a0.Regs, rowV (sv v_0_Mem) 3 1 (D.int .i64) a0.Mem] := hS
                  refine .p rfl rfl rfl ?_
                  refine .nil ?_
                  refine .seq ?_
                  refine .seq ?_
                  refine .region ?_
                  refine .p rfl rfl rfl ?_
                  refine .r (nilp T.u83 rfl rfl) ?_ rfl rfl
                  refine .nil ?_
                  refine .cond rfl (fun hb => ?_) (fun hb => ?_)
                  · have h := sel_t hb h
                    refine .seq ?_
                    refine .region ?_
                    refine .p rfl rfl rfl ?_
                    refine .nil ?_
                    refine .ret ?_
                    cases h
                    exact ⟨rfl, fin_ret (vs := [_]) (v_0_Regs, v_0_Mem) (rt rfl rn) rfl (hS.to [0, 1, 1] rfl)⟩
                  · have h := sel_f hb h
                    refine .skip ?_
                    refine .seq ?_
                    refine .region ?_
                    refine .r (fa T.f68_0 rfl rfl rfl) ?_ rfl rfl
                    refine .r (ld T.t3 hS.p1 rfl rfl rfl rfl rfl) ?_ rfl rfl
                    refine .p rfl rfl rfl ?_
                    refine .nil ?_
                    refine .cond rfl (fun hb => ?_) (fun hb => ?_)
                    · have h := sel_t hb h
                      refine .region ?_
                      refine .p rfl rfl rfl ?_
                      refine .p rfl rfl rfl ?_
                      obtain ⟨x4, hx4, h⟩ := bnd h
                      refine .eqv 105 rfl (ptr_at hx4) ?_
                      refine .r (pr rfl) ?_ rfl rfl
                      obtain ⟨r1, hr1, h⟩ := bnd h
                      refine .c (.sev hr1 hx4 hS.p3 T.t3 rfl rfl rfl rfl rfl rfl ?_ rfl rfl rfl rfl rfl rfl)
                      intro W hS
                      refine .nil ?_
                      cases h
                      exact ⟨rfl, v_0_Regs, sb rfl, hS.to [2, 1, 0, 0] rfl⟩
                    · have h := sel_f hb h
                      obtain ⟨x5, hx5, h⟩ := bnd h
                      refine .eqv 9 rfl (ptr_at hx5) ?_
                      refine .rk 7 hS [1, 2] T.mix ?_
                      intro W hS
                      have hT : Sep _ _ W [.box g1 68 [.int .i64 y3.1.Op, .int .i64 y3.1.Rd, .int .i64 y3.1.Rs, .int .i64 y3.1.Rt, .int .i64 y3.1.Imm], rowV (sv v_0_Mem) 3 1 (D.int .i64) a0.Mem] := hS.to [1, 2] rfl
                      refine .t1 0 rfl (fun W hT => pr rfl) hT ?_ (by kernel_rfl) rfl rfl
                      refine .t1 1 rfl (fun W hT => fa T.f68_1 rfl rfl rfl) hT ?_ (by kernel_rfl) rfl rfl
                      refine .t1 2 rfl (fun W hT => ld T.t3 hT rfl rfl rfl rfl rfl) hT ?_ (by kernel_rfl) rfl rfl
                      refine .t1 3 rfl (fun W hT => pr rfl) hT ?_ (by kernel_rfl) rfl rfl
                      refine .t1 4 rfl (fun W hT => pr rfl) hT ?_ (by kernel_rfl) rfl rfl
                      refine .t1 5 rfl (fun W hT => lde (RV.flat hT.p1.lendv hx5 rfl) T.t3 rfl rfl rfl rfl rfl) hT ?_ (by kernel_rfl) rfl rfl
                      obtain ⟨y15, hy15, h⟩ := bnd h
                      have hS := hS.p2
                      refine .by1 6 rfl (.callS2 (L0 := [rowV (sv v_0_Regs) 3 1 (D.int .i64) a0.Regs, .box g_0 26 [(sv v_0_Regs), .int .i64 a0.Pc, (sv v_0_Mem)]]) hS Tryd.func74 (fun S h1 h2 h3 => (impl_Machine_set_ok hy15 (h3.rdv (k := 1) rfl) h2 (fun b hb => (h1 b hb).2))) rfl rfl ?_ rfl (by kernel_rfl) rfl rfl) (by kernel_rfl)
                      rintro v4 W hS
                      have hS : Sep _ _ W [.box g_0 26 [(sv v4), .int .i64 a0.Pc, (sv v_0_Mem)], rowV (sv v4) 3 1 (D.int .i64) y15, .box g1 68 [.int .i64 y3.1.Op, .int .i64 y3.1.Rd, .int .i64 y3.1.Rs, .int .i64 y3.1.Rt, .int .i64 y3.1.Imm], rowV (sv v_0_Mem) 3 1 (D.int .i64) a0.Mem] := hS
                      have hT : Sep _ _ W [.box g1 68 [.int .i64 y3.1.Op, .int .i64 y3.1.Rd, .int .i64 y3.1.Rs, .int .i64 y3.1.Rt, .int .i64 y3.1.Imm], rowV (sv v_0_Mem) 3 1 (D.int .i64) a0.Mem] := hS.to [2, 2] rfl
                      refine ⟨fun _ => hT, ?_⟩
                      refine .done ?_ (by kernel_rfl)
                      cases h
                      exact ⟨rfl, v4, sb rfl, hS.to [2, 0, 1, 0] rfl⟩
                · have h := sel_f hb h
                  refine .seq ?_
                  refine .region ?_
                  refine .p rfl rfl rfl ?_
                  refine .p rfl rfl rfl ?_
                  refine .nil ?_
                  refine .cond rfl (fun hb => ?_) (fun hb => ?_)
                  · have h := sel_t hb h
                    refine .seq ?_
                    refine .region ?_
                    refine .p rfl rfl rfl ?_
                    refine .r (fa T.f68_1 rfl rfl rfl) ?_ rfl rfl
                    refine .r (ld T.t3 hS rfl rfl rfl rfl rfl) ?_ rfl rfl
                    refine .p rfl rfl rfl ?_
                    obtain ⟨y16, hy16, h⟩ := bnd h
                    have hS := hS.p1
                    have hS := hS.p2
                    refine .c (.callS2 (L0 := [rowV (sv v_0_Regs) 3 1 (D.int .i64) a0.Regs, .box g_0 26 [(sv v_0_Regs), .int .i64 a0.Pc, (sv v_0_Mem)]]) hS Tryd.func74 (fun S h1 h2 h3 => (impl_Machine_set_ok hy16 (h3.rdv (k := 1) rfl) h2 (fun b hb => (h1 b hb).2))) rfl rfl ?_ rfl (by kernel_rfl) rfl rfl)
                    rintro v5 W hS
                    have hS : Sep _ _ W [.box g_0 26 [(sv v5), .int .i64 a0.Pc, (sv v_0_Mem)], rowV (sv v5) 3 1 (D.int .i64) y16, .box g1 68 [.int .i64 y3.1.Op, .int .i64 y3.1.Rd, .int .i64 y3.1.Rs, .int .i64 y3.1.Rt, .int .i64 y3.1.Imm], rowV (sv v_0_Mem) 3 1 (D.int .i64) a0.Mem] := hS
                    refine .nil ?_
                    refine .region ?_
                    refine .p rfl rfl rfl ?_
                    refine .r (fa T.f68_4 rfl rfl rfl) ?_ rfl rfl
                    refine .r (ld T.t3 hS.p2 rfl rfl rfl rfl rfl) ?_ rfl rfl
                    refine .p rfl rfl rfl ?_
                    obtain ⟨y17, hy17, h⟩ := bnd h
                    refine .c (.call0 hS Tryd.func42 (impl_Wrap_ok hy17) rfl rfl ?_ rfl (by kernel_rfl) rfl rfl)
                    intro W hS
                    refine .p rfl rfl rfl ?_
                    refine .p rfl rfl rfl ?_
                    refine .nil ?_
                    cases h
                    exact ⟨rfl, v5, sb rfl, hS.to [2, 0, 1, 0] rfl⟩
                  · have h := sel_f hb h
                    obtain ⟨y18, hy18, h⟩ := bnd h
                    refine .seq (CW.via (R' := fun x E' W' => x = .normal ∧ SubL E' [(0, .pointer (some ⟨g_0, 0, none⟩)), (4, .pointer (some ⟨g1, 0, none⟩)), (6, .int .i64 x2), (7, .int .i64 x3), (8, .int .i64 y4), (51, .int .i64 y3.1.Op), (128, .bool y18)] ∧ Sep S w W' [.box g1 68 [.int .i64 y3.1.Op, .int .i64 y3.1.Rd, .int .i64 y3.1.Rs, .int .i64 y3.1.Rt, .int .i64 y3.1.Imm], .box g_0 26 [(sv v_0_Regs), .int .i64 a0.Pc, (sv v_0_Mem)], rowV (sv v_0_Regs) 3 1 (D.int .i64) a0.Regs, rowV (sv v_0_Mem) 3 1 (D.int .i64) a0.Mem]) ?_ ?_)
                    · have h := hy18
                      refine .seq ?_
                      refine .region ?_
                      refine .p rfl rfl rfl ?_
                      refine .p rfl rfl rfl ?_
                      refine .nil ?_
                      refine .cond rfl (fun hb => ?_) (fun hb => ?_)
                      · have h := sel_t hb h
                        refine .skip ?_
                        cases h
                        exact ⟨rfl, sb rfl, hS.to [0, 0, 0, 0] rfl⟩
                      · have h := sel_f hb h
                        refine .region ?_
                        refine .p rfl rfl rfl ?_
                        refine .p rfl rfl rfl ?_
                        refine .nil ?_
                        cases h
                        exact ⟨rfl, sb rfl, hS.to [0, 0, 0, 0] rfl⟩
                    · intro x E W hJ
                      obtain ⟨rfl, hE, hS⟩ := hJ
                      refine ⟨_, hE.sub, ?_⟩
                      refine .cond rfl (fun hb => ?_) (fun hb => ?_)
                      · have h := sel_t hb h
                        refine .seq ?_
                        refine .region ?_
                        refine .p rfl rfl rfl ?_
                        refine .p rfl rfl rfl ?_
                        refine .p rfl rfl rfl ?_
                        refine .r (fa T.f68_0 rfl rfl rfl) ?_ rfl rfl
                        refine .r (ld T.t3 hS rfl rfl rfl rfl rfl) ?_ rfl rfl
                        refine .p rfl rfl rfl ?_
                        refine .r (eqb T.u4 rfl rfl rfl) ?_ rfl rfl
                        refine .nil ?_
                        refine .cond rfl (fun hb => ?_) (fun hb => ?_)
                        · have h := sel_t hb h
                          refine .rk 9 hS [0, 0, 0, 0] T.mix ?_
                          intro W hS
                          have hT : Sep _ _ W [.box g1 68 [.int .i64 y3.1.Op, .int .i64 y3.1.Rd, .int .i64 y3.1.Rs, .int .i64 y3.1.Rt, .int .i64 y3.1.Imm], .box g_0 26 [(sv v_0_Regs), .int .i64 a0.Pc, (sv v_0_Mem)], rowV (sv v_0_Regs) 3 1 (D.int .i64) a0.Regs, rowV (sv v_0_Mem) 3 1 (D.int .i64) a0.Mem] := hS.to [0, 0, 0, 0] rfl
                          refine .t1 0 rfl (fun W hT => pr rfl) hT ?_ (by kernel_rfl) rfl rfl
                          refine .t1 1 rfl (fun W hT => pr rfl) hT ?_ (by kernel_rfl) rfl rfl
                          refine .t1 2 rfl (fun W hT => fa T.f26_1 rfl rfl rfl) hT ?_ (by kernel_rfl) rfl rfl
                          refine .t1 3 rfl (fun W hT => ld T.t3 hT.p1 rfl rfl rfl rfl rfl) hT ?_ (by kernel_rfl) rfl rfl
                          refine .t1 4 rfl (fun W hT => fa T.f68_4 rfl rfl rfl) hT ?_ (by kernel_rfl) rfl rfl
                          refine .t1 5 rfl (fun W hT => ld T.t3 hT rfl rfl rfl rfl rfl) hT ?_ (by kernel_rfl) rfl rfl
                          refine .t1 6 rfl (fun W hT => pr rfl) hT ?_ (by kernel_rfl) rfl rfl
                          obtain ⟨y19, hy19, h⟩ := bnd h
                          refine .by1 7 rfl (.call0 hS Tryd.func42 (impl_Wrap_ok hy19) rfl rfl ?_ rfl (by kernel_rfl) rfl rfl) (by kernel_rfl)
                          intro W hS
                          have hT : Sep _ _ W [.box g1 68 [.int .i64 y3.1.Op, .int .i64 y3.1.Rd, .int .i64 y3.1.Rs, .int .i64 y3.1.Rt, .int .i64 y3.1.Imm], .box g_0 26 [(sv v_0_Regs), .int .i64 a0.Pc, (sv v_0_Mem)], rowV (sv v_0_Regs) 3 1 (D.int .i64) a0.Regs, rowV (sv v_0_Mem) 3 1 (D.int .i64) a0.Mem] := hS.to [0, 0, 0, 0] rfl
                          refine ⟨fun _ => hT, ?_⟩
                          refine .t1 8 rfl (fun W hT => pr rfl) hT ?_ (by kernel_rfl) rfl rfl
                          refine .done ?_ (by kernel_rfl)
                          cases h
                          exact ⟨rfl, v_0_Regs, sb rfl, hS.to [0, 0, 1, 0] rfl⟩
                        · have h := sel_f hb h
                          refine .skip ?_
                          cases h
                          exact ⟨rfl, v_0_Regs, sb rfl, hS.to [0, 0, 1, 0] rfl⟩
                      · have h := sel_f hb h
                        refine .seq ?_
                        refine .region ?_
                        refine .p rfl rfl rfl ?_
                        refine .p rfl rfl rfl ?_
                        refine .nil ?_
                        refine .cond rfl (fun hb => ?_) (fun hb => ?_)
                        · have h := sel_t hb h
                          refine .rk 8 hS [0, 2] T.mix ?_
                          intro W hS
                          have hT : Sep _ _ W [.box g1 68 [.int .i64 y3.1.Op, .int .i64 y3.1.Rd, .int .i64 y3.1.Rs, .int .i64 y3.1.Rt, .int .i64 y3.1.Imm], rowV (sv v_0_Mem) 3 1 (D.int .i64) a0.Mem] := hS.to [0, 2] rfl
                          refine .t1 0 rfl (fun W hT => pr rfl) hT ?_ (by kernel_rfl) rfl rfl
                          refine .t1 1 rfl (fun W hT => fa T.f68_1 rfl rfl rfl) hT ?_ (by kernel_rfl) rfl rfl
                          refine .t1 2 rfl (fun W hT => ld T.t3 hT rfl rfl rfl rfl rfl) hT ?_ (by kernel_rfl) rfl rfl
                          refine .t1 3 rfl (fun W hT => fa T.f68_4 rfl rfl rfl) hT ?_ (by kernel_rfl) rfl rfl
                          refine .t1 4 rfl (fun W hT => ld T.t3 hT rfl rfl rfl rfl rfl) hT ?_ (by kernel_rfl) rfl rfl
                          refine .t1 5 rfl (fun W hT => pr rfl) hT ?_ (by kernel_rfl) rfl rfl
                          obtain ⟨y20, hy20, h⟩ := bnd h
                          refine .by1 6 rfl (.call0 hS Tryd.func42 (impl_Wrap_ok hy20) rfl rfl ?_ rfl (by kernel_rfl) rfl rfl) (by kernel_rfl)
                          intro W hS
                          have hT : Sep _ _ W [.box g1 68 [.int .i64 y3.1.Op, .int .i64 y3.1.Rd, .int .i64 y3.1.Rs, .int .i64 y3.1.Rt, .int .i64 y3.1.Imm], rowV (sv v_0_Mem) 3 1 (D.int .i64) a0.Mem] := hS.to [0, 2] rfl
                          refine ⟨fun _ => hT, ?_⟩
                          obtain ⟨y21, hy21, h⟩ := bnd h
                          have hS := hS.p1
                          have hS := hS.p2
                          refine .by1 7 rfl (.callS2 (L0 := [rowV (sv v_0_Regs) 3 1 (D.int .i64) a0.Regs, .box g_0 26 [(sv v_0_Regs), .int .i64 a0.Pc, (sv v_0_Mem)]]) hS Tryd.func74 (fun S h1 h2 h3 => (impl_Machine_set_ok hy21 (h3.rdv (k := 1) rfl) h2 (fun b hb => (h1 b hb).2))) rfl rfl ?_ rfl (by kernel_rfl) rfl rfl) (by kernel_rfl)
                          rintro v6 W hS
                          have hS : Sep _ _ W [.box g_0 26 [(sv v6), .int .i64 a0.Pc, (sv v_0_Mem)], rowV (sv v6) 3 1 (D.int .i64) y21, .box g1 68 [.int .i64 y3.1.Op, .int .i64 y3.1.Rd, .int .i64 y3.1.Rs, .int .i64 y3.1.Rt, .int .i64 y3.1.Imm], rowV (sv v_0_Mem) 3 1 (D.int .i64) a0.Mem] := hS
                          have hT : Sep _ _ W [.box g1 68 [.int .i64 y3.1.Op, .int .i64 y3.1.Rd, .int .i64 y3.1.Rs, .int .i64 y3.1.Rt, .int .i64 y3.1.Imm], rowV (sv v_0_Mem) 3 1 (D.int .i64) a0.Mem] := hS.to [2, 2] rfl
                          refine ⟨fun _ => hT, ?_⟩
                          refine .done ?_ (by kernel_rfl)
                          cases h
                          exact ⟨rfl, v6, sb rfl, hS.to [2, 0, 1, 0] rfl⟩
                        · have h := sel_f hb h
                          refine .seq ?_
                          refine .region ?_
                          refine .p rfl rfl rfl ?_
                          refine .p rfl rfl rfl ?_
                          refine .nil ?_
                          refine .cond rfl (fun hb => ?_) (fun hb => ?_)
                          · have h := sel_t hb h
                            refine .seq ?_
                            refine .region ?_
                            refine .p rfl rfl rfl ?_
                            refine .r (fa T.f68_1 rfl rfl rfl) ?_ rfl rfl
                            refine .r (ld T.t3 hS rfl rfl rfl rfl rfl) ?_ rfl rfl
                            refine .p rfl rfl rfl ?_
                            obtain ⟨y22, hy22, h⟩ := bnd h
                            have hS := hS.p1
                            have hS := hS.p2
                            refine .c (.callS2 (L0 := [rowV (sv v_0_Regs) 3 1 (D.int .i64) a0.Regs, .box g_0 26 [(sv v_0_Regs), .int .i64 a0.Pc, (sv v_0_Mem)]]) hS Tryd.func74 (fun S h1 h2 h3 => (impl_Machine_set_ok hy22 (h3.rdv (k := 1) rfl) h2 (fun b hb => (h1 b hb).2))) rfl rfl ?_ rfl (by kernel_rfl) rfl rfl)
                            rintro v7 W hS
                            have hS : Sep _ _ W [.box g_0 26 [(sv v7), .int .i64 a0.Pc, (sv v_0_Mem)], rowV (sv v7) 3 1 (D.int .i64) y22, .box g1 68 [.int .i64 y3.1.Op, .int .i64 y3.1.Rd, .int .i64 y3.1.Rs, .int .i64 y3.1.Rt, .int .i64 y3.1.Imm], rowV (sv v_0_Mem) 3 1 (D.int .i64) a0.Mem] := hS
                            refine .nil ?_
                            refine .rk 9 hS [0, 0, 0, 0] T.mix ?_
                            intro W hS
                            have hT : Sep _ _ W [.box g_0 26 [(sv v7), .int .i64 a0.Pc, (sv v_0_Mem)], rowV (sv v7) 3 1 (D.int .i64) y22, .box g1 68 [.int .i64 y3.1.Op, .int .i64 y3.1.Rd, .int .i64 y3.1.Rs, .int .i64 y3.1.Rt, .int .i64 y3.1.Imm], rowV (sv v_0_Mem) 3 1 (D.int .i64) a0.Mem] := hS.to [0, 0, 0, 0] rfl
                            refine .t1 0 rfl (fun W hT => pr rfl) hT ?_ (by kernel_rfl) rfl rfl
                            refine .t1 1 rfl (fun W hT => pr rfl) hT ?_ (by kernel_rfl) rfl rfl
                            refine .t1 2 rfl (fun W hT => fa T.f26_1 rfl rfl rfl) hT ?_ (by kernel_rfl) rfl rfl
                            refine .t1 3 rfl (fun W hT => ld T.t3 hT rfl rfl rfl rfl rfl) hT ?_ (by kernel_rfl) rfl rfl
                            refine .t1 4 rfl (fun W hT => fa T.f68_4 rfl rfl rfl) hT ?_ (by kernel_rfl) rfl rfl
                            refine .t1 5 rfl (fun W hT => ld T.t3 hT.p2 rfl rfl rfl rfl rfl) hT ?_ (by kernel_rfl) rfl rfl
                            refine .t1 6 rfl (fun W hT => pr rfl) hT ?_ (by kernel_rfl) rfl rfl
                            obtain ⟨y23, hy23, h⟩ := bnd h
                            refine .by1 7 rfl (.call0 hS Tryd.func42 (impl_Wrap_ok hy23) rfl rfl ?_ rfl (by kernel_rfl) rfl rfl) (by kernel_rfl)
                            intro W hS
                            have hT : Sep _ _ W [.box g_0 26 [(sv v7), .int .i64 a0.Pc, (sv v_0_Mem)], rowV (sv v7) 3 1 (D.int .i64) y22, .box g1 68 [.int .i64 y3.1.Op, .int .i64 y3.1.Rd, .int .i64 y3.1.Rs, .int .i64 y3.1.Rt, .int .i64 y3.1.Imm], rowV (sv v_0_Mem) 3 1 (D.int .i64) a0.Mem] := hS.to [0, 0, 0, 0] rfl
                            refine ⟨fun _ => hT, ?_⟩
                            refine .t1 8 rfl (fun W hT => pr rfl) hT ?_ (by kernel_rfl) rfl rfl
                            refine .done ?_ (by kernel_rfl)
                            cases h
                            exact ⟨rfl, v7, sb rfl, hS.to [2, 0, 1, 0] rfl⟩
                          · have h := sel_f hb h
                            refine .rk 12 hS [0, 2] T.mix ?_
                            intro W hS
                            have hT : Sep _ _ W [.box g1 68 [.int .i64 y3.1.Op, .int .i64 y3.1.Rd, .int .i64 y3.1.Rs, .int .i64 y3.1.Rt, .int .i64 y3.1.Imm], rowV (sv v_0_Mem) 3 1 (D.int .i64) a0.Mem] := hS.to [0, 2] rfl
                            refine .t1 0 rfl (fun W hT => pr rfl) hT ?_ (by kernel_rfl) rfl rfl
                            refine .t1 1 rfl (fun W hT => fa T.f68_1 rfl rfl rfl) hT ?_ (by kernel_rfl) rfl rfl
                            refine .t1 2 rfl (fun W hT => ld T.t3 hT rfl rfl rfl rfl rfl) hT ?_ (by kernel_rfl) rfl rfl
                            refine .t1 3 rfl (fun W hT => fa T.f68_0 rfl rfl rfl) hT ?_ (by kernel_rfl) rfl rfl
                            refine .t1 4 rfl (fun W hT => ld T.t3 hT rfl rfl rfl rfl rfl) hT ?_ (by kernel_rfl) rfl rfl
                            refine .t1 5 rfl (fun W hT => pr rfl) hT ?_ (by kernel_rfl) rfl rfl
                            obtain ⟨x6, hx6, h⟩ := bnd h
                            refine .t1 6 rfl (fun W hT => ixt hx6 rfl T.u88 T.t3 rfl rfl rfl) hT ?_ (by kernel_rfl) rfl rfl
                            refine .t1 7 rfl (fun W hT => ldt (hG.at hT hM).1 hx6 T.t3 rfl rfl rfl rfl rfl) hT ?_ (by kernel_rfl) rfl rfl
                            refine .t1 8 rfl (fun W hT => pr rfl) hT ?_ (by kernel_rfl) rfl rfl
                            refine .t1 9 rfl (fun W hT => pr rfl) hT ?_ (by kernel_rfl) rfl rfl
                            obtain ⟨y24, hy24, h⟩ := bnd h
                            refine .by1 10 rfl (.call0 hS Tryd.func76 (impl_apply_ok hy24) rfl rfl ?_ rfl (by kernel_rfl) rfl rfl) (by kernel_rfl)
                            intro W hS
                            have hT : Sep _ _ W [.box g1 68 [.int .i64 y3.1.Op, .int .i64 y3.1.Rd, .int .i64 y3.1.Rs, .int .i64 y3.1.Rt, .int .i64 y3.1.Imm], rowV (sv v_0_Mem) 3 1 (D.int .i64) a0.Mem] := hS.to [0, 2] rfl
                            refine ⟨fun _ => hT, ?_⟩
                            obtain ⟨y25, hy25, h⟩ := bnd h
                            have hS := hS.p1
                            have hS := hS.p2
                            refine .by1 11 rfl (.callS2 (L0 := [rowV (sv v_0_Regs) 3 1 (D.int .i64) a0.Regs, .box g_0 26 [(sv v_0_Regs), .int .i64 a0.Pc, (sv v_0_Mem)]]) hS Tryd.func74 (fun S h1 h2 h3 => (impl_Machine_set_ok hy25 (h3.rdv (k := 1) rfl) h2 (fun b hb => (h1 b hb).2))) rfl rfl ?_ rfl (by kernel_rfl) rfl rfl) (by kernel_rfl)
                            rintro v8 W hS
                            have hS : Sep _ _ W [.box g_0 26 [(sv v8), .int .i64 a0.Pc, (sv v_0_Mem)], rowV (sv v8) 3 1 (D.int .i64) y25, .box g1 68 [.int .i64 y3.1.Op, .int .i64 y3.1.Rd, .int .i64 y3.1.Rs, .int .i64 y3.1.Rt, .int .i64 y3.1.Imm], rowV (sv v_0_Mem) 3 1 (D.int .i64) a0.Mem] := hS
                            have hT : Sep _ _ W [.box g1 68 [.int .i64 y3.1.Op, .int .i64 y3.1.Rd, .int .i64 y3.1.Rs, .int .i64 y3.1.Rt, .int .i64 y3.1.Imm], rowV (sv v_0_Mem) 3 1 (D.int .i64) a0.Mem] := hS.to [2, 2] rfl
                            refine ⟨fun _ => hT, ?_⟩
                            refine .done ?_ (by kernel_rfl)
                            cases h
                            exact ⟨rfl, v8, sb rfl, hS.to [2, 0, 1, 0] rfl⟩
      · intro x E W hJ
        rcases y5 with o3 | o4
        · skip
          obtain ⟨rfl, v9, hE, hS⟩ := hJ
          refine ⟨_, hE.sub, ?_⟩
          refine .seq ?_
          refine .region ?_
          refine .p rfl rfl rfl ?_
          refine .p rfl rfl rfl ?_
          refine .p rfl rfl rfl ?_
          refine .r (fa T.f26_1 rfl rfl rfl) ?_ rfl rfl
          refine .c (.st T.t3 hS.p1 rfl rfl rfl ?_ rfl rfl rfl rfl rfl)
          intro W hS
          refine .nil ?_
          refine .seq ?_
          refine .region ?_
          refine .p rfl rfl rfl ?_
          refine .nil ?_
          refine .ret ?_
          cases h
          exact fin_ret (vs := [_]) (v9, v_0_Mem) (rt rfl rn) rfl (hS.to [0, 2, 1] rfl)
        · skip
          obtain ⟨rfl, hF⟩ := hJ
          refine ⟨_, fun _ _ h => h, ?_⟩
          cases h
          exact hF
def impl_ImageRun_F (w : World) (r : Machine × (List Int) × Int) : Env → World → Prop := Fin Tryd.prog Tryd.f20 No w (fun s : Hd × Hd × Hd => .tuple #[.agg #[(sv s.1), .int .i64 r.1.Pc, (sv s.2.1)], (sv s.2.2), .int .i64 r.2.2]) (fun s => [rowV (sv s.1) 3 1 (D.int .i64) r.1.Regs, rowV (sv s.2.1) 3 1 (D.int .i64) r.1.Mem, rowV (sv s.2.2) 3 1 (D.int .i64) r.2.1]) .ret
theorem impl_ImageRun_ok {a0 : Machine} {a1 : Int} {v_0_Regs : Hd} {v_0_Mem : Hd} {w : World} {r : Machine × (List Int) × Int} (h : impl_ImageRun a0 a1 = some r) (q_0_Regs : RV w (Old No w) (sv v_0_Regs) 3 1 (D.int .i64) a0.Regs) (q_0_Mem : RV w (Old No w) (sv v_0_Mem) 3 1 (D.int .i64) a0.Mem) (hG : Gl w) : Calls Tryd.prog 20 #[.agg #[(sv v_0_Regs), .int .i64 a0.Pc, (sv v_0_Mem)], .int .i64 a1] w (Ret No w (fun s : Hd × Hd × Hd => .tuple #[.agg #[(sv s.1), .int .i64 r.1.Pc, (sv s.2.1)], (sv s.2.2), .int .i64 r.2.2]) (fun s => [rowV (sv s.1) 3 1 (D.int .i64) r.1.Regs, rowV (sv s.2.1) 3 1 (D.int .i64) r.1.Mem, rowV (sv s.2.2) 3 1 (D.int .i64) r.2.1])) := by
  unfold impl_ImageRun at h
  refine enter Tryd.func20 rfl rfl ?_
  have hS := Sep.start w
  refine .seq ?_
  refine .region ?_
  refine .c (.box hS rfl rfl ?_ rfl rfl)
  intro g1 W hS
  refine .c (.alloc T.t26 hS ?_ rfl rfl rfl)
  intro g2 W hS
  refine .p rfl rfl rfl ?_
  refine .p rfl rfl rfl ?_
  refine .nil ?_
  refine .seq ?_
  refine .seq ?_
  refine .region ?_
  refine .r (ld T.t26 hS.p1 rfl rfl rfl rfl rfl) ?_ rfl rfl
  obtain ⟨y1, hy1, h⟩ := bnd h
  refine .c (.call0 hS Tryd.func39 (impl_MachineValid_ok hy1 (hS.keep q_0_Regs) (hS.keep q_0_Mem)) rfl rfl ?_ rfl (by kernel_rfl) rfl rfl)
  intro W hS
  refine .p rfl rfl rfl ?_
  refine .p rfl rfl rfl ?_
  refine .chunk 3 16 ((!y1) || (decide (a1 < 0))) hS ?_ ?_
  · refine .both (!y1) (fun hb => ?_) (fun hb => ?_)
    · skip
      refine .x hb ?_ rfl rfl
      refine .x hb ?_ rfl rfl
      refine .r (pkt hb rfl rfl rfl) ?_ rfl rfl
      exact .nil (ck 3 hS rfl (or_t hb) rfl rfl)
    · have hg1 := hb
      refine .g hg1 (.p rfl rfl rfl ?_) rfl
      refine .g hg1 (.p rfl rfl rfl ?_) rfl
      refine .r (pkf hg1 rfl rfl rfl) ?_ rfl rfl
      exact .nil (ck 3 hS rfl (or_f hg1) rfl rfl)
  intro W hS
  refine .p rfl rfl rfl ?_
  refine .chunk 3 20 (((!y1) || (decide (a1 < 0))) || (decide (a1 > 1000000))) hS ?_ ?_
  · refine .both ((!y1) || (decide (a1 < 0))) (fun hb => ?_) (fun hb => ?_)
    · skip
      refine .x hb ?_ rfl rfl
      refine .x hb ?_ rfl rfl
      refine .r (pkt hb rfl rfl rfl) ?_ rfl rfl
      exact .nil (ck 3 hS rfl (or_t hb) rfl rfl)
    · have hg2 := hb
      refine .g hg2 (.p rfl rfl rfl ?_) rfl
      refine .g hg2 (.p rfl rfl rfl ?_) rfl
      refine .r (pkf hg2 rfl rfl rfl) ?_ rfl rfl
      exact .nil (ck 3 hS rfl (or_f hg2) rfl rfl)
  intro W hS
  refine .nil ?_
  refine .cond rfl (fun hb => ?_) (fun hb => ?_)
  · have h := sel_t hb h
    refine .seq ?_
    refine .region ?_
    refine .r (bs T.s26 rfl rfl) ?_ rfl rfl
    refine .c (.st T.t26 hS rfl rfl rfl ?_ rfl rfl rfl rfl rfl)
    intro W hS
    refine .p rfl rfl rfl ?_
    refine .p rfl rfl rfl ?_
    refine .nil ?_
    refine .ret ?_
    have hS := hS.nilv 3 1 (D.int .i64)
    have hS := hS.nilv 3 1 (D.int .i64)
    have hS := hS.nilv 3 1 (D.int .i64)
    cases h
    exact fin_ret (vs := [_, _, _]) (nilH, nilH, nilH) (rc hS.p3 T.t26 rfl (rt rfl (rt rfl rn)) rfl rfl) rfl (hS.to [2, 1, 0] rfl)
  · have h := sel_f hb h
    refine .skip ?_
    refine .seq ?_
    refine .region ?_
    refine .r (ld T.t26 hS.p1 rfl rfl rfl rfl rfl) ?_ rfl rfl
    obtain ⟨y2, hy2, h⟩ := bnd h
    refine .c (.call hS Tryd.func40 (impl_machineCopy_ok hy2 (hS.keep q_0_Regs) (hS.keep q_0_Mem)) rfl rfl ?_ rfl (by kernel_rfl) rfl rfl)
    rintro ⟨v1, v2⟩ W hS
    have hS : Sep _ _ W [rowV (sv v1) 3 1 (D.int .i64) y2.Regs, rowV (sv v2) 3 1 (D.int .i64) y2.Mem, .box g2 26 [(sv nilH), .int .i64 0, (sv nilH)], .box g1 26 [(sv v_0_Regs), .int .i64 a0.Pc, (sv v_0_Mem)]] := hS
    refine .c (.alloc T.t26 hS ?_ rfl rfl rfl)
    intro g3 W hS
    refine .c (.st T.t26 hS rfl rfl rfl ?_ rfl rfl rfl rfl rfl)
    intro W hS
    refine .nil ?_
    refine .seq ?_
    refine .region ?_
    refine .p rfl rfl rfl ?_
    refine .nil ?_
    refine .seq ?_
    refine .seq ?_
    refine .region ?_
    refine .p rfl rfl rfl ?_
    refine .p rfl rfl rfl ?_
    refine .nil ?_
    refine .block ?_
    have hS := hS.nilv 3 1 (D.int .i64)
    obtain ⟨y3, hy3, h⟩ := bnd h
    refine .via (.iter (fun s1 E' W' => ∃ (v9 : Hd) (v10 : Hd) (v11 : Hd), SubL E' [(4, .pointer (some ⟨g2, 0, none⟩)), (7, .pointer (some ⟨g3, 0, none⟩)), (8, (sv v9)), (24, .int .i64 a1), (25, .int .i64 s1.2.1)] ∧ Sep No w W' [.box g3 26 [(sv v10), .int .i64 s1.2.2.2.1, (sv v11)], .box g2 26 [(sv nilH), .int .i64 0, (sv nilH)], .box g1 26 [(sv v_0_Regs), .int .i64 a0.Pc, (sv v_0_Mem)], rowV (sv v9) 3 1 (D.int .i64) s1.1, rowV (sv v10) 3 1 (D.int .i64) s1.2.2.1, rowV (sv v11) 3 1 (D.int .i64) s1.2.2.2.2]) (fun y4 x E' W' => (match y4 with | .inl o1 => x = .ret ∧ impl_ImageRun_F w o1 E' W' | .inr o2 => x = .exit 0 ∧ ∃ (v12 : Hd) (v13 : Hd) (v14 : Hd), SubL E' [(4, .pointer (some ⟨g2, 0, none⟩)), (7, .pointer (some ⟨g3, 0, none⟩)), (8, (sv v12))] ∧ Sep No w W' [.box g3 26 [(sv v13), .int .i64 o2.2.2.1, (sv v14)], .box g2 26 [(sv nilH), .int .i64 0, (sv nilH)], .box g1 26 [(sv v_0_Regs), .int .i64 a0.Pc, (sv v_0_Mem)], rowV (sv v12) 3 1 (D.int .i64) o2.1, rowV (sv v13) 3 1 (D.int .i64) o2.2.1, rowV (sv v14) 3 1 (D.int .i64) o2.2.2.2])) hy3 ⟨nilH, v1, v2, sb rfl, hS.to [1, 3, 3, 0, 0, 0] rfl⟩ ?_) ?_
    · intro s1 y5 E W h hI
      obtain ⟨v6, v7, v8, hE, hS⟩ := hI
      refine CW.sub hE ?_
      unfold impl_ImageRun_b1 at h
      refine .seq ?_
      refine .region ?_
      refine .p rfl rfl rfl ?_
      refine .nil ?_
      refine .seq ?_
      refine .cond rfl (fun hb => ?_) (fun hb => ?_)
      · have h := sel_t hb h
        refine .skip ?_
        refine .seq ?_
        refine .block ?_
        refine .seq ?_
        refine .region ?_
        obtain ⟨y6, hy6, h⟩ := bnd h
        have hS := hS.p5
        have hS := hS.p5
        refine .c (.callS2 (L0 := [rowV (sv v7) 3 1 (D.int .i64) s1.2.2.1, rowV (sv v8) 3 1 (D.int .i64) s1.2.2.2.2, .box g3 26 [(sv v7), .int .i64 s1.2.2.2.1, (sv v8)]]) hS Tryd.func41 (fun S h1 h2 h3 => (impl_Machine_step_ok hy6 h2 (fun b hb => (h1 b hb).2) (hG.at hS (fun _ _ h => h)) (hG.noS (fun _ _ h => h) h1))) rfl rfl ?_ rfl (by kernel_rfl) rfl rfl)
        rintro ⟨v15, v16⟩ W hS
        have hS : Sep _ _ W [.box g3 26 [(sv v15), .int .i64 y6.2.2.1, (sv v16)], rowV (sv v15) 3 1 (D.int .i64) y6.2.1, rowV (sv v16) 3 1 (D.int .i64) y6.2.2.2, .box g2 26 [(sv nilH), .int .i64 0, (sv nilH)], .box g1 26 [(sv v_0_Regs), .int .i64 a0.Pc, (sv v_0_Mem)], rowV (sv v6) 3 1 (D.int .i64) s1.1] := hS
        refine .p rfl rfl rfl ?_
        refine .nil ?_
        obtain ⟨y7, hy7, h⟩ := bnd h
        refine .seq (CW.via (R' := fun x E' W' => x = .normal ∧ ∃ (v17 : Hd), SubL E' [(4, .pointer (some ⟨g2, 0, none⟩)), (7, .pointer (some ⟨g3, 0, none⟩)), (8, (sv v17)), (9, .int .i64 y7.2.1), (24, .int .i64 a1), (25, .int .i64 s1.2.1)] ∧ Sep No w W' [.box g3 26 [(sv v15), .int .i64 y7.2.2, (sv v16)], rowV (sv v15) 3 1 (D.int .i64) y6.2.1, rowV (sv v16) 3 1 (D.int .i64) y6.2.2.2, .box g2 26 [(sv nilH), .int .i64 0, (sv nilH)], .box g1 26 [(sv v_0_Regs), .int .i64 a0.Pc, (sv v_0_Mem)], rowV (sv v17) 3 1 (D.int .i64) y7.1]) ?_ ?_)
        · have h := hy7
          refine .seq ?_
          refine .region ?_
          refine .p rfl rfl rfl ?_
          refine .p rfl rfl rfl ?_
          refine .p rfl rfl rfl ?_
          obtain ⟨b1, hb1, h⟩ := bnd h
          refine .chunk 6 36 (b1) hS ?_ ?_
          · refine .both (y6.1 == 2) (fun hb => ?_) (fun hb => ?_)
            · have hg3 := hb
              have h := sel_t hb hb1
              refine .g hg3 (.r (fa T.f26_0 rfl rfl rfl) ?_ rfl rfl) rfl
              refine .g hg3 (.r (ld T.t22 hS rfl rfl rfl rfl rfl) ?_ rfl rfl) rfl
              obtain ⟨x1, hx1, h⟩ := bnd h
              refine .g hg3 (.r (ixv hS.p1.lendv hx1 T.u22 T.t3 rfl rfl rfl) ?_ rfl rfl) rfl
              refine .g hg3 (.r (lde (RV.flat hS.p1.lendv hx1 rfl) T.t3 rfl rfl rfl rfl rfl) ?_ rfl rfl) rfl
              refine .g hg3 (.p rfl rfl rfl ?_) rfl
              refine .r (pkt hg3 rfl rfl rfl) ?_ rfl rfl
              cases h
              exact .nil (ck 6 hS rfl rfl rfl rfl)
            · skip
              refine .x hb ?_ rfl rfl
              refine .x hb ?_ rfl rfl
              refine .x hb ?_ rfl rfl
              refine .x hb ?_ rfl rfl
              refine .x hb ?_ rfl rfl
              cases sel_f hb hb1
              refine .r (pkf hb rfl rfl rfl) ?_ rfl rfl
              exact .nil (ck 6 hS rfl rfl rfl rfl)
          intro W hS
          refine .nil ?_
          refine .cond rfl (fun hb => ?_) (fun hb => ?_)
          · have h := sel_t hb h
            refine .seq ?_
            refine .region ?_
            refine .p rfl rfl rfl ?_
            refine .r (fa T.f26_0 rfl rfl rfl) ?_ rfl rfl
            refine .r (ld T.t22 hS rfl rfl rfl rfl rfl) ?_ rfl rfl
            obtain ⟨x2, hx2, h⟩ := bnd h
            refine .r (ixv hS.p1.lendv hx2 T.u22 T.t3 rfl rfl rfl) ?_ rfl rfl
            refine .r (lde (RV.flat hS.p1.lendv hx2 rfl) T.t3 rfl rfl rfl rfl rfl) ?_ rfl rfl
            refine .c (.liv [x2] (D.int .i64) T.u22 T.t3 hS rfl rfl rfl rfl ?_ rfl (fun _ => rfl) rfl rfl rfl rfl)
            intro v18 W hS
            obtain ⟨r1, hr1, h⟩ := bnd h
            have hT0 := hS.p6
            refine .c (.apprv hr1 hT0 hT0.p1.lendv (fun _ => rfl) T.u22 T.t3 rfl rfl rfl ?_ rfl rfl rfl rfl rfl)
            intro v19 W hS
            refine .p rfl rfl rfl ?_
            refine .nil ?_
            refine .seq ?_
            refine .region ?_
            refine .r (fa T.f26_1 rfl rfl rfl) ?_ rfl rfl
            refine .r (ld T.t3 hS.p2 rfl rfl rfl rfl rfl) ?_ rfl rfl
            refine .p rfl rfl rfl ?_
            obtain ⟨y8, hy8, h⟩ := bnd h
            refine .c (.call0 hS Tryd.func42 (impl_Wrap_ok hy8) rfl rfl ?_ rfl (by kernel_rfl) rfl rfl)
            intro W hS
            refine .r (fa T.f26_1 rfl rfl rfl) ?_ rfl rfl
            refine .c (.st T.t3 hS.p2 rfl rfl rfl ?_ rfl rfl rfl rfl rfl)
            intro W hS
            refine .nil ?_
            refine .region ?_
            refine .p rfl rfl rfl ?_
            refine .nil ?_
            cases h
            exact ⟨rfl, v19, sb rfl, hS.to [0, 2, 2, 2, 2, 0] rfl⟩
          · have h := sel_f hb h
            refine .skip ?_
            cases h
            exact ⟨rfl, v6, sb rfl, hS.to [0, 0, 0, 0, 0, 0] rfl⟩
        · intro x E W hJ
          obtain ⟨rfl, v20, hE, hS⟩ := hJ
          refine ⟨_, hE.sub, ?_⟩
          refine .seq ?_
          refine .region ?_
          refine .p rfl rfl rfl ?_
          refine .p rfl rfl rfl ?_
          refine .nil ?_
          refine .cond rfl (fun hb => ?_) (fun hb => ?_)
          · have h := sel_t hb h
            refine .seq ?_
            refine .region ?_
            refine .r (ld T.t26 hS rfl rfl rfl rfl rfl) ?_ rfl rfl
            refine .p rfl rfl rfl ?_
            refine .p rfl rfl rfl ?_
            refine .c (.st T.t26 hS.p3 rfl rfl rfl ?_ rfl rfl rfl rfl rfl)
            intro W hS
            refine .p rfl rfl rfl ?_
            refine .p rfl rfl rfl ?_
            refine .nil ?_
            refine .ret ?_
            cases h
            exact ⟨by simp, rfl, fin_ret (vs := [_, _, _]) (v15, v16, v20) (rc hS T.t26 rfl (rt rfl (rt rfl rn)) rfl rfl) rfl (hS.to [2, 2, 3] rfl)⟩
          · have h := sel_f hb h
            refine .skip ?_
            refine .region ?_
            refine .p rfl rfl rfl ?_
            refine .p rfl rfl rfl ?_
            refine .nil ?_
            cases h
            exact ⟨rfl, v20, v15, v16, sb rfl, hS.to [0, 2, 2, 2, 0, 0] rfl⟩
      · have h := sel_f hb h
        refine .exit ?_
        cases h
        exact ⟨by simp, rfl, v6, v7, v8, sb rfl, hS.to [0, 0, 0, 0, 0, 0] rfl⟩
    · intro x E W hJ
      rcases y3 with o3 | o4
      · skip
        obtain ⟨rfl, hF⟩ := hJ
        refine ⟨_, fun _ _ h => h, ?_⟩
        cases h
        exact hF
      · skip
        obtain ⟨rfl, v21, v22, v23, hE, hS⟩ := hJ
        refine ⟨_, hE.sub, ?_⟩
        refine .seq ?_
        refine .region ?_
        refine .r (ld T.t26 hS rfl rfl rfl rfl rfl) ?_ rfl rfl
        refine .p rfl rfl rfl ?_
        refine .c (.st T.t26 hS.p1 rfl rfl rfl ?_ rfl rfl rfl rfl rfl)
        intro W hS
        refine .p rfl rfl rfl ?_
        refine .p rfl rfl rfl ?_
        refine .nil ?_
        refine .ret ?_
        cases h
        exact fin_ret (vs := [_, _, _]) (v22, v23, v21) (rc hS T.t26 rfl (rt rfl (rt rfl rn)) rfl rfl) rfl (hS.to [4, 4, 3] rfl)
theorem laws_FnExactImageRun_ok {a0 : Machine} {a1 : Int} {v_0_Regs : Hd} {v_0_Mem : Hd} {w : World} {r : Bool} (h : laws_FnExactImageRun a0 a1 = some r) (q_0_Regs : RV w (Old No w) (sv v_0_Regs) 3 1 (D.int .i64) a0.Regs) (q_0_Mem : RV w (Old No w) (sv v_0_Mem) 3 1 (D.int .i64) a0.Mem) (hG : Gl w) : Calls Tryd.prog 4 #[.agg #[(sv v_0_Regs), .int .i64 a0.Pc, (sv v_0_Mem)], .int .i64 a1] w (Ret No w (fun s : Unit => .bool r) (fun s => [])) := by
  unfold laws_FnExactImageRun at h
  refine enter Tryd.func4 rfl rfl ?_
  have hS := Sep.start w
  refine .seq ?_
  refine .region ?_
  refine .c (.box hS rfl rfl ?_ rfl rfl)
  intro g1 W hS
  refine .p rfl rfl rfl ?_
  refine .nil ?_
  refine .seq ?_
  refine .region ?_
  refine .p rfl rfl rfl ?_
  refine .nil ?_
  refine .seq ?_
  refine .region ?_
  refine .r (ld T.t39 hS rfl rfl rfl rfl rfl) ?_ rfl rfl
  refine .p rfl rfl rfl ?_
  obtain ⟨y1, hy1, h⟩ := bnd h
  refine .c (.call0 hS Tryd.func17 (laws_szMachine_ok hy1 (hS.keep q_0_Regs) (hS.keep q_0_Mem)) rfl rfl ?_ rfl (by kernel_rfl) rfl rfl)
  intro W hS
  refine .p rfl rfl rfl ?_
  refine .nil ?_
  refine .seq ?_
  refine .seq ?_
  refine .region ?_
  refine .p rfl rfl rfl ?_
  refine .p rfl rfl rfl ?_
  refine .nil ?_
  refine .cond rfl (fun hb => ?_) (fun hb => ?_)
  · have h := sel_t hb h
    refine .seq ?_
    refine .region ?_
    refine .p rfl rfl rfl ?_
    refine .nil ?_
    refine .ret ?_
    cases h
    exact fin_ret (vs := [_]) () (rt rfl rn) rfl (hS.to [] rfl)
  · have h := sel_f hb h
    refine .skip ?_
    refine .seq ?_
    refine .region ?_
    refine .r (ld T.t39 hS rfl rfl rfl rfl rfl) ?_ rfl rfl
    obtain ⟨y2, hy2, h⟩ := bnd h
    refine .c (.call hS Tryd.func19 (laws_toMachine_ok hy2 (hS.keep q_0_Regs) (hS.keep q_0_Mem)) rfl rfl ?_ rfl (by kernel_rfl) rfl rfl)
    rintro ⟨v1, v2⟩ W hS
    have hS : Sep _ _ W [rowV (sv v1) 3 1 (D.int .i64) y2.Regs, rowV (sv v2) 3 1 (D.int .i64) y2.Mem, .box g1 39 [(sv v_0_Regs), .int .i64 a0.Pc, (sv v_0_Mem)]] := hS
    refine .p rfl rfl rfl ?_
    obtain ⟨y3, hy3, h⟩ := bnd h
    refine .c (.call hS Tryd.func18 (spec_ImageRun_ok hy3 hS.lendv hS.p1.lendv) rfl rfl ?_ rfl (by kernel_rfl) rfl rfl)
    rintro ⟨v3, v4, v5⟩ W hS
    have hS : Sep _ _ W [rowV (sv v3) 3 1 (D.int .i64) y3.1.Regs, rowV (sv v4) 3 1 (D.int .i64) y3.1.Mem, rowV (sv v5) 3 1 (D.int .i64) y3.2.1, rowV (sv v1) 3 1 (D.int .i64) y2.Regs, rowV (sv v2) 3 1 (D.int .i64) y2.Mem, .box g1 39 [(sv v_0_Regs), .int .i64 a0.Pc, (sv v_0_Mem)]] := hS
    refine .p rfl rfl rfl ?_
    refine .p rfl rfl rfl ?_
    refine .p rfl rfl rfl ?_
    refine .p rfl rfl rfl ?_
    refine .c (.alloc T.t26 hS ?_ rfl rfl rfl)
    intro g2 W hS
    refine .c (.st T.t26 hS rfl rfl rfl ?_ rfl rfl rfl rfl rfl)
    intro W hS
    refine .p rfl rfl rfl ?_
    refine .p rfl rfl rfl ?_
    refine .nil ?_
    refine .seq ?_
    refine .region ?_
    refine .r (ld T.t39 hS.p6 rfl rfl rfl rfl rfl) ?_ rfl rfl
    obtain ⟨y4, hy4, h⟩ := bnd h
    refine .c (.call hS Tryd.func19 (laws_toMachine_ok hy4 (hS.keep q_0_Regs) (hS.keep q_0_Mem)) rfl rfl ?_ rfl (by kernel_rfl) rfl rfl)
    rintro ⟨v6, v7⟩ W hS
    have hS : Sep _ _ W [rowV (sv v6) 3 1 (D.int .i64) y4.Regs, rowV (sv v7) 3 1 (D.int .i64) y4.Mem, .box g2 26 [(sv v3), .int .i64 y3.1.Pc, (sv v4)], rowV (sv v3) 3 1 (D.int .i64) y3.1.Regs, rowV (sv v4) 3 1 (D.int .i64) y3.1.Mem, rowV (sv v5) 3 1 (D.int .i64) y3.2.1, rowV (sv v1) 3 1 (D.int .i64) y2.Regs, rowV (sv v2) 3 1 (D.int .i64) y2.Mem, .box g1 39 [(sv v_0_Regs), .int .i64 a0.Pc, (sv v_0_Mem)]] := hS
    refine .c (.alloc T.t26 hS ?_ rfl rfl rfl)
    intro g3 W hS
    refine .c (.st T.t26 hS rfl rfl rfl ?_ rfl rfl rfl rfl rfl)
    intro W hS
    refine .nil ?_
    refine .seq ?_
    refine .region ?_
    refine .r (ld T.t26 hS rfl rfl rfl rfl rfl) ?_ rfl rfl
    refine .p rfl rfl rfl ?_
    obtain ⟨y5, hy5, h⟩ := bnd h
    refine .c (.call hS Tryd.func20 (impl_ImageRun_ok hy5 hS.p1.lendv hS.p2.lendv (hG.at hS (fun _ _ h => h))) rfl rfl ?_ rfl (by kernel_rfl) rfl rfl)
    rintro ⟨v8, v9, v10⟩ W hS
    have hS : Sep _ _ W [rowV (sv v8) 3 1 (D.int .i64) y5.1.Regs, rowV (sv v9) 3 1 (D.int .i64) y5.1.Mem, rowV (sv v10) 3 1 (D.int .i64) y5.2.1, .box g3 26 [(sv v6), .int .i64 y4.Pc, (sv v7)], rowV (sv v6) 3 1 (D.int .i64) y4.Regs, rowV (sv v7) 3 1 (D.int .i64) y4.Mem, .box g2 26 [(sv v3), .int .i64 y3.1.Pc, (sv v4)], rowV (sv v3) 3 1 (D.int .i64) y3.1.Regs, rowV (sv v4) 3 1 (D.int .i64) y3.1.Mem, rowV (sv v5) 3 1 (D.int .i64) y3.2.1, rowV (sv v1) 3 1 (D.int .i64) y2.Regs, rowV (sv v2) 3 1 (D.int .i64) y2.Mem, .box g1 39 [(sv v_0_Regs), .int .i64 a0.Pc, (sv v_0_Mem)]] := hS
    refine .p rfl rfl rfl ?_
    refine .p rfl rfl rfl ?_
    refine .p rfl rfl rfl ?_
    refine .p rfl rfl rfl ?_
    refine .c (.alloc T.t26 hS ?_ rfl rfl rfl)
    intro g4 W hS
    refine .c (.st T.t26 hS rfl rfl rfl ?_ rfl rfl rfl rfl rfl)
    intro W hS
    refine .p rfl rfl rfl ?_
    refine .p rfl rfl rfl ?_
    refine .nil ?_
    refine .seq ?_
    refine .seq ?_
    refine .region ?_
    refine .r (ld T.t26 hS rfl rfl rfl rfl rfl) ?_ rfl rfl
    refine .r (ld T.t26 hS.p7 rfl rfl rfl rfl rfl) ?_ rfl rfl
    obtain ⟨y6, hy6, h⟩ := bnd h
    refine .c (.call0 hS Tryd.func10 (laws_eqMachine_ok hy6 hS.p1.lendv hS.p2.lendv hS.p8.lendv hS.p9.lendv) rfl rfl ?_ rfl (by kernel_rfl) rfl rfl)
    intro W hS
    refine .p rfl rfl rfl ?_
    refine .p rfl rfl rfl ?_
    obtain ⟨b1, hb1, h⟩ := bnd h
    refine .chunk 5 50 (b1) hS ?_ ?_
    · refine .both (!y6) (fun hb => ?_) (fun hb => ?_)
      · skip
        refine .x hb ?_ rfl rfl
        refine .x hb ?_ rfl rfl
        refine .x hb ?_ rfl rfl
        refine .x hb ?_ rfl rfl
        cases sel_t hb hb1
        refine .r (pkt hb rfl rfl rfl) ?_ rfl rfl
        exact .nil (ck 5 hS rfl rfl rfl rfl)
      · have hg1 := hb
        have h := sel_f hb hb1
        refine .g hg1 (.p rfl rfl rfl ?_) rfl
        refine .g hg1 (.p rfl rfl rfl ?_) rfl
        obtain ⟨y7, hy7, h⟩ := bnd h
        refine .g hg1 (.c (.call0 hS Tryd.func11 (laws_eqIntS_ok hy7 hS.p3.lendv hS.p10.lendv) rfl rfl ?_ rfl (by kernel_rfl) rfl rfl)) rfl
        intro W hS
        refine .g hg1 (.p rfl rfl rfl ?_) rfl
        refine .r (pkf hg1 rfl rfl rfl) ?_ rfl rfl
        cases h
        exact .nil (ck 5 hS rfl rfl rfl rfl)
    intro W hS
    refine .p rfl rfl rfl ?_
    refine .chunk 4 55 (b1 || (y5.2.2 != y3.2.2)) hS ?_ ?_
    · refine .both (b1) (fun hb => ?_) (fun hb => ?_)
      · skip
        refine .x hb ?_ rfl rfl
        refine .x hb ?_ rfl rfl
        refine .x hb ?_ rfl rfl
        refine .r (pkt hb rfl rfl rfl) ?_ rfl rfl
        exact .nil (ck 4 hS rfl (or_t hb) rfl rfl)
      · have hg2 := hb
        refine .g hg2 (.p rfl rfl rfl ?_) rfl
        refine .g hg2 (.p rfl rfl rfl ?_) rfl
        refine .g hg2 (.p rfl rfl rfl ?_) rfl
        refine .r (pkf hg2 rfl rfl rfl) ?_ rfl rfl
        exact .nil (ck 4 hS rfl (or_f hg2) rfl rfl)
    intro W hS
    refine .nil ?_
    refine .cond rfl (fun hb => ?_) (fun hb => ?_)
    · have h := sel_t hb h
      refine .seq ?_
      refine .region ?_
      refine .p rfl rfl rfl ?_
      refine .nil ?_
      refine .ret ?_
      cases h
      exact fin_ret (vs := [_]) () (rt rfl rn) rfl (hS.to [] rfl)
    · have h := sel_f hb h
      refine .skip ?_
      refine .seq ?_
      refine .seq ?_
      refine .rk 5 hS [0, 0, 0, 0, 0, 0, 0, 0, 0, 0, 0, 0, 0, 0] T.mix ?_
      intro W hS
      have hT : Sep _ _ W [.box g4 26 [(sv v8), .int .i64 y5.1.Pc, (sv v9)], rowV (sv v8) 3 1 (D.int .i64) y5.1.Regs, rowV (sv v9) 3 1 (D.int .i64) y5.1.Mem, rowV (sv v10) 3 1 (D.int .i64) y5.2.1, .box g3 26 [(sv v6), .int .i64 y4.Pc, (sv v7)], rowV (sv v6) 3 1 (D.int .i64) y4.Regs, rowV (sv v7) 3 1 (D.int .i64) y4.Mem, .box g2 26 [(sv v3), .int .i64 y3.1.Pc, (sv v4)], rowV (sv v3) 3 1 (D.int .i64) y3.1.Regs, rowV (sv v4) 3 1 (D.int .i64) y3.1.Mem, rowV (sv v5) 3 1 (D.int .i64) y3.2.1, rowV (sv v1) 3 1 (D.int .i64) y2.Regs, rowV (sv v2) 3 1 (D.int .i64) y2.Mem, .box g1 39 [(sv v_0_Regs), .int .i64 a0.Pc, (sv v_0_Mem)]] := hS.to [0, 0, 0, 0, 0, 0, 0, 0, 0, 0, 0, 0, 0, 0] rfl
      refine .t1 0 rfl (fun W hT => ld T.t26 hT.p4 rfl rfl rfl rfl rfl) hT ?_ (by kernel_rfl) rfl rfl
      refine .t1 1 rfl (fun W hT => ld T.t39 (hT.pull (i := 13) rfl) rfl rfl rfl rfl rfl) hT ?_ (by kernel_rfl) rfl rfl
      obtain ⟨y8, hy8, h⟩ := bnd h
      refine .by1 2 rfl (.call hS Tryd.func19 (laws_toMachine_ok hy8 (hS.keep q_0_Regs) (hS.keep q_0_Mem)) rfl rfl ?_ rfl (by kernel_rfl) rfl rfl) (by kernel_rfl)
      rintro ⟨v11, v12⟩ W hS
      have hS : Sep _ _ W [rowV (sv v11) 3 1 (D.int .i64) y8.Regs, rowV (sv v12) 3 1 (D.int .i64) y8.Mem, .box g4 26 [(sv v8), .int .i64 y5.1.Pc, (sv v9)], rowV (sv v8) 3 1 (D.int .i64) y5.1.Regs, rowV (sv v9) 3 1 (D.int .i64) y5.1.Mem, rowV (sv v10) 3 1 (D.int .i64) y5.2.1, .box g3 26 [(sv v6), .int .i64 y4.Pc, (sv v7)], rowV (sv v6) 3 1 (D.int .i64) y4.Regs, rowV (sv v7) 3 1 (D.int .i64) y4.Mem, .box g2 26 [(sv v3), .int .i64 y3.1.Pc, (sv v4)], rowV (sv v3) 3 1 (D.int .i64) y3.1.Regs, rowV (sv v4) 3 1 (D.int .i64) y3.1.Mem, rowV (sv v5) 3 1 (D.int .i64) y3.2.1, rowV (sv v1) 3 1 (D.int .i64) y2.Regs, rowV (sv v2) 3 1 (D.int .i64) y2.Mem, .box g1 39 [(sv v_0_Regs), .int .i64 a0.Pc, (sv v_0_Mem)]] := hS
      have hT : Sep _ _ W [.box g4 26 [(sv v8), .int .i64 y5.1.Pc, (sv v9)], rowV (sv v8) 3 1 (D.int .i64) y5.1.Regs, rowV (sv v9) 3 1 (D.int .i64) y5.1.Mem, rowV (sv v10) 3 1 (D.int .i64) y5.2.1, .box g3 26 [(sv v6), .int .i64 y4.Pc, (sv v7)], rowV (sv v6) 3 1 (D.int .i64) y4.Regs, rowV (sv v7) 3 1 (D.int .i64) y4.Mem, .box g2 26 [(sv v3), .int .i64 y3.1.Pc, (sv v4)], rowV (sv v3) 3 1 (D.int .i64) y3.1.Regs, rowV (sv v4) 3 1 (D.int .i64) y3.1.Mem, rowV (sv v5) 3 1 (D.int .i64) y3.2.1, rowV (sv v1) 3 1 (D.int .i64) y2.Regs, rowV (sv v2) 3 1 (D.int .i64) y2.Mem, .box g1 39 [(sv v_0_Regs), .int .i64 a0.Pc, (sv v_0_Mem)]] := hS.to [2, 2, 2, 2, 2, 2, 2, 2, 2, 2, 2, 2, 2, 2] rfl
      refine ⟨fun _ => hT, ?_⟩
      obtain ⟨y9, hy9, h⟩ := bnd h
      refine .by1 3 rfl (.call0 hS Tryd.func10 (laws_eqMachine_ok hy9 hS.p7.lendv hS.p8.lendv hS.lendv hS.p1.lendv) rfl rfl ?_ rfl (by kernel_rfl) rfl rfl) (by kernel_rfl)
      intro W hS
      have hT : Sep _ _ W [.box g4 26 [(sv v8), .int .i64 y5.1.Pc, (sv v9)], rowV (sv v8) 3 1 (D.int .i64) y5.1.Regs, rowV (sv v9) 3 1 (D.int .i64) y5.1.Mem, rowV (sv v10) 3 1 (D.int .i64) y5.2.1, .box g3 26 [(sv v6), .int .i64 y4.Pc, (sv v7)], rowV (sv v6) 3 1 (D.int .i64) y4.Regs, rowV (sv v7) 3 1 (D.int .i64) y4.Mem, .box g2 26 [(sv v3), .int .i64 y3.1.Pc, (sv v4)], rowV (sv v3) 3 1 (D.int .i64) y3.1.Regs, rowV (sv v4) 3 1 (D.int .i64) y3.1.Mem, rowV (sv v5) 3 1 (D.int .i64) y3.2.1, rowV (sv v1) 3 1 (D.int .i64) y2.Regs, rowV (sv v2) 3 1 (D.int .i64) y2.Mem, .box g1 39 [(sv v_0_Regs), .int .i64 a0.Pc, (sv v_0_Mem)]] := hS.to [2, 2, 2, 2, 2, 2, 2, 2, 2, 2, 2, 2, 2, 2] rfl
      refine ⟨fun _ => hT, ?_⟩
      refine .t1 4 rfl (fun W hT => pr rfl) hT ?_ (by kernel_rfl) rfl rfl
      refine .done ?_ (by kernel_rfl)
      refine .cond rfl (fun hb => ?_) (fun hb => ?_)
      · have h := sel_t hb h
        refine .seq ?_
        refine .region ?_
        refine .p rfl rfl rfl ?_
        refine .nil ?_
        refine .ret ?_
        cases h
        exact fin_ret (vs := [_]) () (rt rfl rn) rfl (hS.to [] rfl)
      · have h := sel_f hb h
        refine .skip ?_
        refine .seq ?_
        refine .region ?_
        refine .p rfl rfl rfl ?_
        refine .nil ?_
        refine .seq ?_
        refine .region ?_
        refine .r (ld T.t26 hS.p6 rfl rfl rfl rfl rfl) ?_ rfl rfl
        refine .p rfl rfl rfl ?_
        obtain ⟨y10, hy10, h⟩ := bnd h
        have hS := hS.p8
        have hS := hS.p8
        refine .c (.callS2 (L0 := [rowV (sv v6) 3 1 (D.int .i64) y4.Regs, rowV (sv v7) 3 1 (D.int .i64) y4.Mem]) hS Tryd.func15 (fun S h1 h2 h3 => (laws_markMachine_ok hy10 h2 (fun b hb => (h1 b hb).2))) rfl rfl ?_ rfl (by kernel_rfl) rfl rfl)
        rintro ⟨⟩ W hS
        have hS : Sep _ _ W [rowV (sv v6) 3 1 (D.int .i64) y10.2.1, rowV (sv v7) 3 1 (D.int .i64) y10.2.2, rowV (sv v11) 3 1 (D.int .i64) y8.Regs, rowV (sv v12) 3 1 (D.int .i64) y8.Mem, .box g4 26 [(sv v8), .int .i64 y5.1.Pc, (sv v9)], rowV (sv v8) 3 1 (D.int .i64) y5.1.Regs, rowV (sv v9) 3 1 (D.int .i64) y5.1.Mem, rowV (sv v10) 3 1 (D.int .i64) y5.2.1, .box g3 26 [(sv v6), .int .i64 y4.Pc, (sv v7)], .box g2 26 [(sv v3), .int .i64 y3.1.Pc, (sv v4)], rowV (sv v3) 3 1 (D.int .i64) y3.1.Regs, rowV (sv v4) 3 1 (D.int .i64) y3.1.Mem, rowV (sv v5) 3 1 (D.int .i64) y3.2.1, rowV (sv v1) 3 1 (D.int .i64) y2.Regs, rowV (sv v2) 3 1 (D.int .i64) y2.Mem, .box g1 39 [(sv v_0_Regs), .int .i64 a0.Pc, (sv v_0_Mem)]] := hS
        refine .p rfl rfl rfl ?_
        refine .nil ?_
        refine .seq ?_
        refine .seq ?_
        refine .region ?_
        refine .p rfl rfl rfl ?_
        refine .p rfl rfl rfl ?_
        refine .p rfl rfl rfl ?_
        obtain ⟨b2, hb2, h⟩ := bnd h
        refine .chunk 5 71 (b2) hS ?_ ?_
        · refine .both (decide (y10.1 < 0)) (fun hb => ?_) (fun hb => ?_)
          · skip
            refine .x hb ?_ rfl rfl
            refine .x hb ?_ rfl rfl
            refine .x hb ?_ rfl rfl
            refine .x hb ?_ rfl rfl
            cases sel_t hb hb2
            refine .r (pkt hb rfl rfl rfl) ?_ rfl rfl
            exact .nil (ck 5 hS rfl rfl rfl rfl)
          · have hg3 := hb
            have h := sel_f hb hb2
            refine .g hg3 (.r (ld T.t26 hS.p4 rfl rfl rfl rfl rfl) ?_ rfl rfl) rfl
            refine .g hg3 (.r (ld T.t26 hS.p9 rfl rfl rfl rfl rfl) ?_ rfl rfl) rfl
            obtain ⟨y11, hy11, h⟩ := bnd h
            refine .g hg3 (.c (.call0 hS Tryd.func10 (laws_eqMachine_ok hy11 hS.p5.lendv hS.p6.lendv hS.p10.lendv hS.p11.lendv) rfl rfl ?_ rfl (by kernel_rfl) rfl rfl)) rfl
            intro W hS
            refine .g hg3 (.p rfl rfl rfl ?_) rfl
            refine .r (pkf hg3 rfl rfl rfl) ?_ rfl rfl
            cases h
            exact .nil (ck 5 hS rfl rfl rfl rfl)
        intro W hS
        refine .p rfl rfl rfl ?_
        obtain ⟨b3, hb3, h⟩ := bnd h
        refine .chunk 5 77 (b3) hS ?_ ?_
        · refine .both (b2) (fun hb => ?_) (fun hb => ?_)
          · skip
            refine .x hb ?_ rfl rfl
            refine .x hb ?_ rfl rfl
            refine .x hb ?_ rfl rfl
            refine .x hb ?_ rfl rfl
            cases sel_t hb hb3
            refine .r (pkt hb rfl rfl rfl) ?_ rfl rfl
            exact .nil (ck 5 hS rfl rfl rfl rfl)
          · have hg4 := hb
            have h := sel_f hb hb3
            refine .g hg4 (.p rfl rfl rfl ?_) rfl
            refine .g hg4 (.p rfl rfl rfl ?_) rfl
            obtain ⟨y12, hy12, h⟩ := bnd h
            refine .g hg4 (.c (.call0 hS Tryd.func11 (laws_eqIntS_ok hy12 hS.p7.lendv (hS.pull (i := 12) rfl).lendv) rfl rfl ?_ rfl (by kernel_rfl) rfl rfl)) rfl
            intro W hS
            refine .g hg4 (.p rfl rfl rfl ?_) rfl
            refine .r (pkf hg4 rfl rfl rfl) ?_ rfl rfl
            cases h
            exact .nil (ck 5 hS rfl rfl rfl rfl)
        intro W hS
        refine .p rfl rfl rfl ?_
        refine .chunk 4 82 (b3 || (y5.2.2 != y3.2.2)) hS ?_ ?_
        · refine .both (b3) (fun hb => ?_) (fun hb => ?_)
          · skip
            refine .x hb ?_ rfl rfl
            refine .x hb ?_ rfl rfl
            refine .x hb ?_ rfl rfl
            refine .r (pkt hb rfl rfl rfl) ?_ rfl rfl
            exact .nil (ck 4 hS rfl (or_t hb) rfl rfl)
          · have hg5 := hb
            refine .g hg5 (.p rfl rfl rfl ?_) rfl
            refine .g hg5 (.p rfl rfl rfl ?_) rfl
            refine .g hg5 (.p rfl rfl rfl ?_) rfl
            refine .r (pkf hg5 rfl rfl rfl) ?_ rfl rfl
            exact .nil (ck 4 hS rfl (or_f hg5) rfl rfl)
        intro W hS
        refine .nil ?_
        refine .cond rfl (fun hb => ?_) (fun hb => ?_)
        · have h := sel_t hb h
          refine .seq ?_
          refine .region ?_
          refine .p rfl rfl rfl ?_
          refine .nil ?_
          refine .ret ?_
          cases h
          exact fin_ret (vs := [_]) () (rt rfl rn) rfl (hS.to [] rfl)
        · have h := sel_f hb h
          refine .skip ?_
          refine .seq ?_
          refine .region ?_
          refine .p rfl rfl rfl ?_
          refine .nil ?_
          refine .seq ?_
          refine .region ?_
          refine .r (ld T.t26 hS.p4 rfl rfl rfl rfl rfl) ?_ rfl rfl
          refine .p rfl rfl rfl ?_
          obtain ⟨y13, hy13, h⟩ := bnd h
          have hS := hS.p6
          have hS := hS.p6
          refine .c (.callS2 (L0 := [rowV (sv v8) 3 1 (D.int .i64) y5.1.Regs, rowV (sv v9) 3 1 (D.int .i64) y5.1.Mem]) hS Tryd.func15 (fun S h1 h2 h3 => (laws_markMachine_ok hy13 h2 (fun b hb => (h1 b hb).2))) rfl rfl ?_ rfl (by kernel_rfl) rfl rfl)
          rintro ⟨⟩ W hS
          have hS : Sep _ _ W [rowV (sv v8) 3 1 (D.int .i64) y13.2.1, rowV (sv v9) 3 1 (D.int .i64) y13.2.2, rowV (sv v6) 3 1 (D.int .i64) y10.2.1, rowV (sv v7) 3 1 (D.int .i64) y10.2.2, rowV (sv v11) 3 1 (D.int .i64) y8.Regs, rowV (sv v12) 3 1 (D.int .i64) y8.Mem, .box g4 26 [(sv v8), .int .i64 y5.1.Pc, (sv v9)], rowV (sv v10) 3 1 (D.int .i64) y5.2.1, .box g3 26 [(sv v6), .int .i64 y4.Pc, (sv v7)], .box g2 26 [(sv v3), .int .i64 y3.1.Pc, (sv v4)], rowV (sv v3) 3 1 (D.int .i64) y3.1.Regs, rowV (sv v4) 3 1 (D.int .i64) y3.1.Mem, rowV (sv v5) 3 1 (D.int .i64) y3.2.1, rowV (sv v1) 3 1 (D.int .i64) y2.Regs, rowV (sv v2) 3 1 (D.int .i64) y2.Mem, .box g1 39 [(sv v_0_Regs), .int .i64 a0.Pc, (sv v_0_Mem)]] := hS
          refine .p rfl rfl rfl ?_
          refine .nil ?_
          refine .seq ?_
          refine .region ?_
          refine .p rfl rfl rfl ?_
          refine .p rfl rfl rfl ?_
          obtain ⟨y14, hy14, h⟩ := bnd h
          have hS := hS.p7
          refine .c (.callS2 (L0 := [rowV (sv v10) 3 1 (D.int .i64) y5.2.1]) hS Tryd.func13 (fun S h1 h2 h3 => (laws_markIntS_ok hy14 h2 (fun b hb => (h1 b hb).2))) rfl rfl ?_ rfl (by kernel_rfl) rfl rfl)
          rintro ⟨⟩ W hS
          have hS : Sep _ _ W [rowV (sv v10) 3 1 (D.int .i64) y14.2, rowV (sv v8) 3 1 (D.int .i64) y13.2.1, rowV (sv v9) 3 1 (D.int .i64) y13.2.2, rowV (sv v6) 3 1 (D.int .i64) y10.2.1, rowV (sv v7) 3 1 (D.int .i64) y10.2.2, rowV (sv v11) 3 1 (D.int .i64) y8.Regs, rowV (sv v12) 3 1 (D.int .i64) y8.Mem, .box g4 26 [(sv v8), .int .i64 y5.1.Pc, (sv v9)], .box g3 26 [(sv v6), .int .i64 y4.Pc, (sv v7)], .box g2 26 [(sv v3), .int .i64 y3.1.Pc, (sv v4)], rowV (sv v3) 3 1 (D.int .i64) y3.1.Regs, rowV (sv v4) 3 1 (D.int .i64) y3.1.Mem, rowV (sv v5) 3 1 (D.int .i64) y3.2.1, rowV (sv v1) 3 1 (D.int .i64) y2.Regs, rowV (sv v2) 3 1 (D.int .i64) y2.Mem, .box g1 39 [(sv v_0_Regs), .int .i64 a0.Pc, (sv v_0_Mem)]] := hS
          refine .p rfl rfl rfl ?_
          refine .nil ?_
          refine .seq ?_
          refine .region ?_
          refine .p rfl rfl rfl ?_
          refine .nil ?_
          refine .seq ?_
          refine .region ?_
          refine .r (ld T.t26 hS.p7 rfl rfl rfl rfl rfl) ?_ rfl rfl
          refine .p rfl rfl rfl ?_
          obtain ⟨y15, hy15, h⟩ := bnd h
          refine .c (.call0 hS Tryd.func16 (laws_heldMachine_ok hy15 hS.p1.lendv hS.p2.lendv) rfl rfl ?_ rfl (by kernel_rfl) rfl rfl)
          intro W hS
          refine .p rfl rfl rfl ?_
          refine .nil ?_
          refine .seq ?_
          refine .seq ?_
          refine .region ?_
          refine .p rfl rfl rfl ?_
          refine .p rfl rfl rfl ?_
          refine .nil ?_
          refine .cond rfl (fun hb => ?_) (fun hb => ?_)
          · have h := sel_t hb h
            refine .seq ?_
            refine .region ?_
            refine .p rfl rfl rfl ?_
            refine .nil ?_
            refine .ret ?_
            cases h
            exact fin_ret (vs := [_]) () (rt rfl rn) rfl (hS.to [] rfl)
          · have h := sel_f hb h
            refine .skip ?_
            refine .seq ?_
            refine .region ?_
            refine .p rfl rfl rfl ?_
            refine .p rfl rfl rfl ?_
            obtain ⟨y16, hy16, h⟩ := bnd h
            refine .c (.call0 hS Tryd.func21 (laws_heldIntS_ok hy16 hS.lendv) rfl rfl ?_ rfl (by kernel_rfl) rfl rfl)
            intro W hS
            refine .p rfl rfl rfl ?_
            refine .nil ?_
            refine .seq ?_
            refine .seq ?_
            refine .region ?_
            refine .p rfl rfl rfl ?_
            refine .p rfl rfl rfl ?_
            refine .nil ?_
            refine .cond rfl (fun hb => ?_) (fun hb => ?_)
            · have h := sel_t hb h
              refine .seq ?_
              refine .region ?_
              refine .p rfl rfl rfl ?_
              refine .nil ?_
              refine .ret ?_
              cases h
              exact fin_ret (vs := [_]) () (rt rfl rn) rfl (hS.to [] rfl)
            · have h := sel_f hb h
              refine .skip ?_
              refine .seq ?_
              refine .seq ?_
              refine .region ?_
              refine .p rfl rfl rfl ?_
              refine .p rfl rfl rfl ?_
              refine .p rfl rfl rfl ?_
              refine .nil ?_
              refine .cond rfl (fun hb => ?_) (fun hb => ?_)
              · have h := sel_t hb h
                refine .seq ?_
                refine .region ?_
                refine .p rfl rfl rfl ?_
                refine .nil ?_
                refine .ret ?_
                cases h
                exact fin_ret (vs := [_]) () (rt rfl rn) rfl (hS.to [] rfl)
              · have h := sel_f hb h
                refine .skip ?_
                refine .seq ?_
                refine .region ?_
                refine .r (ld T.t39 (hS.pull (i := 15) rfl) rfl rfl rfl rfl rfl) ?_ rfl rfl
                obtain ⟨y17, hy17, h⟩ := bnd h
                refine .c (.call hS Tryd.func19 (laws_toMachine_ok hy17 (hS.keep q_0_Regs) (hS.keep q_0_Mem)) rfl rfl ?_ rfl (by kernel_rfl) rfl rfl)
                rintro ⟨v13, v14⟩ W hS
                have hS : Sep _ _ W [rowV (sv v13) 3 1 (D.int .i64) y17.Regs, rowV (sv v14) 3 1 (D.int .i64) y17.Mem, rowV (sv v10) 3 1 (D.int .i64) y14.2, rowV (sv v8) 3 1 (D.int .i64) y13.2.1, rowV (sv v9) 3 1 (D.int .i64) y13.2.2, rowV (sv v6) 3 1 (D.int .i64) y10.2.1, rowV (sv v7) 3 1 (D.int .i64) y10.2.2, rowV (sv v11) 3 1 (D.int .i64) y8.Regs, rowV (sv v12) 3 1 (D.int .i64) y8.Mem, .box g4 26 [(sv v8), .int .i64 y5.1.Pc, (sv v9)], .box g3 26 [(sv v6), .int .i64 y4.Pc, (sv v7)], .box g2 26 [(sv v3), .int .i64 y3.1.Pc, (sv v4)], rowV (sv v3) 3 1 (D.int .i64) y3.1.Regs, rowV (sv v4) 3 1 (D.int .i64) y3.1.Mem, rowV (sv v5) 3 1 (D.int .i64) y3.2.1, rowV (sv v1) 3 1 (D.int .i64) y2.Regs, rowV (sv v2) 3 1 (D.int .i64) y2.Mem, .box g1 39 [(sv v_0_Regs), .int .i64 a0.Pc, (sv v_0_Mem)]] := hS
                refine .p rfl rfl rfl ?_
                obtain ⟨y18, hy18, h⟩ := bnd h
                refine .c (.call hS Tryd.func20 (impl_ImageRun_ok hy18 hS.lendv hS.p1.lendv (hG.at hS (fun _ _ h => h))) rfl rfl ?_ rfl (by kernel_rfl) rfl rfl)
                rintro ⟨v15, v16, v17⟩ W hS
                have hS : Sep _ _ W [rowV (sv v15) 3 1 (D.int .i64) y18.1.Regs, rowV (sv v16) 3 1 (D.int .i64) y18.1.Mem, rowV (sv v17) 3 1 (D.int .i64) y18.2.1, rowV (sv v13) 3 1 (D.int .i64) y17.Regs, rowV (sv v14) 3 1 (D.int .i64) y17.Mem, rowV (sv v10) 3 1 (D.int .i64) y14.2, rowV (sv v8) 3 1 (D.int .i64) y13.2.1, rowV (sv v9) 3 1 (D.int .i64) y13.2.2, rowV (sv v6) 3 1 (D.int .i64) y10.2.1, rowV (sv v7) 3 1 (D.int .i64) y10.2.2, rowV (sv v11) 3 1 (D.int .i64) y8.Regs, rowV (sv v12) 3 1 (D.int .i64) y8.Mem, .box g4 26 [(sv v8), .int .i64 y5.1.Pc, (sv v9)], .box g3 26 [(sv v6), .int .i64 y4.Pc, (sv v7)], .box g2 26 [(sv v3), .int .i64 y3.1.Pc, (sv v4)], rowV (sv v3) 3 1 (D.int .i64) y3.1.Regs, rowV (sv v4) 3 1 (D.int .i64) y3.1.Mem, rowV (sv v5) 3 1 (D.int .i64) y3.2.1, rowV (sv v1) 3 1 (D.int .i64) y2.Regs, rowV (sv v2) 3 1 (D.int .i64) y2.Mem, .box g1 39 [(sv v_0_Regs), .int .i64 a0.Pc, (sv v_0_Mem)]] := hS
                refine .p rfl rfl rfl ?_
                refine .p rfl rfl rfl ?_
                refine .p rfl rfl rfl ?_
                refine .p rfl rfl rfl ?_
                refine .c (.alloc T.t26 hS ?_ rfl rfl rfl)
                intro g5 W hS
                refine .c (.st T.t26 hS rfl rfl rfl ?_ rfl rfl rfl rfl rfl)
                intro W hS
                refine .p rfl rfl rfl ?_
                refine .p rfl rfl rfl ?_
                refine .nil ?_
                refine .seq ?_
                refine .seq ?_
                refine .region ?_
                refine .r (ld T.t26 hS rfl rfl rfl rfl rfl) ?_ rfl rfl
                refine .r (ld T.t26 (hS.pull (i := 15) rfl) rfl rfl rfl rfl rfl) ?_ rfl rfl
                obtain ⟨y19, hy19, h⟩ := bnd h
                refine .c (.call0 hS Tryd.func10 (laws_eqMachine_ok hy19 hS.p1.lendv hS.p2.lendv (hS.pull (i := 16) rfl).lendv (hS.pull (i := 17) rfl).lendv) rfl rfl ?_ rfl (by kernel_rfl) rfl rfl)
                intro W hS
                refine .p rfl rfl rfl ?_
                refine .p rfl rfl rfl ?_
                obtain ⟨b4, hb4, h⟩ := bnd h
                refine .chunk 5 119 (b4) hS ?_ ?_
                · refine .both (!y19) (fun hb => ?_) (fun hb => ?_)
                  · skip
                    refine .x hb ?_ rfl rfl
                    refine .x hb ?_ rfl rfl
                    refine .x hb ?_ rfl rfl
                    refine .x hb ?_ rfl rfl
                    cases sel_t hb hb4
                    refine .r (pkt hb rfl rfl rfl) ?_ rfl rfl
                    exact .nil (ck 5 hS rfl rfl rfl rfl)
                  · have hg6 := hb
                    have h := sel_f hb hb4
                    refine .g hg6 (.p rfl rfl rfl ?_) rfl
                    refine .g hg6 (.p rfl rfl rfl ?_) rfl
                    obtain ⟨y20, hy20, h⟩ := bnd h
                    refine .g hg6 (.c (.call0 hS Tryd.func11 (laws_eqIntS_ok hy20 hS.p3.lendv (hS.pull (i := 18) rfl).lendv) rfl rfl ?_ rfl (by kernel_rfl) rfl rfl)) rfl
                    intro W hS
                    refine .g hg6 (.p rfl rfl rfl ?_) rfl
                    refine .r (pkf hg6 rfl rfl rfl) ?_ rfl rfl
                    cases h
                    exact .nil (ck 5 hS rfl rfl rfl rfl)
                intro W hS
                refine .p rfl rfl rfl ?_
                refine .chunk 4 124 (b4 || (y18.2.2 != y3.2.2)) hS ?_ ?_
                · refine .both (b4) (fun hb => ?_) (fun hb => ?_)
                  · skip
                    refine .x hb ?_ rfl rfl
                    refine .x hb ?_ rfl rfl
                    refine .x hb ?_ rfl rfl
                    refine .r (pkt hb rfl rfl rfl) ?_ rfl rfl
                    exact .nil (ck 4 hS rfl (or_t hb) rfl rfl)
                  · have hg7 := hb
                    refine .g hg7 (.p rfl rfl rfl ?_) rfl
                    refine .g hg7 (.p rfl rfl rfl ?_) rfl
                    refine .g hg7 (.p rfl rfl rfl ?_) rfl
                    refine .r (pkf hg7 rfl rfl rfl) ?_ rfl rfl
                    exact .nil (ck 4 hS rfl (or_f hg7) rfl rfl)
                intro W hS
                refine .nil ?_
                refine .cond rfl (fun hb => ?_) (fun hb => ?_)
                · have h := sel_t hb h
                  refine .seq ?_
                  refine .region ?_
                  refine .p rfl rfl rfl ?_
                  refine .nil ?_
                  refine .ret ?_
                  cases h
                  exact fin_ret (vs := [_]) () (rt rfl rn) rfl (hS.to [] rfl)
                · have h := sel_f hb h
                  refine .skip ?_
                  refine .seq ?_
                  refine .region ?_
                  refine .p rfl rfl rfl ?_
                  refine .nil ?_
                  refine .seq ?_
                  refine .region ?_
                  refine .r (ld T.t26 (hS.pull (i := 13) rfl) rfl rfl rfl rfl rfl) ?_ rfl rfl
                  refine .p rfl rfl rfl ?_
                  obtain ⟨y21, hy21, h⟩ := bnd h
                  refine .c (.call0 hS Tryd.func16 (laws_heldMachine_ok hy21 hS.p7.lendv hS.p8.lendv) rfl rfl ?_ rfl (by kernel_rfl) rfl rfl)
                  intro W hS
                  refine .p rfl rfl rfl ?_
                  refine .nil ?_
                  refine .seq ?_
                  refine .seq ?_
                  refine .region ?_
                  refine .p rfl rfl rfl ?_
                  refine .p rfl rfl rfl ?_
                  refine .nil ?_
                  refine .cond rfl (fun hb => ?_) (fun hb => ?_)
                  · have h := sel_t hb h
                    refine .seq ?_
                    refine .region ?_
                    refine .p rfl rfl rfl ?_
                    refine .nil ?_
                    refine .ret ?_
                    cases h
                    exact fin_ret (vs := [_]) () (rt rfl rn) rfl (hS.to [] rfl)
                  · have h := sel_f hb h
                    refine .skip ?_
                    refine .seq ?_
                    refine .region ?_
                    refine .p rfl rfl rfl ?_
                    refine .p rfl rfl rfl ?_
                    obtain ⟨y22, hy22, h⟩ := bnd h
                    refine .c (.call0 hS Tryd.func21 (laws_heldIntS_ok hy22 hS.p6.lendv) rfl rfl ?_ rfl (by kernel_rfl) rfl rfl)
                    intro W hS
                    refine .p rfl rfl rfl ?_
                    refine .nil ?_
                    refine .seq ?_
                    refine .seq ?_
                    refine .region ?_
                    refine .p rfl rfl rfl ?_
                    refine .p rfl rfl rfl ?_
                    refine .nil ?_
                    refine .cond rfl (fun hb => ?_) (fun hb => ?_)
                    · have h := sel_t hb h
                      refine .seq ?_
                      refine .region ?_
                      refine .p rfl rfl rfl ?_
                      refine .nil ?_
                      refine .ret ?_
                      cases h
                      exact fin_ret (vs := [_]) () (rt rfl rn) rfl (hS.to [] rfl)
                    · have h := sel_f hb h
                      refine .skip ?_
                      refine .seq ?_
                      refine .seq ?_
                      refine .region ?_
                      refine .p rfl rfl rfl ?_
                      refine .p rfl rfl rfl ?_
                      refine .p rfl rfl rfl ?_
                      refine .nil ?_
                      refine .cond rfl (fun hb => ?_) (fun hb => ?_)
                      · have h := sel_t hb h
                        refine .seq ?_
                        refine .region ?_
                        refine .p rfl rfl rfl ?_
                        refine .nil ?_
                        refine .ret ?_
                        cases h
                        exact fin_ret (vs := [_]) () (rt rfl rn) rfl (hS.to [] rfl)
                      · have h := sel_f hb h
                        refine .skip ?_
                        refine .seq ?_
                        refine .region ?_
                        refine .p rfl rfl rfl ?_
                        refine .nil ?_
                        refine .ret ?_
                        cases h
                        exact fin_ret (vs := [_]) () (rt rfl rn) rfl (hS.to [] rfl)
end Go.Proofs.YtdohklfimhkicaaDoor.N
