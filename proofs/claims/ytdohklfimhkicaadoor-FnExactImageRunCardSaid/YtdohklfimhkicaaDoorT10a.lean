/- Printed by a program of mine: that the program's functions compute it. -/
import Derived.Test.YtdohklfimhkicaaDoorT10
set_option linter.unusedVariables false
set_option maxRecDepth 100000
set_option maxHeartbeats 4000000
namespace Go.Proofs.YtdohklfimhkicaaDoor.N
open Go.Proofs.YtdohklfimhkicaaDoor.X
def laws_eqIntS_F (w : World) (r : Bool) : Env → World → Prop := Fin Tryd.prog Tryd.f11 No w (fun s : Unit => .bool r) (fun s => []) .ret
theorem laws_eqIntS_ok {a0 : List Int} {a1 : List Int} {v_0 : Hd} {v_1 : Hd} {w : World} {r : Bool} (h : laws_eqIntS a0 a1 = some r) (q_0 : RV w (Old No w) (sv v_0) 3 1 (D.int .i64) a0) (q_1 : RV w (Old No w) (sv v_1) 3 1 (D.int .i64) a1) : Calls Tryd.prog 11 #[(sv v_0), (sv v_1)] w (Ret No w (fun s : Unit => .bool r) (fun s => [])) := by
  unfold laws_eqIntS at h
  refine enter Tryd.func11 rfl rfl ?_
  have hS := Sep.start w
  refine .seq ?_
  refine .region ?_
  refine .p rfl rfl rfl ?_
  refine .nil ?_
  refine .seq ?_
  refine .seq ?_
  refine .region ?_
  refine .p rfl rfl rfl ?_
  refine .r (lenv (hS.keep q_0) T.u22 rfl rfl) ?_ rfl rfl
  refine .p rfl rfl rfl ?_
  refine .r (lenv (hS.keep q_1) T.u22 rfl rfl) ?_ rfl rfl
  refine .p rfl rfl rfl ?_
  refine .nil ?_
  refine .cond rfl (fun hb => ?_) (fun hb => ?_)
  · have h := sel_t hb h
    refine .seq ?_
    refine .region ?_
    refine .p rfl rfl rfl ?_
    refine .nil ?_
    refine .ret ?_
    cases h
    exact fin_ret (vs := [_]) () (rt rfl rn) rfl (hS.to [] rfl)
  · have h := sel_f hb h
    refine .skip ?_
    refine .seq ?_
    refine .seq ?_
    refine .region ?_
    refine .p rfl rfl rfl ?_
    refine .nil ?_
    refine .block ?_
    obtain ⟨y1, hy1, h⟩ := bnd h
    refine .via (.iter (fun s1 E' W' => SubL E' [(0, (sv v_0)), (1, (sv v_1)), (5, .int .i64 s1)] ∧ Sep No w W' []) (fun y2 x E' W' => (match y2 with | .inl o1 => x = .ret ∧ laws_eqIntS_F w o1 E' W' | .inr o2 => x = .exit 0 ∧ SubL E' [] ∧ Sep No w W' [])) hy1 ⟨sb rfl, hS.to [] rfl⟩ ?_) ?_
    · intro s1 y3 E W h hI
      obtain ⟨hE, hS⟩ := hI
      refine CW.sub hE ?_
      unfold laws_eqIntS_b1 at h
      refine .seq ?_
      refine .seq ?_
      refine .region ?_
      refine .p rfl rfl rfl ?_
      refine .p rfl rfl rfl ?_
      refine .r (lenv (hS.keep q_0) T.u22 rfl rfl) ?_ rfl rfl
      refine .p rfl rfl rfl ?_
      refine .nil ?_
      refine .cond rfl (fun hb => ?_) (fun hb => ?_)
      · have h := sel_t hb h
        refine .skip ?_
        refine .seq ?_
        refine .block ?_
        refine .seq ?_
        refine .rk 9 hS [] T.mix ?_
        intro W hS
        have hT : Sep _ _ W [] := hS.to [] rfl
        refine .t1 0 rfl (fun W hT => pr rfl) hT ?_ (by kernel_rfl) rfl rfl
        refine .t1 1 rfl (fun W hT => pr rfl) hT ?_ (by kernel_rfl) rfl rfl
        obtain ⟨x1, hx1, h⟩ := bnd h
        refine .t1 2 rfl (fun W hT => ixv (hS.keep q_0) hx1 T.u22 T.t3 rfl rfl rfl) hT ?_ (by kernel_rfl) rfl rfl
        refine .t1 3 rfl (fun W hT => lde (RV.flat (hT.keep q_0) hx1 rfl) T.t3 rfl rfl rfl rfl rfl) hT ?_ (by kernel_rfl) rfl rfl
        refine .t1 4 rfl (fun W hT => pr rfl) hT ?_ (by kernel_rfl) rfl rfl
        refine .t1 5 rfl (fun W hT => pr rfl) hT ?_ (by kernel_rfl) rfl rfl
        obtain ⟨x2, hx2, h⟩ := bnd h
        refine .t1 6 rfl (fun W hT => ixv (hS.keep q_1) hx2 T.u22 T.t3 rfl rfl rfl) hT ?_ (by kernel_rfl) rfl rfl
        refine .t1 7 rfl (fun W hT => lde (RV.flat (hT.keep q_1) hx2 rfl) T.t3 rfl rfl rfl rfl rfl) hT ?_ (by kernel_rfl) rfl rfl
        refine .t1 8 rfl (fun W hT => pr rfl) hT ?_ (by kernel_rfl) rfl rfl
        refine .done ?_ (by kernel_rfl)
        refine .cond rfl (fun hb => ?_) (fun hb => ?_)
        · have h := sel_t hb h
          refine .seq ?_
          refine .region ?_
          refine .p rfl rfl rfl ?_
          refine .nil ?_
          refine .ret ?_
          cases h
          exact ⟨by simp, rfl, fin_ret (vs := [_]) () (rt rfl rn) rfl (hS.to [] rfl)⟩
        · have h := sel_f hb h
          refine .skip ?_
          refine .region ?_
          refine .p rfl rfl rfl ?_
          refine .p rfl rfl rfl ?_
          refine .p rfl rfl rfl ?_
          refine .nil ?_
          cases h
          exact ⟨rfl, sb rfl, hS.to [] rfl⟩
      · have h := sel_f hb h
        refine .exit ?_
        cases h
        exact ⟨by simp, rfl, sb rfl, hS.to [] rfl⟩
    · intro x E W hJ
      rcases y1 with o3 | o4
      · skip
        obtain ⟨rfl, hF⟩ := hJ
        refine ⟨_, fun _ _ h => h, ?_⟩
        cases h
        exact hF
      · skip
        obtain ⟨rfl, hE, hS⟩ := hJ
        refine ⟨_, hE.sub, ?_⟩
        refine .seq ?_
        refine .region ?_
        refine .p rfl rfl rfl ?_
        refine .nil ?_
        refine .ret ?_
        cases h
        exact fin_ret (vs := [_]) () (rt rfl rn) rfl (hS.to [] rfl)
theorem laws_eqMachine_ok {a0 : Machine} {a1 : Machine} {v_0_Regs : Hd} {v_0_Mem : Hd} {v_1_Regs : Hd} {v_1_Mem : Hd} {w : World} {r : Bool} (h : laws_eqMachine a0 a1 = some r) (q_0_Regs : RV w (Old No w) (sv v_0_Regs) 3 1 (D.int .i64) a0.Regs) (q_0_Mem : RV w (Old No w) (sv v_0_Mem) 3 1 (D.int .i64) a0.Mem) (q_1_Regs : RV w (Old No w) (sv v_1_Regs) 3 1 (D.int .i64) a1.Regs) (q_1_Mem : RV w (Old No w) (sv v_1_Mem) 3 1 (D.int .i64) a1.Mem) : Calls Tryd.prog 10 #[.agg #[(sv v_0_Regs), .int .i64 a0.Pc, (sv v_0_Mem)], .agg #[(sv v_1_Regs), .int .i64 a1.Pc, (sv v_1_Mem)]] w (Ret No w (fun s : Unit => .bool r) (fun s => [])) := by
  unfold laws_eqMachine at h
  refine enter Tryd.func10 rfl rfl ?_
  have hS := Sep.start w
  refine .seq ?_
  refine .region ?_
  refine .c (.box hS rfl rfl ?_ rfl rfl)
  intro g1 W hS
  refine .c (.box hS rfl rfl ?_ rfl rfl)
  intro g2 W hS
  refine .p rfl rfl rfl ?_
  refine .nil ?_
  refine .seq ?_
  refine .seq ?_
  refine .region ?_
  refine .r (fa T.f26_0 rfl rfl rfl) ?_ rfl rfl
  refine .r (ld T.t22 hS.p1 rfl rfl rfl rfl rfl) ?_ rfl rfl
  refine .r (fa T.f26_0 rfl rfl rfl) ?_ rfl rfl
  refine .r (ld T.t22 hS rfl rfl rfl rfl rfl) ?_ rfl rfl
  obtain ⟨y1, hy1, h⟩ := bnd h
  refine .c (.call0 hS Tryd.func11 (laws_eqIntS_ok hy1 (hS.keep q_0_Regs) (hS.keep q_1_Regs)) rfl rfl ?_ rfl (by kernel_rfl) rfl rfl)
  intro W hS
  refine .p rfl rfl rfl ?_
  refine .nil ?_
  refine .cond rfl (fun hb => ?_) (fun hb => ?_)
  · have h := sel_t hb h
    refine .seq ?_
    refine .region ?_
    refine .p rfl rfl rfl ?_
    refine .nil ?_
    refine .ret ?_
    cases h
    exact fin_ret (vs := [_]) () (rt rfl rn) rfl (hS.to [] rfl)
  · have h := sel_f hb h
    refine .skip ?_
    refine .seq ?_
    refine .seq ?_
    refine .region ?_
    refine .r (fa T.f26_1 rfl rfl rfl) ?_ rfl rfl
    refine .r (ld T.t3 hS.p1 rfl rfl rfl rfl rfl) ?_ rfl rfl
    refine .r (fa T.f26_1 rfl rfl rfl) ?_ rfl rfl
    refine .r (ld T.t3 hS rfl rfl rfl rfl rfl) ?_ rfl rfl
    refine .p rfl rfl rfl ?_
    refine .nil ?_
    refine .cond rfl (fun hb => ?_) (fun hb => ?_)
    · have h := sel_t hb h
      refine .seq ?_
      refine .region ?_
      refine .p rfl rfl rfl ?_
      refine .nil ?_
      refine .ret ?_
      cases h
      exact fin_ret (vs := [_]) () (rt rfl rn) rfl (hS.to [] rfl)
    · have h := sel_f hb h
      refine .skip ?_
      refine .seq ?_
      refine .seq ?_
      refine .region ?_
      refine .r (fa T.f26_2 rfl rfl rfl) ?_ rfl rfl
      refine .r (ld T.t22 hS.p1 rfl rfl rfl rfl rfl) ?_ rfl rfl
      refine .r (fa T.f26_2 rfl rfl rfl) ?_ rfl rfl
      refine .r (ld T.t22 hS rfl rfl rfl rfl rfl) ?_ rfl rfl
      obtain ⟨y2, hy2, h⟩ := bnd h
      refine .c (.call0 hS Tryd.func11 (laws_eqIntS_ok hy2 (hS.keep q_0_Mem) (hS.keep q_1_Mem)) rfl rfl ?_ rfl (by kernel_rfl) rfl rfl)
      intro W hS
      refine .p rfl rfl rfl ?_
      refine .nil ?_
      refine .cond rfl (fun hb => ?_) (fun hb => ?_)
      · have h := sel_t hb h
        refine .seq ?_
        refine .region ?_
        refine .p rfl rfl rfl ?_
        refine .nil ?_
        refine .ret ?_
        cases h
        exact fin_ret (vs := [_]) () (rt rfl rn) rfl (hS.to [] rfl)
      · have h := sel_f hb h
        refine .skip ?_
        refine .seq ?_
        refine .region ?_
        refine .p rfl rfl rfl ?_
        refine .nil ?_
        refine .ret ?_
        cases h
        exact fin_ret (vs := [_]) () (rt rfl rn) rfl (hS.to [] rfl)
theorem laws_markIntS_ok {a0 : List Int} {a1 : Int} {v_0 : Hd} {S : Nat → Prop} {w : World} {r : Int × (List Int)} (h : laws_markIntS a0 a1 = some r) (hO : Owns w [rowV (sv v_0) 3 1 (D.int .i64) a0] S) (hlt : ∀ b, S b → b < w.heap.size) : Calls Tryd.prog 13 #[(sv v_0), .int .i64 a1] w (Ret S w (fun s : Unit => .int .i64 r.1) (fun s => [rowV (sv v_0) 3 1 (D.int .i64) r.2])) := by
  unfold laws_markIntS at h
  refine enter Tryd.func13 rfl rfl ?_
  have hS := Sep.startM hO hlt
  refine .seq ?_
  refine .region ?_
  refine .p rfl rfl rfl ?_
  refine .nil ?_
  refine .seq ?_
  refine .seq ?_
  refine .region ?_
  refine .p rfl rfl rfl ?_
  refine .nil ?_
  refine .block ?_
  obtain ⟨y1, hy1, h⟩ := bnd h
  refine .via (.iter (fun s1 E' W' => SubL E' [(0, (sv v_0)), (1, .int .i64 s1.1), (5, .int .i64 s1.2.1)] ∧ Sep S w W' [rowV (sv v_0) 3 1 (D.int .i64) s1.2.2]) (fun y2 x E' W' => x = .exit 0 ∧ SubL E' [(1, .int .i64 y2.1)] ∧ Sep S w W' [rowV (sv v_0) 3 1 (D.int .i64) y2.2]) hy1 ⟨sb rfl, hS.to [0] rfl⟩ ?_) ?_
  · intro s1 y3 E W h hI
    obtain ⟨hE, hS⟩ := hI
    refine CW.sub hE ?_
    unfold laws_markIntS_b1 at h
    refine .seq ?_
    refine .seq ?_
    refine .region ?_
    refine .p rfl rfl rfl ?_
    refine .p rfl rfl rfl ?_
    refine .r (lenv hS.lendv T.u22 rfl rfl) ?_ rfl rfl
    refine .p rfl rfl rfl ?_
    refine .nil ?_
    refine .cond rfl (fun hb => ?_) (fun hb => ?_)
    · have h := sel_t hb h
      refine .skip ?_
      refine .seq ?_
      refine .block ?_
      refine .seq ?_
      refine .region ?_
      refine .p rfl rfl rfl ?_
      refine .p rfl rfl rfl ?_
      refine .p rfl rfl rfl ?_
      obtain ⟨x1, hx1, h⟩ := bnd h
      refine .r (ixv hS.lendv hx1 T.u22 T.t3 rfl rfl rfl) ?_ rfl rfl
      obtain ⟨r1, hr1, h⟩ := bnd h
      refine .c (.sev hr1 hx1 hS T.t3 rfl rfl rfl rfl rfl rfl ?_ rfl rfl rfl rfl rfl rfl)
      intro W hS
      refine .nil ?_
      refine .region ?_
      refine .p rfl rfl rfl ?_
      refine .p rfl rfl rfl ?_
      refine .p rfl rfl rfl ?_
      refine .nil ?_
      refine .region ?_
      refine .p rfl rfl rfl ?_
      refine .p rfl rfl rfl ?_
      refine .p rfl rfl rfl ?_
      refine .nil ?_
      cases h
      exact ⟨rfl, sb rfl, hS.to [0] rfl⟩
    · have h := sel_f hb h
      refine .exit ?_
      cases h
      exact ⟨by simp, rfl, sb rfl, hS.to [0] rfl⟩
  · intro x E W hJ
    obtain ⟨rfl, hE, hS⟩ := hJ
    refine ⟨_, hE.sub, ?_⟩
    refine .seq ?_
    refine .region ?_
    refine .p rfl rfl rfl ?_
    refine .p rfl rfl rfl ?_
    refine .nil ?_
    refine .ret ?_
    cases h
    exact fin_ret (vs := [_]) () (rt rfl rn) rfl (hS.to [0] rfl)
theorem laws_markMachine_ok {a0 : Machine} {a1 : Int} {v_0_Regs : Hd} {v_0_Mem : Hd} {S : Nat → Prop} {w : World} {r : Int × (List Int) × (List Int)} (h : laws_markMachine a0 a1 = some r) (hO : Owns w [rowV (sv v_0_Regs) 3 1 (D.int .i64) a0.Regs, rowV (sv v_0_Mem) 3 1 (D.int .i64) a0.Mem] S) (hlt : ∀ b, S b → b < w.heap.size) : Calls Tryd.prog 15 #[.agg #[(sv v_0_Regs), .int .i64 a0.Pc, (sv v_0_Mem)], .int .i64 a1] w (Ret S w (fun s : Unit => .int .i64 r.1) (fun s => [rowV (sv v_0_Regs) 3 1 (D.int .i64) r.2.1, rowV (sv v_0_Mem) 3 1 (D.int .i64) r.2.2])) := by
  unfold laws_markMachine at h
  refine enter Tryd.func15 rfl rfl ?_
  have hS := Sep.startM hO hlt
  refine .seq ?_
  refine .region ?_
  refine .c (.box hS rfl rfl ?_ rfl rfl)
  intro g1 W hS
  refine .p rfl rfl rfl ?_
  refine .nil ?_
  refine .seq ?_
  refine .region ?_
  refine .r (fa T.f26_0 rfl rfl rfl) ?_ rfl rfl
  refine .r (ld T.t22 hS rfl rfl rfl rfl rfl) ?_ rfl rfl
  refine .p rfl rfl rfl ?_
  obtain ⟨y1, hy1, h⟩ := bnd h
  have hS := hS.p1
  refine .c (.callS2 (L0 := [rowV (sv v_0_Regs) 3 1 (D.int .i64) a0.Regs]) hS Tryd.func13 (fun S h1 h2 h3 => (laws_markIntS_ok hy1 h2 (fun b hb => (h1 b hb).2))) rfl rfl ?_ rfl (by kernel_rfl) rfl rfl)
  rintro ⟨⟩ W hS
  have hS : Sep _ _ W [rowV (sv v_0_Regs) 3 1 (D.int .i64) y1.2, .box g1 26 [(sv v_0_Regs), .int .i64 a0.Pc, (sv v_0_Mem)], rowV (sv v_0_Mem) 3 1 (D.int .i64) a0.Mem] := hS
  refine .p rfl rfl rfl ?_
  refine .nil ?_
  refine .seq ?_
  refine .region ?_
  refine .r (fa T.f26_2 rfl rfl rfl) ?_ rfl rfl
  refine .r (ld T.t22 hS.p1 rfl rfl rfl rfl rfl) ?_ rfl rfl
  refine .p rfl rfl rfl ?_
  obtain ⟨y2, hy2, h⟩ := bnd h
  have hS := hS.p2
  refine .c (.callS2 (L0 := [rowV (sv v_0_Mem) 3 1 (D.int .i64) a0.Mem]) hS Tryd.func13 (fun S h1 h2 h3 => (laws_markIntS_ok hy2 h2 (fun b hb => (h1 b hb).2))) rfl rfl ?_ rfl (by kernel_rfl) rfl rfl)
  rintro ⟨⟩ W hS
  have hS : Sep _ _ W [rowV (sv v_0_Mem) 3 1 (D.int .i64) y2.2, rowV (sv v_0_Regs) 3 1 (D.int .i64) y1.2, .box g1 26 [(sv v_0_Regs), .int .i64 a0.Pc, (sv v_0_Mem)]] := hS
  refine .p rfl rfl rfl ?_
  refine .nil ?_
  refine .seq ?_
  refine .region ?_
  refine .p rfl rfl rfl ?_
  refine .p rfl rfl rfl ?_
  refine .nil ?_
  refine .ret ?_
  cases h
  exact fin_ret (vs := [_]) () (rt rfl rn) rfl (hS.to [1, 0] rfl)
def laws_heldIntS_F (w : World) (r : Int) : Env → World → Prop := Fin Tryd.prog Tryd.f21 No w (fun s : Unit => .int .i64 r) (fun s => []) .ret
theorem laws_heldIntS_ok {a0 : List Int} {a1 : Int} {v_0 : Hd} {w : World} {r : Int} (h : laws_heldIntS a0 a1 = some r) (q_0 : RV w (Old No w) (sv v_0) 3 1 (D.int .i64) a0) : Calls Tryd.prog 21 #[(sv v_0), .int .i64 a1] w (Ret No w (fun s : Unit => .int .i64 r) (fun s => [])) := by
  unfold laws_heldIntS at h
  refine enter Tryd.func21 rfl rfl ?_
  have hS := Sep.start w
  refine .seq ?_
  refine .region ?_
  refine .p rfl rfl rfl ?_
  refine .nil ?_
  refine .seq ?_
  refine .seq ?_
  refine .region ?_
  refine .p rfl rfl rfl ?_
  refine .nil ?_
  refine .block ?_
  obtain ⟨y1, hy1, h⟩ := bnd h
  refine .via (.iter (fun s1 E' W' => SubL E' [(0, (sv v_0)), (1, .int .i64 s1.1), (5, .int .i64 s1.2)] ∧ Sep No w W' []) (fun y2 x E' W' => (match y2 with | .inl o1 => x = .ret ∧ laws_heldIntS_F w o1 E' W' | .inr o2 => x = .exit 0 ∧ SubL E' [(1, .int .i64 o2)] ∧ Sep No w W' [])) hy1 ⟨sb rfl, hS.to [] rfl⟩ ?_) ?_
  · intro s1 y3 E W h hI
    obtain ⟨hE, hS⟩ := hI
    refine CW.sub hE ?_
    unfold laws_heldIntS_b1 at h
    refine .seq ?_
    refine .seq ?_
    refine .region ?_
    refine .p rfl rfl rfl ?_
    refine .p rfl rfl rfl ?_
    refine .r (lenv (hS.keep q_0) T.u22 rfl rfl) ?_ rfl rfl
    refine .p rfl rfl rfl ?_
    refine .nil ?_
    refine .cond rfl (fun hb => ?_) (fun hb => ?_)
    · have h := sel_t hb h
      refine .skip ?_
      refine .seq ?_
      refine .block ?_
      refine .seq ?_
      refine .seq ?_
      refine .region ?_
      refine .p rfl rfl rfl ?_
      refine .p rfl rfl rfl ?_
      obtain ⟨x1, hx1, h⟩ := bnd h
      refine .r (ixv (hS.keep q_0) hx1 T.u22 T.t3 rfl rfl rfl) ?_ rfl rfl
      refine .r (lde (RV.flat (hS.keep q_0) hx1 rfl) T.t3 rfl rfl rfl rfl rfl) ?_ rfl rfl
      refine .p rfl rfl rfl ?_
      refine .p rfl rfl rfl ?_
      refine .nil ?_
      refine .cond rfl (fun hb => ?_) (fun hb => ?_)
      · have h := sel_t hb h
        refine .seq ?_
        refine .region ?_
        refine .p rfl rfl rfl ?_
        refine .nil ?_
        refine .ret ?_
        cases h
        exact ⟨by simp, rfl, fin_ret (vs := [_]) () (rt rfl rn) rfl (hS.to [] rfl)⟩
      · have h := sel_f hb h
        refine .skip ?_
        refine .region ?_
        refine .p rfl rfl rfl ?_
        refine .p rfl rfl rfl ?_
        refine .p rfl rfl rfl ?_
        refine .nil ?_
        refine .region ?_
        refine .p rfl rfl rfl ?_
        refine .p rfl rfl rfl ?_
        refine .p rfl rfl rfl ?_
        refine .nil ?_
        cases h
        exact ⟨rfl, sb rfl, hS.to [] rfl⟩
    · have h := sel_f hb h
      refine .exit ?_
      cases h
      exact ⟨by simp, rfl, sb rfl, hS.to [] rfl⟩
  · intro x E W hJ
    rcases y1 with o3 | o4
    · skip
      obtain ⟨rfl, hF⟩ := hJ
      refine ⟨_, fun _ _ h => h, ?_⟩
      cases h
      exact hF
    · skip
      obtain ⟨rfl, hE, hS⟩ := hJ
      refine ⟨_, hE.sub, ?_⟩
      refine .seq ?_
      refine .region ?_
      refine .p rfl rfl rfl ?_
      refine .p rfl rfl rfl ?_
      refine .nil ?_
      refine .ret ?_
      cases h
      exact fin_ret (vs := [_]) () (rt rfl rn) rfl (hS.to [] rfl)
theorem laws_heldMachine_ok {a0 : Machine} {a1 : Int} {v_0_Regs : Hd} {v_0_Mem : Hd} {w : World} {r : Int} (h : laws_heldMachine a0 a1 = some r) (q_0_Regs : RV w (Old No w) (sv v_0_Regs) 3 1 (D.int .i64) a0.Regs) (q_0_Mem : RV w (Old No w) (sv v_0_Mem) 3 1 (D.int .i64) a0.Mem) : Calls Tryd.prog 16 #[.agg #[(sv v_0_Regs), .int .i64 a0.Pc, (sv v_0_Mem)], .int .i64 a1] w (Ret No w (fun s : Unit => .int .i64 r) (fun s => [])) := by
  unfold laws_heldMachine at h
  refine enter Tryd.func16 rfl rfl ?_
  have hS := Sep.start w
  refine .seq ?_
  refine .region ?_
  refine .c (.box hS rfl rfl ?_ rfl rfl)
  intro g1 W hS
  refine .p rfl rfl rfl ?_
  refine .nil ?_
  refine .seq ?_
  refine .region ?_
  refine .r (fa T.f26_0 rfl rfl rfl) ?_ rfl rfl
  refine .r (ld T.t22 hS rfl rfl rfl rfl rfl) ?_ rfl rfl
  refine .p rfl rfl rfl ?_
  obtain ⟨y1, hy1, h⟩ := bnd h
  refine .c (.call0 hS Tryd.func21 (laws_heldIntS_ok hy1 (hS.keep q_0_Regs)) rfl rfl ?_ rfl (by kernel_rfl) rfl rfl)
  intro W hS
  refine .p rfl rfl rfl ?_
  refine .nil ?_
  refine .seq ?_
  refine .seq ?_
  refine .region ?_
  refine .p rfl rfl rfl ?_
  refine .p rfl rfl rfl ?_
  refine .nil ?_
  refine .cond rfl (fun hb => ?_) (fun hb => ?_)
  · have h := sel_t hb h
    refine .seq ?_
    refine .region ?_
    refine .p rfl rfl rfl ?_
    refine .nil ?_
    refine .ret ?_
    cases h
    exact fin_ret (vs := [_]) () (rt rfl rn) rfl (hS.to [] rfl)
  · have h := sel_f hb h
    refine .skip ?_
    refine .seq ?_
    refine .region ?_
    refine .r (fa T.f26_2 rfl rfl rfl) ?_ rfl rfl
    refine .r (ld T.t22 hS rfl rfl rfl rfl rfl) ?_ rfl rfl
    refine .p rfl rfl rfl ?_
    obtain ⟨y2, hy2, h⟩ := bnd h
    refine .c (.call0 hS Tryd.func21 (laws_heldIntS_ok hy2 (hS.keep q_0_Mem)) rfl rfl ?_ rfl (by kernel_rfl) rfl rfl)
    intro W hS
    refine .p rfl rfl rfl ?_
    refine .nil ?_
    refine .seq ?_
    refine .seq ?_
    refine .region ?_
    refine .p rfl rfl rfl ?_
    refine .p rfl rfl rfl ?_
    refine .nil ?_
    refine .cond rfl (fun hb => ?_) (fun hb => ?_)
    · have h := sel_t hb h
      refine .seq ?_
      refine .region ?_
      refine .p rfl rfl rfl ?_
      refine .nil ?_
      refine .ret ?_
      cases h
      exact fin_ret (vs := [_]) () (rt rfl rn) rfl (hS.to [] rfl)
    · have h := sel_f hb h
      refine .skip ?_
      refine .seq ?_
      refine .region ?_
      refine .p rfl rfl rfl ?_
      refine .p rfl rfl rfl ?_
      refine .nil ?_
      refine .ret ?_
      cases h
      exact fin_ret (vs := [_]) () (rt rfl rn) rfl (hS.to [] rfl)
theorem laws_szIntS_ok {a0 : List Int} {a1 : Int} {v_0 : Hd} {w : World} {r : Int} (h : laws_szIntS a0 a1 = some r) (q_0 : RV w (Old No w) (sv v_0) 3 1 (D.int .i64) a0) : Calls Tryd.prog 35 #[(sv v_0), .int .i64 a1] w (Ret No w (fun s : Unit => .int .i64 r) (fun s => [])) := by
  unfold laws_szIntS at h
  refine enter Tryd.func35 rfl rfl ?_
  have hS := Sep.start w
  refine .seq ?_
  refine .region ?_
  refine .p rfl rfl rfl ?_
  refine .nil ?_
  refine .seq ?_
  refine .region ?_
  refine .p rfl rfl rfl ?_
  refine .p rfl rfl rfl ?_
  refine .r (lenv (hS.keep q_0) T.u22 rfl rfl) ?_ rfl rfl
  refine .p rfl rfl rfl ?_
  refine .p rfl rfl rfl ?_
  refine .nil ?_
  refine .seq ?_
  refine .seq ?_
  refine .region ?_
  refine .p rfl rfl rfl ?_
  refine .p rfl rfl rfl ?_
  refine .nil ?_
  refine .cond rfl (fun hb => ?_) (fun hb => ?_)
  · have h := sel_t hb h
    refine .seq ?_
    refine .region ?_
    refine .p rfl rfl rfl ?_
    refine .nil ?_
    refine .ret ?_
    cases h
    exact fin_ret (vs := [_]) () (rt rfl rn) rfl (hS.to [] rfl)
  · have h := sel_f hb h
    refine .skip ?_
    refine .seq ?_
    refine .region ?_
    refine .p rfl rfl rfl ?_
    refine .p rfl rfl rfl ?_
    refine .nil ?_
    refine .ret ?_
    cases h
    exact fin_ret (vs := [_]) () (rt rfl rn) rfl (hS.to [] rfl)
theorem laws_szMachine_ok {a0 : Machine} {a1 : Int} {v_0_Regs : Hd} {v_0_Mem : Hd} {w : World} {r : Int} (h : laws_szMachine a0 a1 = some r) (q_0_Regs : RV w (Old No w) (sv v_0_Regs) 3 1 (D.int .i64) a0.Regs) (q_0_Mem : RV w (Old No w) (sv v_0_Mem) 3 1 (D.int .i64) a0.Mem) : Calls Tryd.prog 17 #[.agg #[(sv v_0_Regs), .int .i64 a0.Pc, (sv v_0_Mem)], .int .i64 a1] w (Ret No w (fun s : Unit => .int .i64 r) (fun s => [])) := by
  unfold laws_szMachine at h
  refine enter Tryd.func17 rfl rfl ?_
  have hS := Sep.start w
  refine .seq ?_
  refine .region ?_
  refine .c (.box hS rfl rfl ?_ rfl rfl)
  intro g1 W hS
  refine .p rfl rfl rfl ?_
  refine .nil ?_
  refine .seq ?_
  refine .region ?_
  refine .r (fa T.f39_0 rfl rfl rfl) ?_ rfl rfl
  refine .r (ld T.t22 hS rfl rfl rfl rfl rfl) ?_ rfl rfl
  refine .p rfl rfl rfl ?_
  obtain ⟨y1, hy1, h⟩ := bnd h
  refine .c (.call0 hS Tryd.func35 (laws_szIntS_ok hy1 (hS.keep q_0_Regs)) rfl rfl ?_ rfl (by kernel_rfl) rfl rfl)
  intro W hS
  refine .p rfl rfl rfl ?_
  refine .nil ?_
  refine .seq ?_
  refine .seq ?_
  refine .region ?_
  refine .p rfl rfl rfl ?_
  refine .p rfl rfl rfl ?_
  refine .nil ?_
  refine .cond rfl (fun hb => ?_) (fun hb => ?_)
  · have h := sel_t hb h
    refine .seq ?_
    refine .region ?_
    refine .p rfl rfl rfl ?_
    refine .nil ?_
    refine .ret ?_
    cases h
    exact fin_ret (vs := [_]) () (rt rfl rn) rfl (hS.to [] rfl)
  · have h := sel_f hb h
    refine .skip ?_
    refine .seq ?_
    refine .region ?_
    refine .r (fa T.f39_2 rfl rfl rfl) ?_ rfl rfl
    refine .r (ld T.t22 hS rfl rfl rfl rfl rfl) ?_ rfl rfl
    refine .p rfl rfl rfl ?_
    obtain ⟨y2, hy2, h⟩ := bnd h
    refine .c (.call0 hS Tryd.func35 (laws_szIntS_ok hy2 (hS.keep q_0_Mem)) rfl rfl ?_ rfl (by kernel_rfl) rfl rfl)
    intro W hS
    refine .p rfl rfl rfl ?_
    refine .nil ?_
    refine .seq ?_
    refine .seq ?_
    refine .region ?_
    refine .p rfl rfl rfl ?_
    refine .p rfl rfl rfl ?_
    refine .nil ?_
    refine .cond rfl (fun hb => ?_) (fun hb => ?_)
    · have h := sel_t hb h
      refine .seq ?_
      refine .region ?_
      refine .p rfl rfl rfl ?_
      refine .nil ?_
      refine .ret ?_
      cases h
      exact fin_ret (vs := [_]) () (rt rfl rn) rfl (hS.to [] rfl)
    · have h := sel_f hb h
      refine .skip ?_
      refine .seq ?_
      refine .region ?_
      refine .p rfl rfl rfl ?_
      refine .p rfl rfl rfl ?_
      refine .nil ?_
      refine .ret ?_
      cases h
      exact fin_ret (vs := [_]) () (rt rfl rn) rfl (hS.to [] rfl)
theorem spec_l6In_ok {a0 : Int} {a1 : Int} {a2 : Int} {w : World} {r : Bool} (h : spec_l6In a0 a1 a2 = some r) : Calls Tryd.prog 24 #[.int .i64 a0, .int .i64 a1, .int .i64 a2] w (Ret No w (fun s : Unit => .bool r) (fun s => [])) := by
  unfold spec_l6In at h
  refine enter Tryd.func24 rfl rfl ?_
  have hS := Sep.start w
  refine .seq ?_
  refine .region ?_
  refine .p rfl rfl rfl ?_
  refine .nil ?_
  refine .seq ?_
  refine .region ?_
  refine .p rfl rfl rfl ?_
  refine .p rfl rfl rfl ?_
  refine .p rfl rfl rfl ?_
  refine .p rfl rfl rfl ?_
  refine .chunk 4 14 ((decide (a0 ≥ a1)) && (decide (a0 ≤ a2))) hS ?_ ?_
  · refine .both (decide (a0 ≥ a1)) (fun hb => ?_) (fun hb => ?_)
    · have hg1 := hb
      refine .g hg1 (.p rfl rfl rfl ?_) rfl
      refine .g hg1 (.p rfl rfl rfl ?_) rfl
      refine .g hg1 (.p rfl rfl rfl ?_) rfl
      refine .r (pkt hg1 rfl rfl rfl) ?_ rfl rfl
      exact .nil (ck 4 hS rfl (and_t hg1) rfl rfl)
    · skip
      refine .x hb ?_ rfl rfl
      refine .x hb ?_ rfl rfl
      refine .x hb ?_ rfl rfl
      refine .r (pkf hb rfl rfl rfl) ?_ rfl rfl
      exact .nil (ck 4 hS rfl (and_f hb) rfl rfl)
  intro W hS
  refine .p rfl rfl rfl ?_
  refine .nil ?_
  refine .ret ?_
  cases h
  exact fin_ret (vs := [_]) () (rt rfl rn) rfl (hS.to [] rfl)
theorem spec_WordValid_ok {a0 : Int} {w : World} {r : Bool} (h : spec_WordValid a0 = some r) : Calls Tryd.prog 63 #[.int .i64 a0] w (Ret No w (fun s : Unit => .bool r) (fun s => [])) := by
  unfold spec_WordValid at h
  refine enter Tryd.func63 rfl rfl ?_
  have hS := Sep.start w
  refine .seq ?_
  refine .region ?_
  refine .p rfl rfl rfl ?_
  refine .nil ?_
  refine .seq ?_
  refine .region ?_
  refine .p rfl rfl rfl ?_
  obtain ⟨y1, hy1, h⟩ := bnd h
  refine .c (.call0 hS Tryd.func24 (spec_l6In_ok hy1) rfl rfl ?_ rfl (by kernel_rfl) rfl rfl)
  intro W hS
  refine .p rfl rfl rfl ?_
  refine .nil ?_
  refine .ret ?_
  cases h
  exact fin_ret (vs := [_]) () (rt rfl rn) rfl (hS.to [] rfl)
def spec_l4Words_F (w : World) (r : Bool) : Env → World → Prop := Fin Tryd.prog Tryd.f62 No w (fun s : Unit => .bool r) (fun s => []) .ret
theorem spec_l4Words_ok {a0 : List Int} {a1 : Int} {v_0 : Hd} {w : World} {r : Bool} (h : spec_l4Words a0 a1 = some r) (q_0 : RV w (Old No w) (sv v_0) 3 1 (D.int .i64) a0) : Calls Tryd.prog 62 #[(sv v_0), .int .i64 a1] w (Ret No w (fun s : Unit => .bool r) (fun s => [])) := by
  unfold spec_l4Words at h
  refine enter Tryd.func62 rfl rfl ?_
  have hS := Sep.start w
  refine .seq ?_
  refine .region ?_
  refine .p rfl rfl rfl ?_
  refine .nil ?_
  refine .seq ?_
  refine .seq ?_
  refine .region ?_
  refine .p rfl rfl rfl ?_
  refine .r (lenv (hS.keep q_0) T.u22 rfl rfl) ?_ rfl rfl
  refine .p rfl rfl rfl ?_
  refine .p rfl rfl rfl ?_
  refine .nil ?_
  refine .cond rfl (fun hb => ?_) (fun hb => ?_)
  · have h := sel_t hb h
    refine .seq ?_
    refine .region ?_
    refine .p rfl rfl rfl ?_
    refine .nil ?_
    refine .ret ?_
    cases h
    exact fin_ret (vs := [_]) () (rt rfl rn) rfl (hS.to [] rfl)
  · have h := sel_f hb h
    refine .skip ?_
    refine .seq ?_
    refine .seq ?_
    refine .region ?_
    refine .p rfl rfl rfl ?_
    refine .nil ?_
    refine .block ?_
    obtain ⟨y1, hy1, h⟩ := bnd h
    refine .via (.iter (fun s1 E' W' => SubL E' [(0, (sv v_0)), (5, .int .i64 s1)] ∧ Sep No w W' []) (fun y2 x E' W' => (match y2 with | .inl o1 => x = .ret ∧ spec_l4Words_F w o1 E' W' | .inr o2 => x = .exit 0 ∧ SubL E' [] ∧ Sep No w W' [])) hy1 ⟨sb rfl, hS.to [] rfl⟩ ?_) ?_
    · intro s1 y3 E W h hI
      obtain ⟨hE, hS⟩ := hI
      refine CW.sub hE ?_
      unfold spec_l4Words_b1 at h
      refine .seq ?_
      refine .seq ?_
      refine .region ?_
      refine .p rfl rfl rfl ?_
      refine .p rfl rfl rfl ?_
      refine .r (lenv (hS.keep q_0) T.u22 rfl rfl) ?_ rfl rfl
      refine .p rfl rfl rfl ?_
      refine .nil ?_
      refine .cond rfl (fun hb => ?_) (fun hb => ?_)
      · have h := sel_t hb h
        refine .skip ?_
        refine .seq ?_
        refine .block ?_
        refine .seq ?_
        refine .region ?_
        refine .p rfl rfl rfl ?_
        refine .p rfl rfl rfl ?_
        obtain ⟨x1, hx1, h⟩ := bnd h
        refine .r (ixv (hS.keep q_0) hx1 T.u22 T.t3 rfl rfl rfl) ?_ rfl rfl
        refine .r (lde (RV.flat (hS.keep q_0) hx1 rfl) T.t3 rfl rfl rfl rfl rfl) ?_ rfl rfl
        obtain ⟨y4, hy4, h⟩ := bnd h
        refine .c (.call0 hS Tryd.func63 (spec_WordValid_ok hy4) rfl rfl ?_ rfl (by kernel_rfl) rfl rfl)
        intro W hS
        refine .p rfl rfl rfl ?_
        refine .nil ?_
        refine .cond rfl (fun hb => ?_) (fun hb => ?_)
        · have h := sel_t hb h
          refine .seq ?_
          refine .region ?_
          refine .p rfl rfl rfl ?_
          refine .nil ?_
          refine .ret ?_
          cases h
          exact ⟨by simp, rfl, fin_ret (vs := [_]) () (rt rfl rn) rfl (hS.to [] rfl)⟩
        · have h := sel_f hb h
          refine .skip ?_
          refine .region ?_
          refine .p rfl rfl rfl ?_
          refine .p rfl rfl rfl ?_
          refine .p rfl rfl rfl ?_
          refine .nil ?_
          cases h
          exact ⟨rfl, sb rfl, hS.to [] rfl⟩
      · have h := sel_f hb h
        refine .exit ?_
        cases h
        exact ⟨by simp, rfl, sb rfl, hS.to [] rfl⟩
    · intro x E W hJ
      rcases y1 with o3 | o4
      · skip
        obtain ⟨rfl, hF⟩ := hJ
        refine ⟨_, fun _ _ h => h, ?_⟩
        cases h
        exact hF
      · skip
        obtain ⟨rfl, hE, hS⟩ := hJ
        refine ⟨_, hE.sub, ?_⟩
        refine .seq ?_
        refine .region ?_
        refine .p rfl rfl rfl ?_
        refine .nil ?_
        refine .ret ?_
        cases h
        exact fin_ret (vs := [_]) () (rt rfl rn) rfl (hS.to [] rfl)
theorem spec_MachineValid_ok {a0 : Machine} {v_0_Regs : Hd} {v_0_Mem : Hd} {w : World} {r : Bool} (h : spec_MachineValid a0 = some r) (q_0_Regs : RV w (Old No w) (sv v_0_Regs) 3 1 (D.int .i64) a0.Regs) (q_0_Mem : RV w (Old No w) (sv v_0_Mem) 3 1 (D.int .i64) a0.Mem) : Calls Tryd.prog 36 #[.agg #[(sv v_0_Regs), .int .i64 a0.Pc, (sv v_0_Mem)]] w (Ret No w (fun s : Unit => .bool r) (fun s => [])) := by
  unfold spec_MachineValid at h
  refine enter Tryd.func36 rfl rfl ?_
  have hS := Sep.start w
  refine .seq ?_
  refine .region ?_
  refine .c (.box hS rfl rfl ?_ rfl rfl)
  intro g1 W hS
  refine .p rfl rfl rfl ?_
  refine .nil ?_
  refine .seq ?_
  refine .region ?_
  refine .r (fa T.f26_0 rfl rfl rfl) ?_ rfl rfl
  refine .r (ld T.t22 hS rfl rfl rfl rfl rfl) ?_ rfl rfl
  obtain ⟨y1, hy1, h⟩ := bnd h
  refine .c (.call0 hS Tryd.func62 (spec_l4Words_ok hy1 (hS.keep q_0_Regs)) rfl rfl ?_ rfl (by kernel_rfl) rfl rfl)
  intro W hS
  refine .p rfl rfl rfl ?_
  obtain ⟨b1, hb1, h⟩ := bnd h
  refine .chunk 6 12 (b1) hS ?_ ?_
  · refine .both (y1) (fun hb => ?_) (fun hb => ?_)
    · have hg1 := hb
      have h := sel_t hb hb1
      refine .g hg1 (.r (fa T.f26_0 rfl rfl rfl) ?_ rfl rfl) rfl
      refine .g hg1 (.r (ld T.t22 hS rfl rfl rfl rfl rfl) ?_ rfl rfl) rfl
      obtain ⟨x1, hx1, h⟩ := bnd h
      refine .g hg1 (.r (ixv (hS.keep q_0_Regs) hx1 T.u22 T.t3 rfl rfl rfl) ?_ rfl rfl) rfl
      refine .g hg1 (.r (lde (RV.flat (hS.keep q_0_Regs) hx1 rfl) T.t3 rfl rfl rfl rfl rfl) ?_ rfl rfl) rfl
      refine .g hg1 (.p rfl rfl rfl ?_) rfl
      refine .r (pkt hg1 rfl rfl rfl) ?_ rfl rfl
      cases h
      exact .nil (ck 6 hS rfl rfl rfl rfl)
    · skip
      refine .x hb ?_ rfl rfl
      refine .x hb ?_ rfl rfl
      refine .x hb ?_ rfl rfl
      refine .x hb ?_ rfl rfl
      refine .x hb ?_ rfl rfl
      cases sel_f hb hb1
      refine .r (pkf hb rfl rfl rfl) ?_ rfl rfl
      exact .nil (ck 6 hS rfl rfl rfl rfl)
  intro W hS
  refine .p rfl rfl rfl ?_
  obtain ⟨b2, hb2, h⟩ := bnd h
  refine .chunk 4 17 (b2) hS ?_ ?_
  · refine .both (b1) (fun hb => ?_) (fun hb => ?_)
    · have hg2 := hb
      have h := sel_t hb hb2
      refine .g hg2 (.r (fa T.f26_1 rfl rfl rfl) ?_ rfl rfl) rfl
      refine .g hg2 (.r (ld T.t3 hS rfl rfl rfl rfl rfl) ?_ rfl rfl) rfl
      obtain ⟨y2, hy2, h⟩ := bnd h
      refine .g hg2 (.c (.call0 hS Tryd.func63 (spec_WordValid_ok hy2) rfl rfl ?_ rfl (by kernel_rfl) rfl rfl)) rfl
      intro W hS
      refine .r (pkt hg2 rfl rfl rfl) ?_ rfl rfl
      cases h
      exact .nil (ck 4 hS rfl rfl rfl rfl)
    · skip
      refine .x hb ?_ rfl rfl
      refine .x hb ?_ rfl rfl
      refine .x hb ?_ rfl rfl
      cases sel_f hb hb2
      refine .r (pkf hb rfl rfl rfl) ?_ rfl rfl
      exact .nil (ck 4 hS rfl rfl rfl rfl)
  intro W hS
  refine .p rfl rfl rfl ?_
  refine .chunk 5 23 (b2 && (decide ((a0.Mem.length : Int) ≤ 10000))) hS ?_ ?_
  · refine .both (b2) (fun hb => ?_) (fun hb => ?_)
    · have hg3 := hb
      refine .g hg3 (.r (fa T.f26_2 rfl rfl rfl) ?_ rfl rfl) rfl
      refine .g hg3 (.r (ld T.t22 hS rfl rfl rfl rfl rfl) ?_ rfl rfl) rfl
      refine .g hg3 (.r (lenv (hS.keep q_0_Mem) T.u22 rfl rfl) ?_ rfl rfl) rfl
      refine .g hg3 (.p rfl rfl rfl ?_) rfl
      refine .r (pkt hg3 rfl rfl rfl) ?_ rfl rfl
      exact .nil (ck 5 hS rfl (and_t hg3) rfl rfl)
    · skip
      refine .x hb ?_ rfl rfl
      refine .x hb ?_ rfl rfl
      refine .x hb ?_ rfl rfl
      refine .x hb ?_ rfl rfl
      refine .r (pkf hb rfl rfl rfl) ?_ rfl rfl
      exact .nil (ck 5 hS rfl (and_f hb) rfl rfl)
  intro W hS
  refine .p rfl rfl rfl ?_
  obtain ⟨b3, hb3, h⟩ := bnd h
  refine .chunk 7 31 (b3) hS ?_ ?_
  · refine .both (b2 && (decide ((a0.Mem.length : Int) ≤ 10000))) (fun hb => ?_) (fun hb => ?_)
    · have hg4 := hb
      have h := sel_t hb hb3
      refine .g hg4 (.r (fa T.f26_2 rfl rfl rfl) ?_ rfl rfl) rfl
      refine .g hg4 (.r (ld T.t22 hS rfl rfl rfl rfl rfl) ?_ rfl rfl) rfl
      refine .g hg4 (.r (fa T.f26_2 rfl rfl rfl) ?_ rfl rfl) rfl
      refine .g hg4 (.r (ld T.t22 hS rfl rfl rfl rfl rfl) ?_ rfl rfl) rfl
      refine .g hg4 (.r (lenv (hS.keep q_0_Mem) T.u22 rfl rfl) ?_ rfl rfl) rfl
      obtain ⟨y3, hy3, h⟩ := bnd h
      refine .g hg4 (.c (.call0 hS Tryd.func62 (spec_l4Words_ok hy3 (hS.keep q_0_Mem)) rfl rfl ?_ rfl (by kernel_rfl) rfl rfl)) rfl
      intro W hS
      refine .r (pkt hg4 rfl rfl rfl) ?_ rfl rfl
      cases h
      exact .nil (ck 7 hS rfl rfl rfl rfl)
    · skip
      refine .x hb ?_ rfl rfl
      refine .x hb ?_ rfl rfl
      refine .x hb ?_ rfl rfl
      refine .x hb ?_ rfl rfl
      refine .x hb ?_ rfl rfl
      refine .x hb ?_ rfl rfl
      cases sel_f hb hb3
      refine .r (pkf hb rfl rfl rfl) ?_ rfl rfl
      exact .nil (ck 7 hS rfl rfl rfl rfl)
  intro W hS
  refine .p rfl rfl rfl ?_
  refine .nil ?_
  refine .ret ?_
  cases h
  exact fin_ret (vs := [_]) () (rt rfl rn) rfl (hS.to [] rfl)
theorem spec_l44Copy_ok {a0 : Machine} {v_0_Regs : Hd} {v_0_Mem : Hd} {w : World} {r : Machine} (h : spec_l44Copy a0 = some r) (q_0_Regs : RV w (Old No w) (sv v_0_Regs) 3 1 (D.int .i64) a0.Regs) (q_0_Mem : RV w (Old No w) (sv v_0_Mem) 3 1 (D.int .i64) a0.Mem) : Calls Tryd.prog 37 #[.agg #[(sv v_0_Regs), .int .i64 a0.Pc, (sv v_0_Mem)]] w (Ret No w (fun s : Hd × Hd => .agg #[(sv s.1), .int .i64 r.Pc, (sv s.2)]) (fun s => [rowV (sv s.1) 3 1 (D.int .i64) r.Regs, rowV (sv s.2) 3 1 (D.int .i64) r.Mem])) := by
  unfold spec_l44Copy at h
  refine enter Tryd.func37 rfl rfl ?_
  have hS := Sep.start w
  refine .seq ?_
  refine .region ?_
  refine .c (.box hS rfl rfl ?_ rfl rfl)
  intro g1 W hS
  refine .c (.alloc T.t26 hS ?_ rfl rfl rfl)
  intro g2 W hS
  refine .nil ?_
  refine .seq ?_
  obtain ⟨r1, hr1, h⟩ := bnd h
  obtain ⟨r2, hr2, h⟩ := bnd h
  refine .via (R' := fun x E' W' => x = .normal ∧ ∃ (v1 : Hd) (v2 : Hd), SubL E' [(2, .pointer (some ⟨g2, 0, none⟩))] ∧ Sep No w W' [.box g2 26 [(sv v1), .int .i64 a0.Pc, (sv v2)], .box g1 26 [(sv v_0_Regs), .int .i64 a0.Pc, (sv v_0_Mem)], rowV (sv v1) 3 1 (D.int .i64) r1, rowV (sv v2) 3 1 (D.int .i64) r2]) ?_ ?_
  · skip
    refine .rk 11 hS [0, 0] T.mix ?_
    intro W hS
    have hT : Sep _ _ W [.box g2 26 [(sv nilH), .int .i64 0, (sv nilH)], .box g1 26 [(sv v_0_Regs), .int .i64 a0.Pc, (sv v_0_Mem)]] := hS.to [0, 0] rfl
    refine .t1 1 rfl (fun W hT => fa T.f26_0 rfl rfl rfl) hT ?_ (by kernel_rfl) rfl rfl
    refine .t1 2 rfl (fun W hT => ld T.t22 hT.p1 rfl rfl rfl rfl rfl) hT ?_ (by kernel_rfl) rfl rfl
    refine .t1 4 rfl (fun W hT => fa T.f26_1 rfl rfl rfl) hT ?_ (by kernel_rfl) rfl rfl
    refine .t1 5 rfl (fun W hT => ld T.t3 hT.p1 rfl rfl rfl rfl rfl) hT ?_ (by kernel_rfl) rfl rfl
    refine .t1 7 rfl (fun W hT => fa T.f26_2 rfl rfl rfl) hT ?_ (by kernel_rfl) rfl rfl
    refine .t1 8 rfl (fun W hT => ld T.t22 hT.p1 rfl rfl rfl rfl rfl) hT ?_ (by kernel_rfl) rfl rfl
    refine .by [0, 6] ⟨⟨_, rfl, ?_⟩, ⟨_, rfl, ?_⟩, trivial⟩ (by kernel_rfl) rfl
    · skip
      refine (.liv [] (D.int .i64) T.u22 T.t3 hS rfl rfl rfl rfl ?_ rfl (fun _ => rfl) rfl rfl rfl rfl)
      intro v3 W hS
      have hT : Sep _ _ W [.box g2 26 [(sv nilH), .int .i64 0, (sv nilH)], .box g1 26 [(sv v_0_Regs), .int .i64 a0.Pc, (sv v_0_Mem)]] := hS.to [1, 1] rfl
      refine ⟨fun _ => hT, ?_⟩
      refine .by [3, 6] ⟨⟨_, rfl, ?_⟩, ⟨_, rfl, ?_⟩, trivial⟩ (by kernel_rfl) rfl
      · skip
        refine (.apprv hr1 hS (hS.keep q_0_Regs) (fun _ => rfl) T.u22 T.t3 rfl rfl rfl ?_ rfl rfl rfl rfl rfl)
        intro v4 W hS
        have hT : Sep _ _ W [.box g2 26 [(sv nilH), .int .i64 0, (sv nilH)], .box g1 26 [(sv v_0_Regs), .int .i64 a0.Pc, (sv v_0_Mem)]] := hS.to [1, 1] rfl
        refine ⟨fun _ => hT, ?_⟩
        refine .by1 6 rfl (.liv [] (D.int .i64) T.u22 T.t3 hS rfl rfl rfl rfl ?_ rfl (fun _ => rfl) rfl rfl rfl rfl) (by kernel_rfl)
        intro v5 W hS
        have hT : Sep _ _ W [.box g2 26 [(sv nilH), .int .i64 0, (sv nilH)], .box g1 26 [(sv v_0_Regs), .int .i64 a0.Pc, (sv v_0_Mem)]] := hS.to [2, 2] rfl
        refine ⟨fun _ => hT, ?_⟩
        refine .by1 9 rfl (.apprv hr2 hS (hS.keep q_0_Mem) (fun _ => rfl) T.u22 T.t3 rfl rfl rfl ?_ rfl rfl rfl rfl rfl) (by kernel_rfl)
        intro v6 W hS
        have hT : Sep _ _ W [.box g2 26 [(sv nilH), .int .i64 0, (sv nilH)], .box g1 26 [(sv v_0_Regs), .int .i64 a0.Pc, (sv v_0_Mem)]] := hS.to [2, 2] rfl
        refine ⟨fun _ => hT, ?_⟩
        refine .t1 10 rfl (fun W hT => bs T.s26 rfl rfl) hT ?_ (by kernel_rfl) rfl rfl
        refine .by1 11 rfl (.st T.t26 hS.p2 rfl rfl rfl ?_ rfl rfl rfl rfl rfl) (by kernel_rfl)
        intro W hS
        refine ⟨fun h => absurd rfl h, ?_⟩
        refine .done ?_ (by kernel_rfl)
        exact ⟨rfl, v4, v6, sb rfl, hS.to [0, 2, 1, 0] rfl⟩
      · skip
        refine (.liv [] (D.int .i64) T.u22 T.t3 hS rfl rfl rfl rfl ?_ rfl (fun _ => rfl) rfl rfl rfl rfl)
        intro v7 W hS
        have hT : Sep _ _ W [.box g2 26 [(sv nilH), .int .i64 0, (sv nilH)], .box g1 26 [(sv v_0_Regs), .int .i64 a0.Pc, (sv v_0_Mem)]] := hS.to [2, 2] rfl
        refine ⟨fun _ => hT, ?_⟩
        refine .by1 3 rfl (.apprv hr1 hS.p1 (hS.keep q_0_Regs) (fun _ => rfl) T.u22 T.t3 rfl rfl rfl ?_ rfl rfl rfl rfl rfl) (by kernel_rfl)
        intro v8 W hS
        have hT : Sep _ _ W [.box g2 26 [(sv nilH), .int .i64 0, (sv nilH)], .box g1 26 [(sv v_0_Regs), .int .i64 a0.Pc, (sv v_0_Mem)]] := hS.to [2, 2] rfl
        refine ⟨fun _ => hT, ?_⟩
        refine .by1 9 rfl (.apprv hr2 hS.p1 (hS.keep q_0_Mem) (fun _ => rfl) T.u22 T.t3 rfl rfl rfl ?_ rfl rfl rfl rfl rfl) (by kernel_rfl)
        intro v9 W hS
        have hT : Sep _ _ W [.box g2 26 [(sv nilH), .int .i64 0, (sv nilH)], .box g1 26 [(sv v_0_Regs), .int .i64 a0.Pc, (sv v_0_Mem)]] := hS.to [2, 2] rfl
        refine ⟨fun _ => hT, ?_⟩
        refine .t1 10 rfl (fun W hT => bs T.s26 rfl rfl) hT ?_ (by kernel_rfl) rfl rfl
        refine .by1 11 rfl (.st T.t26 hS.p2 rfl rfl rfl ?_ rfl rfl rfl rfl rfl) (by kernel_rfl)
        intro W hS
        refine ⟨fun h => absurd rfl h, ?_⟩
        refine .done ?_ (by kernel_rfl)
        exact ⟨rfl, v8, v9, sb rfl, hS.to [0, 2, 1, 0] rfl⟩
    · skip
      refine (.liv [] (D.int .i64) T.u22 T.t3 hS rfl rfl rfl rfl ?_ rfl (fun _ => rfl) rfl rfl rfl rfl)
      intro v10 W hS
      have hT : Sep _ _ W [.box g2 26 [(sv nilH), .int .i64 0, (sv nilH)], .box g1 26 [(sv v_0_Regs), .int .i64 a0.Pc, (sv v_0_Mem)]] := hS.to [1, 1] rfl
      refine ⟨fun _ => hT, ?_⟩
      refine .by1 0 rfl (.liv [] (D.int .i64) T.u22 T.t3 hS rfl rfl rfl rfl ?_ rfl (fun _ => rfl) rfl rfl rfl rfl) (by kernel_rfl)
      intro v11 W hS
      have hT : Sep _ _ W [.box g2 26 [(sv nilH), .int .i64 0, (sv nilH)], .box g1 26 [(sv v_0_Regs), .int .i64 a0.Pc, (sv v_0_Mem)]] := hS.to [2, 2] rfl
      refine ⟨fun _ => hT, ?_⟩
      refine .by1 3 rfl (.apprv hr1 hS (hS.keep q_0_Regs) (fun _ => rfl) T.u22 T.t3 rfl rfl rfl ?_ rfl rfl rfl rfl rfl) (by kernel_rfl)
      intro v12 W hS
      have hT : Sep _ _ W [.box g2 26 [(sv nilH), .int .i64 0, (sv nilH)], .box g1 26 [(sv v_0_Regs), .int .i64 a0.Pc, (sv v_0_Mem)]] := hS.to [2, 2] rfl
      refine ⟨fun _ => hT, ?_⟩
      refine .by1 9 rfl (.apprv hr2 hS.p1 (hS.keep q_0_Mem) (fun _ => rfl) T.u22 T.t3 rfl rfl rfl ?_ rfl rfl rfl rfl rfl) (by kernel_rfl)
      intro v13 W hS
      have hT : Sep _ _ W [.box g2 26 [(sv nilH), .int .i64 0, (sv nilH)], .box g1 26 [(sv v_0_Regs), .int .i64 a0.Pc, (sv v_0_Mem)]] := hS.to [2, 2] rfl
      refine ⟨fun _ => hT, ?_⟩
      refine .t1 10 rfl (fun W hT => bs T.s26 rfl rfl) hT ?_ (by kernel_rfl) rfl rfl
      refine .by1 11 rfl (.st T.t26 hS.p2 rfl rfl rfl ?_ rfl rfl rfl rfl rfl) (by kernel_rfl)
      intro W hS
      refine ⟨fun h => absurd rfl h, ?_⟩
      refine .done ?_ (by kernel_rfl)
      exact ⟨rfl, v12, v13, sb rfl, hS.to [0, 2, 1, 0] rfl⟩
  · intro x E W hJ
    obtain ⟨rfl, v14, v15, hE, hS⟩ := hJ
    refine ⟨_, hE.sub, ?_⟩
    refine .ret ?_
    cases h
    exact fin_ret (vs := [_]) (v14, v15) (rc hS T.t26 rfl rn rfl rfl) rfl (hS.to [2, 2] rfl)
theorem spec_l44Word_ok {a0 : List Int} {a1 : Int} {v_0 : Hd} {w : World} {r : Bool} (h : spec_l44Word a0 a1 = some r) (q_0 : RV w (Old No w) (sv v_0) 3 1 (D.int .i64) a0) : Calls Tryd.prog 64 #[(sv v_0), .int .i64 a1] w (Ret No w (fun s : Unit => .bool r) (fun s => [])) := by
  unfold spec_l44Word at h
  refine enter Tryd.func64 rfl rfl ?_
  have hS := Sep.start w
  refine .seq ?_
  refine .region ?_
  refine .p rfl rfl rfl ?_
  refine .nil ?_
  refine .seq ?_
  refine .region ?_
  refine .p rfl rfl rfl ?_
  refine .p rfl rfl rfl ?_
  refine .p rfl rfl rfl ?_
  refine .chunk 4 11 ((decide (a1 ≥ 0)) && ((Int.tmod a1 4) == 0)) hS ?_ ?_
  · refine .both (decide (a1 ≥ 0)) (fun hb => ?_) (fun hb => ?_)
    · have hg1 := hb
      refine .g hg1 (.p rfl rfl rfl ?_) rfl
      refine .g hg1 (.p rfl rfl rfl ?_) rfl
      refine .g hg1 (.p rfl rfl rfl ?_) rfl
      refine .r (pkt hg1 rfl rfl rfl) ?_ rfl rfl
      exact .nil (ck 4 hS rfl (and_t hg1) rfl rfl)
    · skip
      refine .x hb ?_ rfl rfl
      refine .x hb ?_ rfl rfl
      refine .x hb ?_ rfl rfl
      refine .r (pkf hb rfl rfl rfl) ?_ rfl rfl
      exact .nil (ck 4 hS rfl (and_f hb) rfl rfl)
  intro W hS
  refine .p rfl rfl rfl ?_
  refine .chunk 6 18 (((decide (a1 ≥ 0)) && ((Int.tmod a1 4) == 0)) && (decide ((w64 (Int.tdiv a1 4)) < (a0.length : Int)))) hS ?_ ?_
  · refine .both ((decide (a1 ≥ 0)) && ((Int.tmod a1 4) == 0)) (fun hb => ?_) (fun hb => ?_)
    · have hg2 := hb
      refine .g hg2 (.p rfl rfl rfl ?_) rfl
      refine .g hg2 (.p rfl rfl rfl ?_) rfl
      refine .g hg2 (.p rfl rfl rfl ?_) rfl
      refine .g hg2 (.r (lenv (hS.keep q_0) T.u22 rfl rfl) ?_ rfl rfl) rfl
      refine .g hg2 (.p rfl rfl rfl ?_) rfl
      refine .r (pkt hg2 rfl rfl rfl) ?_ rfl rfl
      exact .nil (ck 6 hS rfl (and_t hg2) rfl rfl)
    · skip
      refine .x hb ?_ rfl rfl
      refine .x hb ?_ rfl rfl
      refine .x hb ?_ rfl rfl
      refine .x hb ?_ rfl rfl
      refine .x hb ?_ rfl rfl
      refine .r (pkf hb rfl rfl rfl) ?_ rfl rfl
      exact .nil (ck 6 hS rfl (and_f hb) rfl rfl)
  intro W hS
  refine .p rfl rfl rfl ?_
  refine .nil ?_
  refine .ret ?_
  cases h
  exact fin_ret (vs := [_]) () (rt rfl rn) rfl (hS.to [] rfl)
theorem spec_l42Mod_ok {a0 : Int} {a1 : Int} {w : World} {r : Int} (h : spec_l42Mod a0 a1 = some r) : Calls Tryd.prog 103 #[.int .i64 a0, .int .i64 a1] w (Ret No w (fun s : Unit => .int .i64 r) (fun s => [])) := by
  unfold spec_l42Mod at h
  refine enter Tryd.func103 rfl rfl ?_
  have hS := Sep.start w
  refine .seq ?_
  refine .region ?_
  refine .p rfl rfl rfl ?_
  refine .nil ?_
  refine .seq ?_
  refine .seq ?_
  refine .region ?_
  refine .p rfl rfl rfl ?_
  refine .p rfl rfl rfl ?_
  refine .nil ?_
  refine .cond rfl (fun hb => ?_) (fun hb => ?_)
  · have h := sel_t hb h
    refine .seq ?_
    refine .region ?_
    refine .p rfl rfl rfl ?_
    refine .p rfl rfl rfl ?_
    refine .p rfl rfl rfl ?_
    refine .p rfl rfl rfl ?_
    refine .nil ?_
    refine .ret ?_
    cases h
    exact fin_ret (vs := [_]) () (rt rfl rn) rfl (hS.to [] rfl)
  · have h := sel_f hb h
    refine .skip ?_
    refine .seq ?_
    refine .region ?_
    refine .p rfl rfl rfl ?_
    refine .p rfl rfl rfl ?_
    refine .nil ?_
    refine .ret ?_
    cases h
    exact fin_ret (vs := [_]) () (rt rfl rn) rfl (hS.to [] rfl)
theorem spec_l1Power_ok {a0 : Int} {w : World} {r : Int} (h : spec_l1Power a0 = some r) : Calls Tryd.prog 115 #[.int .i64 a0] w (Ret No w (fun s : Unit => .int .i64 r) (fun s => [])) := by
  unfold spec_l1Power at h
  refine enter Tryd.func115 rfl rfl ?_
  have hS := Sep.start w
  refine .seq ?_
  refine .region ?_
  refine .p rfl rfl rfl ?_
  refine .nil ?_
  refine .seq ?_
  refine .region ?_
  refine .p rfl rfl rfl ?_
  refine .nil ?_
  refine .seq ?_
  refine .seq ?_
  refine .region ?_
  refine .p rfl rfl rfl ?_
  refine .nil ?_
  refine .block ?_
  obtain ⟨y1, hy1, h⟩ := bnd h
  refine .via (.iter (fun s1 E' W' => SubL E' [(0, .int .i64 a0), (3, .int .i64 s1.1), (4, .int .i64 s1.2)] ∧ Sep No w W' []) (fun y2 x E' W' => x = .exit 0 ∧ SubL E' [(3, .int .i64 y2)] ∧ Sep No w W' []) hy1 ⟨sb rfl, hS.to [] rfl⟩ ?_) ?_
  · intro s1 y3 E W h hI
    obtain ⟨hE, hS⟩ := hI
    refine CW.sub hE ?_
    unfold spec_l1Power_b1 at h
    refine .seq ?_
    refine .seq ?_
    refine .region ?_
    refine .p rfl rfl rfl ?_
    refine .p rfl rfl rfl ?_
    refine .p rfl rfl rfl ?_
    refine .nil ?_
    refine .cond rfl (fun hb => ?_) (fun hb => ?_)
    · have h := sel_t hb h
      refine .skip ?_
      refine .seq ?_
      refine .block ?_
      refine .region ?_
      refine .p rfl rfl rfl ?_
      refine .p rfl rfl rfl ?_
      refine .p rfl rfl rfl ?_
      refine .nil ?_
      refine .region ?_
      refine .p rfl rfl rfl ?_
      refine .p rfl rfl rfl ?_
      refine .p rfl rfl rfl ?_
      refine .nil ?_
      cases h
      exact ⟨rfl, sb rfl, hS.to [] rfl⟩
    · have h := sel_f hb h
      refine .exit ?_
      cases h
      exact ⟨by simp, rfl, sb rfl, hS.to [] rfl⟩
  · intro x E W hJ
    obtain ⟨rfl, hE, hS⟩ := hJ
    refine ⟨_, hE.sub, ?_⟩
    refine .seq ?_
    refine .region ?_
    refine .p rfl rfl rfl ?_
    refine .p rfl rfl rfl ?_
    refine .nil ?_
    refine .ret ?_
    cases h
    exact fin_ret (vs := [_]) () (rt rfl rn) rfl (hS.to [] rfl)
theorem spec_l42Put_ok {a0 : Int} {a1 : Int} {w : World} {r : Int} (h : spec_l42Put a0 a1 = some r) : Calls Tryd.prog 104 #[.int .i64 a0, .int .i64 a1] w (Ret No w (fun s : Unit => .int .i64 r) (fun s => [])) := by
  unfold spec_l42Put at h
  refine enter Tryd.func104 rfl rfl ?_
  have hS := Sep.start w
  refine .seq ?_
  refine .region ?_
  refine .p rfl rfl rfl ?_
  refine .nil ?_
  refine .seq ?_
  refine .region ?_
  refine .p rfl rfl rfl ?_
  refine .p rfl rfl rfl ?_
  obtain ⟨y1, hy1, h⟩ := bnd h
  refine .c (.call0 hS Tryd.func115 (spec_l1Power_ok hy1) rfl rfl ?_ rfl (by kernel_rfl) rfl rfl)
  intro W hS
  refine .p rfl rfl rfl ?_
  refine .p rfl rfl rfl ?_
  refine .nil ?_
  refine .ret ?_
  cases h
  exact fin_ret (vs := [_]) () (rt rfl rn) rfl (hS.to [] rfl)
theorem spec_l42Three_ok {a0 : Int} {w : World} {r : Int} (h : spec_l42Three a0 = some r) : Calls Tryd.prog 111 #[.int .i64 a0] w (Ret No w (fun s : Unit => .int .i64 r) (fun s => [])) := by
  unfold spec_l42Three at h
  refine enter Tryd.func111 rfl rfl ?_
  have hS := Sep.start w
  refine .seq ?_
  refine .region ?_
  refine .p rfl rfl rfl ?_
  refine .nil ?_
  refine .seq ?_
  refine .region ?_
  refine .c (.liv [0, 0, 0, 4, 6, 7, 6, 4, 1, 5, 2, 0, 3, 2, 0, 2, 0, 1, 0, 0, 0] (D.int .i64) T.u22 T.t3 hS rfl rfl rfl rfl ?_ rfl (fun _ => rfl) rfl rfl rfl rfl)
  intro v1 W hS
  refine .p rfl rfl rfl ?_
  refine .p rfl rfl rfl ?_
  obtain ⟨x1, hx1, h⟩ := bnd h
  refine .r (ixv hS.lendv hx1 T.u22 T.t3 rfl rfl rfl) ?_ rfl rfl
  refine .r (lde (RV.flat hS.lendv hx1 rfl) T.t3 rfl rfl rfl rfl rfl) ?_ rfl rfl
  refine .p rfl rfl rfl ?_
  refine .nil ?_
  refine .ret ?_
  cases h
  exact fin_ret (vs := [_]) () (rt rfl rn) rfl (hS.to [] rfl)
theorem spec_l42Mid_ok {a0 : Instr} {a1 : Int} {w : World} {r : Int} (h : spec_l42Mid a0 a1 = some r) : Calls Tryd.prog 106 #[.agg #[.int .i64 a0.Op, .int .i64 a0.Rd, .int .i64 a0.Rs, .int .i64 a0.Rt, .int .i64 a0.Imm], .int .i64 a1] w (Ret No w (fun s : Unit => .int .i64 r) (fun s => [])) := by
  unfold spec_l42Mid at h
  refine enter Tryd.func106 rfl rfl ?_
  have hS := Sep.start w
  refine .seq ?_
  refine .region ?_
  refine .c (.box hS rfl rfl ?_ rfl rfl)
  intro g1 W hS
  refine .p rfl rfl rfl ?_
  refine .nil ?_
  refine .seq ?_
  refine .rk 11 hS [0] T.mix ?_
  intro W hS
  have hT : Sep _ _ W [.box g1 68 [.int .i64 a0.Op, .int .i64 a0.Rd, .int .i64 a0.Rs, .int .i64 a0.Rt, .int .i64 a0.Imm]] := hS.to [0] rfl
  refine .t1 0 rfl (fun W hT => fa T.f68_2 rfl rfl rfl) hT ?_ (by kernel_rfl) rfl rfl
  refine .t1 1 rfl (fun W hT => ld T.t3 hT rfl rfl rfl rfl rfl) hT ?_ (by kernel_rfl) rfl rfl
  refine .t1 3 rfl (fun W hT => fa T.f68_0 rfl rfl rfl) hT ?_ (by kernel_rfl) rfl rfl
  refine .t1 4 rfl (fun W hT => ld T.t3 hT rfl rfl rfl rfl rfl) hT ?_ (by kernel_rfl) rfl rfl
  refine .t1 8 rfl (fun W hT => pr rfl) hT ?_ (by kernel_rfl) rfl rfl
  obtain ⟨y1, hy1, h⟩ := bnd h
  refine .by1 2 rfl (.call0 hS Tryd.func104 (spec_l42Put_ok hy1) rfl rfl ?_ rfl (by kernel_rfl) rfl rfl) (by kernel_rfl)
  intro W hS
  have hT : Sep _ _ W [.box g1 68 [.int .i64 a0.Op, .int .i64 a0.Rd, .int .i64 a0.Rs, .int .i64 a0.Rt, .int .i64 a0.Imm]] := hS.to [0] rfl
  refine ⟨fun _ => hT, ?_⟩
  obtain ⟨y2, hy2, h⟩ := bnd h
  refine .by1 5 rfl (.call0 hS Tryd.func111 (spec_l42Three_ok hy2) rfl rfl ?_ rfl (by kernel_rfl) rfl rfl) (by kernel_rfl)
  intro W hS
  have hT : Sep _ _ W [.box g1 68 [.int .i64 a0.Op, .int .i64 a0.Rd, .int .i64 a0.Rs, .int .i64 a0.Rt, .int .i64 a0.Imm]] := hS.to [0] rfl
  refine ⟨fun _ => hT, ?_⟩
  obtain ⟨y3, hy3, h⟩ := bnd h
  refine .by1 6 rfl (.call0 hS Tryd.func104 (spec_l42Put_ok hy3) rfl rfl ?_ rfl (by kernel_rfl) rfl rfl) (by kernel_rfl)
  intro W hS
  have hT : Sep _ _ W [.box g1 68 [.int .i64 a0.Op, .int .i64 a0.Rd, .int .i64 a0.Rs, .int .i64 a0.Rt, .int .i64 a0.Imm]] := hS.to [0] rfl
  refine ⟨fun _ => hT, ?_⟩
  refine .t1 7 rfl (fun W hT => pr rfl) hT ?_ (by kernel_rfl) rfl rfl
  refine .t1 9 rfl (fun W hT => pr rfl) hT ?_ (by kernel_rfl) rfl rfl
  refine .t1 10 rfl (fun W hT => pr rfl) hT ?_ (by kernel_rfl) rfl rfl
  refine .done ?_ (by kernel_rfl)
  refine .ret ?_
  cases h
  exact fin_ret (vs := [_]) () (rt rfl rn) rfl (hS.to [] rfl)
theorem spec_l42Imm_ok {a0 : Instr} {a1 : Int} {w : World} {r : Int} (h : spec_l42Imm a0 a1 = some r) : Calls Tryd.prog 102 #[.agg #[.int .i64 a0.Op, .int .i64 a0.Rd, .int .i64 a0.Rs, .int .i64 a0.Rt, .int .i64 a0.Imm], .int .i64 a1] w (Ret No w (fun s : Unit => .int .i64 r) (fun s => [])) := by
  unfold spec_l42Imm at h
  refine enter Tryd.func102 rfl rfl ?_
  have hS := Sep.start w
  refine .seq ?_
  refine .region ?_
  refine .c (.box hS rfl rfl ?_ rfl rfl)
  intro g1 W hS
  refine .p rfl rfl rfl ?_
  refine .nil ?_
  refine .seq ?_
  refine .rk 13 hS [0] T.mix ?_
  intro W hS
  have hT : Sep _ _ W [.box g1 68 [.int .i64 a0.Op, .int .i64 a0.Rd, .int .i64 a0.Rs, .int .i64 a0.Rt, .int .i64 a0.Imm]] := hS.to [0] rfl
  refine .t1 0 rfl (fun W hT => fa T.f68_4 rfl rfl rfl) hT ?_ (by kernel_rfl) rfl rfl
  refine .t1 1 rfl (fun W hT => ld T.t3 hT rfl rfl rfl rfl rfl) hT ?_ (by kernel_rfl) rfl rfl
  refine .t1 4 rfl (fun W hT => ld T.t68 hT rfl rfl rfl rfl rfl) hT ?_ (by kernel_rfl) rfl rfl
  refine .t1 5 rfl (fun W hT => pr rfl) hT ?_ (by kernel_rfl) rfl rfl
  refine .t1 8 rfl (fun W hT => fa T.f68_1 rfl rfl rfl) hT ?_ (by kernel_rfl) rfl rfl
  refine .t1 9 rfl (fun W hT => ld T.t3 hT rfl rfl rfl rfl rfl) hT ?_ (by kernel_rfl) rfl rfl
  obtain ⟨y1, hy1, h⟩ := bnd h
  refine .by1 2 rfl (.call0 hS Tryd.func103 (spec_l42Mod_ok hy1) rfl rfl ?_ rfl (by kernel_rfl) rfl rfl) (by kernel_rfl)
  intro W hS
  have hT : Sep _ _ W [.box g1 68 [.int .i64 a0.Op, .int .i64 a0.Rd, .int .i64 a0.Rs, .int .i64 a0.Rt, .int .i64 a0.Imm]] := hS.to [0] rfl
  refine ⟨fun _ => hT, ?_⟩
  obtain ⟨y2, hy2, h⟩ := bnd h
  refine .by1 3 rfl (.call0 hS Tryd.func104 (spec_l42Put_ok hy2) rfl rfl ?_ rfl (by kernel_rfl) rfl rfl) (by kernel_rfl)
  intro W hS
  have hT : Sep _ _ W [.box g1 68 [.int .i64 a0.Op, .int .i64 a0.Rd, .int .i64 a0.Rs, .int .i64 a0.Rt, .int .i64 a0.Imm]] := hS.to [0] rfl
  refine ⟨fun _ => hT, ?_⟩
  obtain ⟨y3, hy3, h⟩ := bnd h
  refine .by1 6 rfl (.call0 hS Tryd.func106 (spec_l42Mid_ok hy3) rfl rfl ?_ rfl (by kernel_rfl) rfl rfl) (by kernel_rfl)
  intro W hS
  have hT : Sep _ _ W [.box g1 68 [.int .i64 a0.Op, .int .i64 a0.Rd, .int .i64 a0.Rs, .int .i64 a0.Rt, .int .i64 a0.Imm]] := hS.to [0] rfl
  refine ⟨fun _ => hT, ?_⟩
  refine .t1 7 rfl (fun W hT => pr rfl) hT ?_ (by kernel_rfl) rfl rfl
  obtain ⟨y4, hy4, h⟩ := bnd h
  refine .by1 10 rfl (.call0 hS Tryd.func104 (spec_l42Put_ok hy4) rfl rfl ?_ rfl (by kernel_rfl) rfl rfl) (by kernel_rfl)
  intro W hS
  have hT : Sep _ _ W [.box g1 68 [.int .i64 a0.Op, .int .i64 a0.Rd, .int .i64 a0.Rs, .int .i64 a0.Rt, .int .i64 a0.Imm]] := hS.to [0] rfl
  refine ⟨fun _ => hT, ?_⟩
  refine .t1 11 rfl (fun W hT => pr rfl) hT ?_ (by kernel_rfl) rfl rfl
  refine .t1 12 rfl (fun W hT => pr rfl) hT ?_ (by kernel_rfl) rfl rfl
  refine .done ?_ (by kernel_rfl)
  refine .ret ?_
  cases h
  exact fin_ret (vs := [_]) () (rt rfl rn) rfl (hS.to [] rfl)
theorem spec_Bits_ok {a0 : Int} {a1 : Int} {a2 : Int} {w : World} {r : Int} (h : spec_Bits a0 a1 a2 = some r) : Calls Tryd.prog 105 #[.int .i64 a0, .int .i64 a1, .int .i64 a2] w (Ret No w (fun s : Unit => .int .i64 r) (fun s => [])) := by
  unfold spec_Bits at h
  refine enter Tryd.func105 rfl rfl ?_
  have hS := Sep.start w
  refine .seq ?_
  refine .region ?_
  refine .p rfl rfl rfl ?_
  refine .nil ?_
  refine .seq ?_
  refine .seq ?_
  refine .region ?_
  refine .p rfl rfl rfl ?_
  obtain ⟨y1, hy1, h⟩ := bnd h
  refine .c (.call0 hS Tryd.func24 (spec_l6In_ok hy1) rfl rfl ?_ rfl (by kernel_rfl) rfl rfl)
  intro W hS
  refine .p rfl rfl rfl ?_
  refine .p rfl rfl rfl ?_
  obtain ⟨b1, hb1, h⟩ := bnd h
  refine .chunk 4 14 (b1) hS ?_ ?_
  · refine .both (!y1) (fun hb => ?_) (fun hb => ?_)
    · skip
      refine .x hb ?_ rfl rfl
      refine .x hb ?_ rfl rfl
      refine .x hb ?_ rfl rfl
      cases sel_t hb hb1
      refine .r (pkt hb rfl rfl rfl) ?_ rfl rfl
      exact .nil (ck 4 hS rfl rfl rfl rfl)
    · have hg1 := hb
      have h := sel_f hb hb1
      refine .g hg1 (.p rfl rfl rfl ?_) rfl
      obtain ⟨y2, hy2, h⟩ := bnd h
      refine .g hg1 (.c (.call0 hS Tryd.func24 (spec_l6In_ok hy2) rfl rfl ?_ rfl (by kernel_rfl) rfl rfl)) rfl
      intro W hS
      refine .g hg1 (.p rfl rfl rfl ?_) rfl
      refine .r (pkf hg1 rfl rfl rfl) ?_ rfl rfl
      cases h
      exact .nil (ck 4 hS rfl rfl rfl rfl)
  intro W hS
  refine .p rfl rfl rfl ?_
  obtain ⟨b2, hb2, h⟩ := bnd h
  refine .chunk 6 21 (b2) hS ?_ ?_
  · refine .both (b1) (fun hb => ?_) (fun hb => ?_)
    · skip
      refine .x hb ?_ rfl rfl
      refine .x hb ?_ rfl rfl
      refine .x hb ?_ rfl rfl
      refine .x hb ?_ rfl rfl
      refine .x hb ?_ rfl rfl
      cases sel_t hb hb2
      refine .r (pkt hb rfl rfl rfl) ?_ rfl rfl
      exact .nil (ck 6 hS rfl rfl rfl rfl)
    · have hg2 := hb
      have h := sel_f hb hb2
      refine .g hg2 (.p rfl rfl rfl ?_) rfl
      refine .g hg2 (.p rfl rfl rfl ?_) rfl
      refine .g hg2 (.p rfl rfl rfl ?_) rfl
      obtain ⟨y3, hy3, h⟩ := bnd h
      refine .g hg2 (.c (.call0 hS Tryd.func24 (spec_l6In_ok hy3) rfl rfl ?_ rfl (by kernel_rfl) rfl rfl)) rfl
      intro W hS
      refine .g hg2 (.p rfl rfl rfl ?_) rfl
      refine .r (pkf hg2 rfl rfl rfl) ?_ rfl rfl
      cases h
      exact .nil (ck 6 hS rfl rfl rfl rfl)
  intro W hS
  refine .nil ?_
  refine .cond rfl (fun hb => ?_) (fun hb => ?_)
  · have h := sel_t hb h
    refine .seq ?_
    refine .region ?_
    refine .p rfl rfl rfl ?_
    refine .nil ?_
    refine .ret ?_
    cases h
    exact fin_ret (vs := [_]) () (rt rfl rn) rfl (hS.to [] rfl)
  · have h := sel_f hb h
    refine .skip ?_
    refine .seq ?_
    refine .rk 8 hS [] T.mix ?_
    intro W hS
    have hT : Sep _ _ W [] := hS.to [] rfl
    refine .t1 0 rfl (fun W hT => pr rfl) hT ?_ (by kernel_rfl) rfl rfl
    refine .t1 1 rfl (fun W hT => pr rfl) hT ?_ (by kernel_rfl) rfl rfl
    refine .t1 4 rfl (fun W hT => pr rfl) hT ?_ (by kernel_rfl) rfl rfl
    obtain ⟨y4, hy4, h⟩ := bnd h
    refine .by1 2 rfl (.call0 hS Tryd.func115 (spec_l1Power_ok hy4) rfl rfl ?_ rfl (by kernel_rfl) rfl rfl) (by kernel_rfl)
    intro W hS
    have hT : Sep _ _ W [] := hS.to [] rfl
    refine ⟨fun _ => hT, ?_⟩
    obtain ⟨d1, hd1, h⟩ := bnd h
    refine .t1 3 rfl (fun W hT => dq hd1 rfl rfl rfl) hT ?_ (by kernel_rfl) rfl rfl
    obtain ⟨y5, hy5, h⟩ := bnd h
    refine .by1 5 rfl (.call0 hS Tryd.func115 (spec_l1Power_ok hy5) rfl rfl ?_ rfl (by kernel_rfl) rfl rfl) (by kernel_rfl)
    intro W hS
    have hT : Sep _ _ W [] := hS.to [] rfl
    refine ⟨fun _ => hT, ?_⟩
    obtain ⟨d2, hd2, h⟩ := bnd h
    refine .t1 6 rfl (fun W hT => dr hd2 rfl rfl rfl) hT ?_ (by kernel_rfl) rfl rfl
    refine .t1 7 rfl (fun W hT => pr rfl) hT ?_ (by kernel_rfl) rfl rfl
    refine .done ?_ (by kernel_rfl)
    refine .ret ?_
    cases h
    exact fin_ret (vs := [_]) () (rt rfl rn) rfl (hS.to [] rfl)
theorem spec_l42Branch_ok {a0 : Instr} {w : World} {r : Int} (h : spec_l42Branch a0 = some r) : Calls Tryd.prog 107 #[.agg #[.int .i64 a0.Op, .int .i64 a0.Rd, .int .i64 a0.Rs, .int .i64 a0.Rt, .int .i64 a0.Imm]] w (Ret No w (fun s : Unit => .int .i64 r) (fun s => [])) := by
  unfold spec_l42Branch at h
  refine enter Tryd.func107 rfl rfl ?_
  have hS := Sep.start w
  refine .seq ?_
  refine .region ?_
  refine .c (.box hS rfl rfl ?_ rfl rfl)
  intro g1 W hS
  refine .p rfl rfl rfl ?_
  refine .nil ?_
  refine .seq ?_
  refine .region ?_
  refine .r (fa T.f68_4 rfl rfl rfl) ?_ rfl rfl
  refine .r (ld T.t3 hS rfl rfl rfl rfl rfl) ?_ rfl rfl
  obtain ⟨y1, hy1, h⟩ := bnd h
  refine .c (.call0 hS Tryd.func103 (spec_l42Mod_ok hy1) rfl rfl ?_ rfl (by kernel_rfl) rfl rfl)
  intro W hS
  refine .p rfl rfl rfl ?_
  refine .nil ?_
  refine .seq ?_
  refine .rk 12 hS [0] T.mix ?_
  intro W hS
  have hT : Sep _ _ W [.box g1 68 [.int .i64 a0.Op, .int .i64 a0.Rd, .int .i64 a0.Rs, .int .i64 a0.Rt, .int .i64 a0.Imm]] := hS.to [0] rfl
  refine .t1 0 rfl (fun W hT => pr rfl) hT ?_ (by kernel_rfl) rfl rfl
  refine .t1 3 rfl (fun W hT => pr rfl) hT ?_ (by kernel_rfl) rfl rfl
  refine .t1 7 rfl (fun W hT => fa T.f68_3 rfl rfl rfl) hT ?_ (by kernel_rfl) rfl rfl
  refine .t1 8 rfl (fun W hT => ld T.t3 hT rfl rfl rfl rfl rfl) hT ?_ (by kernel_rfl) rfl rfl
  obtain ⟨y2, hy2, h⟩ := bnd h
  refine .by1 1 rfl (.call0 hS Tryd.func105 (spec_Bits_ok hy2) rfl rfl ?_ rfl (by kernel_rfl) rfl rfl) (by kernel_rfl)
  intro W hS
  have hT : Sep _ _ W [.box g1 68 [.int .i64 a0.Op, .int .i64 a0.Rd, .int .i64 a0.Rs, .int .i64 a0.Rt, .int .i64 a0.Imm]] := hS.to [0] rfl
  refine ⟨fun _ => hT, ?_⟩
  obtain ⟨y3, hy3, h⟩ := bnd h
  refine .by1 2 rfl (.call0 hS Tryd.func104 (spec_l42Put_ok hy3) rfl rfl ?_ rfl (by kernel_rfl) rfl rfl) (by kernel_rfl)
  intro W hS
  have hT : Sep _ _ W [.box g1 68 [.int .i64 a0.Op, .int .i64 a0.Rd, .int .i64 a0.Rs, .int .i64 a0.Rt, .int .i64 a0.Imm]] := hS.to [0] rfl
  refine ⟨fun _ => hT, ?_⟩
  obtain ⟨y4, hy4, h⟩ := bnd h
  refine .by1 4 rfl (.call0 hS Tryd.func105 (spec_Bits_ok hy4) rfl rfl ?_ rfl (by kernel_rfl) rfl rfl) (by kernel_rfl)
  intro W hS
  have hT : Sep _ _ W [.box g1 68 [.int .i64 a0.Op, .int .i64 a0.Rd, .int .i64 a0.Rs, .int .i64 a0.Rt, .int .i64 a0.Imm]] := hS.to [0] rfl
  refine ⟨fun _ => hT, ?_⟩
  obtain ⟨y5, hy5, h⟩ := bnd h
  refine .by1 5 rfl (.call0 hS Tryd.func104 (spec_l42Put_ok hy5) rfl rfl ?_ rfl (by kernel_rfl) rfl rfl) (by kernel_rfl)
  intro W hS
  have hT : Sep _ _ W [.box g1 68 [.int .i64 a0.Op, .int .i64 a0.Rd, .int .i64 a0.Rs, .int .i64 a0.Rt, .int .i64 a0.Imm]] := hS.to [0] rfl
  refine ⟨fun _ => hT, ?_⟩
  refine .t1 6 rfl (fun W hT => pr rfl) hT ?_ (by kernel_rfl) rfl rfl
  obtain ⟨y6, hy6, h⟩ := bnd h
  refine .by1 9 rfl (.call0 hS Tryd.func104 (spec_l42Put_ok hy6) rfl rfl ?_ rfl (by kernel_rfl) rfl rfl) (by kernel_rfl)
  intro W hS
  have hT : Sep _ _ W [.box g1 68 [.int .i64 a0.Op, .int .i64 a0.Rd, .int .i64 a0.Rs, .int .i64 a0.Rt, .int .i64 a0.Imm]] := hS.to [0] rfl
  refine ⟨fun _ => hT, ?_⟩
  refine .t1 10 rfl (fun W hT => pr rfl) hT ?_ (by kernel_rfl) rfl rfl
  refine .t1 11 rfl (fun W hT => pr rfl) hT ?_ (by kernel_rfl) rfl rfl
  refine .done ?_ (by kernel_rfl)
  refine .seq ?_
  refine .region ?_
  refine .p rfl rfl rfl ?_
  refine .r (ld T.t68 hS rfl rfl rfl rfl rfl) ?_ rfl rfl
  obtain ⟨y7, hy7, h⟩ := bnd h
  refine .c (.call0 hS Tryd.func106 (spec_l42Mid_ok hy7) rfl rfl ?_ rfl (by kernel_rfl) rfl rfl)
  intro W hS
  refine .p rfl rfl rfl ?_
  refine .p rfl rfl rfl ?_
  obtain ⟨y8, hy8, h⟩ := bnd h
  refine .c (.call0 hS Tryd.func105 (spec_Bits_ok hy8) rfl rfl ?_ rfl (by kernel_rfl) rfl rfl)
  intro W hS
  obtain ⟨y9, hy9, h⟩ := bnd h
  refine .c (.call0 hS Tryd.func104 (spec_l42Put_ok hy9) rfl rfl ?_ rfl (by kernel_rfl) rfl rfl)
  intro W hS
  refine .p rfl rfl rfl ?_
  refine .p rfl rfl rfl ?_
  obtain ⟨y10, hy10, h⟩ := bnd h
  refine .c (.call0 hS Tryd.func105 (spec_Bits_ok hy10) rfl rfl ?_ rfl (by kernel_rfl) rfl rfl)
  intro W hS
  obtain ⟨y11, hy11, h⟩ := bnd h
  refine .c (.call0 hS Tryd.func104 (spec_l42Put_ok hy11) rfl rfl ?_ rfl (by kernel_rfl) rfl rfl)
  intro W hS
  refine .p rfl rfl rfl ?_
  refine .p rfl rfl rfl ?_
  refine .nil ?_
  refine .ret ?_
  cases h
  exact fin_ret (vs := [_]) () (rt rfl rn) rfl (hS.to [] rfl)
theorem spec_l42Jump_ok {a0 : Instr} {w : World} {r : Int} (h : spec_l42Jump a0 = some r) : Calls Tryd.prog 108 #[.agg #[.int .i64 a0.Op, .int .i64 a0.Rd, .int .i64 a0.Rs, .int .i64 a0.Rt, .int .i64 a0.Imm]] w (Ret No w (fun s : Unit => .int .i64 r) (fun s => [])) := by
  unfold spec_l42Jump at h
  refine enter Tryd.func108 rfl rfl ?_
  have hS := Sep.start w
  refine .seq ?_
  refine .region ?_
  refine .c (.box hS rfl rfl ?_ rfl rfl)
  intro g1 W hS
  refine .p rfl rfl rfl ?_
  refine .nil ?_
  refine .seq ?_
  refine .region ?_
  refine .r (fa T.f68_4 rfl rfl rfl) ?_ rfl rfl
  refine .r (ld T.t3 hS rfl rfl rfl rfl rfl) ?_ rfl rfl
  obtain ⟨y1, hy1, h⟩ := bnd h
  refine .c (.call0 hS Tryd.func103 (spec_l42Mod_ok hy1) rfl rfl ?_ rfl (by kernel_rfl) rfl rfl)
  intro W hS
  refine .p rfl rfl rfl ?_
  refine .nil ?_
  refine .seq ?_
  refine .region ?_
  refine .p rfl rfl rfl ?_
  obtain ⟨y2, hy2, h⟩ := bnd h
  refine .c (.call0 hS Tryd.func105 (spec_Bits_ok hy2) rfl rfl ?_ rfl (by kernel_rfl) rfl rfl)
  intro W hS
  obtain ⟨y3, hy3, h⟩ := bnd h
  refine .c (.call0 hS Tryd.func104 (spec_l42Put_ok hy3) rfl rfl ?_ rfl (by kernel_rfl) rfl rfl)
  intro W hS
  refine .p rfl rfl rfl ?_
  obtain ⟨y4, hy4, h⟩ := bnd h
  refine .c (.call0 hS Tryd.func105 (spec_Bits_ok hy4) rfl rfl ?_ rfl (by kernel_rfl) rfl rfl)
  intro W hS
  obtain ⟨y5, hy5, h⟩ := bnd h
  refine .c (.call0 hS Tryd.func104 (spec_l42Put_ok hy5) rfl rfl ?_ rfl (by kernel_rfl) rfl rfl)
  intro W hS
  refine .p rfl rfl rfl ?_
  refine .p rfl rfl rfl ?_
  obtain ⟨y6, hy6, h⟩ := bnd h
  refine .c (.call0 hS Tryd.func105 (spec_Bits_ok hy6) rfl rfl ?_ rfl (by kernel_rfl) rfl rfl)
  intro W hS
  obtain ⟨y7, hy7, h⟩ := bnd h
  refine .c (.call0 hS Tryd.func104 (spec_l42Put_ok hy7) rfl rfl ?_ rfl (by kernel_rfl) rfl rfl)
  intro W hS
  refine .p rfl rfl rfl ?_
  refine .p rfl rfl rfl ?_
  refine .nil ?_
  refine .seq ?_
  refine .rk 11 hS [0] T.mix ?_
  intro W hS
  have hT : Sep _ _ W [.box g1 68 [.int .i64 a0.Op, .int .i64 a0.Rd, .int .i64 a0.Rs, .int .i64 a0.Rt, .int .i64 a0.Imm]] := hS.to [0] rfl
  refine .t1 0 rfl (fun W hT => pr rfl) hT ?_ (by kernel_rfl) rfl rfl
  refine .t1 1 rfl (fun W hT => pr rfl) hT ?_ (by kernel_rfl) rfl rfl
  refine .t1 5 rfl (fun W hT => fa T.f68_1 rfl rfl rfl) hT ?_ (by kernel_rfl) rfl rfl
  refine .t1 6 rfl (fun W hT => ld T.t3 hT rfl rfl rfl rfl rfl) hT ?_ (by kernel_rfl) rfl rfl
  obtain ⟨y8, hy8, h⟩ := bnd h
  refine .by1 2 rfl (.call0 hS Tryd.func105 (spec_Bits_ok hy8) rfl rfl ?_ rfl (by kernel_rfl) rfl rfl) (by kernel_rfl)
  intro W hS
  have hT : Sep _ _ W [.box g1 68 [.int .i64 a0.Op, .int .i64 a0.Rd, .int .i64 a0.Rs, .int .i64 a0.Rt, .int .i64 a0.Imm]] := hS.to [0] rfl
  refine ⟨fun _ => hT, ?_⟩
  obtain ⟨y9, hy9, h⟩ := bnd h
  refine .by1 3 rfl (.call0 hS Tryd.func104 (spec_l42Put_ok hy9) rfl rfl ?_ rfl (by kernel_rfl) rfl rfl) (by kernel_rfl)
  intro W hS
  have hT : Sep _ _ W [.box g1 68 [.int .i64 a0.Op, .int .i64 a0.Rd, .int .i64 a0.Rs, .int .i64 a0.Rt, .int .i64 a0.Imm]] := hS.to [0] rfl
  refine ⟨fun _ => hT, ?_⟩
  refine .t1 4 rfl (fun W hT => pr rfl) hT ?_ (by kernel_rfl) rfl rfl
  obtain ⟨y10, hy10, h⟩ := bnd h
  refine .by1 7 rfl (.call0 hS Tryd.func104 (spec_l42Put_ok hy10) rfl rfl ?_ rfl (by kernel_rfl) rfl rfl) (by kernel_rfl)
  intro W hS
  have hT : Sep _ _ W [.box g1 68 [.int .i64 a0.Op, .int .i64 a0.Rd, .int .i64 a0.Rs, .int .i64 a0.Rt, .int .i64 a0.Imm]] := hS.to [0] rfl
  refine ⟨fun _ => hT, ?_⟩
  refine .t1 8 rfl (fun W hT => pr rfl) hT ?_ (by kernel_rfl) rfl rfl
  refine .t1 9 rfl (fun W hT => pr rfl) hT ?_ (by kernel_rfl) rfl rfl
  refine .t1 10 rfl (fun W hT => pr rfl) hT ?_ (by kernel_rfl) rfl rfl
  refine .done ?_ (by kernel_rfl)
  refine .ret ?_
  cases h
  exact fin_ret (vs := [_]) () (rt rfl rn) rfl (hS.to [] rfl)
theorem spec_l42Seven_ok {a0 : Int} {w : World} {r : Int} (h : spec_l42Seven a0 = some r) : Calls Tryd.prog 109 #[.int .i64 a0] w (Ret No w (fun s : Unit => .int .i64 r) (fun s => [])) := by
  unfold spec_l42Seven at h
  refine enter Tryd.func109 rfl rfl ?_
  have hS := Sep.start w
  refine .seq ?_
  refine .region ?_
  refine .p rfl rfl rfl ?_
  refine .nil ?_
  refine .seq ?_
  refine .region ?_
  refine .c (.liv [0, 32, 1, 1, 1, 0, 0, 0, 0, 32, 0] (D.int .i64) T.u22 T.t3 hS rfl rfl rfl rfl ?_ rfl (fun _ => rfl) rfl rfl rfl rfl)
  intro v1 W hS
  refine .p rfl rfl rfl ?_
  refine .p rfl rfl rfl ?_
  obtain ⟨x1, hx1, h⟩ := bnd h
  refine .r (ixv hS.lendv hx1 T.u22 T.t3 rfl rfl rfl) ?_ rfl rfl
  refine .r (lde (RV.flat hS.lendv hx1 rfl) T.t3 rfl rfl rfl rfl rfl) ?_ rfl rfl
  refine .p rfl rfl rfl ?_
  refine .nil ?_
  refine .ret ?_
  cases h
  exact fin_ret (vs := [_]) () (rt rfl rn) rfl (hS.to [] rfl)
theorem spec_l42Encode_ok {a0 : Instr} {w : World} {r : Int} (h : spec_l42Encode a0 = some r) : Calls Tryd.prog 78 #[.agg #[.int .i64 a0.Op, .int .i64 a0.Rd, .int .i64 a0.Rs, .int .i64 a0.Rt, .int .i64 a0.Imm]] w (Ret No w (fun s : Unit => .int .i64 r) (fun s => [])) := by
  unfold spec_l42Encode at h
  refine enter Tryd.func78 rfl rfl ?_
  have hS := Sep.start w
  refine .seq ?_
  refine .region ?_
  refine .c (.box hS rfl rfl ?_ rfl rfl)
  intro g1 W hS
  refine .p rfl rfl rfl ?_
  refine .nil ?_
  refine .seq ?_
  refine .seq ?_
  refine .region ?_
  refine .r (fa T.f68_0 rfl rfl rfl) ?_ rfl rfl
  refine .r (ld T.t3 hS rfl rfl rfl rfl rfl) ?_ rfl rfl
  refine .nil ?_
  refine .block ?_
  obtain ⟨y1, hy1, h⟩ := bnd h
  refine .seq (CW.via (R' := fun x E' W' => x = .normal ∧ SubL E' [(1, .pointer (some ⟨g1, 0, none⟩)), (5, .int .i64 a0.Op), (6, .bool y1)] ∧ Sep No w W' [.box g1 68 [.int .i64 a0.Op, .int .i64 a0.Rd, .int .i64 a0.Rs, .int .i64 a0.Rt, .int .i64 a0.Imm]]) ?_ ?_)
  · have h := hy1
    refine .seq ?_
    refine .region ?_
    refine .p rfl rfl rfl ?_
    refine .p rfl rfl rfl ?_
    refine .nil ?_
    refine .cond rfl (fun hb => ?_) (fun hb => ?_)
    · have h := sel_t hb h
      refine .skip ?_
      cases h
      exact ⟨rfl, sb rfl, hS.to [0] rfl⟩
    · have h := sel_f hb h
      refine .region ?_
      refine .p rfl rfl rfl ?_
      refine .p rfl rfl rfl ?_
      refine .nil ?_
      cases h
      exact ⟨rfl, sb rfl, hS.to [0] rfl⟩
  · intro x E W hJ
    obtain ⟨rfl, hE, hS⟩ := hJ
    refine ⟨_, hE.sub, ?_⟩
    refine .cond rfl (fun hb => ?_) (fun hb => ?_)
    · have h := sel_t hb h
      refine .seq ?_
      refine .region ?_
      refine .r (ld T.t68 hS rfl rfl rfl rfl rfl) ?_ rfl rfl
      obtain ⟨y2, hy2, h⟩ := bnd h
      refine .c (.call0 hS Tryd.func102 (spec_l42Imm_ok hy2) rfl rfl ?_ rfl (by kernel_rfl) rfl rfl)
      intro W hS
      refine .p rfl rfl rfl ?_
      refine .nil ?_
      refine .ret ?_
      cases h
      exact fin_ret (vs := [_]) () (rt rfl rn) rfl (hS.to [] rfl)
    · have h := sel_f hb h
      refine .seq ?_
      refine .region ?_
      refine .p rfl rfl rfl ?_
      refine .p rfl rfl rfl ?_
      refine .nil ?_
      refine .cond rfl (fun hb => ?_) (fun hb => ?_)
      · have h := sel_t hb h
        refine .seq ?_
        refine .region ?_
        refine .r (ld T.t68 hS rfl rfl rfl rfl rfl) ?_ rfl rfl
        obtain ⟨y3, hy3, h⟩ := bnd h
        refine .c (.call0 hS Tryd.func102 (spec_l42Imm_ok hy3) rfl rfl ?_ rfl (by kernel_rfl) rfl rfl)
        intro W hS
        refine .p rfl rfl rfl ?_
        refine .nil ?_
        refine .ret ?_
        cases h
        exact fin_ret (vs := [_]) () (rt rfl rn) rfl (hS.to [] rfl)
      · have h := sel_f hb h
        refine .seq ?_
        refine .region ?_
        refine .p rfl rfl rfl ?_
        refine .p rfl rfl rfl ?_
        refine .nil ?_
        refine .cond rfl (fun hb => ?_) (fun hb => ?_)
        · have h := sel_t hb h
          refine .seq ?_
          refine .region ?_
          refine .r (ld T.t68 hS rfl rfl rfl rfl rfl) ?_ rfl rfl
          obtain ⟨y4, hy4, h⟩ := bnd h
          refine .c (.call0 hS Tryd.func102 (spec_l42Imm_ok hy4) rfl rfl ?_ rfl (by kernel_rfl) rfl rfl)
          intro W hS
          refine .p rfl rfl rfl ?_
          refine .nil ?_
          refine .ret ?_
          cases h
          exact fin_ret (vs := [_]) () (rt rfl rn) rfl (hS.to [] rfl)
        · have h := sel_f hb h
          refine .seq ?_
          refine .region ?_
          refine .p rfl rfl rfl ?_
          refine .p rfl rfl rfl ?_
          refine .nil ?_
          refine .cond rfl (fun hb => ?_) (fun hb => ?_)
          · have h := sel_t hb h
            refine .seq ?_
            refine .region ?_
            refine .r (fa T.f68_4 rfl rfl rfl) ?_ rfl rfl
            refine .r (ld T.t3 hS rfl rfl rfl rfl rfl) ?_ rfl rfl
            obtain ⟨y5, hy5, h⟩ := bnd h
            refine .c (.call0 hS Tryd.func103 (spec_l42Mod_ok hy5) rfl rfl ?_ rfl (by kernel_rfl) rfl rfl)
            intro W hS
            refine .p rfl rfl rfl ?_
            refine .nil ?_
            refine .seq ?_
            refine .rk 15 hS [0] T.mix ?_
            intro W hS
            have hT : Sep _ _ W [.box g1 68 [.int .i64 a0.Op, .int .i64 a0.Rd, .int .i64 a0.Rs, .int .i64 a0.Rt, .int .i64 a0.Imm]] := hS.to [0] rfl
            refine .t1 0 rfl (fun W hT => pr rfl) hT ?_ (by kernel_rfl) rfl rfl
            refine .t1 3 rfl (fun W hT => fa T.f68_3 rfl rfl rfl) hT ?_ (by kernel_rfl) rfl rfl
            refine .t1 4 rfl (fun W hT => ld T.t3 hT rfl rfl rfl rfl rfl) hT ?_ (by kernel_rfl) rfl rfl
            refine .t1 7 rfl (fun W hT => ld T.t68 hT rfl rfl rfl rfl rfl) hT ?_ (by kernel_rfl) rfl rfl
            refine .t1 10 rfl (fun W hT => pr rfl) hT ?_ (by kernel_rfl) rfl rfl
            obtain ⟨y6, hy6, h⟩ := bnd h
            refine .by1 1 rfl (.call0 hS Tryd.func105 (spec_Bits_ok hy6) rfl rfl ?_ rfl (by kernel_rfl) rfl rfl) (by kernel_rfl)
            intro W hS
            have hT : Sep _ _ W [.box g1 68 [.int .i64 a0.Op, .int .i64 a0.Rd, .int .i64 a0.Rs, .int .i64 a0.Rt, .int .i64 a0.Imm]] := hS.to [0] rfl
            refine ⟨fun _ => hT, ?_⟩
            obtain ⟨y7, hy7, h⟩ := bnd h
            refine .by1 2 rfl (.call0 hS Tryd.func104 (spec_l42Put_ok hy7) rfl rfl ?_ rfl (by kernel_rfl) rfl rfl) (by kernel_rfl)
            intro W hS
            have hT : Sep _ _ W [.box g1 68 [.int .i64 a0.Op, .int .i64 a0.Rd, .int .i64 a0.Rs, .int .i64 a0.Rt, .int .i64 a0.Imm]] := hS.to [0] rfl
            refine ⟨fun _ => hT, ?_⟩
            obtain ⟨y8, hy8, h⟩ := bnd h
            refine .by1 5 rfl (.call0 hS Tryd.func104 (spec_l42Put_ok hy8) rfl rfl ?_ rfl (by kernel_rfl) rfl rfl) (by kernel_rfl)
            intro W hS
            have hT : Sep _ _ W [.box g1 68 [.int .i64 a0.Op, .int .i64 a0.Rd, .int .i64 a0.Rs, .int .i64 a0.Rt, .int .i64 a0.Imm]] := hS.to [0] rfl
            refine ⟨fun _ => hT, ?_⟩
            refine .t1 6 rfl (fun W hT => pr rfl) hT ?_ (by kernel_rfl) rfl rfl
            obtain ⟨y9, hy9, h⟩ := bnd h
            refine .by1 8 rfl (.call0 hS Tryd.func106 (spec_l42Mid_ok hy9) rfl rfl ?_ rfl (by kernel_rfl) rfl rfl) (by kernel_rfl)
            intro W hS
            have hT : Sep _ _ W [.box g1 68 [.int .i64 a0.Op, .int .i64 a0.Rd, .int .i64 a0.Rs, .int .i64 a0.Rt, .int .i64 a0.Imm]] := hS.to [0] rfl
            refine ⟨fun _ => hT, ?_⟩
            refine .t1 9 rfl (fun W hT => pr rfl) hT ?_ (by kernel_rfl) rfl rfl
            obtain ⟨y10, hy10, h⟩ := bnd h
            refine .by1 11 rfl (.call0 hS Tryd.func105 (spec_Bits_ok hy10) rfl rfl ?_ rfl (by kernel_rfl) rfl rfl) (by kernel_rfl)
            intro W hS
            have hT : Sep _ _ W [.box g1 68 [.int .i64 a0.Op, .int .i64 a0.Rd, .int .i64 a0.Rs, .int .i64 a0.Rt, .int .i64 a0.Imm]] := hS.to [0] rfl
            refine ⟨fun _ => hT, ?_⟩
            obtain ⟨y11, hy11, h⟩ := bnd h
            refine .by1 12 rfl (.call0 hS Tryd.func104 (spec_l42Put_ok hy11) rfl rfl ?_ rfl (by kernel_rfl) rfl rfl) (by kernel_rfl)
            intro W hS
            have hT : Sep _ _ W [.box g1 68 [.int .i64 a0.Op, .int .i64 a0.Rd, .int .i64 a0.Rs, .int .i64 a0.Rt, .int .i64 a0.Imm]] := hS.to [0] rfl
            refine ⟨fun _ => hT, ?_⟩
            refine .t1 13 rfl (fun W hT => pr rfl) hT ?_ (by kernel_rfl) rfl rfl
            refine .t1 14 rfl (fun W hT => pr rfl) hT ?_ (by kernel_rfl) rfl rfl
            refine .done ?_ (by kernel_rfl)
            refine .ret ?_
            cases h
            exact fin_ret (vs := [_]) () (rt rfl rn) rfl (hS.to [] rfl)
          · have h := sel_f hb h
            obtain ⟨y12, hy12, h⟩ := bnd h
            refine .seq (CW.via (R' := fun x E' W' => x = .normal ∧ SubL E' [(1, .pointer (some ⟨g1, 0, none⟩)), (5, .int .i64 a0.Op), (38, .bool y12)] ∧ Sep No w W' [.box g1 68 [.int .i64 a0.Op, .int .i64 a0.Rd, .int .i64 a0.Rs, .int .i64 a0.Rt, .int .i64 a0.Imm]]) ?_ ?_)
            · have h := hy12
              refine .seq ?_
              refine .region ?_
              refine .p rfl rfl rfl ?_
              refine .p rfl rfl rfl ?_
              refine .nil ?_
              refine .cond rfl (fun hb => ?_) (fun hb => ?_)
              · have h := sel_t hb h
                refine .skip ?_
                cases h
                exact ⟨rfl, sb rfl, hS.to [0] rfl⟩
              · have h := sel_f hb h
                refine .region ?_
                refine .p rfl rfl rfl ?_
                refine .p rfl rfl rfl ?_
                refine .nil ?_
                cases h
                exact ⟨rfl, sb rfl, hS.to [0] rfl⟩
            · intro x E W hJ
              obtain ⟨rfl, hE, hS⟩ := hJ
              refine ⟨_, hE.sub, ?_⟩
              refine .cond rfl (fun hb => ?_) (fun hb => ?_)
              · have h := sel_t hb h
                refine .seq ?_
                refine .region ?_
                refine .r (ld T.t68 hS rfl rfl rfl rfl rfl) ?_ rfl rfl
                obtain ⟨y13, hy13, h⟩ := bnd h
                refine .c (.call0 hS Tryd.func107 (spec_l42Branch_ok hy13) rfl rfl ?_ rfl (by kernel_rfl) rfl rfl)
                intro W hS
                refine .p rfl rfl rfl ?_
                refine .nil ?_
                refine .ret ?_
                cases h
                exact fin_ret (vs := [_]) () (rt rfl rn) rfl (hS.to [] rfl)
              · have h := sel_f hb h
                refine .seq ?_
                refine .region ?_
                refine .p rfl rfl rfl ?_
                refine .p rfl rfl rfl ?_
                refine .nil ?_
                refine .cond rfl (fun hb => ?_) (fun hb => ?_)
                · have h := sel_t hb h
                  refine .seq ?_
                  refine .rk 9 hS [0] T.mix ?_
                  intro W hS
                  have hT : Sep _ _ W [.box g1 68 [.int .i64 a0.Op, .int .i64 a0.Rd, .int .i64 a0.Rs, .int .i64 a0.Rt, .int .i64 a0.Imm]] := hS.to [0] rfl
                  refine .t1 0 rfl (fun W hT => fa T.f68_4 rfl rfl rfl) hT ?_ (by kernel_rfl) rfl rfl
                  refine .t1 1 rfl (fun W hT => ld T.t3 hT rfl rfl rfl rfl rfl) hT ?_ (by kernel_rfl) rfl rfl
                  refine .t1 3 rfl (fun W hT => fa T.f68_1 rfl rfl rfl) hT ?_ (by kernel_rfl) rfl rfl
                  refine .t1 4 rfl (fun W hT => ld T.t3 hT rfl rfl rfl rfl rfl) hT ?_ (by kernel_rfl) rfl rfl
                  obtain ⟨y14, hy14, h⟩ := bnd h
                  refine .by1 2 rfl (.call0 hS Tryd.func104 (spec_l42Put_ok hy14) rfl rfl ?_ rfl (by kernel_rfl) rfl rfl) (by kernel_rfl)
                  intro W hS
                  have hT : Sep _ _ W [.box g1 68 [.int .i64 a0.Op, .int .i64 a0.Rd, .int .i64 a0.Rs, .int .i64 a0.Rt, .int .i64 a0.Imm]] := hS.to [0] rfl
                  refine ⟨fun _ => hT, ?_⟩
                  obtain ⟨y15, hy15, h⟩ := bnd h
                  refine .by1 5 rfl (.call0 hS Tryd.func104 (spec_l42Put_ok hy15) rfl rfl ?_ rfl (by kernel_rfl) rfl rfl) (by kernel_rfl)
                  intro W hS
                  have hT : Sep _ _ W [.box g1 68 [.int .i64 a0.Op, .int .i64 a0.Rd, .int .i64 a0.Rs, .int .i64 a0.Rt, .int .i64 a0.Imm]] := hS.to [0] rfl
                  refine ⟨fun _ => hT, ?_⟩
                  refine .t1 6 rfl (fun W hT => pr rfl) hT ?_ (by kernel_rfl) rfl rfl
                  refine .t1 7 rfl (fun W hT => pr rfl) hT ?_ (by kernel_rfl) rfl rfl
                  refine .t1 8 rfl (fun W hT => pr rfl) hT ?_ (by kernel_rfl) rfl rfl
                  refine .done ?_ (by kernel_rfl)
                  refine .ret ?_
                  cases h
                  exact fin_ret (vs := [_]) () (rt rfl rn) rfl (hS.to [] rfl)
                · have h := sel_f hb h
                  refine .seq ?_
                  refine .region ?_
                  refine .p rfl rfl rfl ?_
                  refine .p rfl rfl rfl ?_
                  refine .nil ?_
                  refine .cond rfl (fun hb => ?_) (fun hb => ?_)
                  · have h := sel_t hb h
                    refine .seq ?_
                    refine .region ?_
                    refine .r (ld T.t68 hS rfl rfl rfl rfl rfl) ?_ rfl rfl
                    obtain ⟨y16, hy16, h⟩ := bnd h
                    refine .c (.call0 hS Tryd.func108 (spec_l42Jump_ok hy16) rfl rfl ?_ rfl (by kernel_rfl) rfl rfl)
                    intro W hS
                    refine .p rfl rfl rfl ?_
                    refine .nil ?_
                    refine .ret ?_
                    cases h
                    exact fin_ret (vs := [_]) () (rt rfl rn) rfl (hS.to [] rfl)
                  · have h := sel_f hb h
                    refine .seq ?_
                    refine .region ?_
                    refine .p rfl rfl rfl ?_
                    refine .p rfl rfl rfl ?_
                    refine .nil ?_
                    refine .cond rfl (fun hb => ?_) (fun hb => ?_)
                    · have h := sel_t hb h
                      refine .seq ?_
                      refine .region ?_
                      refine .p rfl rfl rfl ?_
                      refine .nil ?_
                      refine .ret ?_
                      cases h
                      exact fin_ret (vs := [_]) () (rt rfl rn) rfl (hS.to [] rfl)
                    · have h := sel_f hb h
                      refine .skip ?_
                      refine .seq ?_
                      refine .rk 16 hS [0] T.mix ?_
                      intro W hS
                      have hT : Sep _ _ W [.box g1 68 [.int .i64 a0.Op, .int .i64 a0.Rd, .int .i64 a0.Rs, .int .i64 a0.Rt, .int .i64 a0.Imm]] := hS.to [0] rfl
                      refine .t1 0 rfl (fun W hT => fa T.f68_0 rfl rfl rfl) hT ?_ (by kernel_rfl) rfl rfl
                      refine .t1 1 rfl (fun W hT => ld T.t3 hT rfl rfl rfl rfl rfl) hT ?_ (by kernel_rfl) rfl rfl
                      refine .t1 4 rfl (fun W hT => fa T.f68_3 rfl rfl rfl) hT ?_ (by kernel_rfl) rfl rfl
                      refine .t1 5 rfl (fun W hT => ld T.t3 hT rfl rfl rfl rfl rfl) hT ?_ (by kernel_rfl) rfl rfl
                      refine .t1 8 rfl (fun W hT => ld T.t68 hT rfl rfl rfl rfl rfl) hT ?_ (by kernel_rfl) rfl rfl
                      refine .t1 11 rfl (fun W hT => fa T.f68_1 rfl rfl rfl) hT ?_ (by kernel_rfl) rfl rfl
                      refine .t1 12 rfl (fun W hT => ld T.t3 hT rfl rfl rfl rfl rfl) hT ?_ (by kernel_rfl) rfl rfl
                      obtain ⟨y17, hy17, h⟩ := bnd h
                      refine .by1 2 rfl (.call0 hS Tryd.func109 (spec_l42Seven_ok hy17) rfl rfl ?_ rfl (by kernel_rfl) rfl rfl) (by kernel_rfl)
                      intro W hS
                      have hT : Sep _ _ W [.box g1 68 [.int .i64 a0.Op, .int .i64 a0.Rd, .int .i64 a0.Rs, .int .i64 a0.Rt, .int .i64 a0.Imm]] := hS.to [0] rfl
                      refine ⟨fun _ => hT, ?_⟩
                      obtain ⟨y18, hy18, h⟩ := bnd h
                      refine .by1 3 rfl (.call0 hS Tryd.func104 (spec_l42Put_ok hy18) rfl rfl ?_ rfl (by kernel_rfl) rfl rfl) (by kernel_rfl)
                      intro W hS
                      have hT : Sep _ _ W [.box g1 68 [.int .i64 a0.Op, .int .i64 a0.Rd, .int .i64 a0.Rs, .int .i64 a0.Rt, .int .i64 a0.Imm]] := hS.to [0] rfl
                      refine ⟨fun _ => hT, ?_⟩
                      obtain ⟨y19, hy19, h⟩ := bnd h
                      refine .by1 6 rfl (.call0 hS Tryd.func104 (spec_l42Put_ok hy19) rfl rfl ?_ rfl (by kernel_rfl) rfl rfl) (by kernel_rfl)
                      intro W hS
                      have hT : Sep _ _ W [.box g1 68 [.int .i64 a0.Op, .int .i64 a0.Rd, .int .i64 a0.Rs, .int .i64 a0.Rt, .int .i64 a0.Imm]] := hS.to [0] rfl
                      refine ⟨fun _ => hT, ?_⟩
                      refine .t1 7 rfl (fun W hT => pr rfl) hT ?_ (by kernel_rfl) rfl rfl
                      obtain ⟨y20, hy20, h⟩ := bnd h
                      refine .by1 9 rfl (.call0 hS Tryd.func106 (spec_l42Mid_ok hy20) rfl rfl ?_ rfl (by kernel_rfl) rfl rfl) (by kernel_rfl)
                      intro W hS
                      have hT : Sep _ _ W [.box g1 68 [.int .i64 a0.Op, .int .i64 a0.Rd, .int .i64 a0.Rs, .int .i64 a0.Rt, .int .i64 a0.Imm]] := hS.to [0] rfl
                      refine ⟨fun _ => hT, ?_⟩
                      refine .t1 10 rfl (fun W hT => pr rfl) hT ?_ (by kernel_rfl) rfl rfl
                      obtain ⟨y21, hy21, h⟩ := bnd h
                      refine .by1 13 rfl (.call0 hS Tryd.func104 (spec_l42Put_ok hy21) rfl rfl ?_ rfl (by kernel_rfl) rfl rfl) (by kernel_rfl)
                      intro W hS
                      have hT : Sep _ _ W [.box g1 68 [.int .i64 a0.Op, .int .i64 a0.Rd, .int .i64 a0.Rs, .int .i64 a0.Rt, .int .i64 a0.Imm]] := hS.to [0] rfl
                      refine ⟨fun _ => hT, ?_⟩
                      refine .t1 14 rfl (fun W hT => pr rfl) hT ?_ (by kernel_rfl) rfl rfl
                      refine .t1 15 rfl (fun W hT => pr rfl) hT ?_ (by kernel_rfl) rfl rfl
                      refine .done ?_ (by kernel_rfl)
                      refine .ret ?_
                      cases h
                      exact fin_ret (vs := [_]) () (rt rfl rn) rfl (hS.to [] rfl)
def spec_l42Op_F (w : World) (r : Int) : Env → World → Prop := Fin Tryd.prog Tryd.f90 No w (fun s : Unit => .int .i64 r) (fun s => []) .ret
theorem spec_l42Op_ok {a0 : Int} {w : World} {r : Int} (h : spec_l42Op a0 = some r) : Calls Tryd.prog 90 #[.int .i64 a0] w (Ret No w (fun s : Unit => .int .i64 r) (fun s => [])) := by
  unfold spec_l42Op at h
  refine enter Tryd.func90 rfl rfl ?_
  have hS := Sep.start w
  refine .seq ?_
  refine .region ?_
  refine .p rfl rfl rfl ?_
  refine .nil ?_
  refine .seq ?_
  refine .seq ?_
  refine .region ?_
  refine .p rfl rfl rfl ?_
  obtain ⟨y1, hy1, h⟩ := bnd h
  refine .c (.call0 hS Tryd.func105 (spec_Bits_ok hy1) rfl rfl ?_ rfl (by kernel_rfl) rfl rfl)
  intro W hS
  refine .nil ?_
  refine .block ?_
  refine .seq ?_
  refine .region ?_
  refine .p rfl rfl rfl ?_
  refine .p rfl rfl rfl ?_
  refine .nil ?_
  refine .cond rfl (fun hb => ?_) (fun hb => ?_)
  · have h := sel_t hb h
    refine .seq ?_
    refine .seq ?_
    refine .region ?_
    refine .p rfl rfl rfl ?_
    refine .nil ?_
    refine .block ?_
    obtain ⟨y2, hy2, h⟩ := bnd h
    refine .via (.iter (fun s1 E' W' => SubL E' [(0, .int .i64 a0), (3, .int .i64 s1)] ∧ Sep No w W' []) (fun y3 x E' W' => (match y3 with | .inl o1 => x = .ret ∧ spec_l42Op_F w o1 E' W' | .inr o2 => x = .exit 1 ∧ SubL E' [] ∧ Sep No w W' [])) hy2 ⟨sb rfl, hS.to [] rfl⟩ ?_) ?_
    · intro s1 y4 E W h hI
      obtain ⟨hE, hS⟩ := hI
      refine CW.sub hE ?_
      unfold spec_l42Op_b1 at h
      refine .seq ?_
      refine .seq ?_
      refine .region ?_
      refine .p rfl rfl rfl ?_
      refine .p rfl rfl rfl ?_
      refine .nil ?_
      refine .cond rfl (fun hb => ?_) (fun hb => ?_)
      · have h := sel_t hb h
        refine .skip ?_
        refine .seq ?_
        refine .block ?_
        refine .seq ?_
        refine .region ?_
        refine .p rfl rfl rfl ?_
        obtain ⟨y5, hy5, h⟩ := bnd h
        refine .c (.call0 hS Tryd.func105 (spec_Bits_ok hy5) rfl rfl ?_ rfl (by kernel_rfl) rfl rfl)
        intro W hS
        refine .p rfl rfl rfl ?_
        obtain ⟨y6, hy6, h⟩ := bnd h
        refine .c (.call0 hS Tryd.func111 (spec_l42Three_ok hy6) rfl rfl ?_ rfl (by kernel_rfl) rfl rfl)
        intro W hS
        refine .p rfl rfl rfl ?_
        refine .p rfl rfl rfl ?_
        obtain ⟨b1, hb1, h⟩ := bnd h
        refine .chunk 6 23 (b1) hS ?_ ?_
        · refine .both (y5 == y6) (fun hb => ?_) (fun hb => ?_)
          · have hg1 := hb
            have h := sel_t hb hb1
            refine .g hg1 (.p rfl rfl rfl ?_) rfl
            obtain ⟨y7, hy7, h⟩ := bnd h
            refine .g hg1 (.c (.call0 hS Tryd.func105 (spec_Bits_ok hy7) rfl rfl ?_ rfl (by kernel_rfl) rfl rfl)) rfl
            intro W hS
            refine .g hg1 (.p rfl rfl rfl ?_) rfl
            obtain ⟨y8, hy8, h⟩ := bnd h
            refine .g hg1 (.c (.call0 hS Tryd.func109 (spec_l42Seven_ok hy8) rfl rfl ?_ rfl (by kernel_rfl) rfl rfl)) rfl
            intro W hS
            refine .g hg1 (.p rfl rfl rfl ?_) rfl
            refine .r (pkt hg1 rfl rfl rfl) ?_ rfl rfl
            cases h
            exact .nil (ck 6 hS rfl rfl rfl rfl)
          · skip
            refine .x hb ?_ rfl rfl
            refine .x hb ?_ rfl rfl
            refine .x hb ?_ rfl rfl
            refine .x hb ?_ rfl rfl
            refine .x hb ?_ rfl rfl
            cases sel_f hb hb1
            refine .r (pkf hb rfl rfl rfl) ?_ rfl rfl
            exact .nil (ck 6 hS rfl rfl rfl rfl)
        intro W hS
        refine .nil ?_
        refine .cond rfl (fun hb => ?_) (fun hb => ?_)
        · have h := sel_t hb h
          refine .seq ?_
          refine .region ?_
          refine .p rfl rfl rfl ?_
          refine .p rfl rfl rfl ?_
          refine .nil ?_
          refine .ret ?_
          cases h
          exact ⟨by simp, rfl, fin_ret (vs := [_]) () (rt rfl rn) rfl (hS.to [] rfl)⟩
        · have h := sel_f hb h
          refine .skip ?_
          refine .region ?_
          refine .p rfl rfl rfl ?_
          refine .p rfl rfl rfl ?_
          refine .p rfl rfl rfl ?_
          refine .nil ?_
          cases h
          exact ⟨rfl, sb rfl, hS.to [] rfl⟩
      · have h := sel_f hb h
        refine .exit ?_
        cases h
        exact ⟨by simp, rfl, sb rfl, hS.to [] rfl⟩
    · intro x E W hJ
      rcases y2 with o3 | o4
      · skip
        obtain ⟨rfl, hF⟩ := hJ
        refine ⟨_, fun _ _ h => h, ?_⟩
        cases h
        exact hF
      · skip
        obtain ⟨rfl, hE, hS⟩ := hJ
        refine ⟨_, hE.sub, ?_⟩
        refine .seq ?_
        refine .region ?_
        refine .p rfl rfl rfl ?_
        refine .nil ?_
        refine .ret ?_
        cases h
        exact fin_ret (vs := [_]) () (rt rfl rn) rfl (hS.to [] rfl)
  · have h := sel_f hb h
    refine .seq ?_
    refine .region ?_
    refine .p rfl rfl rfl ?_
    refine .p rfl rfl rfl ?_
    refine .nil ?_
    refine .cond rfl (fun hb => ?_) (fun hb => ?_)
    · have h := sel_t hb h
      refine .seq ?_
      refine .seq ?_
      refine .region ?_
      refine .p rfl rfl rfl ?_
      obtain ⟨y9, hy9, h⟩ := bnd h
      refine .c (.call0 hS Tryd.func105 (spec_Bits_ok hy9) rfl rfl ?_ rfl (by kernel_rfl) rfl rfl)
      intro W hS
      refine .p rfl rfl rfl ?_
      refine .nil ?_
      refine .cond rfl (fun hb => ?_) (fun hb => ?_)
      · have h := sel_t hb h
        refine .seq ?_
        refine .region ?_
        refine .p rfl rfl rfl ?_
        refine .nil ?_
        refine .ret ?_
        cases h
        exact fin_ret (vs := [_]) () (rt rfl rn) rfl (hS.to [] rfl)
      · have h := sel_f hb h
        refine .skip ?_
        refine .seq ?_
        refine .region ?_
        refine .p rfl rfl rfl ?_
        refine .nil ?_
        refine .ret ?_
        cases h
        exact fin_ret (vs := [_]) () (rt rfl rn) rfl (hS.to [] rfl)
    · have h := sel_f hb h
      refine .seq ?_
      refine .region ?_
      refine .p rfl rfl rfl ?_
      refine .p rfl rfl rfl ?_
      refine .nil ?_
      refine .cond rfl (fun hb => ?_) (fun hb => ?_)
      · have h := sel_t hb h
        refine .seq ?_
        refine .region ?_
        refine .p rfl rfl rfl ?_
        refine .nil ?_
        refine .ret ?_
        cases h
        exact fin_ret (vs := [_]) () (rt rfl rn) rfl (hS.to [] rfl)
      · have h := sel_f hb h
        refine .seq ?_
        refine .region ?_
        refine .p rfl rfl rfl ?_
        refine .p rfl rfl rfl ?_
        refine .nil ?_
        refine .cond rfl (fun hb => ?_) (fun hb => ?_)
        · have h := sel_t hb h
          refine .seq ?_
          refine .region ?_
          refine .p rfl rfl rfl ?_
          refine .nil ?_
          refine .ret ?_
          cases h
          exact fin_ret (vs := [_]) () (rt rfl rn) rfl (hS.to [] rfl)
        · have h := sel_f hb h
          refine .seq ?_
          refine .region ?_
          refine .p rfl rfl rfl ?_
          refine .p rfl rfl rfl ?_
          refine .nil ?_
          refine .cond rfl (fun hb => ?_) (fun hb => ?_)
          · have h := sel_t hb h
            refine .seq ?_
            refine .region ?_
            refine .p rfl rfl rfl ?_
            refine .nil ?_
            refine .ret ?_
            cases h
            exact fin_ret (vs := [_]) () (rt rfl rn) rfl (hS.to [] rfl)
          · have h := sel_f hb h
            refine .seq ?_
            refine .region ?_
            refine .p rfl rfl rfl ?_
            refine .p rfl rfl rfl ?_
            refine .nil ?_
            refine .cond rfl (fun hb => ?_) (fun hb => ?_)
            · have h := sel_t hb h
              refine .seq ?_
              refine .seq ?_
              refine .region ?_
              refine .p rfl rfl rfl ?_
              obtain ⟨y10, hy10, h⟩ := bnd h
              refine .c (.call0 hS Tryd.func105 (spec_Bits_ok hy10) rfl rfl ?_ rfl (by kernel_rfl) rfl rfl)
              intro W hS
              refine .p rfl rfl rfl ?_
              refine .nil ?_
              refine .cond rfl (fun hb => ?_) (fun hb => ?_)
              · have h := sel_t hb h
                refine .seq ?_
                refine .region ?_
                refine .p rfl rfl rfl ?_
                refine .nil ?_
                refine .ret ?_
                cases h
                exact fin_ret (vs := [_]) () (rt rfl rn) rfl (hS.to [] rfl)
              · have h := sel_f hb h
                refine .skip ?_
                refine .seq ?_
                refine .region ?_
                refine .p rfl rfl rfl ?_
                refine .nil ?_
                refine .ret ?_
                cases h
                exact fin_ret (vs := [_]) () (rt rfl rn) rfl (hS.to [] rfl)
            · have h := sel_f hb h
              refine .seq ?_
              refine .region ?_
              refine .p rfl rfl rfl ?_
              refine .p rfl rfl rfl ?_
              refine .nil ?_
              refine .cond rfl (fun hb => ?_) (fun hb => ?_)
              · have h := sel_t hb h
                refine .seq ?_
                refine .region ?_
                refine .p rfl rfl rfl ?_
                refine .nil ?_
                refine .ret ?_
                cases h
                exact fin_ret (vs := [_]) () (rt rfl rn) rfl (hS.to [] rfl)
              · have h := sel_f hb h
                refine .seq ?_
                refine .region ?_
                refine .p rfl rfl rfl ?_
                refine .p rfl rfl rfl ?_
                refine .nil ?_
                refine .cond rfl (fun hb => ?_) (fun hb => ?_)
                · have h := sel_t hb h
                  refine .seq ?_
                  refine .region ?_
                  refine .p rfl rfl rfl ?_
                  refine .nil ?_
                  refine .ret ?_
                  cases h
                  exact fin_ret (vs := [_]) () (rt rfl rn) rfl (hS.to [] rfl)
                · have h := sel_f hb h
                  refine .seq ?_
                  refine .region ?_
                  refine .p rfl rfl rfl ?_
                  refine .p rfl rfl rfl ?_
                  refine .nil ?_
                  refine .cond rfl (fun hb => ?_) (fun hb => ?_)
                  · have h := sel_t hb h
                    refine .seq ?_
                    refine .region ?_
                    refine .p rfl rfl rfl ?_
                    refine .nil ?_
                    refine .ret ?_
                    cases h
                    exact fin_ret (vs := [_]) () (rt rfl rn) rfl (hS.to [] rfl)
                  · have h := sel_f hb h
                    refine .skip ?_
                    refine .seq ?_
                    refine .region ?_
                    refine .p rfl rfl rfl ?_
                    refine .nil ?_
                    refine .ret ?_
                    cases h
                    exact fin_ret (vs := [_]) () (rt rfl rn) rfl (hS.to [] rfl)
theorem spec_SignExtend_ok {a0 : Int} {a1 : Int} {w : World} {r : Int} (h : spec_SignExtend a0 a1 = some r) : Calls Tryd.prog 112 #[.int .i64 a0, .int .i64 a1] w (Ret No w (fun s : Unit => .int .i64 r) (fun s => [])) := by
  unfold spec_SignExtend at h
  refine enter Tryd.func112 rfl rfl ?_
  have hS := Sep.start w
  refine .seq ?_
  refine .region ?_
  refine .p rfl rfl rfl ?_
  refine .nil ?_
  refine .seq ?_
  refine .seq ?_
  refine .region ?_
  refine .p rfl rfl rfl ?_
  obtain ⟨y1, hy1, h⟩ := bnd h
  refine .c (.call0 hS Tryd.func24 (spec_l6In_ok hy1) rfl rfl ?_ rfl (by kernel_rfl) rfl rfl)
  intro W hS
  refine .p rfl rfl rfl ?_
  refine .p rfl rfl rfl ?_
  obtain ⟨b1, hb1, h⟩ := bnd h
  refine .chunk 7 15 (b1) hS ?_ ?_
  · refine .both (!y1) (fun hb => ?_) (fun hb => ?_)
    · skip
      refine .x hb ?_ rfl rfl
      refine .x hb ?_ rfl rfl
      refine .x hb ?_ rfl rfl
      refine .x hb ?_ rfl rfl
      refine .x hb ?_ rfl rfl
      refine .x hb ?_ rfl rfl
      cases sel_t hb hb1
      refine .r (pkt hb rfl rfl rfl) ?_ rfl rfl
      exact .nil (ck 7 hS rfl rfl rfl rfl)
    · have hg1 := hb
      have h := sel_f hb hb1
      refine .g hg1 (.p rfl rfl rfl ?_) rfl
      refine .g hg1 (.p rfl rfl rfl ?_) rfl
      obtain ⟨y2, hy2, h⟩ := bnd h
      refine .g hg1 (.c (.call0 hS Tryd.func115 (spec_l1Power_ok hy2) rfl rfl ?_ rfl (by kernel_rfl) rfl rfl)) rfl
      intro W hS
      refine .g hg1 (.p rfl rfl rfl ?_) rfl
      obtain ⟨y3, hy3, h⟩ := bnd h
      refine .g hg1 (.c (.call0 hS Tryd.func24 (spec_l6In_ok hy3) rfl rfl ?_ rfl (by kernel_rfl) rfl rfl)) rfl
      intro W hS
      refine .g hg1 (.p rfl rfl rfl ?_) rfl
      refine .r (pkf hg1 rfl rfl rfl) ?_ rfl rfl
      cases h
      exact .nil (ck 7 hS rfl rfl rfl rfl)
  intro W hS
  refine .nil ?_
  refine .cond rfl (fun hb => ?_) (fun hb => ?_)
  · have h := sel_t hb h
    refine .seq ?_
    refine .region ?_
    refine .p rfl rfl rfl ?_
    refine .nil ?_
    refine .ret ?_
    cases h
    exact fin_ret (vs := [_]) () (rt rfl rn) rfl (hS.to [] rfl)
  · have h := sel_f hb h
    refine .skip ?_
    refine .seq ?_
    refine .seq ?_
    refine .region ?_
    refine .p rfl rfl rfl ?_
    refine .p rfl rfl rfl ?_
    refine .p rfl rfl rfl ?_
    obtain ⟨y4, hy4, h⟩ := bnd h
    refine .c (.call0 hS Tryd.func115 (spec_l1Power_ok hy4) rfl rfl ?_ rfl (by kernel_rfl) rfl rfl)
    intro W hS
    refine .p rfl rfl rfl ?_
    refine .nil ?_
    refine .cond rfl (fun hb => ?_) (fun hb => ?_)
    · have h := sel_t hb h
      refine .seq ?_
      refine .region ?_
      refine .p rfl rfl rfl ?_
      refine .p rfl rfl rfl ?_
      obtain ⟨y5, hy5, h⟩ := bnd h
      refine .c (.call0 hS Tryd.func115 (spec_l1Power_ok hy5) rfl rfl ?_ rfl (by kernel_rfl) rfl rfl)
      intro W hS
      refine .p rfl rfl rfl ?_
      refine .p rfl rfl rfl ?_
      refine .nil ?_
      refine .ret ?_
      cases h
      exact fin_ret (vs := [_]) () (rt rfl rn) rfl (hS.to [] rfl)
    · have h := sel_f hb h
      refine .skip ?_
      refine .seq ?_
      refine .region ?_
      refine .p rfl rfl rfl ?_
      refine .p rfl rfl rfl ?_
      refine .nil ?_
      refine .ret ?_
      cases h
      exact fin_ret (vs := [_]) () (rt rfl rn) rfl (hS.to [] rfl)
theorem spec_l42Fields_ok {a0 : Int} {a1 : Int} {w : World} {r : Instr} (h : spec_l42Fields a0 a1 = some r) : Calls Tryd.prog 91 #[.int .i64 a0, .int .i64 a1] w (Ret No w (fun s : Unit => .agg #[.int .i64 r.Op, .int .i64 r.Rd, .int .i64 r.Rs, .int .i64 r.Rt, .int .i64 r.Imm]) (fun s => [])) := by
  unfold spec_l42Fields at h
  refine enter Tryd.func91 rfl rfl ?_
  have hS := Sep.start w
  refine .seq ?_
  refine .region ?_
  refine .c (.alloc T.t68 hS ?_ rfl rfl rfl)
  intro g1 W hS
  refine .nil ?_
  refine .seq ?_
  refine .region ?_
  refine .p rfl rfl rfl ?_
  obtain ⟨y1, hy1, h⟩ := bnd h
  refine .c (.call0 hS Tryd.func105 (spec_Bits_ok hy1) rfl rfl ?_ rfl (by kernel_rfl) rfl rfl)
  intro W hS
  refine .p rfl rfl rfl ?_
  refine .nil ?_
  refine .seq ?_
  refine .region ?_
  refine .p rfl rfl rfl ?_
  obtain ⟨y2, hy2, h⟩ := bnd h
  refine .c (.call0 hS Tryd.func105 (spec_Bits_ok hy2) rfl rfl ?_ rfl (by kernel_rfl) rfl rfl)
  intro W hS
  refine .p rfl rfl rfl ?_
  refine .nil ?_
  refine .seq ?_
  refine .region ?_
  refine .p rfl rfl rfl ?_
  obtain ⟨y3, hy3, h⟩ := bnd h
  refine .c (.call0 hS Tryd.func105 (spec_Bits_ok hy3) rfl rfl ?_ rfl (by kernel_rfl) rfl rfl)
  intro W hS
  refine .p rfl rfl rfl ?_
  refine .nil ?_
  refine .seq ?_
  refine .block ?_
  refine .seq ?_
  refine .region ?_
  refine .p rfl rfl rfl ?_
  refine .p rfl rfl rfl ?_
  refine .p rfl rfl rfl ?_
  refine .nil ?_
  refine .cond rfl (fun hb => ?_) (fun hb => ?_)
  · have h := sel_t hb h
    refine .seq ?_
    refine .region ?_
    refine .p rfl rfl rfl ?_
    refine .p rfl rfl rfl ?_
    refine .p rfl rfl rfl ?_
    refine .p rfl rfl rfl ?_
    refine .r (bs T.s68 rfl rfl) ?_ rfl rfl
    refine .c (.st T.t68 hS rfl rfl rfl ?_ rfl rfl rfl rfl rfl)
    intro W hS
    refine .nil ?_
    refine .ret ?_
    cases h
    exact fin_ret (vs := [_]) () (rc hS T.t68 rfl rn rfl rfl) rfl (hS.to [] rfl)
  · have h := sel_f hb h
    refine .seq ?_
    refine .region ?_
    refine .p rfl rfl rfl ?_
    refine .p rfl rfl rfl ?_
    refine .p rfl rfl rfl ?_
    refine .nil ?_
    refine .cond rfl (fun hb => ?_) (fun hb => ?_)
    · have h := sel_t hb h
      refine .seq ?_
      refine .region ?_
      refine .p rfl rfl rfl ?_
      refine .p rfl rfl rfl ?_
      refine .p rfl rfl rfl ?_
      refine .p rfl rfl rfl ?_
      obtain ⟨y4, hy4, h⟩ := bnd h
      refine .c (.call0 hS Tryd.func105 (spec_Bits_ok hy4) rfl rfl ?_ rfl (by kernel_rfl) rfl rfl)
      intro W hS
      obtain ⟨y5, hy5, h⟩ := bnd h
      refine .c (.call0 hS Tryd.func112 (spec_SignExtend_ok hy5) rfl rfl ?_ rfl (by kernel_rfl) rfl rfl)
      intro W hS
      refine .r (bs T.s68 rfl rfl) ?_ rfl rfl
      refine .c (.st T.t68 hS rfl rfl rfl ?_ rfl rfl rfl rfl rfl)
      intro W hS
      refine .nil ?_
      refine .ret ?_
      cases h
      exact fin_ret (vs := [_]) () (rc hS T.t68 rfl rn rfl rfl) rfl (hS.to [] rfl)
    · have h := sel_f hb h
      refine .seq ?_
      refine .region ?_
      refine .p rfl rfl rfl ?_
      refine .p rfl rfl rfl ?_
      refine .p rfl rfl rfl ?_
      refine .nil ?_
      refine .cond rfl (fun hb => ?_) (fun hb => ?_)
      · have h := sel_t hb h
        refine .seq ?_
        refine .region ?_
        refine .p rfl rfl rfl ?_
        refine .p rfl rfl rfl ?_
        refine .p rfl rfl rfl ?_
        refine .p rfl rfl rfl ?_
        obtain ⟨y6, hy6, h⟩ := bnd h
        refine .c (.call0 hS Tryd.func105 (spec_Bits_ok hy6) rfl rfl ?_ rfl (by kernel_rfl) rfl rfl)
        intro W hS
        refine .p rfl rfl rfl ?_
        refine .p rfl rfl rfl ?_
        refine .p rfl rfl rfl ?_
        obtain ⟨y7, hy7, h⟩ := bnd h
        refine .c (.call0 hS Tryd.func112 (spec_SignExtend_ok hy7) rfl rfl ?_ rfl (by kernel_rfl) rfl rfl)
        intro W hS
        refine .r (bs T.s68 rfl rfl) ?_ rfl rfl
        refine .c (.st T.t68 hS rfl rfl rfl ?_ rfl rfl rfl rfl rfl)
        intro W hS
        refine .nil ?_
        refine .ret ?_
        cases h
        exact fin_ret (vs := [_]) () (rc hS T.t68 rfl rn rfl rfl) rfl (hS.to [] rfl)
      · have h := sel_f hb h
        refine .seq ?_
        refine .region ?_
        refine .p rfl rfl rfl ?_
        refine .p rfl rfl rfl ?_
        refine .p rfl rfl rfl ?_
        refine .chunk 3 53 ((a0 == 17) || (a0 == 18)) hS ?_ ?_
        · refine .both (a0 == 17) (fun hb => ?_) (fun hb => ?_)
          · skip
            refine .x hb ?_ rfl rfl
            refine .x hb ?_ rfl rfl
            refine .r (pkt hb rfl rfl rfl) ?_ rfl rfl
            exact .nil (ck 3 hS rfl (or_t hb) rfl rfl)
          · have hg1 := hb
            refine .g hg1 (.p rfl rfl rfl ?_) rfl
            refine .g hg1 (.p rfl rfl rfl ?_) rfl
            refine .r (pkf hg1 rfl rfl rfl) ?_ rfl rfl
            exact .nil (ck 3 hS rfl (or_f hg1) rfl rfl)
        intro W hS
        refine .p rfl rfl rfl ?_
        refine .nil ?_
        refine .cond rfl (fun hb => ?_) (fun hb => ?_)
        · have h := sel_t hb h
          refine .seq ?_
          refine .region ?_
          refine .p rfl rfl rfl ?_
          obtain ⟨y8, hy8, h⟩ := bnd h
          refine .c (.call0 hS Tryd.func105 (spec_Bits_ok hy8) rfl rfl ?_ rfl (by kernel_rfl) rfl rfl)
          intro W hS
          refine .p rfl rfl rfl ?_
          refine .p rfl rfl rfl ?_
          obtain ⟨y9, hy9, h⟩ := bnd h
          refine .c (.call0 hS Tryd.func105 (spec_Bits_ok hy9) rfl rfl ?_ rfl (by kernel_rfl) rfl rfl)
          intro W hS
          refine .p rfl rfl rfl ?_
          refine .p rfl rfl rfl ?_
          refine .p rfl rfl rfl ?_
          obtain ⟨y10, hy10, h⟩ := bnd h
          refine .c (.call0 hS Tryd.func105 (spec_Bits_ok hy10) rfl rfl ?_ rfl (by kernel_rfl) rfl rfl)
          intro W hS
          refine .p rfl rfl rfl ?_
          refine .p rfl rfl rfl ?_
          refine .p rfl rfl rfl ?_
          obtain ⟨y11, hy11, h⟩ := bnd h
          refine .c (.call0 hS Tryd.func105 (spec_Bits_ok hy11) rfl rfl ?_ rfl (by kernel_rfl) rfl rfl)
          intro W hS
          refine .p rfl rfl rfl ?_
          refine .p rfl rfl rfl ?_
          refine .p rfl rfl rfl ?_
          refine .nil ?_
          refine .seq ?_
          refine .region ?_
          refine .p rfl rfl rfl ?_
          refine .p rfl rfl rfl ?_
          refine .p rfl rfl rfl ?_
          refine .p rfl rfl rfl ?_
          obtain ⟨y12, hy12, h⟩ := bnd h
          refine .c (.call0 hS Tryd.func112 (spec_SignExtend_ok hy12) rfl rfl ?_ rfl (by kernel_rfl) rfl rfl)
          intro W hS
          refine .r (bs T.s68 rfl rfl) ?_ rfl rfl
          refine .c (.st T.t68 hS rfl rfl rfl ?_ rfl rfl rfl rfl rfl)
          intro W hS
          refine .nil ?_
          refine .ret ?_
          cases h
          exact fin_ret (vs := [_]) () (rc hS T.t68 rfl rn rfl rfl) rfl (hS.to [] rfl)
        · have h := sel_f hb h
          refine .seq ?_
          refine .region ?_
          refine .p rfl rfl rfl ?_
          refine .p rfl rfl rfl ?_
          refine .p rfl rfl rfl ?_
          refine .nil ?_
          refine .cond rfl (fun hb => ?_) (fun hb => ?_)
          · have h := sel_t hb h
            refine .seq ?_
            refine .region ?_
            refine .p rfl rfl rfl ?_
            refine .p rfl rfl rfl ?_
            refine .p rfl rfl rfl ?_
            obtain ⟨y13, hy13, h⟩ := bnd h
            refine .c (.call0 hS Tryd.func105 (spec_Bits_ok hy13) rfl rfl ?_ rfl (by kernel_rfl) rfl rfl)
            intro W hS
            refine .r (bs T.s68 rfl rfl) ?_ rfl rfl
            refine .c (.st T.t68 hS rfl rfl rfl ?_ rfl rfl rfl rfl rfl)
            intro W hS
            refine .nil ?_
            refine .ret ?_
            cases h
            exact fin_ret (vs := [_]) () (rc hS T.t68 rfl rn rfl rfl) rfl (hS.to [] rfl)
          · have h := sel_f hb h
            refine .seq ?_
            refine .region ?_
            refine .p rfl rfl rfl ?_
            refine .p rfl rfl rfl ?_
            refine .p rfl rfl rfl ?_
            refine .nil ?_
            refine .cond rfl (fun hb => ?_) (fun hb => ?_)
            · have h := sel_t hb h
              refine .seq ?_
              refine .region ?_
              refine .p rfl rfl rfl ?_
              obtain ⟨y14, hy14, h⟩ := bnd h
              refine .c (.call0 hS Tryd.func105 (spec_Bits_ok hy14) rfl rfl ?_ rfl (by kernel_rfl) rfl rfl)
              intro W hS
              refine .p rfl rfl rfl ?_
              refine .p rfl rfl rfl ?_
              obtain ⟨y15, hy15, h⟩ := bnd h
              refine .c (.call0 hS Tryd.func105 (spec_Bits_ok hy15) rfl rfl ?_ rfl (by kernel_rfl) rfl rfl)
              intro W hS
              refine .p rfl rfl rfl ?_
              refine .p rfl rfl rfl ?_
              refine .p rfl rfl rfl ?_
              obtain ⟨y16, hy16, h⟩ := bnd h
              refine .c (.call0 hS Tryd.func105 (spec_Bits_ok hy16) rfl rfl ?_ rfl (by kernel_rfl) rfl rfl)
              intro W hS
              refine .p rfl rfl rfl ?_
              refine .p rfl rfl rfl ?_
              refine .p rfl rfl rfl ?_
              obtain ⟨y17, hy17, h⟩ := bnd h
              refine .c (.call0 hS Tryd.func105 (spec_Bits_ok hy17) rfl rfl ?_ rfl (by kernel_rfl) rfl rfl)
              intro W hS
              refine .p rfl rfl rfl ?_
              refine .p rfl rfl rfl ?_
              refine .p rfl rfl rfl ?_
              refine .nil ?_
              refine .seq ?_
              refine .region ?_
              refine .p rfl rfl rfl ?_
              refine .p rfl rfl rfl ?_
              refine .p rfl rfl rfl ?_
              obtain ⟨y18, hy18, h⟩ := bnd h
              refine .c (.call0 hS Tryd.func112 (spec_SignExtend_ok hy18) rfl rfl ?_ rfl (by kernel_rfl) rfl rfl)
              intro W hS
              refine .r (bs T.s68 rfl rfl) ?_ rfl rfl
              refine .c (.st T.t68 hS rfl rfl rfl ?_ rfl rfl rfl rfl rfl)
              intro W hS
              refine .nil ?_
              refine .ret ?_
              cases h
              exact fin_ret (vs := [_]) () (rc hS T.t68 rfl rn rfl rfl) rfl (hS.to [] rfl)
            · have h := sel_f hb h
              refine .skip ?_
              refine .seq ?_
              refine .region ?_
              refine .p rfl rfl rfl ?_
              refine .r (bs T.s68 rfl rfl) ?_ rfl rfl
              refine .c (.st T.t68 hS rfl rfl rfl ?_ rfl rfl rfl rfl rfl)
              intro W hS
              refine .nil ?_
              refine .ret ?_
              cases h
              exact fin_ret (vs := [_]) () (rc hS T.t68 rfl rn rfl rfl) rfl (hS.to [] rfl)
theorem spec_InstrDecode_ok {a0 : Int} {w : World} {r : Instr × Bool} (h : spec_InstrDecode a0 = some r) : Calls Tryd.prog 65 #[.int .i64 a0] w (Ret No w (fun s : Unit => .tuple #[.agg #[.int .i64 r.1.Op, .int .i64 r.1.Rd, .int .i64 r.1.Rs, .int .i64 r.1.Rt, .int .i64 r.1.Imm], .bool r.2]) (fun s => [])) := by
  unfold spec_InstrDecode at h
  refine enter Tryd.func65 rfl rfl ?_
  have hS := Sep.start w
  refine .seq ?_
  refine .region ?_
  refine .c (.alloc T.t68 hS ?_ rfl rfl rfl)
  intro g1 W hS
  refine .p rfl rfl rfl ?_
  refine .nil ?_
  refine .seq ?_
  refine .seq ?_
  refine .region ?_
  refine .p rfl rfl rfl ?_
  obtain ⟨y1, hy1, h⟩ := bnd h
  refine .c (.call0 hS Tryd.func24 (spec_l6In_ok hy1) rfl rfl ?_ rfl (by kernel_rfl) rfl rfl)
  intro W hS
  refine .p rfl rfl rfl ?_
  refine .p rfl rfl rfl ?_
  obtain ⟨b1, hb1, h⟩ := bnd h
  refine .chunk 4 12 (b1) hS ?_ ?_
  · refine .both (!y1) (fun hb => ?_) (fun hb => ?_)
    · skip
      refine .x hb ?_ rfl rfl
      refine .x hb ?_ rfl rfl
      refine .x hb ?_ rfl rfl
      cases sel_t hb hb1
      refine .r (pkt hb rfl rfl rfl) ?_ rfl rfl
      exact .nil (ck 4 hS rfl rfl rfl rfl)
    · have hg1 := hb
      have h := sel_f hb hb1
      refine .g hg1 (.p rfl rfl rfl ?_) rfl
      obtain ⟨y2, hy2, h⟩ := bnd h
      refine .g hg1 (.c (.call0 hS Tryd.func90 (spec_l42Op_ok hy2) rfl rfl ?_ rfl (by kernel_rfl) rfl rfl)) rfl
      intro W hS
      refine .g hg1 (.p rfl rfl rfl ?_) rfl
      refine .r (pkf hg1 rfl rfl rfl) ?_ rfl rfl
      cases h
      exact .nil (ck 4 hS rfl rfl rfl rfl)
  intro W hS
  refine .nil ?_
  refine .cond rfl (fun hb => ?_) (fun hb => ?_)
  · have h := sel_t hb h
    refine .seq ?_
    refine .region ?_
    refine .r (bs T.s68 rfl rfl) ?_ rfl rfl
    refine .c (.st T.t68 hS rfl rfl rfl ?_ rfl rfl rfl rfl rfl)
    intro W hS
    refine .p rfl rfl rfl ?_
    refine .nil ?_
    refine .ret ?_
    cases h
    exact fin_ret (vs := [_, _]) () (rc hS T.t68 rfl (rt rfl rn) rfl rfl) rfl (hS.to [] rfl)
  · have h := sel_f hb h
    refine .skip ?_
    refine .seq ?_
    refine .region ?_
    refine .p rfl rfl rfl ?_
    obtain ⟨y3, hy3, h⟩ := bnd h
    refine .c (.call0 hS Tryd.func90 (spec_l42Op_ok hy3) rfl rfl ?_ rfl (by kernel_rfl) rfl rfl)
    intro W hS
    refine .p rfl rfl rfl ?_
    obtain ⟨y4, hy4, h⟩ := bnd h
    refine .c (.call0 hS Tryd.func91 (spec_l42Fields_ok hy4) rfl rfl ?_ rfl (by kernel_rfl) rfl rfl)
    intro W hS
    refine .c (.alloc T.t68 hS ?_ rfl rfl rfl)
    intro g2 W hS
    refine .c (.st T.t68 hS rfl rfl rfl ?_ rfl rfl rfl rfl rfl)
    intro W hS
    refine .nil ?_
    refine .seq ?_
    refine .seq ?_
    refine .region ?_
    refine .r (ld T.t68 hS rfl rfl rfl rfl rfl) ?_ rfl rfl
    obtain ⟨y5, hy5, h⟩ := bnd h
    refine .c (.call0 hS Tryd.func78 (spec_l42Encode_ok hy5) rfl rfl ?_ rfl (by kernel_rfl) rfl rfl)
    intro W hS
    refine .p rfl rfl rfl ?_
    refine .p rfl rfl rfl ?_
    refine .nil ?_
    refine .cond rfl (fun hb => ?_) (fun hb => ?_)
    · have h := sel_t hb h
      refine .seq ?_
      refine .region ?_
      refine .r (bs T.s68 rfl rfl) ?_ rfl rfl
      refine .c (.st T.t68 hS.p1 rfl rfl rfl ?_ rfl rfl rfl rfl rfl)
      intro W hS
      refine .p rfl rfl rfl ?_
      refine .nil ?_
      refine .ret ?_
      cases h
      exact fin_ret (vs := [_, _]) () (rc hS T.t68 rfl (rt rfl rn) rfl rfl) rfl (hS.to [] rfl)
    · have h := sel_f hb h
      refine .skip ?_
      refine .seq ?_
      refine .region ?_
      refine .r (ld T.t68 hS rfl rfl rfl rfl rfl) ?_ rfl rfl
      refine .c (.st T.t68 hS.p1 rfl rfl rfl ?_ rfl rfl rfl rfl rfl)
      intro W hS
      refine .p rfl rfl rfl ?_
      refine .nil ?_
      refine .ret ?_
      cases h
      exact fin_ret (vs := [_, _]) () (rc hS T.t68 rfl (rt rfl rn) rfl rfl) rfl (hS.to [] rfl)
theorem spec_Unsigned_ok {a0 : Int} {w : World} {r : Int} (h : spec_Unsigned a0 = some r) : Calls Tryd.prog 66 #[.int .i64 a0] w (Ret No w (fun s : Unit => .int .i64 r) (fun s => [])) := by
  unfold spec_Unsigned at h
  refine enter Tryd.func66 rfl rfl ?_
  have hS := Sep.start w
  refine .seq ?_
  refine .region ?_
  refine .p rfl rfl rfl ?_
  refine .nil ?_
  refine .seq ?_
  refine .seq ?_
  refine .region ?_
  refine .p rfl rfl rfl ?_
  obtain ⟨y1, hy1, h⟩ := bnd h
  refine .c (.call0 hS Tryd.func63 (spec_WordValid_ok hy1) rfl rfl ?_ rfl (by kernel_rfl) rfl rfl)
  intro W hS
  refine .p rfl rfl rfl ?_
  refine .nil ?_
  refine .cond rfl (fun hb => ?_) (fun hb => ?_)
  · have h := sel_t hb h
    refine .seq ?_
    refine .region ?_
    refine .p rfl rfl rfl ?_
    refine .nil ?_
    refine .ret ?_
    cases h
    exact fin_ret (vs := [_]) () (rt rfl rn) rfl (hS.to [] rfl)
  · have h := sel_f hb h
    refine .skip ?_
    refine .seq ?_
    refine .seq ?_
    refine .region ?_
    refine .p rfl rfl rfl ?_
    refine .p rfl rfl rfl ?_
    refine .nil ?_
    refine .cond rfl (fun hb => ?_) (fun hb => ?_)
    · have h := sel_t hb h
      refine .seq ?_
      refine .region ?_
      refine .p rfl rfl rfl ?_
      refine .p rfl rfl rfl ?_
      refine .p rfl rfl rfl ?_
      refine .nil ?_
      refine .ret ?_
      cases h
      exact fin_ret (vs := [_]) () (rt rfl rn) rfl (hS.to [] rfl)
    · have h := sel_f hb h
      refine .skip ?_
      refine .seq ?_
      refine .region ?_
      refine .p rfl rfl rfl ?_
      refine .p rfl rfl rfl ?_
      refine .nil ?_
      refine .ret ?_
      cases h
      exact fin_ret (vs := [_]) () (rt rfl rn) rfl (hS.to [] rfl)
theorem spec_Wrap_ok {a0 : Int} {w : World} {r : Int} (h : spec_Wrap a0 = some r) : Calls Tryd.prog 44 #[.int .i64 a0] w (Ret No w (fun s : Unit => .int .i64 r) (fun s => [])) := by
  unfold spec_Wrap at h
  refine enter Tryd.func44 rfl rfl ?_
  have hS := Sep.start w
  refine .seq ?_
  refine .region ?_
  refine .p rfl rfl rfl ?_
  refine .nil ?_
  refine .seq ?_
  refine .region ?_
  refine .p rfl rfl rfl ?_
  refine .p rfl rfl rfl ?_
  refine .p rfl rfl rfl ?_
  refine .nil ?_
  refine .seq ?_
  refine .seq ?_
  refine .region ?_
  refine .p rfl rfl rfl ?_
  refine .p rfl rfl rfl ?_
  refine .nil ?_
  refine .cond rfl (fun hb => ?_) (fun hb => ?_)
  · have h := sel_t hb h
    refine .seq ?_
    refine .region ?_
    refine .p rfl rfl rfl ?_
    refine .p rfl rfl rfl ?_
    refine .p rfl rfl rfl ?_
    refine .nil ?_
    refine .ret ?_
    cases h
    exact fin_ret (vs := [_]) () (rt rfl rn) rfl (hS.to [] rfl)
  · have h := sel_f hb h
    refine .skip ?_
    refine .seq ?_
    refine .seq ?_
    refine .region ?_
    refine .p rfl rfl rfl ?_
    refine .p rfl rfl rfl ?_
    refine .nil ?_
    refine .cond rfl (fun hb => ?_) (fun hb => ?_)
    · have h := sel_t hb h
      refine .seq ?_
      refine .region ?_
      refine .p rfl rfl rfl ?_
      refine .p rfl rfl rfl ?_
      refine .p rfl rfl rfl ?_
      refine .nil ?_
      refine .ret ?_
      cases h
      exact fin_ret (vs := [_]) () (rt rfl rn) rfl (hS.to [] rfl)
    · have h := sel_f hb h
      refine .skip ?_
      refine .seq ?_
      refine .region ?_
      refine .p rfl rfl rfl ?_
      refine .p rfl rfl rfl ?_
      refine .nil ?_
      refine .ret ?_
      cases h
      exact fin_ret (vs := [_]) () (rt rfl rn) rfl (hS.to [] rfl)
theorem spec_l44Set_ok {a0 : Machine} {a1 : Int} {a2 : Int} {v_0_Regs : Hd} {v_0_Mem : Hd} {g_0 : Nat} {S : Nat → Prop} {w : World} {r : (List Int)} (h : spec_l44Set a0 a1 a2 = some r) (q_0_Mem : RV w (Old S w) (sv v_0_Mem) 3 1 (D.int .i64) a0.Mem) (hO : Owns w [rowV (sv v_0_Regs) 3 1 (D.int .i64) a0.Regs, .box g_0 26 [(sv v_0_Regs), .int .i64 a0.Pc, (sv v_0_Mem)]] S) (hlt : ∀ b, S b → b < w.heap.size) : Calls Tryd.prog 94 #[.pointer (some ⟨g_0, 0, none⟩), .int .i64 a1, .int .i64 a2] w (Ret S w (fun s : Hd => .tuple #[]) (fun s => [.box g_0 26 [(sv s), .int .i64 a0.Pc, (sv v_0_Mem)], rowV (sv s) 3 1 (D.int .i64) r])) := by
  unfold spec_l44Set at h
  refine enter Tryd.func94 rfl rfl ?_
  have hS := Sep.startM hO hlt
  refine .seq ?_
  refine .region ?_
  refine .p rfl rfl rfl ?_
  refine .p rfl rfl rfl ?_
  refine .nil ?_
  refine .cond rfl (fun hb => ?_) (fun hb => ?_)
  · have h := sel_t hb h
    refine .region ?_
    refine .p rfl rfl rfl ?_
    refine .p rfl rfl rfl ?_
    refine .r (fa T.f26_0 rfl rfl rfl) ?_ rfl rfl
    refine .r (ld T.t22 hS.p1 rfl rfl rfl rfl rfl) ?_ rfl rfl
    refine .p rfl rfl rfl ?_
    refine .p rfl rfl rfl ?_
    obtain ⟨x1, hx1, h⟩ := bnd h
    refine .r (ixv hS.lendv hx1 T.u22 T.t3 rfl rfl rfl) ?_ rfl rfl
    obtain ⟨r1, hr1, h⟩ := bnd h
    refine .c (.sev hr1 hx1 hS T.t3 rfl rfl rfl rfl rfl rfl ?_ rfl rfl rfl rfl rfl rfl)
    intro W hS
    refine .nil ?_
    cases h
    exact fin_ret (vs := []) v_0_Regs (rn) rfl (hS.to [1, 0] rfl)
  · have h := sel_f hb h
    refine .skip ?_
    cases h
    exact fin_ret (vs := []) v_0_Regs (rn) rfl (hS.to [1, 0] rfl)
theorem spec_l44Load_ok {a0 : Machine} {a1 : Instr} {v_0_Regs : Hd} {v_0_Mem : Hd} {g_0 : Nat} {S : Nat → Prop} {w : World} {r : Bool × (List Int) × Int × (List Int)} (h : spec_l44Load a0 a1 = some r) (hO : Owns w [rowV (sv v_0_Regs) 3 1 (D.int .i64) a0.Regs, rowV (sv v_0_Mem) 3 1 (D.int .i64) a0.Mem, .box g_0 26 [(sv v_0_Regs), .int .i64 a0.Pc, (sv v_0_Mem)]] S) (hlt : ∀ b, S b → b < w.heap.size) : Calls Tryd.prog 92 #[.pointer (some ⟨g_0, 0, none⟩), .agg #[.int .i64 a1.Op, .int .i64 a1.Rd, .int .i64 a1.Rs, .int .i64 a1.Rt, .int .i64 a1.Imm]] w (Ret S w (fun s : Hd × Hd => .bool r.1) (fun s => [.box g_0 26 [(sv s.1), .int .i64 r.2.2.1, (sv s.2)], rowV (sv s.1) 3 1 (D.int .i64) r.2.1, rowV (sv s.2) 3 1 (D.int .i64) r.2.2.2])) := by
  unfold spec_l44Load at h
  refine enter Tryd.func92 rfl rfl ?_
  have hS := Sep.startM hO hlt
  refine .seq ?_
  refine .region ?_
  refine .c (.box hS rfl rfl ?_ rfl rfl)
  intro g1 W hS
  refine .p rfl rfl rfl ?_
  refine .nil ?_
  refine .seq ?_
  refine .rk 13 hS [0, 0, 0, 0] T.mix ?_
  intro W hS
  have hT : Sep _ _ W [.box g1 68 [.int .i64 a1.Op, .int .i64 a1.Rd, .int .i64 a1.Rs, .int .i64 a1.Rt, .int .i64 a1.Imm], rowV (sv v_0_Regs) 3 1 (D.int .i64) a0.Regs, rowV (sv v_0_Mem) 3 1 (D.int .i64) a0.Mem, .box g_0 26 [(sv v_0_Regs), .int .i64 a0.Pc, (sv v_0_Mem)]] := hS.to [0, 0, 0, 0] rfl
  refine .t1 0 rfl (fun W hT => pr rfl) hT ?_ (by kernel_rfl) rfl rfl
  refine .t1 1 rfl (fun W hT => pr rfl) hT ?_ (by kernel_rfl) rfl rfl
  refine .t1 2 rfl (fun W hT => fa T.f26_0 rfl rfl rfl) hT ?_ (by kernel_rfl) rfl rfl
  refine .t1 3 rfl (fun W hT => ld T.t22 hT.p3 rfl rfl rfl rfl rfl) hT ?_ (by kernel_rfl) rfl rfl
  refine .t1 4 rfl (fun W hT => fa T.f68_2 rfl rfl rfl) hT ?_ (by kernel_rfl) rfl rfl
  refine .t1 5 rfl (fun W hT => ld T.t3 hT rfl rfl rfl rfl rfl) hT ?_ (by kernel_rfl) rfl rfl
  obtain ⟨x1, hx1, h⟩ := bnd h
  refine .t1 6 rfl (fun W hT => ixv hS.p1.lendv hx1 T.u22 T.t3 rfl rfl rfl) hT ?_ (by kernel_rfl) rfl rfl
  refine .t1 7 rfl (fun W hT => lde (RV.flat hT.p1.lendv hx1 rfl) T.t3 rfl rfl rfl rfl rfl) hT ?_ (by kernel_rfl) rfl rfl
  refine .t1 8 rfl (fun W hT => fa T.f68_4 rfl rfl rfl) hT ?_ (by kernel_rfl) rfl rfl
  refine .t1 9 rfl (fun W hT => ld T.t3 hT rfl rfl rfl rfl rfl) hT ?_ (by kernel_rfl) rfl rfl
  refine .t1 10 rfl (fun W hT => pr rfl) hT ?_ (by kernel_rfl) rfl rfl
  obtain ⟨y1, hy1, h⟩ := bnd h
  refine .by1 11 rfl (.call0 hS Tryd.func44 (spec_Wrap_ok hy1) rfl rfl ?_ rfl (by kernel_rfl) rfl rfl) (by kernel_rfl)
  intro W hS
  have hT : Sep _ _ W [.box g1 68 [.int .i64 a1.Op, .int .i64 a1.Rd, .int .i64 a1.Rs, .int .i64 a1.Rt, .int .i64 a1.Imm], rowV (sv v_0_Regs) 3 1 (D.int .i64) a0.Regs, rowV (sv v_0_Mem) 3 1 (D.int .i64) a0.Mem, .box g_0 26 [(sv v_0_Regs), .int .i64 a0.Pc, (sv v_0_Mem)]] := hS.to [0, 0, 0, 0] rfl
  refine ⟨fun _ => hT, ?_⟩
  refine .t1 12 rfl (fun W hT => pr rfl) hT ?_ (by kernel_rfl) rfl rfl
  refine .done ?_ (by kernel_rfl)
  refine .seq ?_
  refine .seq ?_
  refine .region ?_
  refine .p rfl rfl rfl ?_
  refine .p rfl rfl rfl ?_
  refine .r (fa T.f26_2 rfl rfl rfl) ?_ rfl rfl
  refine .r (ld T.t22 hS.p3 rfl rfl rfl rfl rfl) ?_ rfl rfl
  refine .p rfl rfl rfl ?_
  obtain ⟨y2, hy2, h⟩ := bnd h
  refine .c (.call0 hS Tryd.func64 (spec_l44Word_ok hy2 hS.p2.lendv) rfl rfl ?_ rfl (by kernel_rfl) rfl rfl)
  intro W hS
  refine .p rfl rfl rfl ?_
  refine .nil ?_
  refine .cond rfl (fun hb => ?_) (fun hb => ?_)
  · have h := sel_t hb h
    refine .seq ?_
    refine .region ?_
    refine .p rfl rfl rfl ?_
    refine .nil ?_
    refine .ret ?_
    cases h
    exact fin_ret (vs := [_]) (v_0_Regs, v_0_Mem) (rt rfl rn) rfl (hS.to [3, 1, 1] rfl)
  · have h := sel_f hb h
    refine .skip ?_
    obtain ⟨y3, hy3, h⟩ := bnd h
    refine .seq (CW.via (R' := fun x E' W' => x = .normal ∧ ∃ (v1 : Hd), SubL E' [(0, .pointer (some ⟨g_0, 0, none⟩))] ∧ Sep S w W' [.box g1 68 [.int .i64 a1.Op, .int .i64 a1.Rd, .int .i64 a1.Rs, .int .i64 a1.Rt, .int .i64 a1.Imm], rowV (sv v_0_Mem) 3 1 (D.int .i64) y3.2, .box g_0 26 [(sv v1), .int .i64 a0.Pc, (sv v_0_Mem)], rowV (sv v1) 3 1 (D.int .i64) y3.1]) ?_ ?_)
    · have h := hy3
      refine .seq ?_
      refine .region ?_
      refine .r (fa T.f68_0 rfl rfl rfl) ?_ rfl rfl
      refine .r (ld T.t3 hS rfl rfl rfl rfl rfl) ?_ rfl rfl
      refine .p rfl rfl rfl ?_
      refine .nil ?_
      refine .cond rfl (fun hb => ?_) (fun hb => ?_)
      · have h := sel_t hb h
        refine .rk 12 hS [0, 1] T.mix ?_
        intro W hS
        have hT : Sep _ _ W [.box g1 68 [.int .i64 a1.Op, .int .i64 a1.Rd, .int .i64 a1.Rs, .int .i64 a1.Rt, .int .i64 a1.Imm], rowV (sv v_0_Mem) 3 1 (D.int .i64) a0.Mem] := hS.to [0, 1] rfl
        refine .t1 0 rfl (fun W hT => pr rfl) hT ?_ (by kernel_rfl) rfl rfl
        refine .t1 1 rfl (fun W hT => fa T.f68_1 rfl rfl rfl) hT ?_ (by kernel_rfl) rfl rfl
        refine .t1 2 rfl (fun W hT => ld T.t3 hT rfl rfl rfl rfl rfl) hT ?_ (by kernel_rfl) rfl rfl
        refine .t1 3 rfl (fun W hT => pr rfl) hT ?_ (by kernel_rfl) rfl rfl
        refine .t1 4 rfl (fun W hT => pr rfl) hT ?_ (by kernel_rfl) rfl rfl
        refine .t1 5 rfl (fun W hT => fa T.f26_2 rfl rfl rfl) hT ?_ (by kernel_rfl) rfl rfl
        refine .t1 7 rfl (fun W hT => pr rfl) hT ?_ (by kernel_rfl) rfl rfl
        refine .t1 8 rfl (fun W hT => pr rfl) hT ?_ (by kernel_rfl) rfl rfl
        refine .by1 6 rfl (.runs (ld T.t22 hS.p3 rfl rfl rfl rfl rfl) rfl rfl ?_) (by kernel_rfl)
        have hT : Sep _ _ W [.box g1 68 [.int .i64 a1.Op, .int .i64 a1.Rd, .int .i64 a1.Rs, .int .i64 a1.Rt, .int .i64 a1.Imm], rowV (sv v_0_Mem) 3 1 (D.int .i64) a0.Mem] := hS.to [0, 1] rfl
        refine ⟨fun _ => hT, ?_⟩
        obtain ⟨x2, hx2, h⟩ := bnd h
        refine .t1 9 rfl (fun W hT => ixv hS.p2.lendv hx2 T.u22 T.t3 rfl rfl rfl) hT ?_ (by kernel_rfl) rfl rfl
        refine .t1 10 rfl (fun W hT => lde (RV.flat hT.p1.lendv hx2 rfl) T.t3 rfl rfl rfl rfl rfl) hT ?_ (by kernel_rfl) rfl rfl
        obtain ⟨y4, hy4, h⟩ := bnd h
        have hS := hS.p3
        have hS := hS.p2
        refine .by1 11 rfl (.callS2 (L0 := [rowV (sv v_0_Regs) 3 1 (D.int .i64) a0.Regs, .box g_0 26 [(sv v_0_Regs), .int .i64 a0.Pc, (sv v_0_Mem)]]) hS Tryd.func94 (fun S h1 h2 h3 => (spec_l44Set_ok hy4 (h3.rdv (k := 1) rfl) h2 (fun b hb => (h1 b hb).2))) rfl rfl ?_ rfl (by kernel_rfl) rfl rfl) (by kernel_rfl)
        rintro v2 W hS
        have hS : Sep _ _ W [.box g_0 26 [(sv v2), .int .i64 a0.Pc, (sv v_0_Mem)], rowV (sv v2) 3 1 (D.int .i64) y4, .box g1 68 [.int .i64 a1.Op, .int .i64 a1.Rd, .int .i64 a1.Rs, .int .i64 a1.Rt, .int .i64 a1.Imm], rowV (sv v_0_Mem) 3 1 (D.int .i64) a0.Mem] := hS
        have hT : Sep _ _ W [.box g1 68 [.int .i64 a1.Op, .int .i64 a1.Rd, .int .i64 a1.Rs, .int .i64 a1.Rt, .int .i64 a1.Imm], rowV (sv v_0_Mem) 3 1 (D.int .i64) a0.Mem] := hS.to [2, 2] rfl
        refine ⟨fun _ => hT, ?_⟩
        refine .done ?_ (by kernel_rfl)
        cases h
        exact ⟨rfl, v2, sb rfl, hS.to [2, 2, 0, 0] rfl⟩
      · have h := sel_f hb h
        refine .rk 15 hS [0, 0, 0, 0] T.mix ?_
        intro W hS
        have hT : Sep _ _ W [.box g1 68 [.int .i64 a1.Op, .int .i64 a1.Rd, .int .i64 a1.Rs, .int .i64 a1.Rt, .int .i64 a1.Imm], rowV (sv v_0_Regs) 3 1 (D.int .i64) a0.Regs, rowV (sv v_0_Mem) 3 1 (D.int .i64) a0.Mem, .box g_0 26 [(sv v_0_Regs), .int .i64 a0.Pc, (sv v_0_Mem)]] := hS.to [0, 0, 0, 0] rfl
        refine .t1 0 rfl (fun W hT => pr rfl) hT ?_ (by kernel_rfl) rfl rfl
        refine .t1 1 rfl (fun W hT => pr rfl) hT ?_ (by kernel_rfl) rfl rfl
        refine .t1 2 rfl (fun W hT => fa T.f26_2 rfl rfl rfl) hT ?_ (by kernel_rfl) rfl rfl
        refine .t1 3 rfl (fun W hT => ld T.t22 hT.p3 rfl rfl rfl rfl rfl) hT ?_ (by kernel_rfl) rfl rfl
        refine .t1 4 rfl (fun W hT => pr rfl) hT ?_ (by kernel_rfl) rfl rfl
        refine .t1 5 rfl (fun W hT => pr rfl) hT ?_ (by kernel_rfl) rfl rfl
        refine .t1 6 rfl (fun W hT => pr rfl) hT ?_ (by kernel_rfl) rfl rfl
        refine .t1 7 rfl (fun W hT => pr rfl) hT ?_ (by kernel_rfl) rfl rfl
        refine .t1 8 rfl (fun W hT => fa T.f26_0 rfl rfl rfl) hT ?_ (by kernel_rfl) rfl rfl
        refine .t1 9 rfl (fun W hT => ld T.t22 hT.p3 rfl rfl rfl rfl rfl) hT ?_ (by kernel_rfl) rfl rfl
        refine .t1 10 rfl (fun W hT => fa T.f68_3 rfl rfl rfl) hT ?_ (by kernel_rfl) rfl rfl
        refine .t1 11 rfl (fun W hT => ld T.t3 hT rfl rfl rfl rfl rfl) hT ?_ (by kernel_rfl) rfl rfl
        obtain ⟨x3, hx3, h⟩ := bnd h
        refine .t1 12 rfl (fun W hT => ixv hS.p1.lendv hx3 T.u22 T.t3 rfl rfl rfl) hT ?_ (by kernel_rfl) rfl rfl
        refine .t1 13 rfl (fun W hT => lde (RV.flat hT.p1.lendv hx3 rfl) T.t3 rfl rfl rfl rfl rfl) hT ?_ (by kernel_rfl) rfl rfl
        obtain ⟨x4, hx4, h⟩ := bnd h
        refine .t1 14 rfl (fun W hT => ixv hS.p2.lendv hx4 T.u22 T.t3 rfl rfl rfl) hT ?_ (by kernel_rfl) rfl rfl
        obtain ⟨r1, hr1, h⟩ := bnd h
        refine .by1 15 rfl (.sev hr1 hx4 hS.p2 T.t3 rfl rfl rfl rfl rfl rfl ?_ rfl rfl rfl rfl rfl rfl) (by kernel_rfl)
        intro W hS
        refine ⟨fun h => absurd rfl h, ?_⟩
        refine .done ?_ (by kernel_rfl)
        cases h
        exact ⟨rfl, v_0_Regs, sb rfl, hS.to [1, 0, 1, 0] rfl⟩
    · intro x E W hJ
      obtain ⟨rfl, v3, hE, hS⟩ := hJ
      refine ⟨_, hE.sub, ?_⟩
      refine .seq ?_
      refine .region ?_
      refine .p rfl rfl rfl ?_
      refine .p rfl rfl rfl ?_
      refine .p rfl rfl rfl ?_
      refine .r (fa T.f26_1 rfl rfl rfl) ?_ rfl rfl
      refine .r (ld T.t3 hS.p2 rfl rfl rfl rfl rfl) ?_ rfl rfl
      refine .p rfl rfl rfl ?_
      refine .p rfl rfl rfl ?_
      refine .r (fa T.f26_1 rfl rfl rfl) ?_ rfl rfl
      refine .c (.st T.t3 hS.p2 rfl rfl rfl ?_ rfl rfl rfl rfl rfl)
      intro W hS
      refine .nil ?_
      refine .seq ?_
      refine .region ?_
      refine .p rfl rfl rfl ?_
      refine .nil ?_
      refine .ret ?_
      cases h
      exact fin_ret (vs := [_]) (v3, v_0_Mem) (rt rfl rn) rfl (hS.to [0, 2, 1] rfl)
theorem spec_l44Jump_ok {a0 : Machine} {a1 : Instr} {v_0_Regs : Hd} {v_0_Mem : Hd} {g_0 : Nat} {S : Nat → Prop} {w : World} {r : (List Int) × Int} (h : spec_l44Jump a0 a1 = some r) (q_0_Mem : RV w (Old S w) (sv v_0_Mem) 3 1 (D.int .i64) a0.Mem) (hO : Owns w [rowV (sv v_0_Regs) 3 1 (D.int .i64) a0.Regs, .box g_0 26 [(sv v_0_Regs), .int .i64 a0.Pc, (sv v_0_Mem)]] S) (hlt : ∀ b, S b → b < w.heap.size) : Calls Tryd.prog 93 #[.pointer (some ⟨g_0, 0, none⟩), .agg #[.int .i64 a1.Op, .int .i64 a1.Rd, .int .i64 a1.Rs, .int .i64 a1.Rt, .int .i64 a1.Imm]] w (Ret S w (fun s : Hd => .tuple #[]) (fun s => [.box g_0 26 [(sv s), .int .i64 r.2, (sv v_0_Mem)], rowV (sv s) 3 1 (D.int .i64) r.1])) := by
  unfold spec_l44Jump at h
  refine enter Tryd.func93 rfl rfl ?_
  have hS := Sep.startM hO hlt
  refine .seq ?_
  refine .region ?_
  refine .c (.box hS rfl rfl ?_ rfl rfl)
  intro g1 W hS
  refine .nil ?_
  refine .seq ?_
  refine .region ?_
  refine .p rfl rfl rfl ?_
  refine .p rfl rfl rfl ?_
  refine .r (fa T.f26_1 rfl rfl rfl) ?_ rfl rfl
  refine .r (ld T.t3 hS.p2 rfl rfl rfl rfl rfl) ?_ rfl rfl
  refine .p rfl rfl rfl ?_
  obtain ⟨y1, hy1, h⟩ := bnd h
  refine .c (.call0 hS Tryd.func44 (spec_Wrap_ok hy1) rfl rfl ?_ rfl (by kernel_rfl) rfl rfl)
  intro W hS
  refine .p rfl rfl rfl ?_
  refine .nil ?_
  refine .seq ?_
  refine .rk 18 hS [0, 0, 0] T.mix ?_
  intro W hS
  have hT : Sep _ _ W [.box g1 68 [.int .i64 a1.Op, .int .i64 a1.Rd, .int .i64 a1.Rs, .int .i64 a1.Rt, .int .i64 a1.Imm], rowV (sv v_0_Regs) 3 1 (D.int .i64) a0.Regs, .box g_0 26 [(sv v_0_Regs), .int .i64 a0.Pc, (sv v_0_Mem)]] := hS.to [0, 0, 0] rfl
  refine .t1 0 rfl (fun W hT => pr rfl) hT ?_ (by kernel_rfl) rfl rfl
  refine .t1 1 rfl (fun W hT => pr rfl) hT ?_ (by kernel_rfl) rfl rfl
  refine .t1 2 rfl (fun W hT => fa T.f26_0 rfl rfl rfl) hT ?_ (by kernel_rfl) rfl rfl
  refine .t1 3 rfl (fun W hT => ld T.t22 hT.p2 rfl rfl rfl rfl rfl) hT ?_ (by kernel_rfl) rfl rfl
  refine .t1 4 rfl (fun W hT => fa T.f68_2 rfl rfl rfl) hT ?_ (by kernel_rfl) rfl rfl
  refine .t1 5 rfl (fun W hT => ld T.t3 hT rfl rfl rfl rfl rfl) hT ?_ (by kernel_rfl) rfl rfl
  obtain ⟨x1, hx1, h⟩ := bnd h
  refine .t1 6 rfl (fun W hT => ixv hS.p1.lendv hx1 T.u22 T.t3 rfl rfl rfl) hT ?_ (by kernel_rfl) rfl rfl
  refine .t1 7 rfl (fun W hT => lde (RV.flat hT.p1.lendv hx1 rfl) T.t3 rfl rfl rfl rfl rfl) hT ?_ (by kernel_rfl) rfl rfl
  refine .t1 8 rfl (fun W hT => pr rfl) hT ?_ (by kernel_rfl) rfl rfl
  refine .t1 9 rfl (fun W hT => pr rfl) hT ?_ (by kernel_rfl) rfl rfl
  refine .t1 10 rfl (fun W hT => fa T.f26_0 rfl rfl rfl) hT ?_ (by kernel_rfl) rfl rfl
  refine .t1 11 rfl (fun W hT => ld T.t22 hT.p2 rfl rfl rfl rfl rfl) hT ?_ (by kernel_rfl) rfl rfl
  refine .t1 12 rfl (fun W hT => fa T.f68_3 rfl rfl rfl) hT ?_ (by kernel_rfl) rfl rfl
  refine .t1 13 rfl (fun W hT => ld T.t3 hT rfl rfl rfl rfl rfl) hT ?_ (by kernel_rfl) rfl rfl
  obtain ⟨x2, hx2, h⟩ := bnd h
  refine .t1 14 rfl (fun W hT => ixv hS.p1.lendv hx2 T.u22 T.t3 rfl rfl rfl) hT ?_ (by kernel_rfl) rfl rfl
  refine .t1 15 rfl (fun W hT => lde (RV.flat hT.p1.lendv hx2 rfl) T.t3 rfl rfl rfl rfl rfl) hT ?_ (by kernel_rfl) rfl rfl
  refine .t1 16 rfl (fun W hT => pr rfl) hT ?_ (by kernel_rfl) rfl rfl
  refine .t1 17 rfl (fun W hT => pr rfl) hT ?_ (by kernel_rfl) rfl rfl
  refine .done ?_ (by kernel_rfl)
  refine .block ?_
  refine .seq ?_
  refine .region ?_
  refine .r (fa T.f68_0 rfl rfl rfl) ?_ rfl rfl
  refine .r (ld T.t3 hS rfl rfl rfl rfl rfl) ?_ rfl rfl
  refine .p rfl rfl rfl ?_
  refine .p rfl rfl rfl ?_
  refine .nil ?_
  refine .cond rfl (fun hb => ?_) (fun hb => ?_)
  · have h := sel_t hb h
    refine .seq ?_
    refine .rk 13 hS [0, 0, 0] T.mix ?_
    intro W hS
    have hT : Sep _ _ W [.box g1 68 [.int .i64 a1.Op, .int .i64 a1.Rd, .int .i64 a1.Rs, .int .i64 a1.Rt, .int .i64 a1.Imm], rowV (sv v_0_Regs) 3 1 (D.int .i64) a0.Regs, .box g_0 26 [(sv v_0_Regs), .int .i64 a0.Pc, (sv v_0_Mem)]] := hS.to [0, 0, 0] rfl
    refine .t1 0 rfl (fun W hT => pr rfl) hT ?_ (by kernel_rfl) rfl rfl
    refine .t1 1 rfl (fun W hT => pr rfl) hT ?_ (by kernel_rfl) rfl rfl
    refine .t1 2 rfl (fun W hT => fa T.f26_0 rfl rfl rfl) hT ?_ (by kernel_rfl) rfl rfl
    refine .t1 3 rfl (fun W hT => ld T.t22 hT.p2 rfl rfl rfl rfl rfl) hT ?_ (by kernel_rfl) rfl rfl
    refine .t1 4 rfl (fun W hT => fa T.f68_2 rfl rfl rfl) hT ?_ (by kernel_rfl) rfl rfl
    refine .t1 5 rfl (fun W hT => ld T.t3 hT rfl rfl rfl rfl rfl) hT ?_ (by kernel_rfl) rfl rfl
    obtain ⟨x3, hx3, h⟩ := bnd h
    refine .t1 6 rfl (fun W hT => ixv hS.p1.lendv hx3 T.u22 T.t3 rfl rfl rfl) hT ?_ (by kernel_rfl) rfl rfl
    refine .t1 7 rfl (fun W hT => lde (RV.flat hT.p1.lendv hx3 rfl) T.t3 rfl rfl rfl rfl rfl) hT ?_ (by kernel_rfl) rfl rfl
    refine .t1 8 rfl (fun W hT => fa T.f68_4 rfl rfl rfl) hT ?_ (by kernel_rfl) rfl rfl
    refine .t1 9 rfl (fun W hT => ld T.t3 hT rfl rfl rfl rfl rfl) hT ?_ (by kernel_rfl) rfl rfl
    refine .t1 10 rfl (fun W hT => pr rfl) hT ?_ (by kernel_rfl) rfl rfl
    obtain ⟨y2, hy2, h⟩ := bnd h
    refine .by1 11 rfl (.call0 hS Tryd.func44 (spec_Wrap_ok hy2) rfl rfl ?_ rfl (by kernel_rfl) rfl rfl) (by kernel_rfl)
    intro W hS
    have hT : Sep _ _ W [.box g1 68 [.int .i64 a1.Op, .int .i64 a1.Rd, .int .i64 a1.Rs, .int .i64 a1.Rt, .int .i64 a1.Imm], rowV (sv v_0_Regs) 3 1 (D.int .i64) a0.Regs, .box g_0 26 [(sv v_0_Regs), .int .i64 a0.Pc, (sv v_0_Mem)]] := hS.to [0, 0, 0] rfl
    refine ⟨fun _ => hT, ?_⟩
    refine .t1 12 rfl (fun W hT => pr rfl) hT ?_ (by kernel_rfl) rfl rfl
    refine .done ?_ (by kernel_rfl)
    refine .seq ?_
    refine .region ?_
    refine .p rfl rfl rfl ?_
    refine .r (fa T.f68_1 rfl rfl rfl) ?_ rfl rfl
    refine .r (ld T.t3 hS rfl rfl rfl rfl rfl) ?_ rfl rfl
    refine .p rfl rfl rfl ?_
    obtain ⟨y3, hy3, h⟩ := bnd h
    have hS := hS.p2
    have hS := hS.p2
    refine .c (.callS2 (L0 := [rowV (sv v_0_Regs) 3 1 (D.int .i64) a0.Regs, .box g_0 26 [(sv v_0_Regs), .int .i64 a0.Pc, (sv v_0_Mem)]]) hS Tryd.func94 (fun S h1 h2 h3 => (spec_l44Set_ok hy3 (hS.keepS q_0_Mem h1) h2 (fun b hb => (h1 b hb).2))) rfl rfl ?_ rfl (by kernel_rfl) rfl rfl)
    rintro v1 W hS
    have hS : Sep _ _ W [.box g_0 26 [(sv v1), .int .i64 a0.Pc, (sv v_0_Mem)], rowV (sv v1) 3 1 (D.int .i64) y3, .box g1 68 [.int .i64 a1.Op, .int .i64 a1.Rd, .int .i64 a1.Rs, .int .i64 a1.Rt, .int .i64 a1.Imm]] := hS
    refine .nil ?_
    refine .region ?_
    refine .p rfl rfl rfl ?_
    refine .p rfl rfl rfl ?_
    refine .p rfl rfl rfl ?_
    refine .p rfl rfl rfl ?_
    refine .p rfl rfl rfl ?_
    refine .p rfl rfl rfl ?_
    refine .r (fa T.f26_1 rfl rfl rfl) ?_ rfl rfl
    refine .c (.st T.t3 hS rfl rfl rfl ?_ rfl rfl rfl rfl rfl)
    intro W hS
    refine .nil ?_
    cases h
    exact fin_ret (vs := []) v1 (rn) rfl (hS.to [0, 0] rfl)
  · have h := sel_f hb h
    refine .seq ?_
    refine .region ?_
    refine .r (fa T.f68_0 rfl rfl rfl) ?_ rfl rfl
    refine .r (ld T.t3 hS rfl rfl rfl rfl rfl) ?_ rfl rfl
    refine .p rfl rfl rfl ?_
    refine .p rfl rfl rfl ?_
    refine .nil ?_
    refine .cond rfl (fun hb => ?_) (fun hb => ?_)
    · have h := sel_t hb h
      refine .seq ?_
      refine .region ?_
      refine .p rfl rfl rfl ?_
      refine .r (fa T.f68_1 rfl rfl rfl) ?_ rfl rfl
      refine .r (ld T.t3 hS rfl rfl rfl rfl rfl) ?_ rfl rfl
      refine .p rfl rfl rfl ?_
      obtain ⟨y4, hy4, h⟩ := bnd h
      have hS := hS.p2
      have hS := hS.p2
      refine .c (.callS2 (L0 := [rowV (sv v_0_Regs) 3 1 (D.int .i64) a0.Regs, .box g_0 26 [(sv v_0_Regs), .int .i64 a0.Pc, (sv v_0_Mem)]]) hS Tryd.func94 (fun S h1 h2 h3 => (spec_l44Set_ok hy4 (hS.keepS q_0_Mem h1) h2 (fun b hb => (h1 b hb).2))) rfl rfl ?_ rfl (by kernel_rfl) rfl rfl)
      rintro v2 W hS
      have hS : Sep _ _ W [.box g_0 26 [(sv v2), .int .i64 a0.Pc, (sv v_0_Mem)], rowV (sv v2) 3 1 (D.int .i64) y4, .box g1 68 [.int .i64 a1.Op, .int .i64 a1.Rd, .int .i64 a1.Rs, .int .i64 a1.Rt, .int .i64 a1.Imm]] := hS
      refine .nil ?_
      refine .rk 11 hS [0, 0, 0] T.mix ?_
      intro W hS
      have hT : Sep _ _ W [.box g_0 26 [(sv v2), .int .i64 a0.Pc, (sv v_0_Mem)], rowV (sv v2) 3 1 (D.int .i64) y4, .box g1 68 [.int .i64 a1.Op, .int .i64 a1.Rd, .int .i64 a1.Rs, .int .i64 a1.Rt, .int .i64 a1.Imm]] := hS.to [0, 0, 0] rfl
      refine .t1 0 rfl (fun W hT => pr rfl) hT ?_ (by kernel_rfl) rfl rfl
      refine .t1 1 rfl (fun W hT => pr rfl) hT ?_ (by kernel_rfl) rfl rfl
      refine .t1 2 rfl (fun W hT => pr rfl) hT ?_ (by kernel_rfl) rfl rfl
      refine .t1 3 rfl (fun W hT => fa T.f26_1 rfl rfl rfl) hT ?_ (by kernel_rfl) rfl rfl
      refine .t1 4 rfl (fun W hT => ld T.t3 hT rfl rfl rfl rfl rfl) hT ?_ (by kernel_rfl) rfl rfl
      refine .t1 5 rfl (fun W hT => fa T.f68_4 rfl rfl rfl) hT ?_ (by kernel_rfl) rfl rfl
      refine .t1 6 rfl (fun W hT => ld T.t3 hT.p2 rfl rfl rfl rfl rfl) hT ?_ (by kernel_rfl) rfl rfl
      refine .t1 7 rfl (fun W hT => pr rfl) hT ?_ (by kernel_rfl) rfl rfl
      obtain ⟨y5, hy5, h⟩ := bnd h
      refine .by1 8 rfl (.call0 hS Tryd.func44 (spec_Wrap_ok hy5) rfl rfl ?_ rfl (by kernel_rfl) rfl rfl) (by kernel_rfl)
      intro W hS
      have hT : Sep _ _ W [.box g_0 26 [(sv v2), .int .i64 a0.Pc, (sv v_0_Mem)], rowV (sv v2) 3 1 (D.int .i64) y4, .box g1 68 [.int .i64 a1.Op, .int .i64 a1.Rd, .int .i64 a1.Rs, .int .i64 a1.Rt, .int .i64 a1.Imm]] := hS.to [0, 0, 0] rfl
      refine ⟨fun _ => hT, ?_⟩
      refine .by1 9 rfl (.runs (pr rfl) rfl rfl ?_) (by kernel_rfl)
      have hT : Sep _ _ W [.box g_0 26 [(sv v2), .int .i64 a0.Pc, (sv v_0_Mem)], rowV (sv v2) 3 1 (D.int .i64) y4, .box g1 68 [.int .i64 a1.Op, .int .i64 a1.Rd, .int .i64 a1.Rs, .int .i64 a1.Rt, .int .i64 a1.Imm]] := hS.to [0, 0, 0] rfl
      refine ⟨fun _ => hT, ?_⟩
      refine .t1 10 rfl (fun W hT => fa T.f26_1 rfl rfl rfl) hT ?_ (by kernel_rfl) rfl rfl
      refine .by1 11 rfl (.st T.t3 hS rfl rfl rfl ?_ rfl rfl rfl rfl rfl) (by kernel_rfl)
      intro W hS
      refine ⟨fun h => absurd rfl h, ?_⟩
      refine .done ?_ (by kernel_rfl)
      cases h
      exact fin_ret (vs := []) v2 (rn) rfl (hS.to [0, 0] rfl)
    · have h := sel_f hb h
      refine .seq ?_
      refine .region ?_
      refine .p rfl rfl rfl ?_
      refine .r (fa T.f68_0 rfl rfl rfl) ?_ rfl rfl
      refine .r (ld T.t3 hS rfl rfl rfl rfl rfl) ?_ rfl rfl
      refine .p rfl rfl rfl ?_
      refine .r (eqb T.u4 rfl rfl rfl) ?_ rfl rfl
      refine .p rfl rfl rfl ?_
      refine .nil ?_
      refine .cond rfl (fun hb => ?_) (fun hb => ?_)
      · have h := sel_t hb h
        refine .rk 11 hS [0, 0, 0] T.mix ?_
        intro W hS
        have hT : Sep _ _ W [.box g1 68 [.int .i64 a1.Op, .int .i64 a1.Rd, .int .i64 a1.Rs, .int .i64 a1.Rt, .int .i64 a1.Imm], rowV (sv v_0_Regs) 3 1 (D.int .i64) a0.Regs, .box g_0 26 [(sv v_0_Regs), .int .i64 a0.Pc, (sv v_0_Mem)]] := hS.to [0, 0, 0] rfl
        refine .t1 0 rfl (fun W hT => pr rfl) hT ?_ (by kernel_rfl) rfl rfl
        refine .t1 1 rfl (fun W hT => pr rfl) hT ?_ (by kernel_rfl) rfl rfl
        refine .t1 2 rfl (fun W hT => pr rfl) hT ?_ (by kernel_rfl) rfl rfl
        refine .t1 3 rfl (fun W hT => fa T.f26_1 rfl rfl rfl) hT ?_ (by kernel_rfl) rfl rfl
        refine .t1 4 rfl (fun W hT => ld T.t3 hT.p2 rfl rfl rfl rfl rfl) hT ?_ (by kernel_rfl) rfl rfl
        refine .t1 5 rfl (fun W hT => fa T.f68_4 rfl rfl rfl) hT ?_ (by kernel_rfl) rfl rfl
        refine .t1 6 rfl (fun W hT => ld T.t3 hT rfl rfl rfl rfl rfl) hT ?_ (by kernel_rfl) rfl rfl
        refine .t1 7 rfl (fun W hT => pr rfl) hT ?_ (by kernel_rfl) rfl rfl
        obtain ⟨y6, hy6, h⟩ := bnd h
        refine .by1 8 rfl (.call0 hS Tryd.func44 (spec_Wrap_ok hy6) rfl rfl ?_ rfl (by kernel_rfl) rfl rfl) (by kernel_rfl)
        intro W hS
        have hT : Sep _ _ W [.box g1 68 [.int .i64 a1.Op, .int .i64 a1.Rd, .int .i64 a1.Rs, .int .i64 a1.Rt, .int .i64 a1.Imm], rowV (sv v_0_Regs) 3 1 (D.int .i64) a0.Regs, .box g_0 26 [(sv v_0_Regs), .int .i64 a0.Pc, (sv v_0_Mem)]] := hS.to [0, 0, 0] rfl
        refine ⟨fun _ => hT, ?_⟩
        refine .by1 9 rfl (.runs (pr rfl) rfl rfl ?_) (by kernel_rfl)
        have hT : Sep _ _ W [.box g1 68 [.int .i64 a1.Op, .int .i64 a1.Rd, .int .i64 a1.Rs, .int .i64 a1.Rt, .int .i64 a1.Imm], rowV (sv v_0_Regs) 3 1 (D.int .i64) a0.Regs, .box g_0 26 [(sv v_0_Regs), .int .i64 a0.Pc, (sv v_0_Mem)]] := hS.to [0, 0, 0] rfl
        refine ⟨fun _ => hT, ?_⟩
        refine .t1 10 rfl (fun W hT => fa T.f26_1 rfl rfl rfl) hT ?_ (by kernel_rfl) rfl rfl
        refine .by1 11 rfl (.st T.t3 hS.p2 rfl rfl rfl ?_ rfl rfl rfl rfl rfl) (by kernel_rfl)
        intro W hS
        refine ⟨fun h => absurd rfl h, ?_⟩
        refine .done ?_ (by kernel_rfl)
        cases h
        exact fin_ret (vs := []) v_0_Regs (rn) rfl (hS.to [0, 1] rfl)
      · have h := sel_f hb h
        refine .region ?_
        refine .p rfl rfl rfl ?_
        refine .p rfl rfl rfl ?_
        refine .p rfl rfl rfl ?_
        refine .r (fa T.f26_1 rfl rfl rfl) ?_ rfl rfl
        refine .c (.st T.t3 hS.p2 rfl rfl rfl ?_ rfl rfl rfl rfl rfl)
        intro W hS
        refine .nil ?_
        cases h
        exact fin_ret (vs := []) v_0_Regs (rn) rfl (hS.to [0, 1] rfl)
theorem spec_l2Flag_ok {a0 : Bool} {w : World} {r : Int} (h : spec_l2Flag a0 = some r) : Calls Tryd.prog 95 #[.bool a0] w (Ret No w (fun s : Unit => .int .i64 r) (fun s => [])) := by
  unfold spec_l2Flag at h
  refine enter Tryd.func95 rfl rfl ?_
  have hS := Sep.start w
  refine .seq ?_
  refine .region ?_
  refine .p rfl rfl rfl ?_
  refine .nil ?_
  refine .seq ?_
  refine .seq ?_
  refine .region ?_
  refine .p rfl rfl rfl ?_
  refine .nil ?_
  refine .cond rfl (fun hb => ?_) (fun hb => ?_)
  · have h := sel_t hb h
    refine .seq ?_
    refine .region ?_
    refine .p rfl rfl rfl ?_
    refine .nil ?_
    refine .ret ?_
    cases h
    exact fin_ret (vs := [_]) () (rt rfl rn) rfl (hS.to [] rfl)
  · have h := sel_f hb h
    refine .skip ?_
    refine .seq ?_
    refine .region ?_
    refine .p rfl rfl rfl ?_
    refine .nil ?_
    refine .ret ?_
    cases h
    exact fin_ret (vs := [_]) () (rt rfl rn) rfl (hS.to [] rfl)
theorem spec_OpValid_ok {a0 : Int} {w : World} {r : Bool} (h : spec_OpValid a0 = some r) : Calls Tryd.prog 116 #[.int .i64 a0] w (Ret No w (fun s : Unit => .bool r) (fun s => [])) := by
  unfold spec_OpValid at h
  refine enter Tryd.func116 rfl rfl ?_
  have hS := Sep.start w
  refine .seq ?_
  refine .region ?_
  refine .p rfl rfl rfl ?_
  refine .nil ?_
  refine .seq ?_
  refine .region ?_
  refine .p rfl rfl rfl ?_
  obtain ⟨y1, hy1, h⟩ := bnd h
  refine .c (.call0 hS Tryd.func24 (spec_l6In_ok hy1) rfl rfl ?_ rfl (by kernel_rfl) rfl rfl)
  intro W hS
  refine .p rfl rfl rfl ?_
  refine .nil ?_
  refine .ret ?_
  cases h
  exact fin_ret (vs := [_]) () (rt rfl rn) rfl (hS.to [] rfl)
theorem spec_l2Shift_ok {a0 : Int} {a1 : Int} {a2 : Bool} {w : World} {r : Int} (h : spec_l2Shift a0 a1 a2 = some r) : Calls Tryd.prog 117 #[.int .i64 a0, .int .i64 a1, .bool a2] w (Ret No w (fun s : Unit => .int .i64 r) (fun s => [])) := by
  unfold spec_l2Shift at h
  refine enter Tryd.func117 rfl rfl ?_
  have hS := Sep.start w
  refine .seq ?_
  refine .region ?_
  refine .p rfl rfl rfl ?_
  refine .nil ?_
  refine .seq ?_
  refine .seq ?_
  refine .region ?_
  refine .p rfl rfl rfl ?_
  refine .nil ?_
  refine .cond rfl (fun hb => ?_) (fun hb => ?_)
  · have h := sel_t hb h
    refine .seq ?_
    refine .region ?_
    refine .p rfl rfl rfl ?_
    refine .p rfl rfl rfl ?_
    refine .p rfl rfl rfl ?_
    obtain ⟨d1, hd1, h⟩ := bnd h
    refine .r (shr_run hd1 rfl rfl rfl) ?_ rfl rfl
    refine .p rfl rfl rfl ?_
    refine .nil ?_
    refine .ret ?_
    cases h
    exact fin_ret (vs := [_]) () (rt rfl rn) rfl (hS.to [] rfl)
  · have h := sel_f hb h
    refine .skip ?_
    refine .seq ?_
    refine .region ?_
    refine .p rfl rfl rfl ?_
    refine .p rfl rfl rfl ?_
    refine .p rfl rfl rfl ?_
    obtain ⟨d2, hd2, h⟩ := bnd h
    refine .r (shr_run hd2 rfl rfl rfl) ?_ rfl rfl
    obtain ⟨y1, hy1, h⟩ := bnd h
    refine .c (.call0 hS Tryd.func44 (spec_Wrap_ok hy1) rfl rfl ?_ rfl (by kernel_rfl) rfl rfl)
    intro W hS
    refine .p rfl rfl rfl ?_
    refine .nil ?_
    refine .ret ?_
    cases h
    exact fin_ret (vs := [_]) () (rt rfl rn) rfl (hS.to [] rfl)
theorem spec_l2Divide_ok {a0 : Int} {a1 : Int} {w : World} {r : Int} (h : spec_l2Divide a0 a1 = some r) : Calls Tryd.prog 118 #[.int .i64 a0, .int .i64 a1] w (Ret No w (fun s : Unit => .int .i64 r) (fun s => [])) := by
  unfold spec_l2Divide at h
  refine enter Tryd.func118 rfl rfl ?_
  have hS := Sep.start w
  refine .seq ?_
  refine .region ?_
  refine .p rfl rfl rfl ?_
  refine .nil ?_
  refine .seq ?_
  refine .seq ?_
  refine .region ?_
  refine .p rfl rfl rfl ?_
  refine .p rfl rfl rfl ?_
  refine .nil ?_
  refine .cond rfl (fun hb => ?_) (fun hb => ?_)
  · have h := sel_t hb h
    refine .seq ?_
    refine .region ?_
    refine .p rfl rfl rfl ?_
    refine .nil ?_
    refine .ret ?_
    cases h
    exact fin_ret (vs := [_]) () (rt rfl rn) rfl (hS.to [] rfl)
  · have h := sel_f hb h
    refine .skip ?_
    refine .seq ?_
    refine .region ?_
    refine .p rfl rfl rfl ?_
    refine .p rfl rfl rfl ?_
    obtain ⟨d1, hd1, h⟩ := bnd h
    refine .r (dq hd1 rfl rfl rfl) ?_ rfl rfl
    obtain ⟨y1, hy1, h⟩ := bnd h
    refine .c (.call0 hS Tryd.func44 (spec_Wrap_ok hy1) rfl rfl ?_ rfl (by kernel_rfl) rfl rfl)
    intro W hS
    refine .p rfl rfl rfl ?_
    refine .nil ?_
    refine .ret ?_
    cases h
    exact fin_ret (vs := [_]) () (rt rfl rn) rfl (hS.to [] rfl)
theorem spec_l2Remain_ok {a0 : Int} {a1 : Int} {w : World} {r : Int} (h : spec_l2Remain a0 a1 = some r) : Calls Tryd.prog 119 #[.int .i64 a0, .int .i64 a1] w (Ret No w (fun s : Unit => .int .i64 r) (fun s => [])) := by
  unfold spec_l2Remain at h
  refine enter Tryd.func119 rfl rfl ?_
  have hS := Sep.start w
  refine .seq ?_
  refine .region ?_
  refine .p rfl rfl rfl ?_
  refine .nil ?_
  refine .seq ?_
  refine .seq ?_
  refine .region ?_
  refine .p rfl rfl rfl ?_
  refine .p rfl rfl rfl ?_
  refine .nil ?_
  refine .cond rfl (fun hb => ?_) (fun hb => ?_)
  · have h := sel_t hb h
    refine .seq ?_
    refine .region ?_
    refine .p rfl rfl rfl ?_
    refine .p rfl rfl rfl ?_
    refine .nil ?_
    refine .ret ?_
    cases h
    exact fin_ret (vs := [_]) () (rt rfl rn) rfl (hS.to [] rfl)
  · have h := sel_f hb h
    refine .skip ?_
    refine .seq ?_
    refine .region ?_
    refine .p rfl rfl rfl ?_
    refine .p rfl rfl rfl ?_
    obtain ⟨d1, hd1, h⟩ := bnd h
    refine .r (dr hd1 rfl rfl rfl) ?_ rfl rfl
    refine .p rfl rfl rfl ?_
    refine .nil ?_
    refine .ret ?_
    cases h
    exact fin_ret (vs := [_]) () (rt rfl rn) rfl (hS.to [] rfl)
end Go.Proofs.YtdohklfimhkicaaDoor.N
