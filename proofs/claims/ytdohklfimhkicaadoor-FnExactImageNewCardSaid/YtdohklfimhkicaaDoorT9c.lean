/- Printed by a program of mine: that the program's functions compute it. -/
import Derived.Test.YtdohklfimhkicaaDoorT9
import Derived.Test.YtdohklfimhkicaaDoorT9a
import Derived.Test.YtdohklfimhkicaaDoorT9b
set_option linter.unusedVariables false
set_option maxRecDepth 100000
set_option maxHeartbeats 4000000
namespace Go.Proofs.YtdohklfimhkicaaDoor.N
open Go.Proofs.YtdohklfimhkicaaDoor.X
theorem laws_eqInstrS_ok {a0 : List Instr} {a1 : List Instr} {v_0 : Hd} {v_1 : Hd} {w : World} {r : Bool} (h : laws_eqInstrS a0 a1 = some r) (q_0 : RV w (Old No w) (sv v_0) 68 5 dInstr a0) (q_1 : RV w (Old No w) (sv v_1) 68 5 dInstr a1) : Calls Tryd.prog 33 #[(sv v_0), (sv v_1)] w (Ret No w (fun s : Unit => .bool r) (fun s => [])) := by
  unfold laws_eqInstrS at h
  refine enter Tryd.func33 rfl rfl ?_
  have hS := Sep.start w
  refine .seq ?_
  refine .region ?_
  refine .p rfl rfl rfl ?_
  refine .nil ?_
  refine .seq ?_
  refine .seq ?_
  refine .region ?_
  refine .p rfl rfl rfl ?_
  refine .r (lenv (hS.keep q_0) T.u51 rfl rfl) ?_ rfl rfl
  refine .p rfl rfl rfl ?_
  refine .r (lenv (hS.keep q_1) T.u51 rfl rfl) ?_ rfl rfl
  refine .p rfl rfl rfl ?_
  refine .nil ?_
  refine .cond rfl (fun hb => ?_) (fun hb => ?_)
  · have h := sel_t hb h
    refine .seq ?_
    refine .region ?_
    refine .p rfl rfl rfl ?_
    refine .nil ?_
    refine .ret ?_
    cases h
    exact fin_ret (vs := [_]) () (rt rfl rn) rfl (hS.to [] rfl)
  · have h := sel_f hb h
    refine .skip ?_
    refine .seq ?_
    refine .seq ?_
    refine .region ?_
    refine .p rfl rfl rfl ?_
    refine .nil ?_
    refine .block ?_
    obtain ⟨y1, hy1, h⟩ := bnd h
    refine .via (.iter (fun s1 E' W' => SubL E' [(0, (sv v_0)), (1, (sv v_1)), (5, .int .i64 s1)] ∧ Sep No w W' []) (fun y2 x E' W' => (match y2 with | .inl o1 => x = .ret ∧ laws_eqInstrS_F w o1 E' W' | .inr o2 => x = .exit 0 ∧ SubL E' [] ∧ Sep No w W' [])) hy1 ⟨sb rfl, hS.to [] rfl⟩ ?_) ?_
    · intro s1 y3 E W h hI
      obtain ⟨hE, hS⟩ := hI
      refine CW.sub hE ?_
      unfold laws_eqInstrS_b1 at h
      refine .seq ?_
      refine .seq ?_
      refine .region ?_
      refine .p rfl rfl rfl ?_
      refine .p rfl rfl rfl ?_
      refine .r (lenv (hS.keep q_0) T.u51 rfl rfl) ?_ rfl rfl
      refine .p rfl rfl rfl ?_
      refine .nil ?_
      refine .cond rfl (fun hb => ?_) (fun hb => ?_)
      · have h := sel_t hb h
        refine .skip ?_
        refine .seq ?_
        refine .block ?_
        refine .seq ?_
        refine .rk 10 hS [] T.mix ?_
        intro W hS
        have hT : Sep _ _ W [] := hS.to [] rfl
        refine .t1 0 rfl (fun W hT => pr rfl) hT ?_ (by kernel_rfl) rfl rfl
        refine .t1 1 rfl (fun W hT => pr rfl) hT ?_ (by kernel_rfl) rfl rfl
        obtain ⟨x1, hx1, h⟩ := bnd h
        refine .t1 2 rfl (fun W hT => ixv (hS.keep q_0) hx1 T.u51 T.t68 rfl rfl rfl) hT ?_ (by kernel_rfl) rfl rfl
        refine .t1 3 rfl (fun W hT => lde (RV.flat (hT.keep q_0) hx1 rfl) T.t68 rfl rfl rfl rfl rfl) hT ?_ (by kernel_rfl) rfl rfl
        refine .t1 4 rfl (fun W hT => pr rfl) hT ?_ (by kernel_rfl) rfl rfl
        refine .t1 5 rfl (fun W hT => pr rfl) hT ?_ (by kernel_rfl) rfl rfl
        obtain ⟨x2, hx2, h⟩ := bnd h
        refine .t1 6 rfl (fun W hT => ixv (hS.keep q_1) hx2 T.u51 T.t68 rfl rfl rfl) hT ?_ (by kernel_rfl) rfl rfl
        refine .t1 7 rfl (fun W hT => lde (RV.flat (hT.keep q_1) hx2 rfl) T.t68 rfl rfl rfl rfl rfl) hT ?_ (by kernel_rfl) rfl rfl
        obtain ⟨y4, hy4, h⟩ := bnd h
        refine .by1 8 rfl (.call0 hS Tryd.func61 (laws_eqInstr_ok hy4) rfl rfl ?_ rfl (by kernel_rfl) rfl rfl) (by kernel_rfl)
        intro W hS
        have hT : Sep _ _ W [] := hS.to [] rfl
        refine ⟨fun _ => hT, ?_⟩
        refine .t1 9 rfl (fun W hT => pr rfl) hT ?_ (by kernel_rfl) rfl rfl
        refine .done ?_ (by kernel_rfl)
        refine .cond rfl (fun hb => ?_) (fun hb => ?_)
        · have h := sel_t hb h
          refine .seq ?_
          refine .region ?_
          refine .p rfl rfl rfl ?_
          refine .nil ?_
          refine .ret ?_
          cases h
          exact ⟨by simp, rfl, fin_ret (vs := [_]) () (rt rfl rn) rfl (hS.to [] rfl)⟩
        · have h := sel_f hb h
          refine .skip ?_
          refine .region ?_
          refine .p rfl rfl rfl ?_
          refine .p rfl rfl rfl ?_
          refine .p rfl rfl rfl ?_
          refine .nil ?_
          cases h
          exact ⟨rfl, sb rfl, hS.to [] rfl⟩
      · have h := sel_f hb h
        refine .exit ?_
        cases h
        exact ⟨by simp, rfl, sb rfl, hS.to [] rfl⟩
    · intro x E W hJ
      rcases y1 with o3 | o4
      · skip
        obtain ⟨rfl, hF⟩ := hJ
        refine ⟨_, fun _ _ h => h, ?_⟩
        cases h
        exact hF
      · skip
        obtain ⟨rfl, hE, hS⟩ := hJ
        refine ⟨_, hE.sub, ?_⟩
        refine .seq ?_
        refine .region ?_
        refine .p rfl rfl rfl ?_
        refine .nil ?_
        refine .ret ?_
        cases h
        exact fin_ret (vs := [_]) () (rt rfl rn) rfl (hS.to [] rfl)
def laws_eqInstrSS_F (w : World) (r : Bool) : Env → World → Prop := Fin Tryd.prog Tryd.f12 No w (fun s : Unit => .bool r) (fun s => []) .ret
theorem laws_eqInstrSS_ok {a0 : List (List Instr)} {a1 : List (List Instr)} {v_0 : Hd} {v_1 : Hd} {w : World} {r : Bool} (h : laws_eqInstrSS a0 a1 = some r) (q_0 : RV w (Old No w) (sv v_0) 51 1 (fun (l : List Instr) => D.row 68 5 (l.map dInstr)) a0) (q_1 : RV w (Old No w) (sv v_1) 51 1 (fun (l : List Instr) => D.row 68 5 (l.map dInstr)) a1) : Calls Tryd.prog 12 #[(sv v_0), (sv v_1)] w (Ret No w (fun s : Unit => .bool r) (fun s => [])) := by
  unfold laws_eqInstrSS at h
  refine enter Tryd.func12 rfl rfl ?_
  have hS := Sep.start w
  refine .seq ?_
  refine .region ?_
  refine .p rfl rfl rfl ?_
  refine .nil ?_
  refine .seq ?_
  refine .seq ?_
  refine .region ?_
  refine .p rfl rfl rfl ?_
  refine .r (lenv (hS.keep q_0) T.u30 rfl rfl) ?_ rfl rfl
  refine .p rfl rfl rfl ?_
  refine .r (lenv (hS.keep q_1) T.u30 rfl rfl) ?_ rfl rfl
  refine .p rfl rfl rfl ?_
  refine .nil ?_
  refine .cond rfl (fun hb => ?_) (fun hb => ?_)
  · have h := sel_t hb h
    refine .seq ?_
    refine .region ?_
    refine .p rfl rfl rfl ?_
    refine .nil ?_
    refine .ret ?_
    cases h
    exact fin_ret (vs := [_]) () (rt rfl rn) rfl (hS.to [] rfl)
  · have h := sel_f hb h
    refine .skip ?_
    refine .seq ?_
    refine .seq ?_
    refine .region ?_
    refine .p rfl rfl rfl ?_
    refine .nil ?_
    refine .block ?_
    obtain ⟨y1, hy1, h⟩ := bnd h
    refine .via (.iter (fun s1 E' W' => SubL E' [(0, (sv v_0)), (1, (sv v_1)), (5, .int .i64 s1)] ∧ Sep No w W' []) (fun y2 x E' W' => (match y2 with | .inl o1 => x = .ret ∧ laws_eqInstrSS_F w o1 E' W' | .inr o2 => x = .exit 0 ∧ SubL E' [] ∧ Sep No w W' [])) hy1 ⟨sb rfl, hS.to [] rfl⟩ ?_) ?_
    · intro s1 y3 E W h hI
      obtain ⟨hE, hS⟩ := hI
      refine CW.sub hE ?_
      unfold laws_eqInstrSS_b1 at h
      refine .seq ?_
      refine .seq ?_
      refine .region ?_
      refine .p rfl rfl rfl ?_
      refine .p rfl rfl rfl ?_
      refine .r (lenv (hS.keep q_0) T.u30 rfl rfl) ?_ rfl rfl
      refine .p rfl rfl rfl ?_
      refine .nil ?_
      refine .cond rfl (fun hb => ?_) (fun hb => ?_)
      · have h := sel_t hb h
        refine .skip ?_
        refine .seq ?_
        refine .block ?_
        refine .seq ?_
        refine .rk 10 hS [] T.mix ?_
        intro W hS
        have hT : Sep _ _ W [] := hS.to [] rfl
        refine .t1 0 rfl (fun W hT => pr rfl) hT ?_ (by kernel_rfl) rfl rfl
        refine .t1 1 rfl (fun W hT => pr rfl) hT ?_ (by kernel_rfl) rfl rfl
        obtain ⟨x1, hx1, h⟩ := bnd h
        obtain ⟨k1, hd, hck1⟩ := RV.el2 q_0 hx1
        obtain ⟨v1, k1, rfl, q1, hd⟩ := rrowv q_0 hd
        obtain rfl := rnil q_0 hd
        refine .t1 2 rfl (fun W hT => ixv (hS.keep q_0) hx1 T.u30 T.t51 rfl rfl rfl) hT ?_ (by kernel_rfl) rfl rfl
        refine .t1 3 rfl (fun W hT => lde (hck1 _ hT.agree) T.t51 rfl rfl rfl rfl rfl) hT ?_ (by kernel_rfl) rfl rfl
        refine .t1 4 rfl (fun W hT => pr rfl) hT ?_ (by kernel_rfl) rfl rfl
        refine .t1 5 rfl (fun W hT => pr rfl) hT ?_ (by kernel_rfl) rfl rfl
        obtain ⟨x2, hx2, h⟩ := bnd h
        obtain ⟨k2, hd, hck2⟩ := RV.el2 q_1 hx2
        obtain ⟨v2, k2, rfl, q2, hd⟩ := rrowv q_1 hd
        obtain rfl := rnil q_1 hd
        refine .t1 6 rfl (fun W hT => ixv (hS.keep q_1) hx2 T.u30 T.t51 rfl rfl rfl) hT ?_ (by kernel_rfl) rfl rfl
        refine .t1 7 rfl (fun W hT => lde (hck2 _ hT.agree) T.t51 rfl rfl rfl rfl rfl) hT ?_ (by kernel_rfl) rfl rfl
        obtain ⟨y4, hy4, h⟩ := bnd h
        refine .by1 8 rfl (.call0 hS Tryd.func33 (laws_eqInstrS_ok hy4 (hS.keep (q1 _ q_0)) (hS.keep (q2 _ q_1))) rfl rfl ?_ rfl (by kernel_rfl) rfl rfl) (by kernel_rfl)
        intro W hS
        have hT : Sep _ _ W [] := hS.to [] rfl
        refine ⟨fun _ => hT, ?_⟩
        refine .t1 9 rfl (fun W hT => pr rfl) hT ?_ (by kernel_rfl) rfl rfl
        refine .done ?_ (by kernel_rfl)
        refine .cond rfl (fun hb => ?_) (fun hb => ?_)
        · have h := sel_t hb h
          refine .seq ?_
          refine .region ?_
          refine .p rfl rfl rfl ?_
          refine .nil ?_
          refine .ret ?_
          cases h
          exact ⟨by simp, rfl, fin_ret (vs := [_]) () (rt rfl rn) rfl (hS.to [] rfl)⟩
        · have h := sel_f hb h
          refine .skip ?_
          refine .region ?_
          refine .p rfl rfl rfl ?_
          refine .p rfl rfl rfl ?_
          refine .p rfl rfl rfl ?_
          refine .nil ?_
          cases h
          exact ⟨rfl, sb rfl, hS.to [] rfl⟩
      · have h := sel_f hb h
        refine .exit ?_
        cases h
        exact ⟨by simp, rfl, sb rfl, hS.to [] rfl⟩
    · intro x E W hJ
      rcases y1 with o3 | o4
      · skip
        obtain ⟨rfl, hF⟩ := hJ
        refine ⟨_, fun _ _ h => h, ?_⟩
        cases h
        exact hF
      · skip
        obtain ⟨rfl, hE, hS⟩ := hJ
        refine ⟨_, hE.sub, ?_⟩
        refine .seq ?_
        refine .region ?_
        refine .p rfl rfl rfl ?_
        refine .nil ?_
        refine .ret ?_
        cases h
        exact fin_ret (vs := [_]) () (rt rfl rn) rfl (hS.to [] rfl)
theorem laws_markIntS_ok {a0 : List Int} {a1 : Int} {v_0 : Hd} {S : Nat → Prop} {w : World} {r : Int × (List Int)} (h : laws_markIntS a0 a1 = some r) (hO : Owns w [rowV (sv v_0) 3 1 (D.int .i64) a0] S) (hlt : ∀ b, S b → b < w.heap.size) : Calls Tryd.prog 13 #[(sv v_0), .int .i64 a1] w (Ret S w (fun s : Unit => .int .i64 r.1) (fun s => [rowV (sv v_0) 3 1 (D.int .i64) r.2])) := by
  unfold laws_markIntS at h
  refine enter Tryd.func13 rfl rfl ?_
  have hS := Sep.startM hO hlt
  refine .seq ?_
  refine .region ?_
  refine .p rfl rfl rfl ?_
  refine .nil ?_
  refine .seq ?_
  refine .seq ?_
  refine .region ?_
  refine .p rfl rfl rfl ?_
  refine .nil ?_
  refine .block ?_
  obtain ⟨y1, hy1, h⟩ := bnd h
  refine .via (.iter (fun s1 E' W' => SubL E' [(0, (sv v_0)), (1, .int .i64 s1.1), (5, .int .i64 s1.2.1)] ∧ Sep S w W' [rowV (sv v_0) 3 1 (D.int .i64) s1.2.2]) (fun y2 x E' W' => x = .exit 0 ∧ SubL E' [(1, .int .i64 y2.1)] ∧ Sep S w W' [rowV (sv v_0) 3 1 (D.int .i64) y2.2]) hy1 ⟨sb rfl, hS.to [0] rfl⟩ ?_) ?_
  · intro s1 y3 E W h hI
    obtain ⟨hE, hS⟩ := hI
    refine CW.sub hE ?_
    unfold laws_markIntS_b1 at h
    refine .seq ?_
    refine .seq ?_
    refine .region ?_
    refine .p rfl rfl rfl ?_
    refine .p rfl rfl rfl ?_
    refine .r (lenv hS.lendv T.u22 rfl rfl) ?_ rfl rfl
    refine .p rfl rfl rfl ?_
    refine .nil ?_
    refine .cond rfl (fun hb => ?_) (fun hb => ?_)
    · have h := sel_t hb h
      refine .skip ?_
      refine .seq ?_
      refine .block ?_
      refine .seq ?_
      refine .region ?_
      refine .p rfl rfl rfl ?_
      refine .p rfl rfl rfl ?_
      refine .p rfl rfl rfl ?_
      obtain ⟨x1, hx1, h⟩ := bnd h
      refine .r (ixv hS.lendv hx1 T.u22 T.t3 rfl rfl rfl) ?_ rfl rfl
      obtain ⟨r1, hr1, h⟩ := bnd h
      refine .c (.sev hr1 hx1 hS T.t3 rfl rfl rfl rfl rfl rfl ?_ rfl rfl rfl rfl rfl rfl)
      intro W hS
      refine .nil ?_
      refine .region ?_
      refine .p rfl rfl rfl ?_
      refine .p rfl rfl rfl ?_
      refine .p rfl rfl rfl ?_
      refine .nil ?_
      refine .region ?_
      refine .p rfl rfl rfl ?_
      refine .p rfl rfl rfl ?_
      refine .p rfl rfl rfl ?_
      refine .nil ?_
      cases h
      exact ⟨rfl, sb rfl, hS.to [0] rfl⟩
    · have h := sel_f hb h
      refine .exit ?_
      cases h
      exact ⟨by simp, rfl, sb rfl, hS.to [0] rfl⟩
  · intro x E W hJ
    obtain ⟨rfl, hE, hS⟩ := hJ
    refine ⟨_, hE.sub, ?_⟩
    refine .seq ?_
    refine .region ?_
    refine .p rfl rfl rfl ?_
    refine .p rfl rfl rfl ?_
    refine .nil ?_
    refine .ret ?_
    cases h
    exact fin_ret (vs := [_]) () (rt rfl rn) rfl (hS.to [0] rfl)
theorem laws_markInstrS_ok {a0 : List Instr} {a1 : Int} {v_0 : Hd} {S : Nat → Prop} {w : World} {r : Int × (List Instr)} (h : laws_markInstrS a0 a1 = some r) (hO : Owns w [rowV (sv v_0) 68 5 dInstr a0] S) (hlt : ∀ b, S b → b < w.heap.size) : Calls Tryd.prog 34 #[(sv v_0), .int .i64 a1] w (Ret S w (fun s : Unit => .int .i64 r.1) (fun s => [rowV (sv v_0) 68 5 dInstr r.2])) := by
  unfold laws_markInstrS at h
  refine enter Tryd.func34 rfl rfl ?_
  have hS := Sep.startM hO hlt
  refine .seq ?_
  refine .region ?_
  refine .p rfl rfl rfl ?_
  refine .nil ?_
  refine .seq ?_
  refine .seq ?_
  refine .region ?_
  refine .p rfl rfl rfl ?_
  refine .nil ?_
  refine .block ?_
  obtain ⟨y1, hy1, h⟩ := bnd h
  refine .via (.iter (fun s1 E' W' => SubL E' [(0, (sv v_0)), (1, .int .i64 s1.1), (5, .int .i64 s1.2.1)] ∧ Sep S w W' [rowV (sv v_0) 68 5 dInstr s1.2.2]) (fun y2 x E' W' => x = .exit 0 ∧ SubL E' [(1, .int .i64 y2.1)] ∧ Sep S w W' [rowV (sv v_0) 68 5 dInstr y2.2]) hy1 ⟨sb rfl, hS.to [0] rfl⟩ ?_) ?_
  · intro s1 y3 E W h hI
    obtain ⟨hE, hS⟩ := hI
    refine CW.sub hE ?_
    unfold laws_markInstrS_b1 at h
    refine .seq ?_
    refine .seq ?_
    refine .region ?_
    refine .p rfl rfl rfl ?_
    refine .p rfl rfl rfl ?_
    refine .r (lenv hS.lendv T.u51 rfl rfl) ?_ rfl rfl
    refine .p rfl rfl rfl ?_
    refine .nil ?_
    refine .cond rfl (fun hb => ?_) (fun hb => ?_)
    · have h := sel_t hb h
      refine .skip ?_
      refine .seq ?_
      refine .block ?_
      refine .seq ?_
      refine .region ?_
      refine .p rfl rfl rfl ?_
      refine .p rfl rfl rfl ?_
      refine .p rfl rfl rfl ?_
      obtain ⟨x1, hx1, h⟩ := bnd h
      refine .r (ixv hS.lendv hx1 T.u51 T.t68 rfl rfl rfl) ?_ rfl rfl
      refine .r (fe T.f68_0 rfl rfl rfl) ?_ rfl rfl
      obtain ⟨r1, hr1, h⟩ := bnd h
      refine .c (.sev hr1 hx1 hS T.t3 rfl rfl rfl rfl rfl rfl ?_ rfl rfl rfl rfl rfl rfl)
      intro W hS
      refine .nil ?_
      refine .seq ?_
      refine .region ?_
      refine .p rfl rfl rfl ?_
      refine .p rfl rfl rfl ?_
      refine .p rfl rfl rfl ?_
      refine .nil ?_
      refine .seq ?_
      refine .region ?_
      refine .p rfl rfl rfl ?_
      refine .p rfl rfl rfl ?_
      refine .p rfl rfl rfl ?_
      obtain ⟨x2, hx2, h⟩ := bnd h
      refine .r (ixv hS.lendv hx2 T.u51 T.t68 rfl rfl rfl) ?_ rfl rfl
      refine .r (fe T.f68_1 rfl rfl rfl) ?_ rfl rfl
      obtain ⟨r2, hr2, h⟩ := bnd h
      refine .c (.sev hr2 hx2 hS T.t3 rfl rfl rfl rfl rfl rfl ?_ rfl rfl rfl rfl rfl rfl)
      intro W hS
      refine .nil ?_
      refine .seq ?_
      refine .region ?_
      refine .p rfl rfl rfl ?_
      refine .p rfl rfl rfl ?_
      refine .p rfl rfl rfl ?_
      refine .nil ?_
      refine .seq ?_
      refine .region ?_
      refine .p rfl rfl rfl ?_
      refine .p rfl rfl rfl ?_
      refine .p rfl rfl rfl ?_
      obtain ⟨x3, hx3, h⟩ := bnd h
      refine .r (ixv hS.lendv hx3 T.u51 T.t68 rfl rfl rfl) ?_ rfl rfl
      refine .r (fe T.f68_2 rfl rfl rfl) ?_ rfl rfl
      obtain ⟨r3, hr3, h⟩ := bnd h
      refine .c (.sev hr3 hx3 hS T.t3 rfl rfl rfl rfl rfl rfl ?_ rfl rfl rfl rfl rfl rfl)
      intro W hS
      refine .nil ?_
      refine .seq ?_
      refine .region ?_
      refine .p rfl rfl rfl ?_
      refine .p rfl rfl rfl ?_
      refine .p rfl rfl rfl ?_
      refine .nil ?_
      refine .seq ?_
      refine .region ?_
      refine .p rfl rfl rfl ?_
      refine .p rfl rfl rfl ?_
      refine .p rfl rfl rfl ?_
      obtain ⟨x4, hx4, h⟩ := bnd h
      refine .r (ixv hS.lendv hx4 T.u51 T.t68 rfl rfl rfl) ?_ rfl rfl
      refine .r (fe T.f68_3 rfl rfl rfl) ?_ rfl rfl
      obtain ⟨r4, hr4, h⟩ := bnd h
      refine .c (.sev hr4 hx4 hS T.t3 rfl rfl rfl rfl rfl rfl ?_ rfl rfl rfl rfl rfl rfl)
      intro W hS
      refine .nil ?_
      refine .seq ?_
      refine .region ?_
      refine .p rfl rfl rfl ?_
      refine .p rfl rfl rfl ?_
      refine .p rfl rfl rfl ?_
      refine .nil ?_
      refine .seq ?_
      refine .region ?_
      refine .p rfl rfl rfl ?_
      refine .p rfl rfl rfl ?_
      refine .p rfl rfl rfl ?_
      obtain ⟨x5, hx5, h⟩ := bnd h
      refine .r (ixv hS.lendv hx5 T.u51 T.t68 rfl rfl rfl) ?_ rfl rfl
      refine .r (fe T.f68_4 rfl rfl rfl) ?_ rfl rfl
      obtain ⟨r5, hr5, h⟩ := bnd h
      refine .c (.sev hr5 hx5 hS T.t3 rfl rfl rfl rfl rfl rfl ?_ rfl rfl rfl rfl rfl rfl)
      intro W hS
      refine .nil ?_
      refine .region ?_
      refine .p rfl rfl rfl ?_
      refine .p rfl rfl rfl ?_
      refine .p rfl rfl rfl ?_
      refine .nil ?_
      refine .region ?_
      refine .p rfl rfl rfl ?_
      refine .p rfl rfl rfl ?_
      refine .p rfl rfl rfl ?_
      refine .nil ?_
      cases h
      exact ⟨rfl, sb rfl, hS.to [0] rfl⟩
    · have h := sel_f hb h
      refine .exit ?_
      cases h
      exact ⟨by simp, rfl, sb rfl, hS.to [0] rfl⟩
  · intro x E W hJ
    obtain ⟨rfl, hE, hS⟩ := hJ
    refine ⟨_, hE.sub, ?_⟩
    refine .seq ?_
    refine .region ?_
    refine .p rfl rfl rfl ?_
    refine .p rfl rfl rfl ?_
    refine .nil ?_
    refine .ret ?_
    cases h
    exact fin_ret (vs := [_]) () (rt rfl rn) rfl (hS.to [0] rfl)
theorem laws_markInstrSS_ok {a0 : List (List Instr)} {a1 : Int} {v_0 : Hd} {S : Nat → Prop} {w : World} {r : Int × (List (List Instr))} (h : laws_markInstrSS a0 a1 = some r) (hO : Owns w [rowV (sv v_0) 51 1 (fun (l : List Instr) => D.row 68 5 (l.map dInstr)) a0] S) (hlt : ∀ b, S b → b < w.heap.size) : Calls Tryd.prog 14 #[(sv v_0), .int .i64 a1] w (Ret S w (fun s : Unit => .int .i64 r.1) (fun s => [rowV (sv v_0) 51 1 (fun (l : List Instr) => D.row 68 5 (l.map dInstr)) r.2])) := by
  unfold laws_markInstrSS at h
  refine enter Tryd.func14 rfl rfl ?_
  have hS := Sep.startM hO hlt
  refine .seq ?_
  refine .region ?_
  refine .p rfl rfl rfl ?_
  refine .nil ?_
  refine .seq ?_
  refine .seq ?_
  refine .region ?_
  refine .p rfl rfl rfl ?_
  refine .nil ?_
  refine .block ?_
  obtain ⟨y1, hy1, h⟩ := bnd h
  refine .via (.iter (fun s1 E' W' => SubL E' [(0, (sv v_0)), (1, .int .i64 s1.1), (5, .int .i64 s1.2.1)] ∧ Sep S w W' [rowV (sv v_0) 51 1 (fun (l : List Instr) => D.row 68 5 (l.map dInstr)) s1.2.2]) (fun y2 x E' W' => x = .exit 0 ∧ SubL E' [(1, .int .i64 y2.1)] ∧ Sep S w W' [rowV (sv v_0) 51 1 (fun (l : List Instr) => D.row 68 5 (l.map dInstr)) y2.2]) hy1 ⟨sb rfl, hS.to [0] rfl⟩ ?_) ?_
  · intro s1 y3 E W h hI
    obtain ⟨hE, hS⟩ := hI
    refine CW.sub hE ?_
    unfold laws_markInstrSS_b1 at h
    refine .seq ?_
    refine .seq ?_
    refine .region ?_
    refine .p rfl rfl rfl ?_
    refine .p rfl rfl rfl ?_
    refine .r (lenv hS.lendv T.u30 rfl rfl) ?_ rfl rfl
    refine .p rfl rfl rfl ?_
    refine .nil ?_
    refine .cond rfl (fun hb => ?_) (fun hb => ?_)
    · have h := sel_t hb h
      refine .skip ?_
      refine .seq ?_
      refine .block ?_
      refine .region ?_
      refine .p rfl rfl rfl ?_
      refine .p rfl rfl rfl ?_
      obtain ⟨x1, hx1, h⟩ := bnd h
      refine .r (ixv hS.lendv hx1 T.u30 T.t51 rfl rfl rfl) ?_ rfl rfl
      obtain ⟨k1, hS⟩ := Sep.outv hS hx1
      obtain ⟨v1, k1, rfl, hS⟩ := hS.orowv
      obtain ⟨rfl, hS⟩ := hS.onil
      have hS : Sep _ _ W [rowV (sv v1) 68 5 dInstr x1, holeV (sv v_0) 51 1 (fun (l : List Instr) => D.row 68 5 (l.map dInstr)) s1.2.2 (Int.toNat s1.2.1) [(sv v1)]] := hS
      refine .r (lde (hS.p1.hcellsv) T.t51 rfl rfl rfl rfl rfl) ?_ rfl rfl
      refine .p rfl rfl rfl ?_
      obtain ⟨y4, hy4, h⟩ := bnd h
      refine .c (.callS2 (L0 := [rowV (sv v1) 68 5 dInstr x1]) hS Tryd.func34 (fun S h1 h2 h3 => (laws_markInstrS_ok hy4 h2 (fun b hb => (h1 b hb).2))) rfl rfl ?_ rfl (by kernel_rfl) rfl rfl)
      rintro ⟨⟩ W hS
      have hS : Sep _ _ W [rowV (sv v1) 68 5 dInstr y4.2, holeV (sv v_0) 51 1 (fun (l : List Instr) => D.row 68 5 (l.map dInstr)) s1.2.2 (Int.toNat s1.2.1) [(sv v1)]] := hS
      refine .p rfl rfl rfl ?_
      refine .nil ?_
      refine .region ?_
      refine .p rfl rfl rfl ?_
      refine .p rfl rfl rfl ?_
      refine .p rfl rfl rfl ?_
      refine .nil ?_
      have hS := Sep.gat (ds := [.row 68 5 (y4.2.map dInstr)]) (cs := [(sv v1)]) (L1 := [rowV (sv v1) 68 5 dInstr y4.2]) (.row (.nil)) (hS.to [0, 0] rfl)
      have hS : Sep _ _ W [rowV (sv v_0) 51 1 (fun (l : List Instr) => D.row 68 5 (l.map dInstr)) (s1.2.2.set (Int.toNat s1.2.1) y4.2)] := hS.backv
      cases h
      exact ⟨rfl, sb rfl, hS.to [0] rfl⟩
    · have h := sel_f hb h
      refine .exit ?_
      cases h
      exact ⟨by simp, rfl, sb rfl, hS.to [0] rfl⟩
  · intro x E W hJ
    obtain ⟨rfl, hE, hS⟩ := hJ
    refine ⟨_, hE.sub, ?_⟩
    refine .seq ?_
    refine .region ?_
    refine .p rfl rfl rfl ?_
    refine .p rfl rfl rfl ?_
    refine .nil ?_
    refine .ret ?_
    cases h
    exact fin_ret (vs := [_]) () (rt rfl rn) rfl (hS.to [0] rfl)
theorem laws_markMachine_ok {a0 : Machine} {a1 : Int} {v_0_Regs : Hd} {v_0_Mem : Hd} {S : Nat → Prop} {w : World} {r : Int × (List Int) × (List Int)} (h : laws_markMachine a0 a1 = some r) (hO : Owns w [rowV (sv v_0_Regs) 3 1 (D.int .i64) a0.Regs, rowV (sv v_0_Mem) 3 1 (D.int .i64) a0.Mem] S) (hlt : ∀ b, S b → b < w.heap.size) : Calls Tryd.prog 15 #[.agg #[(sv v_0_Regs), .int .i64 a0.Pc, (sv v_0_Mem)], .int .i64 a1] w (Ret S w (fun s : Unit => .int .i64 r.1) (fun s => [rowV (sv v_0_Regs) 3 1 (D.int .i64) r.2.1, rowV (sv v_0_Mem) 3 1 (D.int .i64) r.2.2])) := by
  unfold laws_markMachine at h
  refine enter Tryd.func15 rfl rfl ?_
  have hS := Sep.startM hO hlt
  refine .seq ?_
  refine .region ?_
  refine .c (.box hS rfl rfl ?_ rfl rfl)
  intro g1 W hS
  refine .p rfl rfl rfl ?_
  refine .nil ?_
  refine .seq ?_
  refine .region ?_
  refine .r (fa T.f26_0 rfl rfl rfl) ?_ rfl rfl
  refine .r (ld T.t22 hS rfl rfl rfl rfl rfl) ?_ rfl rfl
  refine .p rfl rfl rfl ?_
  obtain ⟨y1, hy1, h⟩ := bnd h
  have hS := hS.p1
  refine .c (.callS2 (L0 := [rowV (sv v_0_Regs) 3 1 (D.int .i64) a0.Regs]) hS Tryd.func13 (fun S h1 h2 h3 => (laws_markIntS_ok hy1 h2 (fun b hb => (h1 b hb).2))) rfl rfl ?_ rfl (by kernel_rfl) rfl rfl)
  rintro ⟨⟩ W hS
  have hS : Sep _ _ W [rowV (sv v_0_Regs) 3 1 (D.int .i64) y1.2, .box g1 26 [(sv v_0_Regs), .int .i64 a0.Pc, (sv v_0_Mem)], rowV (sv v_0_Mem) 3 1 (D.int .i64) a0.Mem] := hS
  refine .p rfl rfl rfl ?_
  refine .nil ?_
  refine .seq ?_
  refine .region ?_
  refine .r (fa T.f26_2 rfl rfl rfl) ?_ rfl rfl
  refine .r (ld T.t22 hS.p1 rfl rfl rfl rfl rfl) ?_ rfl rfl
  refine .p rfl rfl rfl ?_
  obtain ⟨y2, hy2, h⟩ := bnd h
  have hS := hS.p2
  refine .c (.callS2 (L0 := [rowV (sv v_0_Mem) 3 1 (D.int .i64) a0.Mem]) hS Tryd.func13 (fun S h1 h2 h3 => (laws_markIntS_ok hy2 h2 (fun b hb => (h1 b hb).2))) rfl rfl ?_ rfl (by kernel_rfl) rfl rfl)
  rintro ⟨⟩ W hS
  have hS : Sep _ _ W [rowV (sv v_0_Mem) 3 1 (D.int .i64) y2.2, rowV (sv v_0_Regs) 3 1 (D.int .i64) y1.2, .box g1 26 [(sv v_0_Regs), .int .i64 a0.Pc, (sv v_0_Mem)]] := hS
  refine .p rfl rfl rfl ?_
  refine .nil ?_
  refine .seq ?_
  refine .region ?_
  refine .p rfl rfl rfl ?_
  refine .p rfl rfl rfl ?_
  refine .nil ?_
  refine .ret ?_
  cases h
  exact fin_ret (vs := [_]) () (rt rfl rn) rfl (hS.to [1, 0] rfl)
def laws_heldIntS_F (w : World) (r : Int) : Env → World → Prop := Fin Tryd.prog Tryd.f21 No w (fun s : Unit => .int .i64 r) (fun s => []) .ret
theorem laws_heldIntS_ok {a0 : List Int} {a1 : Int} {v_0 : Hd} {w : World} {r : Int} (h : laws_heldIntS a0 a1 = some r) (q_0 : RV w (Old No w) (sv v_0) 3 1 (D.int .i64) a0) : Calls Tryd.prog 21 #[(sv v_0), .int .i64 a1] w (Ret No w (fun s : Unit => .int .i64 r) (fun s => [])) := by
  unfold laws_heldIntS at h
  refine enter Tryd.func21 rfl rfl ?_
  have hS := Sep.start w
  refine .seq ?_
  refine .region ?_
  refine .p rfl rfl rfl ?_
  refine .nil ?_
  refine .seq ?_
  refine .seq ?_
  refine .region ?_
  refine .p rfl rfl rfl ?_
  refine .nil ?_
  refine .block ?_
  obtain ⟨y1, hy1, h⟩ := bnd h
  refine .via (.iter (fun s1 E' W' => SubL E' [(0, (sv v_0)), (1, .int .i64 s1.1), (5, .int .i64 s1.2)] ∧ Sep No w W' []) (fun y2 x E' W' => (match y2 with | .inl o1 => x = .ret ∧ laws_heldIntS_F w o1 E' W' | .inr o2 => x = .exit 0 ∧ SubL E' [(1, .int .i64 o2)] ∧ Sep No w W' [])) hy1 ⟨sb rfl, hS.to [] rfl⟩ ?_) ?_
  · intro s1 y3 E W h hI
    obtain ⟨hE, hS⟩ := hI
    refine CW.sub hE ?_
    unfold laws_heldIntS_b1 at h
    refine .seq ?_
    refine .seq ?_
    refine .region ?_
    refine .p rfl rfl rfl ?_
    refine .p rfl rfl rfl ?_
    refine .r (lenv (hS.keep q_0) T.u22 rfl rfl) ?_ rfl rfl
    refine .p rfl rfl rfl ?_
    refine .nil ?_
    refine .cond rfl (fun hb => ?_) (fun hb => ?_)
    · have h := sel_t hb h
      refine .skip ?_
      refine .seq ?_
      refine .block ?_
      refine .seq ?_
      refine .seq ?_
      refine .region ?_
      refine .p rfl rfl rfl ?_
      refine .p rfl rfl rfl ?_
      obtain ⟨x1, hx1, h⟩ := bnd h
      refine .r (ixv (hS.keep q_0) hx1 T.u22 T.t3 rfl rfl rfl) ?_ rfl rfl
      refine .r (lde (RV.flat (hS.keep q_0) hx1 rfl) T.t3 rfl rfl rfl rfl rfl) ?_ rfl rfl
      refine .p rfl rfl rfl ?_
      refine .p rfl rfl rfl ?_
      refine .nil ?_
      refine .cond rfl (fun hb => ?_) (fun hb => ?_)
      · have h := sel_t hb h
        refine .seq ?_
        refine .region ?_
        refine .p rfl rfl rfl ?_
        refine .nil ?_
        refine .ret ?_
        cases h
        exact ⟨by simp, rfl, fin_ret (vs := [_]) () (rt rfl rn) rfl (hS.to [] rfl)⟩
      · have h := sel_f hb h
        refine .skip ?_
        refine .region ?_
        refine .p rfl rfl rfl ?_
        refine .p rfl rfl rfl ?_
        refine .p rfl rfl rfl ?_
        refine .nil ?_
        refine .region ?_
        refine .p rfl rfl rfl ?_
        refine .p rfl rfl rfl ?_
        refine .p rfl rfl rfl ?_
        refine .nil ?_
        cases h
        exact ⟨rfl, sb rfl, hS.to [] rfl⟩
    · have h := sel_f hb h
      refine .exit ?_
      cases h
      exact ⟨by simp, rfl, sb rfl, hS.to [] rfl⟩
  · intro x E W hJ
    rcases y1 with o3 | o4
    · skip
      obtain ⟨rfl, hF⟩ := hJ
      refine ⟨_, fun _ _ h => h, ?_⟩
      cases h
      exact hF
    · skip
      obtain ⟨rfl, hE, hS⟩ := hJ
      refine ⟨_, hE.sub, ?_⟩
      refine .seq ?_
      refine .region ?_
      refine .p rfl rfl rfl ?_
      refine .p rfl rfl rfl ?_
      refine .nil ?_
      refine .ret ?_
      cases h
      exact fin_ret (vs := [_]) () (rt rfl rn) rfl (hS.to [] rfl)
theorem laws_heldMachine_ok {a0 : Machine} {a1 : Int} {v_0_Regs : Hd} {v_0_Mem : Hd} {w : World} {r : Int} (h : laws_heldMachine a0 a1 = some r) (q_0_Regs : RV w (Old No w) (sv v_0_Regs) 3 1 (D.int .i64) a0.Regs) (q_0_Mem : RV w (Old No w) (sv v_0_Mem) 3 1 (D.int .i64) a0.Mem) : Calls Tryd.prog 16 #[.agg #[(sv v_0_Regs), .int .i64 a0.Pc, (sv v_0_Mem)], .int .i64 a1] w (Ret No w (fun s : Unit => .int .i64 r) (fun s => [])) := by
  unfold laws_heldMachine at h
  refine enter Tryd.func16 rfl rfl ?_
  have hS := Sep.start w
  refine .seq ?_
  refine .region ?_
  refine .c (.box hS rfl rfl ?_ rfl rfl)
  intro g1 W hS
  refine .p rfl rfl rfl ?_
  refine .nil ?_
  refine .seq ?_
  refine .region ?_
  refine .r (fa T.f26_0 rfl rfl rfl) ?_ rfl rfl
  refine .r (ld T.t22 hS rfl rfl rfl rfl rfl) ?_ rfl rfl
  refine .p rfl rfl rfl ?_
  obtain ⟨y1, hy1, h⟩ := bnd h
  refine .c (.call0 hS Tryd.func21 (laws_heldIntS_ok hy1 (hS.keep q_0_Regs)) rfl rfl ?_ rfl (by kernel_rfl) rfl rfl)
  intro W hS
  refine .p rfl rfl rfl ?_
  refine .nil ?_
  refine .seq ?_
  refine .seq ?_
  refine .region ?_
  refine .p rfl rfl rfl ?_
  refine .p rfl rfl rfl ?_
  refine .nil ?_
  refine .cond rfl (fun hb => ?_) (fun hb => ?_)
  · have h := sel_t hb h
    refine .seq ?_
    refine .region ?_
    refine .p rfl rfl rfl ?_
    refine .nil ?_
    refine .ret ?_
    cases h
    exact fin_ret (vs := [_]) () (rt rfl rn) rfl (hS.to [] rfl)
  · have h := sel_f hb h
    refine .skip ?_
    refine .seq ?_
    refine .region ?_
    refine .r (fa T.f26_2 rfl rfl rfl) ?_ rfl rfl
    refine .r (ld T.t22 hS rfl rfl rfl rfl rfl) ?_ rfl rfl
    refine .p rfl rfl rfl ?_
    obtain ⟨y2, hy2, h⟩ := bnd h
    refine .c (.call0 hS Tryd.func21 (laws_heldIntS_ok hy2 (hS.keep q_0_Mem)) rfl rfl ?_ rfl (by kernel_rfl) rfl rfl)
    intro W hS
    refine .p rfl rfl rfl ?_
    refine .nil ?_
    refine .seq ?_
    refine .seq ?_
    refine .region ?_
    refine .p rfl rfl rfl ?_
    refine .p rfl rfl rfl ?_
    refine .nil ?_
    refine .cond rfl (fun hb => ?_) (fun hb => ?_)
    · have h := sel_t hb h
      refine .seq ?_
      refine .region ?_
      refine .p rfl rfl rfl ?_
      refine .nil ?_
      refine .ret ?_
      cases h
      exact fin_ret (vs := [_]) () (rt rfl rn) rfl (hS.to [] rfl)
    · have h := sel_f hb h
      refine .skip ?_
      refine .seq ?_
      refine .region ?_
      refine .p rfl rfl rfl ?_
      refine .p rfl rfl rfl ?_
      refine .nil ?_
      refine .ret ?_
      cases h
      exact fin_ret (vs := [_]) () (rt rfl rn) rfl (hS.to [] rfl)
theorem laws_FnExactImageNew_ok {a0 : List Int} {a1 : List (List Instr)} {v_0 : Hd} {v_1 : Hd} {w : World} {r : Bool} (h : laws_FnExactImageNew a0 a1 = some r) (q_0 : RV w (Old No w) (sv v_0) 3 1 (D.int .i64) a0) (q_1 : RV w (Old No w) (sv v_1) 46 1 (fun (l : List Instr) => D.row 71 5 (l.map dInstr)) a1) (hG : Gl w) : Calls Tryd.prog 3 #[(sv v_0), (sv v_1)] w (Ret No w (fun s : Unit => .bool r) (fun s => [])) := by
  unfold laws_FnExactImageNew at h
  refine enter Tryd.func3 rfl rfl ?_
  have hS := Sep.start w
  refine .seq ?_
  refine .region ?_
  refine .p rfl rfl rfl ?_
  refine .nil ?_
  refine .seq ?_
  refine .seq ?_
  refine .region ?_
  refine .p rfl rfl rfl ?_
  refine .r (lenv (hS.keep q_0) T.u22 rfl rfl) ?_ rfl rfl
  refine .p rfl rfl rfl ?_
  refine .nil ?_
  refine .cond rfl (fun hb => ?_) (fun hb => ?_)
  · have h := sel_t hb h
    refine .seq ?_
    refine .region ?_
    refine .p rfl rfl rfl ?_
    refine .nil ?_
    refine .ret ?_
    cases h
    exact fin_ret (vs := [_]) () (rt rfl rn) rfl (hS.to [] rfl)
  · have h := sel_f hb h
    refine .skip ?_
    refine .seq ?_
    refine .region ?_
    refine .p rfl rfl rfl ?_
    refine .nil ?_
    refine .seq ?_
    refine .region ?_
    refine .p rfl rfl rfl ?_
    refine .p rfl rfl rfl ?_
    obtain ⟨y1, hy1, h⟩ := bnd h
    refine .c (.call0 hS Tryd.func5 (laws_szInstrSS_ok hy1 (hS.keep q_1)) rfl rfl ?_ rfl (by kernel_rfl) rfl rfl)
    intro W hS
    refine .p rfl rfl rfl ?_
    refine .nil ?_
    refine .seq ?_
    refine .seq ?_
    refine .region ?_
    refine .p rfl rfl rfl ?_
    refine .p rfl rfl rfl ?_
    refine .nil ?_
    refine .cond rfl (fun hb => ?_) (fun hb => ?_)
    · have h := sel_t hb h
      refine .seq ?_
      refine .region ?_
      refine .p rfl rfl rfl ?_
      refine .nil ?_
      refine .ret ?_
      cases h
      exact fin_ret (vs := [_]) () (rt rfl rn) rfl (hS.to [] rfl)
    · have h := sel_f hb h
      refine .skip ?_
      refine .seq ?_
      refine .region ?_
      refine .p rfl rfl rfl ?_
      obtain ⟨y2, hy2, h⟩ := bnd h
      refine .c (.call1v hS Tryd.func7 (laws_toIntS_ok hy2 (hS.keep q_0)) rfl rfl ?_ rfl (by kernel_rfl) rfl rfl)
      intro v1 W hS
      refine .p rfl rfl rfl ?_
      obtain ⟨y3, hy3, h⟩ := bnd h
      refine .c (.call1v hS Tryd.func8 (laws_toInstrSS_ok hy3 (hS.keep q_1)) rfl rfl ?_ rfl (by kernel_rfl) rfl rfl)
      intro v2 W hS
      obtain ⟨y4, hy4, h⟩ := bnd h
      refine .c (.call hS Tryd.func6 (spec_ImageNew_ok hy4 hS.p1.lendv hS.lendv) rfl rfl ?_ rfl (by kernel_rfl) rfl rfl)
      rintro ⟨v3, v4⟩ W hS
      have hS : Sep _ _ W [rowV (sv v3) 3 1 (D.int .i64) y4.1.Regs, rowV (sv v4) 3 1 (D.int .i64) y4.1.Mem, rowV (sv v2) 51 1 (fun (l : List Instr) => D.row 68 5 (l.map dInstr)) y3, rowV (sv v1) 3 1 (D.int .i64) y2] := hS
      refine .p rfl rfl rfl ?_
      refine .p rfl rfl rfl ?_
      refine .p rfl rfl rfl ?_
      refine .p rfl rfl rfl ?_
      refine .c (.alloc T.t26 hS ?_ rfl rfl rfl)
      intro g1 W hS
      refine .c (.st T.t26 hS rfl rfl rfl ?_ rfl rfl rfl rfl rfl)
      intro W hS
      refine .p rfl rfl rfl ?_
      refine .p rfl rfl rfl ?_
      refine .nil ?_
      refine .seq ?_
      refine .region ?_
      refine .p rfl rfl rfl ?_
      obtain ⟨y5, hy5, h⟩ := bnd h
      refine .c (.call1v hS Tryd.func7 (laws_toIntS_ok hy5 (hS.keep q_0)) rfl rfl ?_ rfl (by kernel_rfl) rfl rfl)
      intro v5 W hS
      refine .p rfl rfl rfl ?_
      refine .nil ?_
      refine .seq ?_
      refine .region ?_
      refine .p rfl rfl rfl ?_
      obtain ⟨y6, hy6, h⟩ := bnd h
      refine .c (.call1v hS Tryd.func8 (laws_toInstrSS_ok hy6 (hS.keep q_1)) rfl rfl ?_ rfl (by kernel_rfl) rfl rfl)
      intro v6 W hS
      refine .p rfl rfl rfl ?_
      refine .nil ?_
      refine .seq ?_
      refine .region ?_
      refine .p rfl rfl rfl ?_
      refine .p rfl rfl rfl ?_
      obtain ⟨y7, hy7, h⟩ := bnd h
      refine .c (.call hS Tryd.func9 (impl_ImageNew_ok hy7 hS.p1.lendv hS.lendv (hG.at hS (fun _ _ h => h))) rfl rfl ?_ rfl (by kernel_rfl) rfl rfl)
      rintro ⟨v7, v8⟩ W hS
      have hS : Sep _ _ W [rowV (sv v7) 3 1 (D.int .i64) y7.1.Regs, rowV (sv v8) 3 1 (D.int .i64) y7.1.Mem, rowV (sv v6) 51 1 (fun (l : List Instr) => D.row 68 5 (l.map dInstr)) y6, rowV (sv v5) 3 1 (D.int .i64) y5, .box g1 26 [(sv v3), .int .i64 y4.1.Pc, (sv v4)], rowV (sv v3) 3 1 (D.int .i64) y4.1.Regs, rowV (sv v4) 3 1 (D.int .i64) y4.1.Mem, rowV (sv v2) 51 1 (fun (l : List Instr) => D.row 68 5 (l.map dInstr)) y3, rowV (sv v1) 3 1 (D.int .i64) y2] := hS
      refine .p rfl rfl rfl ?_
      refine .p rfl rfl rfl ?_
      refine .p rfl rfl rfl ?_
      refine .p rfl rfl rfl ?_
      refine .c (.alloc T.t26 hS ?_ rfl rfl rfl)
      intro g2 W hS
      refine .c (.st T.t26 hS rfl rfl rfl ?_ rfl rfl rfl rfl rfl)
      intro W hS
      refine .p rfl rfl rfl ?_
      refine .p rfl rfl rfl ?_
      refine .nil ?_
      refine .seq ?_
      refine .seq ?_
      refine .region ?_
      refine .r (ld T.t26 hS rfl rfl rfl rfl rfl) ?_ rfl rfl
      refine .r (ld T.t26 hS.p5 rfl rfl rfl rfl rfl) ?_ rfl rfl
      obtain ⟨y8, hy8, h⟩ := bnd h
      refine .c (.call0 hS Tryd.func10 (laws_eqMachine_ok hy8 hS.p1.lendv hS.p2.lendv hS.p6.lendv hS.p7.lendv) rfl rfl ?_ rfl (by kernel_rfl) rfl rfl)
      intro W hS
      refine .p rfl rfl rfl ?_
      refine .p rfl rfl rfl ?_
      refine .chunk 4 56 ((!y8) || (y7.2.1 != y4.2.1)) hS ?_ ?_
      · refine .both (!y8) (fun hb => ?_) (fun hb => ?_)
        · skip
          refine .x hb ?_ rfl rfl
          refine .x hb ?_ rfl rfl
          refine .x hb ?_ rfl rfl
          refine .r (pkt hb rfl rfl rfl) ?_ rfl rfl
          exact .nil (ck 4 hS rfl (or_t hb) rfl rfl)
        · have hg1 := hb
          refine .g hg1 (.p rfl rfl rfl ?_) rfl
          refine .g hg1 (.p rfl rfl rfl ?_) rfl
          refine .g hg1 (.p rfl rfl rfl ?_) rfl
          refine .r (pkf hg1 rfl rfl rfl) ?_ rfl rfl
          exact .nil (ck 4 hS rfl (or_f hg1) rfl rfl)
      intro W hS
      refine .p rfl rfl rfl ?_
      refine .chunk 4 61 (((!y8) || (y7.2.1 != y4.2.1)) || (y7.2.2 != y4.2.2)) hS ?_ ?_
      · refine .both ((!y8) || (y7.2.1 != y4.2.1)) (fun hb => ?_) (fun hb => ?_)
        · skip
          refine .x hb ?_ rfl rfl
          refine .x hb ?_ rfl rfl
          refine .x hb ?_ rfl rfl
          refine .r (pkt hb rfl rfl rfl) ?_ rfl rfl
          exact .nil (ck 4 hS rfl (or_t hb) rfl rfl)
        · have hg2 := hb
          refine .g hg2 (.p rfl rfl rfl ?_) rfl
          refine .g hg2 (.p rfl rfl rfl ?_) rfl
          refine .g hg2 (.r (neb T.u4 rfl rfl rfl) ?_ rfl rfl) rfl
          refine .r (pkf hg2 rfl rfl rfl) ?_ rfl rfl
          exact .nil (ck 4 hS rfl (or_f hg2) rfl rfl)
      intro W hS
      refine .nil ?_
      refine .cond rfl (fun hb => ?_) (fun hb => ?_)
      · have h := sel_t hb h
        refine .seq ?_
        refine .region ?_
        refine .p rfl rfl rfl ?_
        refine .nil ?_
        refine .ret ?_
        cases h
        exact fin_ret (vs := [_]) () (rt rfl rn) rfl (hS.to [] rfl)
      · have h := sel_f hb h
        refine .skip ?_
        refine .seq ?_
        refine .seq ?_
        refine .region ?_
        refine .p rfl rfl rfl ?_
        refine .p rfl rfl rfl ?_
        obtain ⟨y9, hy9, h⟩ := bnd h
        refine .c (.call1v hS Tryd.func7 (laws_toIntS_ok hy9 (hS.keep q_0)) rfl rfl ?_ rfl (by kernel_rfl) rfl rfl)
        intro v9 W hS
        obtain ⟨y10, hy10, h⟩ := bnd h
        refine .c (.call0 hS Tryd.func11 (laws_eqIntS_ok hy10 hS.p5.lendv hS.lendv) rfl rfl ?_ rfl (by kernel_rfl) rfl rfl)
        intro W hS
        refine .p rfl rfl rfl ?_
        refine .nil ?_
        refine .cond rfl (fun hb => ?_) (fun hb => ?_)
        · have h := sel_t hb h
          refine .seq ?_
          refine .region ?_
          refine .p rfl rfl rfl ?_
          refine .nil ?_
          refine .ret ?_
          cases h
          exact fin_ret (vs := [_]) () (rt rfl rn) rfl (hS.to [] rfl)
        · have h := sel_f hb h
          refine .skip ?_
          refine .seq ?_
          refine .seq ?_
          refine .region ?_
          refine .p rfl rfl rfl ?_
          refine .p rfl rfl rfl ?_
          obtain ⟨y11, hy11, h⟩ := bnd h
          refine .c (.call1v hS Tryd.func8 (laws_toInstrSS_ok hy11 (hS.keep q_1)) rfl rfl ?_ rfl (by kernel_rfl) rfl rfl)
          intro v10 W hS
          obtain ⟨y12, hy12, h⟩ := bnd h
          refine .c (.call0 hS Tryd.func12 (laws_eqInstrSS_ok hy12 hS.p5.lendv hS.lendv) rfl rfl ?_ rfl (by kernel_rfl) rfl rfl)
          intro W hS
          refine .p rfl rfl rfl ?_
          refine .nil ?_
          refine .cond rfl (fun hb => ?_) (fun hb => ?_)
          · have h := sel_t hb h
            refine .seq ?_
            refine .region ?_
            refine .p rfl rfl rfl ?_
            refine .nil ?_
            refine .ret ?_
            cases h
            exact fin_ret (vs := [_]) () (rt rfl rn) rfl (hS.to [] rfl)
          · have h := sel_f hb h
            refine .skip ?_
            refine .seq ?_
            refine .region ?_
            refine .p rfl rfl rfl ?_
            refine .nil ?_
            refine .seq ?_
            refine .region ?_
            refine .p rfl rfl rfl ?_
            refine .p rfl rfl rfl ?_
            obtain ⟨y13, hy13, h⟩ := bnd h
            have hS := hS.p6
            refine .c (.callS2 (L0 := [rowV (sv v5) 3 1 (D.int .i64) y5]) hS Tryd.func13 (fun S h1 h2 h3 => (laws_markIntS_ok hy13 h2 (fun b hb => (h1 b hb).2))) rfl rfl ?_ rfl (by kernel_rfl) rfl rfl)
            rintro ⟨⟩ W hS
            have hS : Sep _ _ W [rowV (sv v5) 3 1 (D.int .i64) y13.2, rowV (sv v10) 51 1 (fun (l : List Instr) => D.row 68 5 (l.map dInstr)) y11, rowV (sv v9) 3 1 (D.int .i64) y9, .box g2 26 [(sv v7), .int .i64 y7.1.Pc, (sv v8)], rowV (sv v7) 3 1 (D.int .i64) y7.1.Regs, rowV (sv v8) 3 1 (D.int .i64) y7.1.Mem, rowV (sv v6) 51 1 (fun (l : List Instr) => D.row 68 5 (l.map dInstr)) y6, .box g1 26 [(sv v3), .int .i64 y4.1.Pc, (sv v4)], rowV (sv v3) 3 1 (D.int .i64) y4.1.Regs, rowV (sv v4) 3 1 (D.int .i64) y4.1.Mem, rowV (sv v2) 51 1 (fun (l : List Instr) => D.row 68 5 (l.map dInstr)) y3, rowV (sv v1) 3 1 (D.int .i64) y2] := hS
            refine .p rfl rfl rfl ?_
            refine .nil ?_
            refine .seq ?_
            refine .region ?_
            refine .p rfl rfl rfl ?_
            refine .p rfl rfl rfl ?_
            obtain ⟨y14, hy14, h⟩ := bnd h
            have hS := hS.p6
            refine .c (.callS2 (L0 := [rowV (sv v6) 51 1 (fun (l : List Instr) => D.row 68 5 (l.map dInstr)) y6]) hS Tryd.func14 (fun S h1 h2 h3 => (laws_markInstrSS_ok hy14 h2 (fun b hb => (h1 b hb).2))) rfl rfl ?_ rfl (by kernel_rfl) rfl rfl)
            rintro ⟨⟩ W hS
            have hS : Sep _ _ W [rowV (sv v6) 51 1 (fun (l : List Instr) => D.row 68 5 (l.map dInstr)) y14.2, rowV (sv v5) 3 1 (D.int .i64) y13.2, rowV (sv v10) 51 1 (fun (l : List Instr) => D.row 68 5 (l.map dInstr)) y11, rowV (sv v9) 3 1 (D.int .i64) y9, .box g2 26 [(sv v7), .int .i64 y7.1.Pc, (sv v8)], rowV (sv v7) 3 1 (D.int .i64) y7.1.Regs, rowV (sv v8) 3 1 (D.int .i64) y7.1.Mem, .box g1 26 [(sv v3), .int .i64 y4.1.Pc, (sv v4)], rowV (sv v3) 3 1 (D.int .i64) y4.1.Regs, rowV (sv v4) 3 1 (D.int .i64) y4.1.Mem, rowV (sv v2) 51 1 (fun (l : List Instr) => D.row 68 5 (l.map dInstr)) y3, rowV (sv v1) 3 1 (D.int .i64) y2] := hS
            refine .p rfl rfl rfl ?_
            refine .nil ?_
            refine .seq ?_
            refine .seq ?_
            refine .region ?_
            refine .p rfl rfl rfl ?_
            refine .p rfl rfl rfl ?_
            refine .p rfl rfl rfl ?_
            obtain ⟨b1, hb1, h⟩ := bnd h
            refine .chunk 5 85 (b1) hS ?_ ?_
            · refine .both (decide (y14.1 < 0)) (fun hb => ?_) (fun hb => ?_)
              · skip
                refine .x hb ?_ rfl rfl
                refine .x hb ?_ rfl rfl
                refine .x hb ?_ rfl rfl
                refine .x hb ?_ rfl rfl
                cases sel_t hb hb1
                refine .r (pkt hb rfl rfl rfl) ?_ rfl rfl
                exact .nil (ck 5 hS rfl rfl rfl rfl)
              · have hg3 := hb
                have h := sel_f hb hb1
                refine .g hg3 (.r (ld T.t26 hS.p4 rfl rfl rfl rfl rfl) ?_ rfl rfl) rfl
                refine .g hg3 (.r (ld T.t26 hS.p7 rfl rfl rfl rfl rfl) ?_ rfl rfl) rfl
                obtain ⟨y15, hy15, h⟩ := bnd h
                refine .g hg3 (.c (.call0 hS Tryd.func10 (laws_eqMachine_ok hy15 hS.p5.lendv hS.p6.lendv hS.p8.lendv hS.p9.lendv) rfl rfl ?_ rfl (by kernel_rfl) rfl rfl)) rfl
                intro W hS
                refine .g hg3 (.p rfl rfl rfl ?_) rfl
                refine .r (pkf hg3 rfl rfl rfl) ?_ rfl rfl
                cases h
                exact .nil (ck 5 hS rfl rfl rfl rfl)
            intro W hS
            refine .p rfl rfl rfl ?_
            refine .chunk 4 90 (b1 || (y7.2.1 != y4.2.1)) hS ?_ ?_
            · refine .both (b1) (fun hb => ?_) (fun hb => ?_)
              · skip
                refine .x hb ?_ rfl rfl
                refine .x hb ?_ rfl rfl
                refine .x hb ?_ rfl rfl
                refine .r (pkt hb rfl rfl rfl) ?_ rfl rfl
                exact .nil (ck 4 hS rfl (or_t hb) rfl rfl)
              · have hg4 := hb
                refine .g hg4 (.p rfl rfl rfl ?_) rfl
                refine .g hg4 (.p rfl rfl rfl ?_) rfl
                refine .g hg4 (.p rfl rfl rfl ?_) rfl
                refine .r (pkf hg4 rfl rfl rfl) ?_ rfl rfl
                exact .nil (ck 4 hS rfl (or_f hg4) rfl rfl)
            intro W hS
            refine .p rfl rfl rfl ?_
            refine .chunk 4 95 ((b1 || (y7.2.1 != y4.2.1)) || (y7.2.2 != y4.2.2)) hS ?_ ?_
            · refine .both (b1 || (y7.2.1 != y4.2.1)) (fun hb => ?_) (fun hb => ?_)
              · skip
                refine .x hb ?_ rfl rfl
                refine .x hb ?_ rfl rfl
                refine .x hb ?_ rfl rfl
                refine .r (pkt hb rfl rfl rfl) ?_ rfl rfl
                exact .nil (ck 4 hS rfl (or_t hb) rfl rfl)
              · have hg5 := hb
                refine .g hg5 (.p rfl rfl rfl ?_) rfl
                refine .g hg5 (.p rfl rfl rfl ?_) rfl
                refine .g hg5 (.r (neb T.u4 rfl rfl rfl) ?_ rfl rfl) rfl
                refine .r (pkf hg5 rfl rfl rfl) ?_ rfl rfl
                exact .nil (ck 4 hS rfl (or_f hg5) rfl rfl)
            intro W hS
            refine .nil ?_
            refine .cond rfl (fun hb => ?_) (fun hb => ?_)
            · have h := sel_t hb h
              refine .seq ?_
              refine .region ?_
              refine .p rfl rfl rfl ?_
              refine .nil ?_
              refine .ret ?_
              cases h
              exact fin_ret (vs := [_]) () (rt rfl rn) rfl (hS.to [] rfl)
            · have h := sel_f hb h
              refine .skip ?_
              refine .seq ?_
              refine .region ?_
              refine .p rfl rfl rfl ?_
              refine .nil ?_
              refine .seq ?_
              refine .region ?_
              refine .r (ld T.t26 hS.p4 rfl rfl rfl rfl rfl) ?_ rfl rfl
              refine .p rfl rfl rfl ?_
              obtain ⟨y16, hy16, h⟩ := bnd h
              have hS := hS.p6
              have hS := hS.p6
              refine .c (.callS2 (L0 := [rowV (sv v7) 3 1 (D.int .i64) y7.1.Regs, rowV (sv v8) 3 1 (D.int .i64) y7.1.Mem]) hS Tryd.func15 (fun S h1 h2 h3 => (laws_markMachine_ok hy16 h2 (fun b hb => (h1 b hb).2))) rfl rfl ?_ rfl (by kernel_rfl) rfl rfl)
              rintro ⟨⟩ W hS
              have hS : Sep _ _ W [rowV (sv v7) 3 1 (D.int .i64) y16.2.1, rowV (sv v8) 3 1 (D.int .i64) y16.2.2, rowV (sv v6) 51 1 (fun (l : List Instr) => D.row 68 5 (l.map dInstr)) y14.2, rowV (sv v5) 3 1 (D.int .i64) y13.2, rowV (sv v10) 51 1 (fun (l : List Instr) => D.row 68 5 (l.map dInstr)) y11, rowV (sv v9) 3 1 (D.int .i64) y9, .box g2 26 [(sv v7), .int .i64 y7.1.Pc, (sv v8)], .box g1 26 [(sv v3), .int .i64 y4.1.Pc, (sv v4)], rowV (sv v3) 3 1 (D.int .i64) y4.1.Regs, rowV (sv v4) 3 1 (D.int .i64) y4.1.Mem, rowV (sv v2) 51 1 (fun (l : List Instr) => D.row 68 5 (l.map dInstr)) y3, rowV (sv v1) 3 1 (D.int .i64) y2] := hS
              refine .p rfl rfl rfl ?_
              refine .nil ?_
              refine .seq ?_
              refine .region ?_
              refine .p rfl rfl rfl ?_
              refine .nil ?_
              refine .seq ?_
              refine .region ?_
              refine .r (ld T.t26 hS.p6 rfl rfl rfl rfl rfl) ?_ rfl rfl
              refine .p rfl rfl rfl ?_
              obtain ⟨y17, hy17, h⟩ := bnd h
              refine .c (.call0 hS Tryd.func16 (laws_heldMachine_ok hy17 hS.lendv hS.p1.lendv) rfl rfl ?_ rfl (by kernel_rfl) rfl rfl)
              intro W hS
              refine .p rfl rfl rfl ?_
              refine .nil ?_
              refine .seq ?_
              refine .seq ?_
              refine .region ?_
              refine .p rfl rfl rfl ?_
              refine .p rfl rfl rfl ?_
              refine .nil ?_
              refine .cond rfl (fun hb => ?_) (fun hb => ?_)
              · have h := sel_t hb h
                refine .seq ?_
                refine .region ?_
                refine .p rfl rfl rfl ?_
                refine .nil ?_
                refine .ret ?_
                cases h
                exact fin_ret (vs := [_]) () (rt rfl rn) rfl (hS.to [] rfl)
              · have h := sel_f hb h
                refine .skip ?_
                refine .seq ?_
                refine .seq ?_
                refine .region ?_
                refine .p rfl rfl rfl ?_
                refine .p rfl rfl rfl ?_
                refine .p rfl rfl rfl ?_
                refine .nil ?_
                refine .cond rfl (fun hb => ?_) (fun hb => ?_)
                · have h := sel_t hb h
                  refine .seq ?_
                  refine .region ?_
                  refine .p rfl rfl rfl ?_
                  refine .nil ?_
                  refine .ret ?_
                  cases h
                  exact fin_ret (vs := [_]) () (rt rfl rn) rfl (hS.to [] rfl)
                · have h := sel_f hb h
                  refine .skip ?_
                  refine .seq ?_
                  refine .region ?_
                  refine .p rfl rfl rfl ?_
                  obtain ⟨y18, hy18, h⟩ := bnd h
                  refine .c (.call1v hS Tryd.func7 (laws_toIntS_ok hy18 (hS.keep q_0)) rfl rfl ?_ rfl (by kernel_rfl) rfl rfl)
                  intro v11 W hS
                  refine .p rfl rfl rfl ?_
                  obtain ⟨y19, hy19, h⟩ := bnd h
                  refine .c (.call1v hS Tryd.func8 (laws_toInstrSS_ok hy19 (hS.keep q_1)) rfl rfl ?_ rfl (by kernel_rfl) rfl rfl)
                  intro v12 W hS
                  obtain ⟨y20, hy20, h⟩ := bnd h
                  refine .c (.call hS Tryd.func9 (impl_ImageNew_ok hy20 hS.p1.lendv hS.lendv (hG.at hS (fun _ _ h => h))) rfl rfl ?_ rfl (by kernel_rfl) rfl rfl)
                  rintro ⟨v13, v14⟩ W hS
                  have hS : Sep _ _ W [rowV (sv v13) 3 1 (D.int .i64) y20.1.Regs, rowV (sv v14) 3 1 (D.int .i64) y20.1.Mem, rowV (sv v12) 51 1 (fun (l : List Instr) => D.row 68 5 (l.map dInstr)) y19, rowV (sv v11) 3 1 (D.int .i64) y18, rowV (sv v7) 3 1 (D.int .i64) y16.2.1, rowV (sv v8) 3 1 (D.int .i64) y16.2.2, rowV (sv v6) 51 1 (fun (l : List Instr) => D.row 68 5 (l.map dInstr)) y14.2, rowV (sv v5) 3 1 (D.int .i64) y13.2, rowV (sv v10) 51 1 (fun (l : List Instr) => D.row 68 5 (l.map dInstr)) y11, rowV (sv v9) 3 1 (D.int .i64) y9, .box g2 26 [(sv v7), .int .i64 y7.1.Pc, (sv v8)], .box g1 26 [(sv v3), .int .i64 y4.1.Pc, (sv v4)], rowV (sv v3) 3 1 (D.int .i64) y4.1.Regs, rowV (sv v4) 3 1 (D.int .i64) y4.1.Mem, rowV (sv v2) 51 1 (fun (l : List Instr) => D.row 68 5 (l.map dInstr)) y3, rowV (sv v1) 3 1 (D.int .i64) y2] := hS
                  refine .p rfl rfl rfl ?_
                  refine .p rfl rfl rfl ?_
                  refine .p rfl rfl rfl ?_
                  refine .p rfl rfl rfl ?_
                  refine .c (.alloc T.t26 hS ?_ rfl rfl rfl)
                  intro g3 W hS
                  refine .c (.st T.t26 hS rfl rfl rfl ?_ rfl rfl rfl rfl rfl)
                  intro W hS
                  refine .p rfl rfl rfl ?_
                  refine .p rfl rfl rfl ?_
                  refine .nil ?_
                  refine .seq ?_
                  refine .seq ?_
                  refine .region ?_
                  refine .r (ld T.t26 hS rfl rfl rfl rfl rfl) ?_ rfl rfl
                  refine .r (ld T.t26 (hS.pull (i := 12) rfl) rfl rfl rfl rfl rfl) ?_ rfl rfl
                  obtain ⟨y21, hy21, h⟩ := bnd h
                  refine .c (.call0 hS Tryd.func10 (laws_eqMachine_ok hy21 hS.p1.lendv hS.p2.lendv (hS.pull (i := 13) rfl).lendv (hS.pull (i := 14) rfl).lendv) rfl rfl ?_ rfl (by kernel_rfl) rfl rfl)
                  intro W hS
                  refine .p rfl rfl rfl ?_
                  refine .p rfl rfl rfl ?_
                  refine .chunk 4 124 ((!y21) || (y20.2.1 != y4.2.1)) hS ?_ ?_
                  · refine .both (!y21) (fun hb => ?_) (fun hb => ?_)
                    · skip
                      refine .x hb ?_ rfl rfl
                      refine .x hb ?_ rfl rfl
                      refine .x hb ?_ rfl rfl
                      refine .r (pkt hb rfl rfl rfl) ?_ rfl rfl
                      exact .nil (ck 4 hS rfl (or_t hb) rfl rfl)
                    · have hg6 := hb
                      refine .g hg6 (.p rfl rfl rfl ?_) rfl
                      refine .g hg6 (.p rfl rfl rfl ?_) rfl
                      refine .g hg6 (.p rfl rfl rfl ?_) rfl
                      refine .r (pkf hg6 rfl rfl rfl) ?_ rfl rfl
                      exact .nil (ck 4 hS rfl (or_f hg6) rfl rfl)
                  intro W hS
                  refine .p rfl rfl rfl ?_
                  refine .chunk 4 129 (((!y21) || (y20.2.1 != y4.2.1)) || (y20.2.2 != y4.2.2)) hS ?_ ?_
                  · refine .both ((!y21) || (y20.2.1 != y4.2.1)) (fun hb => ?_) (fun hb => ?_)
                    · skip
                      refine .x hb ?_ rfl rfl
                      refine .x hb ?_ rfl rfl
                      refine .x hb ?_ rfl rfl
                      refine .r (pkt hb rfl rfl rfl) ?_ rfl rfl
                      exact .nil (ck 4 hS rfl (or_t hb) rfl rfl)
                    · have hg7 := hb
                      refine .g hg7 (.p rfl rfl rfl ?_) rfl
                      refine .g hg7 (.p rfl rfl rfl ?_) rfl
                      refine .g hg7 (.r (neb T.u4 rfl rfl rfl) ?_ rfl rfl) rfl
                      refine .r (pkf hg7 rfl rfl rfl) ?_ rfl rfl
                      exact .nil (ck 4 hS rfl (or_f hg7) rfl rfl)
                  intro W hS
                  refine .nil ?_
                  refine .cond rfl (fun hb => ?_) (fun hb => ?_)
                  · have h := sel_t hb h
                    refine .seq ?_
                    refine .region ?_
                    refine .p rfl rfl rfl ?_
                    refine .nil ?_
                    refine .ret ?_
                    cases h
                    exact fin_ret (vs := [_]) () (rt rfl rn) rfl (hS.to [] rfl)
                  · have h := sel_f hb h
                    refine .skip ?_
                    refine .seq ?_
                    refine .region ?_
                    refine .p rfl rfl rfl ?_
                    refine .nil ?_
                    refine .seq ?_
                    refine .region ?_
                    refine .r (ld T.t26 hS.p11 rfl rfl rfl rfl rfl) ?_ rfl rfl
                    refine .p rfl rfl rfl ?_
                    obtain ⟨y22, hy22, h⟩ := bnd h
                    refine .c (.call0 hS Tryd.func16 (laws_heldMachine_ok hy22 hS.p5.lendv hS.p6.lendv) rfl rfl ?_ rfl (by kernel_rfl) rfl rfl)
                    intro W hS
                    refine .p rfl rfl rfl ?_
                    refine .nil ?_
                    refine .seq ?_
                    refine .seq ?_
                    refine .region ?_
                    refine .p rfl rfl rfl ?_
                    refine .p rfl rfl rfl ?_
                    refine .nil ?_
                    refine .cond rfl (fun hb => ?_) (fun hb => ?_)
                    · have h := sel_t hb h
                      refine .seq ?_
                      refine .region ?_
                      refine .p rfl rfl rfl ?_
                      refine .nil ?_
                      refine .ret ?_
                      cases h
                      exact fin_ret (vs := [_]) () (rt rfl rn) rfl (hS.to [] rfl)
                    · have h := sel_f hb h
                      refine .skip ?_
                      refine .seq ?_
                      refine .seq ?_
                      refine .region ?_
                      refine .p rfl rfl rfl ?_
                      refine .p rfl rfl rfl ?_
                      refine .p rfl rfl rfl ?_
                      refine .nil ?_
                      refine .cond rfl (fun hb => ?_) (fun hb => ?_)
                      · have h := sel_t hb h
                        refine .seq ?_
                        refine .region ?_
                        refine .p rfl rfl rfl ?_
                        refine .nil ?_
                        refine .ret ?_
                        cases h
                        exact fin_ret (vs := [_]) () (rt rfl rn) rfl (hS.to [] rfl)
                      · have h := sel_f hb h
                        refine .skip ?_
                        refine .seq ?_
                        refine .region ?_
                        refine .p rfl rfl rfl ?_
                        refine .nil ?_
                        refine .ret ?_
                        cases h
                        exact fin_ret (vs := [_]) () (rt rfl rn) rfl (hS.to [] rfl)
end Go.Proofs.YtdohklfimhkicaaDoor.N
