/- For every input the law FnExactImageOutcome returns true and leaves its arguments as they were. No condition. -/
import Derived.Test.YtdohklfimhkicaaPc
import Derived.Test.YtdohklfimhkicaaXr
import Derived.Test.YtdohklfimhkicaaRows
import Derived.Carry
import Derived.ProofKit
import Derived.OpenShut
set_option linter.unusedVariables false
set_option maxRecDepth 100000
set_option maxHeartbeats 4000000
namespace Go.Proofs.Ytdohklfimhkicaa
open Go.ChangeShapes Go.WideShapes Go.ChangeAt Go.RowKit
namespace FnExactImageOutcome
open Go.Proofs.Ytdohklfimhkicaa.X Go.Proofs.Ytdohklfimhkicaa.N
theorem T.u3 : Try.prog.underlying 3 = some (.int .i64) := by kernel_rfl
def ts : List TypeId := [3, 22, 24]
theorem ts_ok : ts.all (okT Try.prog ts) = true := by kernel_rfl
theorem c3 : Try.prog.cellsOf 3 = 1 := by kernel_rfl
def W22 : List Int → Prop := fun l => ∀ x ∈ l, (fun n => (Lit.int .i64 n).wf = true) x
theorem D22 : Dec Try.prog 22 (fun (l : List Int) => D.row 3 1 (l.map (D.int .i64))) W22 := Dec.slice T.u22 c3 (Dec.int T.u3)
theorem S24 : styp Try.prog 24 = some [22, 3, 22] := by kernel_rfl
def W24 : Go.Proofs.Ytdohklfimhkicaa.N.Machine → Prop := fun x => W22 x.Regs ∧ (fun n => (Lit.int .i64 n).wf = true) x.Pc ∧ W22 x.Mem
theorem D24 : Dec Try.prog 24 dMachine W24 := by
  intro d h0
  obtain ⟨ds, rfl, h⟩ := typ_agg S24 h0
  obtain ⟨x0, ds, rfl, w0, h⟩ := typ_cons D22 h
  obtain ⟨x1, ds, rfl, w1, h⟩ := typ_cons (Dec.int T.u3) h
  obtain ⟨x2, ds, rfl, w2, h⟩ := typ_cons D22 h
  obtain rfl := typ_nil h
  exact ⟨⟨x0, x1, x2⟩, rfl, ⟨w0, w1, w2⟩⟩
theorem own : ownKnob Try.prog.godebug = none := by kernel_rfl
theorem laidOut : laidOutB Try.prog = true := by kernel_rfl
theorem lifted (os : Os) (started : os.Started) (H : Type) (enc : TypeId × Value → H) :
    ReturnsInHanded {} Try.checked os 3 .any (Rows.fnExactImageOutcomeSpec.pre6 enc Try.prog Try.f3 Rows.fnExactImageOutcomeRow.domain false) (Rows.fnExactImageOutcomeSpec.post enc Try.prog Try.f3 false true false false) := by
  refine returnsInHanded_of_change (C := Try.checked) own started (by kernel_rfl) Try.func3
    (ChangeSpec.witness6 (enc := enc) (C := Try.checked) false ⟨#[], #[.agg #[.slice none 0 0, .int .i64 0, .slice none 0 0], .int .i64 0, .slice none 0 0], []⟩ 8 (by kernel_rfl) (by kernel_rfl) (by kernel_rfl) (by kernel_rfl)) ?_
  intro W base args ds gs before hval0 hW hcnd _
  have hval : ∀ (j : Nat) t v, Try.f3.params[j]? = some t → args[j]? = some v → Value.okWide Try.prog W .any base t v := hval0
  have hW' := hW
  obtain ⟨p, q, hA0, hV, rfl, hfz, hnd⟩ := hW
  have hA : DataW.TrodAll enc Try.prog W 0 (fun _ => true) true Try.f3.params.toList args.toList ds p := hA0
  rw [Try.params3] at hA hval
  obtain ⟨v0, vs0, d0, ds0, p0, q0, hargs, rfl, rfl, h0, r0⟩ := trodAll_cons hA
  obtain ⟨v1, vs1, d1, ds1, p1, q1, rfl, rfl, rfl, h1, r1⟩ := trodAll_cons r0
  obtain ⟨v2, vs2, d2, ds2, p2, q2, rfl, rfl, rfl, h2, r2⟩ := trodAll_cons r1
  obtain ⟨rfl, rfl, rfl⟩ := trodAll_nil r2
  obtain rfl : args = #[v0, v1, v2] := by cases args; simp_all
  obtain ⟨rfl, rfl⟩ := trodVars_none hV
  have k0 := h0
  have lt0 : ∀ x ∈ p0, x.block < W.heap.size := by obtain ⟨m, hm⟩ := k0; exact DataW.trod_lt m _ _ _ hm
  obtain ⟨fuel, hf⟩ := h0
  obtain ⟨dd, hT, hR0, _⟩ := trod_typ (ts := ts) ts_ok (by decide) hf
  obtain ⟨a0, rfl, w0⟩ := D24 dd hT
  obtain ⟨cs0, rfl, _⟩ := okWide_struct Try.underlying24 (hval 0 24 v0 rfl rfl)
  obtain ⟨k, hk⟩ : ∃ k, k = cs0.toList := ⟨_, rfl⟩
  have hR : D.rd W (dMachine a0) (Old No W) k := hk ▸ hR0
  have hd : ∀ T', D.rd W (dMachine a0) T' k → D.rds W [.row 3 1 (a0.Regs.map (D.int .i64)), .int .i64 a0.Pc, .row 3 1 (a0.Mem.map (D.int .i64))] T' k := fun _ h => h
  clear hR0
  obtain ⟨z1, k, rfl, qz1, hd⟩ := rrowv hR hd
  obtain ⟨k, rfl, hd⟩ := rflat hR rfl hd
  obtain ⟨z2, k, rfl, qz2, hd⟩ := rrowv hR hd
  obtain rfl := rnil hR hd
  obtain rfl : cs0 = #[sv z1, .int .i64 a0.Pc, sv z2] := Array.ext' hk.symm
  have hR0 := hR
  clear hk hd
  have k1 := h1
  have lt1 : ∀ x ∈ p1, x.block < W.heap.size := by obtain ⟨m, hm⟩ := k1; exact DataW.trod_lt m _ _ _ hm
  obtain ⟨a1, rfl, rfl, rfl, w1⟩ := open_int Try.underlying3 (hval 1 3 v1 rfl rfl) h1
  have k2 := h2
  have lt2 : ∀ x ∈ p2, x.block < W.heap.size := by obtain ⟨m, hm⟩ := k2; exact DataW.trod_lt m _ _ _ hm
  obtain ⟨fuel, hf⟩ := h2
  obtain ⟨dd, hT, hR2, _⟩ := trod_typ (ts := ts) ts_ok (by decide) hf
  obtain ⟨a2, rfl, w2⟩ := D22 dd hT
  obtain ⟨A2, n2, c2, rfl⟩ := okWide_slice Try.underlying22 (hval 2 22 v2 rfl rfl)
  have q2 : RV W (Old No W) (sv ⟨A2, n2, c2⟩) 3 1 (D.int .i64) a2 := hR2
  clear hA0 hval0
  refine (Go.Proofs.Ytdohklfimhkicaa.N.laws_FnExactImageOutcome_ok (law_ok a0 a1 a2 (RV.le (qz1 _ hR0)) (RV.le (qz2 _ hR0)) (wf64 w1).1 (wf64 w1).2) (qz1 _ hR0) (qz2 _ hR0) q2).mono fun e W' ⟨_, he, hS⟩ => ?_
  subst he
  have bel := hS.below
  exact ⟨_, rfl, _, _, _, [], _, _, hW', trodAll_mk1 (shut_bool Try.underlying4 _), (trodAll_cons_mk (Below.trod laidOut (by kernel_rfl) (of_decide_eq_true (by kernel_rfl)) k0 bel lt0) (trodAll_cons_mk (Below.trod laidOut (by kernel_rfl) (of_decide_eq_true (by kernel_rfl)) k1 bel lt1) (trodAll_cons_mk (Below.trod laidOut (by kernel_rfl) (of_decide_eq_true (by kernel_rfl)) k2 bel lt2) trodAll_mk0))), rfl, bel.frame _, fun h => by cases h⟩
theorem row_holds : Rows.FnExactImageOutcomeSaid :=
  OpenClaim.holds_of_wide 3 Try.f3 rfl rfl rfl rfl rfl rfl rfl ⟨rfl, rfl, rfl, rfl, rfl⟩ rfl rfl rfl rfl rfl (by kernel_rfl) Try.func3 (by kernel_rfl)
    (of_decide_eq_true (by kernel_rfl)) (by unfold Func.isWrapper; first | (rw [if_pos (by decide +kernel)]; kernel_rfl) | (rw [if_neg (by decide +kernel)]; exact ⟨rfl, rfl⟩))
    (fun os started H enc _ => lifted os started H enc)
end FnExactImageOutcome
theorem fnExactImageOutcome_holds : Rows.FnExactImageOutcomeSaid := FnExactImageOutcome.row_holds
#print axioms fnExactImageOutcome_holds
end Go.Proofs.Ytdohklfimhkicaa
