/- For every input the law FnExactImageRun returns true and leaves its arguments as they were. Condition (tied by the card to the program's text): the package-level variables impl.instrTable, impl.machineOps read as the program lays them. -/
import Derived.Test.YtdohklfimhkicaaDoorSg
import Derived.Test.YtdohklfimhkicaaDoorT10c
import Derived.Test.YtdohklfimhkicaaDoorR2
import Derived.Test.YtdohklfimhkicaaDoorTie
import Derived.Test.YtdohklfimhkicaaDoorCards
import Derived.Carry
import Derived.ProofKit
import Derived.OpenShut
import Derived.OpenVars
import Derived.ChangeSame
import Derived.ChangeVars
import Derived.RowKit
import Derived.Handy
import Derived.Lay
import Derived.SevenTiedAt
set_option linter.unusedVariables false
set_option maxRecDepth 100000
set_option maxHeartbeats 4000000
namespace Go.Proofs.YtdohklfimhkicaaDoor
open Go.ChangeShapes Go.WideShapes Go.ChangeAt Go.RowKit
namespace FnExactImageRun
open Go.Proofs.YtdohklfimhkicaaDoor.X Go.Proofs.YtdohklfimhkicaaDoor.N
def ts : List TypeId := [3, 22, 39]
theorem ts_ok : ts.all (okT Tryd.prog ts) = true := by kernel_rfl
theorem c3 : Tryd.prog.cellsOf 3 = 1 := by kernel_rfl
def W22 : List Int → Prop := fun l => ∀ x ∈ l, (fun n => (Lit.int .i64 n).wf = true) x
theorem D22 : Dec Tryd.prog 22 (fun (l : List Int) => D.row 3 1 (l.map (D.int .i64))) W22 := Dec.slice T.u22 c3 (Dec.int T.u3)
theorem S39 : styp Tryd.prog 39 = some [22, 3, 22] := by kernel_rfl
def W39 : Go.Proofs.YtdohklfimhkicaaDoor.N.Machine → Prop := fun x => W22 x.Regs ∧ (fun n => (Lit.int .i64 n).wf = true) x.Pc ∧ W22 x.Mem
theorem D39 : Dec Tryd.prog 39 dMachine W39 := by
  intro d h0
  obtain ⟨ds, rfl, h⟩ := typ_agg S39 h0
  obtain ⟨x0, ds, rfl, w0, h⟩ := typ_cons D22 h
  obtain ⟨x1, ds, rfl, w1, h⟩ := typ_cons (Dec.int T.u3) h
  obtain ⟨x2, ds, rfl, w2, h⟩ := typ_cons D22 h
  obtain rfl := typ_nil h
  exact ⟨⟨x0, x1, x2⟩, rfl, ⟨w0, w1, w2⟩⟩
theorem own : ownKnob Tryd.prog.godebug = none := by kernel_rfl
theorem laidOut : laidOutB Tryd.prog = true := by kernel_rfl
abbrev laids : List (String × DataW Unit) := [("loop.example/cothreads/impl.instrTable", Rows.laid_loop_example_cothreads_impl_instrTable), ("loop.example/cothreads/impl.machineOps", Rows.laid_loop_example_cothreads_impl_machineOps)]
def gts : List TypeId := [3, 9, 88, 93, 94]
theorem gts_ok : gts.all (okF Tryd.prog gts) = true := by kernel_rfl
theorem lifted (os : Os) (started : os.Started) (H : Type) (enc : TypeId × Value → H) :
    ReturnsInHanded {} Tryd.checked os 4 .any (fun w args => (Rows.fnExactImageRunSpec.pre enc Tryd.prog Tryd.f4 [] false w args ∧ laidMet Tryd.prog laids w) ∧ sizedMet enc Tryd.prog Tryd.f4 (OpenSpec.ofChange Rows.fnExactImageRunSpec) false w args)
      (Rows.fnExactImageRunSpec.post enc Tryd.prog Tryd.f4 false true false false) := by
  refine returnsInHanded_of_change_and (C := Tryd.checked) (X := fun w _ => laidMet Tryd.prog laids w) (fun _ _ _ hh h => h.of_heap hh) own started (by kernel_rfl) Tryd.func4
    (ChangeSpec.witness_shaped (enc := enc) (C := Tryd.checked) (os := os) (X := fun w _ => laidMet Tryd.prog laids w) false (World.laidAll Tryd.prog os laids) #[.agg #[.slice none 0 0, .int .i64 0, .slice none 0 0], .int .i64 0] 8 (World.laidAll_os _ _ _)
      (World.shaped_of_ZipB (by kernel_rfl) (by kernel_rfl)) (by kernel_rfl) (by kernel_rfl) (by kernel_rfl)
      (laidMet_laidAll _ (by kernel_rfl) (by kernel_rfl))) ?_
  intro W base args ds gs before hval0 hW _ _ hL _
  have hval : ∀ (j : Nat) t v, Tryd.f4.params[j]? = some t → args[j]? = some v → Value.okWide Tryd.prog W .any base t v := hval0
  have hW' := hW
  obtain ⟨p, q, hA0, hV, rfl, hfz, hnd⟩ := hW
  have hA : DataW.TrodAll enc Tryd.prog W 0 (fun _ => true) true Tryd.f4.params.toList args.toList ds p := hA0
  rw [Tryd.params4] at hA hval
  obtain ⟨v0, vs0, d0, ds0, p0, q0, hargs, rfl, rfl, h0, r0⟩ := trodAll_cons hA
  obtain ⟨v1, vs1, d1, ds1, p1, q1, rfl, rfl, rfl, h1, r1⟩ := trodAll_cons r0
  obtain ⟨rfl, rfl, rfl⟩ := trodAll_nil r1
  obtain rfl : args = #[v0, v1] := by cases args; simp_all
  have hV1 : DataW.TrodVars enc Tryd.prog W (fun _ => true) ["loop.example/cothreads/impl.machineOps", "loop.example/cothreads/impl.instrTable"] gs q := hV
  obtain ⟨g0, g1, rfl⟩ := vars_two hV1
  obtain ⟨lp, hLv, _, _⟩ := hL
  obtain ⟨cs_0, hc_0, hv_0, lq_0, hLv⟩ := laid_cells gts_ok (g := 2) (t := 94) (by kernel_rfl) (by kernel_rfl) (by decide) hLv
  obtain ⟨cs_1, hc_1, hv_1, lq_1, hLv⟩ := laid_cells gts_ok (g := 1) (t := 88) (by kernel_rfl) (by kernel_rfl) (by decide) hLv
  have hG : Go.Proofs.YtdohklfimhkicaaDoor.N.Gl W := ⟨tab_of (fun _ => rfl) (hc_1.trans (by kernel_rfl)) hv_1 (by kernel_rfl), tab_of (fun _ => rfl) (hc_0.trans (by kernel_rfl)) hv_0 (by kernel_rfl)⟩
  have k0 := h0
  have lt0 : ∀ x ∈ p0, x.block < W.heap.size := by obtain ⟨m, hm⟩ := k0; exact DataW.trod_lt m _ _ _ hm
  obtain ⟨fuel, hf⟩ := h0
  obtain ⟨dd, hT, hR0, _⟩ := trod_typ (ts := ts) ts_ok (by decide) hf
  obtain ⟨a0, rfl, w0⟩ := D39 dd hT
  obtain ⟨cs0, rfl, _⟩ := okWide_struct Tryd.underlying39 (hval 0 39 v0 rfl rfl)
  obtain ⟨k, hk⟩ : ∃ k, k = cs0.toList := ⟨_, rfl⟩
  have hR : D.rd W (dMachine a0) (Old No W) k := hk ▸ hR0
  have hd : ∀ T', D.rd W (dMachine a0) T' k → D.rds W [.row 3 1 (a0.Regs.map (D.int .i64)), .int .i64 a0.Pc, .row 3 1 (a0.Mem.map (D.int .i64))] T' k := fun _ h => h
  clear hR0
  obtain ⟨z1, k, rfl, qz1, hd⟩ := rrowv hR hd
  obtain ⟨k, rfl, hd⟩ := rflat hR rfl hd
  obtain ⟨z2, k, rfl, qz2, hd⟩ := rrowv hR hd
  obtain rfl := rnil hR hd
  obtain rfl : cs0 = #[sv z1, .int .i64 a0.Pc, sv z2] := Array.ext' hk.symm
  have hR0 := hR
  clear hk hd
  have k1 := h1
  have lt1 : ∀ x ∈ p1, x.block < W.heap.size := by obtain ⟨m, hm⟩ := k1; exact DataW.trod_lt m _ _ _ hm
  obtain ⟨a1, rfl, rfl, rfl, w1⟩ := open_int Tryd.underlying3 (hval 1 3 v1 rfl rfl) h1
  clear hA0 hval0
  refine (Go.Proofs.YtdohklfimhkicaaDoor.N.laws_FnExactImageRun_ok (law_run a0 a1 (RV.le (qz1 _ hR0)) (RV.le (qz2 _ hR0))) (qz1 _ hR0) (qz2 _ hR0) hG).mono fun e W' ⟨_, he, hS⟩ => ?_
  subst he
  have bel := hS.below
  exact ⟨_, rfl, _, _, _, [], _, _, hW', trodAll_mk1 (shut_bool Tryd.underlying4 _), (trodAll_cons_mk (Below.trod laidOut (by kernel_rfl) (of_decide_eq_true (by kernel_rfl)) k0 bel lt0) (trodAll_cons_mk (Below.trod laidOut (by kernel_rfl) (of_decide_eq_true (by kernel_rfl)) k1 bel lt1) trodAll_mk0)), Below.trodVars laidOut bel (by kernel_rfl) hV1, bel.frame _, fun h => by cases h⟩
theorem row_holds : Rows.FnExactImageRunSaid :=
  OpenClaim.holds_of_wide 4 Tryd.f4 rfl rfl rfl rfl rfl rfl rfl ⟨rfl, rfl, rfl, rfl, rfl⟩ rfl rfl rfl rfl rfl (by kernel_rfl) Tryd.func4 (by kernel_rfl)
    (of_decide_eq_true (by kernel_rfl)) (by unfold Func.isWrapper; first | (rw [if_pos (by decide +kernel)]; kernel_rfl) | (rw [if_neg (by decide +kernel)]; exact ⟨rfl, rfl⟩))
    (fun os started H enc _ => lifted os started H enc)
end FnExactImageRun
theorem fnExactImageRun_card : Rows.FnExactImageRunCardSaid :=
  Claim7.holds_tied_plain_at .later [] [.wider, .data] true (true, "38c543a021ef6b159c103d4eb0cd8883ee5958c81b393c53b0cac12777413bfc") false
    FnExactImageRun.row_holds (fun _ h => by cases h) (by kernel_rfl) (fun _ h => by cases h) fnExactImageRun_row_tie rfl ⟨rfl, rfl⟩ (by kernel_rfl) rfl
    (fun f fn hf hfn => by
      obtain rfl : f = 4 := Option.some.inj ((show Tryd.prog.funcNamed "loop.example/cothreads/laws.FnExactImageRun" = some 4 by kernel_rfl).symm.trans hf) |>.symm
      obtain rfl : fn = Tryd.f4 := (Option.some.inj (Tryd.func4.symm.trans hfn)).symm
      exact ⟨by kernel_rfl, fun j t ht => by
        rw [Tryd.params4] at ht
        have hm : t ∈ [39, 3] := by simpa using Array.mem_of_getElem? ht
        have hall : ([39, 3].all fun u => !Tryd.prog.wantsStandIn u) = true := by kernel_rfl
        exact (show Tryd.prog.wantsStandIn t = false by simpa using List.all_eq_true.1 hall t hm)⟩)
    (by kernel_rfl)
#print axioms fnExactImageRun_card
end Go.Proofs.YtdohklfimhkicaaDoor
