/- For every input the law FnExactImageNew returns true and leaves its arguments as they were. Condition (tied by the card to the program's text): the package-level variables impl.instrTable, impl.savedRegs read as the program lays them. -/
import Derived.Test.YtdohklfimhkicaaDoorQe
import Derived.Test.YtdohklfimhkicaaDoorT9c
import Derived.Test.YtdohklfimhkicaaDoorR2
import Derived.Test.YtdohklfimhkicaaDoorTie
import Derived.Test.YtdohklfimhkicaaDoorCards
import Derived.Carry
import Derived.ProofKit
import Derived.OpenShut
import Derived.OpenVars
import Derived.ChangeSame
import Derived.ChangeVars
import Derived.RowKit
import Derived.Handy
import Derived.Lay
import Derived.SevenTiedAt
set_option linter.unusedVariables false
set_option maxRecDepth 100000
set_option maxHeartbeats 4000000
namespace Go.Proofs.YtdohklfimhkicaaDoor
open Go.ChangeShapes Go.WideShapes Go.ChangeAt Go.RowKit
namespace FnExactImageNew
open Go.Proofs.YtdohklfimhkicaaDoor.X Go.Proofs.YtdohklfimhkicaaDoor.N
def ts : List TypeId := [3, 22, 23, 46, 71]
theorem ts_ok : ts.all (okT Tryd.prog ts) = true := by kernel_rfl
theorem c3 : Tryd.prog.cellsOf 3 = 1 := by kernel_rfl
def W22 : List Int → Prop := fun l => ∀ x ∈ l, (fun n => (Lit.int .i64 n).wf = true) x
theorem D22 : Dec Tryd.prog 22 (fun (l : List Int) => D.row 3 1 (l.map (D.int .i64))) W22 := Dec.slice T.u22 c3 (Dec.int T.u3)
theorem S71 : styp Tryd.prog 71 = some [3, 3, 3, 3, 3] := by kernel_rfl
def W71 : Go.Proofs.YtdohklfimhkicaaDoor.N.Instr → Prop := fun x => (fun n => (Lit.int .i64 n).wf = true) x.Op ∧ (fun n => (Lit.int .i64 n).wf = true) x.Rd ∧ (fun n => (Lit.int .i64 n).wf = true) x.Rs ∧ (fun n => (Lit.int .i64 n).wf = true) x.Rt ∧ (fun n => (Lit.int .i64 n).wf = true) x.Imm
theorem D71 : Dec Tryd.prog 71 dInstr W71 := by
  intro d h0
  obtain ⟨ds, rfl, h⟩ := typ_agg S71 h0
  obtain ⟨x0, ds, rfl, w0, h⟩ := typ_cons (Dec.int T.u3) h
  obtain ⟨x1, ds, rfl, w1, h⟩ := typ_cons (Dec.int T.u3) h
  obtain ⟨x2, ds, rfl, w2, h⟩ := typ_cons (Dec.int T.u3) h
  obtain ⟨x3, ds, rfl, w3, h⟩ := typ_cons (Dec.int T.u3) h
  obtain ⟨x4, ds, rfl, w4, h⟩ := typ_cons (Dec.int T.u3) h
  obtain rfl := typ_nil h
  exact ⟨⟨x0, x1, x2, x3, x4⟩, rfl, ⟨w0, w1, w2, w3, w4⟩⟩
theorem c71 : Tryd.prog.cellsOf 71 = 5 := by kernel_rfl
def W46 : List Go.Proofs.YtdohklfimhkicaaDoor.N.Instr → Prop := fun l => ∀ x ∈ l, W71 x
theorem D46 : Dec Tryd.prog 46 (fun (l : List Instr) => D.row 71 5 (l.map dInstr)) W46 := Dec.slice T.u46 c71 D71
theorem c46 : Tryd.prog.cellsOf 46 = 1 := by kernel_rfl
def W23 : List (List Go.Proofs.YtdohklfimhkicaaDoor.N.Instr) → Prop := fun l => ∀ x ∈ l, W46 x
theorem D23 : Dec Tryd.prog 23 (fun (l : List (List Instr)) => D.row 46 1 (l.map (fun (l : List Instr) => D.row 71 5 (l.map dInstr)))) W23 := Dec.slice T.u23 c46 D46
theorem own : ownKnob Tryd.prog.godebug = none := by kernel_rfl
theorem laidOut : laidOutB Tryd.prog = true := by kernel_rfl
abbrev laids : List (String × DataW Unit) := [("loop.example/cothreads/impl.instrTable", Rows.laid_loop_example_cothreads_impl_instrTable), ("loop.example/cothreads/impl.savedRegs", Rows.laid_loop_example_cothreads_impl_savedRegs)]
def gts : List TypeId := [3, 9, 76, 93, 94]
theorem gts_ok : gts.all (okF Tryd.prog gts) = true := by kernel_rfl
theorem lifted (os : Os) (started : os.Started) (H : Type) (enc : TypeId × Value → H) :
    ReturnsInHanded {} Tryd.checked os 3 .any (fun w args => (Rows.fnExactImageNewSpec.pre enc Tryd.prog Tryd.f3 [] false w args ∧ laidMet Tryd.prog laids w) ∧ sizedMet enc Tryd.prog Tryd.f3 (OpenSpec.ofChange Rows.fnExactImageNewSpec) false w args)
      (Rows.fnExactImageNewSpec.post enc Tryd.prog Tryd.f3 false true false false) := by
  refine returnsInHanded_of_change_and (C := Tryd.checked) (X := fun w _ => laidMet Tryd.prog laids w) (fun _ _ _ hh h => h.of_heap hh) own started (by kernel_rfl) Tryd.func3
    (ChangeSpec.witness_shaped (enc := enc) (C := Tryd.checked) (os := os) (X := fun w _ => laidMet Tryd.prog laids w) false (World.laidAll Tryd.prog os laids) #[.slice none 0 0, .slice none 0 0] 8 (World.laidAll_os _ _ _)
      (World.shaped_of_ZipB (by kernel_rfl) (by kernel_rfl)) (by kernel_rfl) (by kernel_rfl) (by kernel_rfl)
      (laidMet_laidAll _ (by kernel_rfl) (by kernel_rfl))) ?_
  intro W base args ds gs before hval0 hW _ _ hL _
  have hval : ∀ (j : Nat) t v, Tryd.f3.params[j]? = some t → args[j]? = some v → Value.okWide Tryd.prog W .any base t v := hval0
  have hW' := hW
  obtain ⟨p, q, hA0, hV, rfl, hfz, hnd⟩ := hW
  have hA : DataW.TrodAll enc Tryd.prog W 0 (fun _ => true) true Tryd.f3.params.toList args.toList ds p := hA0
  rw [Tryd.params3] at hA hval
  obtain ⟨v0, vs0, d0, ds0, p0, q0, hargs, rfl, rfl, h0, r0⟩ := trodAll_cons hA
  obtain ⟨v1, vs1, d1, ds1, p1, q1, rfl, rfl, rfl, h1, r1⟩ := trodAll_cons r0
  obtain ⟨rfl, rfl, rfl⟩ := trodAll_nil r1
  obtain rfl : args = #[v0, v1] := by cases args; simp_all
  have hV1 : DataW.TrodVars enc Tryd.prog W (fun _ => true) ["loop.example/cothreads/impl.savedRegs", "loop.example/cothreads/impl.instrTable"] gs q := hV
  obtain ⟨g0, g1, rfl⟩ := vars_two hV1
  obtain ⟨lp, hLv, _, _⟩ := hL
  obtain ⟨cs_0, hc_0, hv_0, lq_0, hLv⟩ := laid_cells gts_ok (g := 2) (t := 94) (by kernel_rfl) (by kernel_rfl) (by decide) hLv
  obtain ⟨cs_1, hc_1, hv_1, lq_1, hLv⟩ := laid_cells gts_ok (g := 0) (t := 76) (by kernel_rfl) (by kernel_rfl) (by decide) hLv
  have hG : Go.Proofs.YtdohklfimhkicaaDoor.N.Gl W := ⟨glob_of (hc_1.trans (by kernel_rfl)) hv_1, tab_of (fun _ => rfl) (hc_0.trans (by kernel_rfl)) hv_0 (by kernel_rfl)⟩
  have k0 := h0
  have lt0 : ∀ x ∈ p0, x.block < W.heap.size := by obtain ⟨m, hm⟩ := k0; exact DataW.trod_lt m _ _ _ hm
  obtain ⟨fuel, hf⟩ := h0
  obtain ⟨dd, hT, hR0, _⟩ := trod_typ (ts := ts) ts_ok (by decide) hf
  obtain ⟨a0, rfl, w0⟩ := D22 dd hT
  obtain ⟨A0, n0, c0, rfl⟩ := okWide_slice Tryd.underlying22 (hval 0 22 v0 rfl rfl)
  have q0 : RV W (Old No W) (sv ⟨A0, n0, c0⟩) 3 1 (D.int .i64) a0 := hR0
  have k1 := h1
  have lt1 : ∀ x ∈ p1, x.block < W.heap.size := by obtain ⟨m, hm⟩ := k1; exact DataW.trod_lt m _ _ _ hm
  obtain ⟨fuel, hf⟩ := h1
  obtain ⟨dd, hT, hR1, _⟩ := trod_typ (ts := ts) ts_ok (by decide) hf
  obtain ⟨a1, rfl, w1⟩ := D23 dd hT
  obtain ⟨A1, n1, c1, rfl⟩ := okWide_slice Tryd.underlying23 (hval 1 23 v1 rfl rfl)
  have q1 : RV W (Old No W) (sv ⟨A1, n1, c1⟩) 46 1 (fun (l : List Instr) => D.row 71 5 (l.map dInstr)) a1 := hR1
  clear hA0 hval0
  refine (Go.Proofs.YtdohklfimhkicaaDoor.N.laws_FnExactImageNew_ok (law_new a0 a1 (RV.le q1) (RV.lens q1)) q0 q1 hG).mono fun e W' ⟨_, he, hS⟩ => ?_
  subst he
  have bel := hS.below
  exact ⟨_, rfl, _, _, _, [], _, _, hW', trodAll_mk1 (shut_bool Tryd.underlying4 _), (trodAll_cons_mk (Below.trod laidOut (by kernel_rfl) (of_decide_eq_true (by kernel_rfl)) k0 bel lt0) (trodAll_cons_mk (Below.trod laidOut (by kernel_rfl) (of_decide_eq_true (by kernel_rfl)) k1 bel lt1) trodAll_mk0)), Below.trodVars laidOut bel (by kernel_rfl) hV1, bel.frame _, fun h => by cases h⟩
theorem row_holds : Rows.FnExactImageNewSaid :=
  OpenClaim.holds_of_wide 3 Tryd.f3 rfl rfl rfl rfl rfl rfl rfl ⟨rfl, rfl, rfl, rfl, rfl⟩ rfl rfl rfl rfl rfl (by kernel_rfl) Tryd.func3 (by kernel_rfl)
    (of_decide_eq_true (by kernel_rfl)) (by unfold Func.isWrapper; first | (rw [if_pos (by decide +kernel)]; kernel_rfl) | (rw [if_neg (by decide +kernel)]; exact ⟨rfl, rfl⟩))
    (fun os started H enc _ => lifted os started H enc)
end FnExactImageNew
theorem fnExactImageNew_card : Rows.FnExactImageNewCardSaid :=
  Claim7.holds_tied_plain_at .later [] [.wider, .data] true (true, "38c543a021ef6b159c103d4eb0cd8883ee5958c81b393c53b0cac12777413bfc") false
    FnExactImageNew.row_holds (fun _ h => by cases h) (by kernel_rfl) (fun _ h => by cases h) fnExactImageNew_row_tie rfl ⟨rfl, rfl⟩ (by kernel_rfl) rfl
    (fun f fn hf hfn => by
      obtain rfl : f = 3 := Option.some.inj ((show Tryd.prog.funcNamed "loop.example/cothreads/laws.FnExactImageNew" = some 3 by kernel_rfl).symm.trans hf) |>.symm
      obtain rfl : fn = Tryd.f3 := (Option.some.inj (Tryd.func3.symm.trans hfn)).symm
      exact ⟨by kernel_rfl, fun j t ht => by
        rw [Tryd.params3] at ht
        have hm : t ∈ [22, 23] := by simpa using Array.mem_of_getElem? ht
        have hall : ([22, 23].all fun u => !Tryd.prog.wantsStandIn u) = true := by kernel_rfl
        exact (show Tryd.prog.wantsStandIn t = false by simpa using List.all_eq_true.1 hall t hm)⟩)
    (by kernel_rfl)
#print axioms fnExactImageNew_card
end Go.Proofs.YtdohklfimhkicaaDoor
