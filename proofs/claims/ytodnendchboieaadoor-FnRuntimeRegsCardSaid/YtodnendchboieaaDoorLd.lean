/- For every input the law FnRuntimeRegs returns true and leaves its argument as it was. Condition (tied by the card to the program's text): the package-level variable impl.savedRegs reads as the program lays it. -/
import Derived.Test.YtodnendchboieaaDoorL0
import Derived.Carry
import Derived.Test.YtodnendchboieaaDoorPb
import Derived.Test.YtodnendchboieaaDoorTie
import Derived.Test.YtodnendchboieaaDoorCards
import Derived.ChangeSame
import Derived.ChangeVars
import Derived.JoinedOf
import Derived.RowKit
import Derived.OpenShut
import Derived.Lib.LaidTab
import Derived.Lib.SmallJoins
set_option linter.unusedVariables false
set_option maxRecDepth 100000
namespace Go.Proofs.YtodnendchboieaaDoor
open Go.ChangeShapes Go.WideShapes Go.RowKit Go.ChangeAt
namespace FnRuntimeRegs
open Go.Proofs.YtodnendchboieaaDoor.X Go.Proofs.YtodnendchboieaaDoor.N
open L
theorem laidWorld_row (os : Os) : ((laidWorld os).forCall (fun _ _ => 0) ⟨#[], #[.slice none 0 0], []⟩).memory.heap[0]? = some (.cells cellsR 44 (0, 0)) := by kernel_rfl
theorem lifted (os : Os) (started : os.Started) (H : Type) (enc : TypeId × Value → H) :
    ReturnsInHanded {} Tryd.checked os 6 .any (fun w args => (Rows.fnRuntimeRegsSpec.pre enc Tryd.prog Tryd.f6 [] false w args ∧ laidMet Tryd.prog laids w) ∧ sizedMet enc Tryd.prog Tryd.f6 (OpenSpec.ofChange Rows.fnRuntimeRegsSpec) false w args)
      (Rows.fnRuntimeRegsSpec.post enc Tryd.prog Tryd.f6 false true false false) := by
  refine returnsInHanded_of_change_and (C := Tryd.checked) (X := fun w _ => laidMet Tryd.prog laids w) (fun _ _ _ hh h => h.of_heap hh) own started (by kernel_rfl) Tryd.func6
    (ChangeSpec.witness_at (enc := enc) (C := Tryd.checked) (os := os) (X := fun w _ => laidMet Tryd.prog laids w) false (laidWorld os) #[.slice none 0 0] 8 rfl (by kernel_rfl) (by kernel_rfl) (by kernel_rfl) (by kernel_rfl) (by kernel_rfl)
      ⟨_, ⟨0, 44, cellsR, 8, [], [], by kernel_rfl, by kernel_rfl, by kernel_rfl, by kernel_rfl, rfl, rfl⟩, by decide, fun b off h => by
        have h' : MemPlace.cell b off ∈ (List.range 13).map (MemPlace.cell 0) := h
        obtain ⟨i, hi, e⟩ := List.mem_map.1 h'
        injection e with e1 e2
        subst e1
        subst e2
        refine ⟨⟨_, _, laidWorld_row os⟩, fun u v hc => ?_⟩
        simp only [World.cell?, laidWorld_row os, cellsR] at hc
        have hi' : i < 13 := by simpa using hi
        have : (savedRegs.map (Value.int .i64))[i]? = some (Value.int .i64 (savedRegs.getD i 0)) := by
          have hl : i < savedRegs.length := hi'
          simp [List.getElem?_eq_getElem hl, List.getD_eq_getElem?_getD]
        simp [this] at hc⟩) ?_
  intro W base args ds gs before hval0 hW _ _ hL _
  have hval : ∀ (j : Nat) t v, Tryd.f6.params[j]? = some t → args[j]? = some v → Value.okWide Tryd.prog W .any base t v := hval0
  have hW' := hW
  obtain ⟨p, q, hA0, hV0, rfl, hfz, hnd⟩ := hW
  have hA : DataW.TrodAll enc Tryd.prog W 0 (fun _ => true) true Tryd.f6.params.toList args.toList ds p := hA0
  have hV : DataW.TrodVars enc Tryd.prog W (fun _ => true) ["loop.example/cothreads/impl.savedRegs"] gs q := hV0
  rw [Tryd.params6] at hA hval
  obtain ⟨v0, d0, rfl, rfl, h0⟩ := trodAll_one hA
  have k0 := h0
  have lt0 : ∀ x ∈ p, x.block < W.heap.size := by obtain ⟨m, hm⟩ := k0; exact DataW.trod_lt m _ _ _ hm
  obtain ⟨A, l, c, rfl, hrd, hwf⟩ := open_slice Tryd.underlying28 Tryd.underlying5 (by kernel_rfl) h0 (okWide_slice Tryd.underlying28 (hval 0 28 v0 rfl rfl))
  obtain ⟨g, t, cs, fuel, d, p', rfl, hg, ht, hvar, hd, rfl⟩ := trodVars_one hV
  obtain rfl := Option.some.inj (vg.symm.trans hg)
  obtain rfl := Option.some.inj (vt.symm.trans ht)
  obtain rfl : cs = cellsR := Option.some.inj (hvar.symm.trans (cells_of_laid hL))
  obtain ⟨rfl, rfl⟩ := DataW.Trod.unique (v := .agg cellsR) ⟨fuel, hd⟩ ⟨3, reads_table enc W _⟩
  clear hA0 hV0 hval0
  refine (laws_FnRuntimeRegs_ok (law_FnRuntimeRegs l) hrd (glob hvar)).mono fun e W' ⟨_, he, hS⟩ => ?_
  subst he
  have bel := hS.below
  have hvars : ∀ sp : Nat → Bool, DataW.TrodVars enc Tryd.prog W' sp ["loop.example/cothreads/impl.savedRegs"] [tableH] (MemPlace.row ⟨0, 0, none⟩ cellsR.size ++ [] ++ []) := fun sp =>
    ⟨0, 44, cellsR, 3, [], [], hg, ht, _root_.Go.Joins.var_stays hg hvar bel (Nat.le_refl _), reads_table enc W' sp, rfl, rfl⟩
  exact ⟨_, rfl, _, _, _, [], _, _, hW', trodAll_mk1 (shut_bool Tryd.underlying4 _), trodAll_mk1 (Below.trod laidOut (by kernel_rfl) (of_decide_eq_true (by kernel_rfl)) k0 bel lt0), hvars _, bel.frame _, fun h => by cases h⟩
theorem row_holds : Rows.FnRuntimeRegsSaid :=
  OpenClaim.holds_of_wide 6 Tryd.f6 rfl rfl rfl rfl rfl rfl rfl ⟨rfl, rfl, rfl, rfl, rfl⟩ rfl rfl rfl rfl rfl (by kernel_rfl) Tryd.func6 (by kernel_rfl)
    (of_decide_eq_true (by kernel_rfl)) (by unfold Func.isWrapper; first | (rw [if_pos (by decide +kernel)]; kernel_rfl) | (rw [if_neg (by decide +kernel)]; exact ⟨rfl, rfl⟩))
    (fun os started H enc _ => lifted os started H enc)
end FnRuntimeRegs
theorem fnRuntimeRegs_card : Rows.FnRuntimeRegsCardSaid :=
  Claim7.holds_tied_plain_at .later [] [.data] true (true, "28beb48465dc37d58bade87a86551678f00f74b23a7006e32b3dd11e8a41b0f7") false
    FnRuntimeRegs.row_holds (fun _ h => by cases h) (by kernel_rfl) (fun _ h => by cases h) fnRuntimeRegs_row_tie rfl ⟨rfl, rfl⟩ (by kernel_rfl) rfl
    (fun f fn hf hfn => by
      obtain rfl : f = 6 := Option.some.inj ((show Tryd.prog.funcNamed "loop.example/cothreads/laws.FnRuntimeRegs" = some 6 by kernel_rfl).symm.trans hf) |>.symm
      obtain rfl : fn = Tryd.f6 := (Option.some.inj (Tryd.func6.symm.trans hfn)).symm
      exact ⟨by kernel_rfl, fun j t ht => by
        rw [Tryd.params6] at ht
        have hm : t ∈ [28] := by simpa using Array.mem_of_getElem? ht
        have hall : ([28].all fun u => !Tryd.prog.wantsStandIn u) = true := by kernel_rfl
        exact (show Tryd.prog.wantsStandIn t = false by simpa using List.all_eq_true.1 hall t hm)⟩)
    (by kernel_rfl)
#print axioms fnRuntimeRegs_card
end Go.Proofs.YtodnendchboieaaDoor
