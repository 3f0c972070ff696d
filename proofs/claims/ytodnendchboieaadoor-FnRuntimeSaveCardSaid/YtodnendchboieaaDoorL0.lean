/- What the rows of this seat share: the laid variable's cells. -/
import Derived.Test.YtodnendchboieaaDoorXr
import Derived.Test.YtodnendchboieaaDoorN
import Derived.Test.YtodnendchboieaaDoorTie
import Derived.Test.YtodnendchboieaaDoorCards
import Derived.ChangeSame
import Derived.ChangeVars
import Derived.JoinedOf
import Derived.RowKit
import Derived.OpenShut
import Derived.Lib.LaidTab
import Derived.Lib.SmallJoins
set_option linter.unusedVariables false
set_option maxRecDepth 100000
namespace Go.Proofs.YtodnendchboieaaDoor
open Go.ChangeShapes Go.WideShapes Go.RowKit Go.ChangeAt
namespace L
open Go.Proofs.YtodnendchboieaaDoor.X Go.Proofs.YtodnendchboieaaDoor.N
theorem own : ownKnob Tryd.prog.godebug = none := by kernel_rfl
theorem laidOut : laidOutB Tryd.prog = true := by kernel_rfl
theorem vg : Tryd.prog.globalNamed "loop.example/cothreads/impl.savedRegs" = some 0 := by kernel_rfl
theorem vt : (Tryd.prog.globals[0]?).map (·.type) = some 44 := by kernel_rfl
abbrev laids : List (String × DataW Unit) := [("loop.example/cothreads/impl.savedRegs", Rows.laid_loop_example_cothreads_impl_savedRegs)]
def cellsR : Array Value := (savedRegs.map (Value.int .i64)).toArray
theorem cells_of_laid {W : World} (h : laidMet Tryd.prog laids W) : W.var? Tryd.prog "loop.example/cothreads/impl.savedRegs" = some cellsR :=
  Lib.tabIs_of_head (k := .i64) (zs := savedRegs) vg vt Tryd.underlying44 Tryd.underlying3 (by kernel_rfl) (by kernel_rfl) h
abbrev tableH {H : Type} : DataW H := Rows.laid_loop_example_cothreads_impl_savedRegs
theorem reads_table {H : Type} (enc : TypeId × Value → H) (W : World) (sp : Nat → Bool) : DataW.trod enc Tryd.prog W 0 sp true 3 44 cellsR.toList = some (tableH, []) := by kernel_rfl
noncomputable def laidWorld (os : Os) : World :=
  { World.holding Tryd.prog os ⟨#[], #[], []⟩ with heap := (World.holding Tryd.prog os ⟨#[], #[], []⟩).heap.modify 0 fun
      | .cells _ t frozen => .cells cellsR t frozen
      | o => o }
theorem glob {W : World} (h : W.var? Tryd.prog "loop.example/cothreads/impl.savedRegs" = some cellsR) : Gl W := by
  intro j u hj
  rw [World.var?_cell vg h j]
  simpa [cellsR] using hj
end L
end Go.Proofs.YtodnendchboieaaDoor
