/-
  NARROWER THAN 'FOR EVERY INPUT', by the rows' own cells (each row's printed sentence says how): FnExactRuntimeInstr: laid · FnRuntimeEnd: laid · FnRuntimeIdle: laid · FnRuntimeRegs: laid · FnRuntime: laid · FnRuntimeSave: laid.
  DERIVED. THE GIVEN ROWS OF THIS SEAT. 6 by the template 'for every input the law returns true; each argument reads behind the call as it read before'; 0 by the template 'total and deterministic' (their statements: YtodnendchboieaaDoorTotals.lean).
  GIVEN WITH THE SEED: the statements are not yours to turn. If you find one false, say at which input.
  Laid BY PROGRAM, IN A SANDBOX (cutbox-rows.mjs): the forced cells as the released guide's own fill.sh prints them over the translation 9bf9f11ee15734bd… (all of the seat's roots in one cut). By AI agents, Wed Nov 11 2026. No macro, syntax, notation, axiom, sorry.
-/
import Derived.Test.YtodnendchboieaaDoorChecked
import GoSem.Claim
import GoSem.ClaimJoined
import GoSem.ClaimMapViews
import Derived.JoinedTies
import Derived.KernelRfl
namespace Go.Proofs.YtodnendchboieaaDoor
/- THE CELL 'sum', in the pinned program and in every row, IS THE sha256 OF THE DUMP (.gsa) THAT YtodnendchboieaaDoorProg.lean LOADS. Nothing in Lean hashes anything: it is a label: what it is worth is what the hold of that sum in a sandbox is worth. -/
noncomputable def Tryd.pinned : Pinned := { name := "ytodnendchboieaadoor", sum := "9bf9f11ee15734bdb4e221112a6c7a3e5a13f34497a32324367148472e96c4ca", checked := Tryd.checked }
namespace Rows
def none {H : Type} : Left H := { results := [], args := [] }

/- WHAT THE LISTED PACKAGE-LEVEL VARIABLES READ AS WHEN THE CALL BEGINS. Each datum BY PROGRAM (the guide's laid-datum.mjs) off the statement by which the dump's own 'gosem.cut.vars' lays the variable. In a bare row this is a premise. The card (YtodnendchboieaaDoorCards.lean) ties it to the program's text. -/
def laid_loop_example_cothreads_impl_savedRegs {H : Type} : DataW H := .agg [.lit (.int .i64 1), .lit (.int .i64 2), .lit (.int .i64 8), .lit (.int .i64 9), .lit (.int .i64 18), .lit (.int .i64 19), .lit (.int .i64 20), .lit (.int .i64 21), .lit (.int .i64 22), .lit (.int .i64 23), .lit (.int .i64 10), .lit (.int .i64 11), .lit (.int .i64 17)]

/-- 'laws.FnExactRuntimeInstr': WHATEVER THE INPUT: true; the input reads as it did. -/
def fnExactRuntimeInstrSpec : ChangeSpec := { name := "fnExactRuntimeInstr", vars := ["loop.example/cothreads/impl.savedRegs"], fn := fun _ => fun
  | [d, g1] => { results := [.lit (.bool true)], args := [d], vars := [g1] }
  | _ => none }
def fnExactRuntimeInstrRow : OpenClaim := { program := "ytodnendchboieaadoor", sum := "9bf9f11ee15734bdb4e221112a6c7a3e5a13f34497a32324367148472e96c4ca", func := "loop.example/cothreads/laws.FnExactRuntimeInstr", spec := "fnExactRuntimeInstr", named := ["loop.example/cothreads/impl.savedRegs"], apart := false, laid := [("loop.example/cothreads/impl.savedRegs", laid_loop_example_cothreads_impl_savedRegs)] }
def FnExactRuntimeInstrSaid : Prop := fnExactRuntimeInstrRow.holds Tryd.pinned (OpenSpec.ofChange fnExactRuntimeInstrSpec)

/-- ITS FALSE NEIGHBOUR: 'it returns false'. Refute it at one input. -/
def fnExactRuntimeInstrWrong : ChangeSpec := { name := "fnExactRuntimeInstr", vars := ["loop.example/cothreads/impl.savedRegs"], fn := fun _ => fun
  | [d, g1] => { results := [.lit (.bool false)], args := [d], vars := [g1] }
  | _ => none }
def FnExactRuntimeInstrWrongFalsely : Prop := fnExactRuntimeInstrRow.holds Tryd.pinned (OpenSpec.ofChange fnExactRuntimeInstrWrong)

/-- 'laws.FnRuntimeEnd': WHATEVER THE INPUT: true; the input reads as it did. -/
def fnRuntimeEndSpec : ChangeSpec := { name := "fnRuntimeEnd", vars := ["loop.example/cothreads/impl.savedRegs"], fn := fun _ => fun
  | [d, g1] => { results := [.lit (.bool true)], args := [d], vars := [g1] }
  | _ => none }
def fnRuntimeEndRow : OpenClaim := { program := "ytodnendchboieaadoor", sum := "9bf9f11ee15734bdb4e221112a6c7a3e5a13f34497a32324367148472e96c4ca", func := "loop.example/cothreads/laws.FnRuntimeEnd", spec := "fnRuntimeEnd", named := ["loop.example/cothreads/impl.savedRegs"], apart := false, laid := [("loop.example/cothreads/impl.savedRegs", laid_loop_example_cothreads_impl_savedRegs)] }
def FnRuntimeEndSaid : Prop := fnRuntimeEndRow.holds Tryd.pinned (OpenSpec.ofChange fnRuntimeEndSpec)

/-- ITS FALSE NEIGHBOUR: 'it returns false'. Refute it at one input. -/
def fnRuntimeEndWrong : ChangeSpec := { name := "fnRuntimeEnd", vars := ["loop.example/cothreads/impl.savedRegs"], fn := fun _ => fun
  | [d, g1] => { results := [.lit (.bool false)], args := [d], vars := [g1] }
  | _ => none }
def FnRuntimeEndWrongFalsely : Prop := fnRuntimeEndRow.holds Tryd.pinned (OpenSpec.ofChange fnRuntimeEndWrong)

/-- 'laws.FnRuntimeIdle': WHATEVER THE INPUT: true; the input reads as it did. -/
def fnRuntimeIdleSpec : ChangeSpec := { name := "fnRuntimeIdle", vars := ["loop.example/cothreads/impl.savedRegs"], fn := fun _ => fun
  | [d, g1] => { results := [.lit (.bool true)], args := [d], vars := [g1] }
  | _ => none }
def fnRuntimeIdleRow : OpenClaim := { program := "ytodnendchboieaadoor", sum := "9bf9f11ee15734bdb4e221112a6c7a3e5a13f34497a32324367148472e96c4ca", func := "loop.example/cothreads/laws.FnRuntimeIdle", spec := "fnRuntimeIdle", named := ["loop.example/cothreads/impl.savedRegs"], apart := false, laid := [("loop.example/cothreads/impl.savedRegs", laid_loop_example_cothreads_impl_savedRegs)] }
def FnRuntimeIdleSaid : Prop := fnRuntimeIdleRow.holds Tryd.pinned (OpenSpec.ofChange fnRuntimeIdleSpec)

/-- ITS FALSE NEIGHBOUR: 'it returns false'. Refute it at one input. -/
def fnRuntimeIdleWrong : ChangeSpec := { name := "fnRuntimeIdle", vars := ["loop.example/cothreads/impl.savedRegs"], fn := fun _ => fun
  | [d, g1] => { results := [.lit (.bool false)], args := [d], vars := [g1] }
  | _ => none }
def FnRuntimeIdleWrongFalsely : Prop := fnRuntimeIdleRow.holds Tryd.pinned (OpenSpec.ofChange fnRuntimeIdleWrong)

/-- 'laws.FnRuntimeRegs': WHATEVER THE INPUT: true; the input reads as it did. -/
def fnRuntimeRegsSpec : ChangeSpec := { name := "fnRuntimeRegs", vars := ["loop.example/cothreads/impl.savedRegs"], fn := fun _ => fun
  | [d, g1] => { results := [.lit (.bool true)], args := [d], vars := [g1] }
  | _ => none }
def fnRuntimeRegsRow : OpenClaim := { program := "ytodnendchboieaadoor", sum := "9bf9f11ee15734bdb4e221112a6c7a3e5a13f34497a32324367148472e96c4ca", func := "loop.example/cothreads/laws.FnRuntimeRegs", spec := "fnRuntimeRegs", named := ["loop.example/cothreads/impl.savedRegs"], apart := false, laid := [("loop.example/cothreads/impl.savedRegs", laid_loop_example_cothreads_impl_savedRegs)] }
def FnRuntimeRegsSaid : Prop := fnRuntimeRegsRow.holds Tryd.pinned (OpenSpec.ofChange fnRuntimeRegsSpec)

/-- ITS FALSE NEIGHBOUR: 'it returns false'. Refute it at one input. -/
def fnRuntimeRegsWrong : ChangeSpec := { name := "fnRuntimeRegs", vars := ["loop.example/cothreads/impl.savedRegs"], fn := fun _ => fun
  | [d, g1] => { results := [.lit (.bool false)], args := [d], vars := [g1] }
  | _ => none }
def FnRuntimeRegsWrongFalsely : Prop := fnRuntimeRegsRow.holds Tryd.pinned (OpenSpec.ofChange fnRuntimeRegsWrong)

/-- 'laws.FnRuntime': WHATEVER THE INPUT: true; the input reads as it did. -/
def fnRuntimeSpec : ChangeSpec := { name := "fnRuntime", vars := ["loop.example/cothreads/impl.savedRegs"], fn := fun _ => fun
  | [d, g1] => { results := [.lit (.bool true)], args := [d], vars := [g1] }
  | _ => none }
def fnRuntimeRow : OpenClaim := { program := "ytodnendchboieaadoor", sum := "9bf9f11ee15734bdb4e221112a6c7a3e5a13f34497a32324367148472e96c4ca", func := "loop.example/cothreads/laws.FnRuntime", spec := "fnRuntime", named := ["loop.example/cothreads/impl.savedRegs"], apart := false, laid := [("loop.example/cothreads/impl.savedRegs", laid_loop_example_cothreads_impl_savedRegs)] }
def FnRuntimeSaid : Prop := fnRuntimeRow.holds Tryd.pinned (OpenSpec.ofChange fnRuntimeSpec)

/-- ITS FALSE NEIGHBOUR: 'it returns false'. Refute it at one input. -/
def fnRuntimeWrong : ChangeSpec := { name := "fnRuntime", vars := ["loop.example/cothreads/impl.savedRegs"], fn := fun _ => fun
  | [d, g1] => { results := [.lit (.bool false)], args := [d], vars := [g1] }
  | _ => none }
def FnRuntimeWrongFalsely : Prop := fnRuntimeRow.holds Tryd.pinned (OpenSpec.ofChange fnRuntimeWrong)

/-- 'laws.FnRuntimeSave': WHATEVER THE INPUT: true; the input reads as it did. -/
def fnRuntimeSaveSpec : ChangeSpec := { name := "fnRuntimeSave", vars := ["loop.example/cothreads/impl.savedRegs"], fn := fun _ => fun
  | [d, g1] => { results := [.lit (.bool true)], args := [d], vars := [g1] }
  | _ => none }
def fnRuntimeSaveRow : OpenClaim := { program := "ytodnendchboieaadoor", sum := "9bf9f11ee15734bdb4e221112a6c7a3e5a13f34497a32324367148472e96c4ca", func := "loop.example/cothreads/laws.FnRuntimeSave", spec := "fnRuntimeSave", named := ["loop.example/cothreads/impl.savedRegs"], apart := false, laid := [("loop.example/cothreads/impl.savedRegs", laid_loop_example_cothreads_impl_savedRegs)] }
def FnRuntimeSaveSaid : Prop := fnRuntimeSaveRow.holds Tryd.pinned (OpenSpec.ofChange fnRuntimeSaveSpec)

/-- ITS FALSE NEIGHBOUR: 'it returns false'. Refute it at one input. -/
def fnRuntimeSaveWrong : ChangeSpec := { name := "fnRuntimeSave", vars := ["loop.example/cothreads/impl.savedRegs"], fn := fun _ => fun
  | [d, g1] => { results := [.lit (.bool false)], args := [d], vars := [g1] }
  | _ => none }
def FnRuntimeSaveWrongFalsely : Prop := fnRuntimeSaveRow.holds Tryd.pinned (OpenSpec.ofChange fnRuntimeSaveWrong)

/- THE SECOND FORM. 'bulk': how many values and letters a reading holds, each counted each time it is reached (what is shared counts as often as it is met; a slice's spare places count too). A statement '..UptoSaid' is the law's where the arguments, and the package variables that the reading takes, are together of bulk at most 1048576: NARROWER than '..Said'. Prove '..Said' where nothing that the law and all that it calls make is longer than what came in: it says more and counts as full. Else prove '..UptoSaid'. A law counts once. -/
mutual
def uptoBulk {H : Type} : DataW H → Nat
  | .lit (.string bytes) => bytes.length + 1
  | .lit _ => 1
  | .nil => 1
  | .ptr d => uptoBulk d + 1
  | .slice elems spare => uptoBulkAll elems + uptoBulkAll spare + 1
  | .agg parts => uptoBulkAll parts + 1
  | .iface _ d => uptoBulk d + 1
  | .map entries => uptoBulkEntries entries + 1
  | .held _ => 1
def uptoBulkAll {H : Type} : List (DataW H) → Nat
  | [] => 0
  | d :: r => uptoBulk d + uptoBulkAll r
def uptoBulkEntries {H : Type} : List (Lit × DataW H) → Nat
  | [] => 0
  | x :: r => uptoBulkEntry x + uptoBulkEntries r
def uptoBulkEntry {H : Type} : Lit × DataW H → Nat
  | (.string bytes, d) => bytes.length + uptoBulk d + 1
  | (_, d) => uptoBulk d + 1
 end
def uptoSmall : (H : Type) → List (DataW H) → Bool := fun _ ds => decide (uptoBulkAll ds ≤ 1048576)
def OpenSpec.upto (s : _root_.Go.ChangeSpec) : _root_.Go.OpenSpec := { _root_.Go.OpenSpec.ofChange s with cond := some uptoSmall }

/-- 'laws.FnExactRuntimeInstr', WHERE WHAT IT READS IS OF BULK AT MOST 1048576: true; the input reads as it did. -/
def fnExactRuntimeInstrUptoRow : OpenClaim := { program := "ytodnendchboieaadoor", sum := "9bf9f11ee15734bdb4e221112a6c7a3e5a13f34497a32324367148472e96c4ca", func := "loop.example/cothreads/laws.FnExactRuntimeInstr", spec := "fnExactRuntimeInstr", named := ["loop.example/cothreads/impl.savedRegs"], apart := false, laid := [("loop.example/cothreads/impl.savedRegs", laid_loop_example_cothreads_impl_savedRegs)], narrowed := true }
def FnExactRuntimeInstrUptoSaid : Prop := fnExactRuntimeInstrUptoRow.holds Tryd.pinned (OpenSpec.upto fnExactRuntimeInstrSpec)

/-- 'laws.FnRuntimeEnd', WHERE WHAT IT READS IS OF BULK AT MOST 1048576: true; the input reads as it did. -/
def fnRuntimeEndUptoRow : OpenClaim := { program := "ytodnendchboieaadoor", sum := "9bf9f11ee15734bdb4e221112a6c7a3e5a13f34497a32324367148472e96c4ca", func := "loop.example/cothreads/laws.FnRuntimeEnd", spec := "fnRuntimeEnd", named := ["loop.example/cothreads/impl.savedRegs"], apart := false, laid := [("loop.example/cothreads/impl.savedRegs", laid_loop_example_cothreads_impl_savedRegs)], narrowed := true }
def FnRuntimeEndUptoSaid : Prop := fnRuntimeEndUptoRow.holds Tryd.pinned (OpenSpec.upto fnRuntimeEndSpec)

/-- 'laws.FnRuntimeIdle', WHERE WHAT IT READS IS OF BULK AT MOST 1048576: true; the input reads as it did. -/
def fnRuntimeIdleUptoRow : OpenClaim := { program := "ytodnendchboieaadoor", sum := "9bf9f11ee15734bdb4e221112a6c7a3e5a13f34497a32324367148472e96c4ca", func := "loop.example/cothreads/laws.FnRuntimeIdle", spec := "fnRuntimeIdle", named := ["loop.example/cothreads/impl.savedRegs"], apart := false, laid := [("loop.example/cothreads/impl.savedRegs", laid_loop_example_cothreads_impl_savedRegs)], narrowed := true }
def FnRuntimeIdleUptoSaid : Prop := fnRuntimeIdleUptoRow.holds Tryd.pinned (OpenSpec.upto fnRuntimeIdleSpec)

/-- 'laws.FnRuntimeRegs', WHERE WHAT IT READS IS OF BULK AT MOST 1048576: true; the input reads as it did. -/
def fnRuntimeRegsUptoRow : OpenClaim := { program := "ytodnendchboieaadoor", sum := "9bf9f11ee15734bdb4e221112a6c7a3e5a13f34497a32324367148472e96c4ca", func := "loop.example/cothreads/laws.FnRuntimeRegs", spec := "fnRuntimeRegs", named := ["loop.example/cothreads/impl.savedRegs"], apart := false, laid := [("loop.example/cothreads/impl.savedRegs", laid_loop_example_cothreads_impl_savedRegs)], narrowed := true }
def FnRuntimeRegsUptoSaid : Prop := fnRuntimeRegsUptoRow.holds Tryd.pinned (OpenSpec.upto fnRuntimeRegsSpec)

/-- 'laws.FnRuntime', WHERE WHAT IT READS IS OF BULK AT MOST 1048576: true; the input reads as it did. -/
def fnRuntimeUptoRow : OpenClaim := { program := "ytodnendchboieaadoor", sum := "9bf9f11ee15734bdb4e221112a6c7a3e5a13f34497a32324367148472e96c4ca", func := "loop.example/cothreads/laws.FnRuntime", spec := "fnRuntime", named := ["loop.example/cothreads/impl.savedRegs"], apart := false, laid := [("loop.example/cothreads/impl.savedRegs", laid_loop_example_cothreads_impl_savedRegs)], narrowed := true }
def FnRuntimeUptoSaid : Prop := fnRuntimeUptoRow.holds Tryd.pinned (OpenSpec.upto fnRuntimeSpec)

/-- 'laws.FnRuntimeSave', WHERE WHAT IT READS IS OF BULK AT MOST 1048576: true; the input reads as it did. -/
def fnRuntimeSaveUptoRow : OpenClaim := { program := "ytodnendchboieaadoor", sum := "9bf9f11ee15734bdb4e221112a6c7a3e5a13f34497a32324367148472e96c4ca", func := "loop.example/cothreads/laws.FnRuntimeSave", spec := "fnRuntimeSave", named := ["loop.example/cothreads/impl.savedRegs"], apart := false, laid := [("loop.example/cothreads/impl.savedRegs", laid_loop_example_cothreads_impl_savedRegs)], narrowed := true }
def FnRuntimeSaveUptoSaid : Prop := fnRuntimeSaveUptoRow.holds Tryd.pinned (OpenSpec.upto fnRuntimeSaveSpec)

end Rows
end Go.Proofs.YtodnendchboieaaDoor
