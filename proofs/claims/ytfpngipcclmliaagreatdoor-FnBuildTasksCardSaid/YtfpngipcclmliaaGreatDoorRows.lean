/-
  NARROWER THAN 'FOR EVERY INPUT', by the rows' own cells (each row's printed sentence says how): FnBuildTasks: laid · FnExactBuildTasks: loops, laid · FnBuildImage: laid · FnExactBuildImage: loops, laid.
  DERIVED. THE GIVEN ROWS OF THIS SEAT. 4 by the template 'for every input the law returns true; each argument reads behind the call as it read before'; 0 by the template 'total and deterministic' (their statements: YtfpngipcclmliaaGreatDoorTotals.lean).
  GIVEN WITH THE SEED: the statements are not yours to turn. If you find one false, say at which input.
  Laid BY PROGRAM, IN A SANDBOX (cutbox-rows.mjs): the forced cells as the released guide's own fill.sh prints them over the translation 5b97d4ee37c52e4f… (all of the seat's roots in one cut). By AI agents, Wed Nov 11 2026. No macro, syntax, notation, axiom, sorry.
-/
import Derived.Test.YtfpngipcclmliaaGreatDoorChecked
import GoSem.Claim
import GoSem.ClaimJoined
import GoSem.ClaimMapViews
import Derived.JoinedTies
import Derived.KernelRfl
namespace Go.Proofs.YtfpngipcclmliaaGreatDoor
/- THE CELL 'sum', in the pinned program and in every row, IS THE sha256 OF THE DUMP (.gsa) THAT YtfpngipcclmliaaGreatDoorProg.lean LOADS. Nothing in Lean hashes anything: it is a label: what it is worth is what the hold of that sum in a sandbox is worth. -/
noncomputable def Tryz.pinned : Pinned := { name := "ytfpngipcclmliaagreatdoor", sum := "5b97d4ee37c52e4fb2dd716feb813062bdc5344e196ae9a1f96b1a5aa9e85d05", checked := Tryz.checked }
namespace Rows
def none {H : Type} : Left H := { results := [], args := [] }

/- WHAT THE LISTED PACKAGE-LEVEL VARIABLES READ AS WHEN THE CALL BEGINS. Each datum BY PROGRAM (the guide's laid-datum.mjs) off the statement by which the dump's own 'gosem.cut.vars' lays the variable. In a bare row this is a premise. The card (YtfpngipcclmliaaGreatDoorCards.lean) ties it to the program's text. -/
def laid_loop_example_cothreads_impl_colorRegs {H : Type} : DataW H := .agg [.lit (.int .i64 8), .lit (.int .i64 9), .lit (.int .i64 18), .lit (.int .i64 19), .lit (.int .i64 20), .lit (.int .i64 21), .lit (.int .i64 22), .lit (.int .i64 23)]
def laid_loop_example_cothreads_impl_binInstrs {H : Type} : DataW H := .agg [.lit (.int .i64 7), .lit (.int .i64 8), .lit (.int .i64 6), .lit (.int .i64 8), .lit (.int .i64 11), .lit (.int .i64 9), .lit (.int .i64 10), .lit (.int .i64 1), .lit (.int .i64 2), .lit (.int .i64 3), .lit (.int .i64 4), .lit (.int .i64 5)]
def laid_loop_example_cothreads_impl_instrTable {H : Type} : DataW H := .agg [.agg [.lit (.string [97, 100, 100]), .lit (.int .i64 51), .lit (.int .i64 0), .lit (.int .i64 0)], .agg [.lit (.string [115, 117, 98]), .lit (.int .i64 51), .lit (.int .i64 0), .lit (.int .i64 32)], .agg [.lit (.string [109, 117, 108]), .lit (.int .i64 51), .lit (.int .i64 0), .lit (.int .i64 1)], .agg [.lit (.string [100, 105, 118]), .lit (.int .i64 51), .lit (.int .i64 4), .lit (.int .i64 1)], .agg [.lit (.string [114, 101, 109]), .lit (.int .i64 51), .lit (.int .i64 6), .lit (.int .i64 1)], .agg [.lit (.string [97, 110, 100]), .lit (.int .i64 51), .lit (.int .i64 7), .lit (.int .i64 0)], .agg [.lit (.string [111, 114]), .lit (.int .i64 51), .lit (.int .i64 6), .lit (.int .i64 0)], .agg [.lit (.string [120, 111, 114]), .lit (.int .i64 51), .lit (.int .i64 4), .lit (.int .i64 0)], .agg [.lit (.string [115, 108, 108]), .lit (.int .i64 51), .lit (.int .i64 1), .lit (.int .i64 0)], .agg [.lit (.string [115, 114, 97]), .lit (.int .i64 51), .lit (.int .i64 5), .lit (.int .i64 32)], .agg [.lit (.string [115, 108, 116]), .lit (.int .i64 51), .lit (.int .i64 2), .lit (.int .i64 0)], .agg [.lit (.string [97, 100, 100, 105]), .lit (.int .i64 19), .lit (.int .i64 0), .lit (.int .i64 0)], .agg [.lit (.string [115, 108, 116, 105, 117]), .lit (.int .i64 19), .lit (.int .i64 3), .lit (.int .i64 0)], .agg [.lit (.string [108, 119]), .lit (.int .i64 3), .lit (.int .i64 2), .lit (.int .i64 0)], .agg [.lit (.string [106, 97, 108, 114]), .lit (.int .i64 103), .lit (.int .i64 0), .lit (.int .i64 0)], .agg [.lit (.string [115, 119]), .lit (.int .i64 35), .lit (.int .i64 2), .lit (.int .i64 0)], .agg [.lit (.string [98, 101, 113]), .lit (.int .i64 99), .lit (.int .i64 0), .lit (.int .i64 0)], .agg [.lit (.string [98, 110, 101]), .lit (.int .i64 99), .lit (.int .i64 1), .lit (.int .i64 0)], .agg [.lit (.string [108, 117, 105]), .lit (.int .i64 55), .lit (.int .i64 0), .lit (.int .i64 0)], .agg [.lit (.string [106, 97, 108]), .lit (.int .i64 111), .lit (.int .i64 0), .lit (.int .i64 0)], .agg [.lit (.string [101, 99, 97, 108, 108]), .lit (.int .i64 115), .lit (.int .i64 0), .lit (.int .i64 0)]]
def laid_loop_example_cothreads_impl_savedRegs {H : Type} : DataW H := .agg [.lit (.int .i64 1), .lit (.int .i64 2), .lit (.int .i64 8), .lit (.int .i64 9), .lit (.int .i64 18), .lit (.int .i64 19), .lit (.int .i64 20), .lit (.int .i64 21), .lit (.int .i64 22), .lit (.int .i64 23), .lit (.int .i64 10), .lit (.int .i64 11), .lit (.int .i64 17)]

/-- 'laws.FnBuildTasks': WHATEVER THE INPUT: true; the input reads as it did. -/
def fnBuildTasksSpec : ChangeSpec := { name := "fnBuildTasks", vars := ["loop.example/cothreads/impl.colorRegs", "loop.example/cothreads/impl.binInstrs"], fn := fun _ => fun
  | [d, g1, g2] => { results := [.lit (.bool true)], args := [d], vars := [g1, g2] }
  | _ => none }
def fnBuildTasksRow : OpenClaim := { program := "ytfpngipcclmliaagreatdoor", sum := "5b97d4ee37c52e4fb2dd716feb813062bdc5344e196ae9a1f96b1a5aa9e85d05", func := "loop.example/cothreads/laws.FnBuildTasks", spec := "fnBuildTasks", unfollowed := true, recurses := true, named := ["loop.example/cothreads/impl.colorRegs", "loop.example/cothreads/impl.binInstrs"], apart := false, laid := [("loop.example/cothreads/impl.colorRegs", laid_loop_example_cothreads_impl_colorRegs), ("loop.example/cothreads/impl.binInstrs", laid_loop_example_cothreads_impl_binInstrs)] }
def FnBuildTasksSaid : Prop := fnBuildTasksRow.holds Tryz.pinned (OpenSpec.ofChange fnBuildTasksSpec)

/-- ITS FALSE NEIGHBOUR: 'it returns false'. Refute it at one input. -/
def fnBuildTasksWrong : ChangeSpec := { name := "fnBuildTasks", vars := ["loop.example/cothreads/impl.colorRegs", "loop.example/cothreads/impl.binInstrs"], fn := fun _ => fun
  | [d, g1, g2] => { results := [.lit (.bool false)], args := [d], vars := [g1, g2] }
  | _ => none }
def FnBuildTasksWrongFalsely : Prop := fnBuildTasksRow.holds Tryz.pinned (OpenSpec.ofChange fnBuildTasksWrong)

/-- 'laws.FnExactBuildTasks': WHATEVER THE INPUT: true; the input reads as it did. -/
def fnExactBuildTasksSpec : ChangeSpec := { name := "fnExactBuildTasks", vars := ["loop.example/cothreads/impl.colorRegs", "loop.example/cothreads/impl.binInstrs"], fn := fun _ => fun
  | [d1, d2, d3, g1, g2] => { results := [.lit (.bool true)], args := [d1, d2, d3], vars := [g1, g2] }
  | _ => none }
def fnExactBuildTasksRow : OpenClaim := { program := "ytfpngipcclmliaagreatdoor", sum := "5b97d4ee37c52e4fb2dd716feb813062bdc5344e196ae9a1f96b1a5aa9e85d05", func := "loop.example/cothreads/laws.FnExactBuildTasks", spec := "fnExactBuildTasks", unfollowed := true, recurses := true, named := ["loop.example/cothreads/impl.colorRegs", "loop.example/cothreads/impl.binInstrs"], loops := true, apart := false, laid := [("loop.example/cothreads/impl.colorRegs", laid_loop_example_cothreads_impl_colorRegs), ("loop.example/cothreads/impl.binInstrs", laid_loop_example_cothreads_impl_binInstrs)] }
def FnExactBuildTasksSaid : Prop := fnExactBuildTasksRow.holds Tryz.pinned (OpenSpec.ofChange fnExactBuildTasksSpec)

/-- ITS FALSE NEIGHBOUR: 'it returns false'. Refute it at one input. -/
def fnExactBuildTasksWrong : ChangeSpec := { name := "fnExactBuildTasks", vars := ["loop.example/cothreads/impl.colorRegs", "loop.example/cothreads/impl.binInstrs"], fn := fun _ => fun
  | [d1, d2, d3, g1, g2] => { results := [.lit (.bool false)], args := [d1, d2, d3], vars := [g1, g2] }
  | _ => none }
def FnExactBuildTasksWrongFalsely : Prop := fnExactBuildTasksRow.holds Tryz.pinned (OpenSpec.ofChange fnExactBuildTasksWrong)

/-- 'laws.FnBuildImage': WHATEVER THE INPUT: true; the input reads as it did. -/
def fnBuildImageSpec : ChangeSpec := { name := "fnBuildImage", vars := ["loop.example/cothreads/impl.colorRegs", "loop.example/cothreads/impl.binInstrs", "loop.example/cothreads/impl.savedRegs", "loop.example/cothreads/impl.instrTable"], fn := fun _ => fun
  | [d, g1, g2, g3, g4] => { results := [.lit (.bool true)], args := [d], vars := [g1, g2, g3, g4] }
  | _ => none }
def fnBuildImageRow : OpenClaim := { program := "ytfpngipcclmliaagreatdoor", sum := "5b97d4ee37c52e4fb2dd716feb813062bdc5344e196ae9a1f96b1a5aa9e85d05", func := "loop.example/cothreads/laws.FnBuildImage", spec := "fnBuildImage", unfollowed := true, recurses := true, named := ["loop.example/cothreads/impl.colorRegs", "loop.example/cothreads/impl.binInstrs", "loop.example/cothreads/impl.savedRegs", "loop.example/cothreads/impl.instrTable"], apart := false, laid := [("loop.example/cothreads/impl.instrTable", laid_loop_example_cothreads_impl_instrTable), ("loop.example/cothreads/impl.colorRegs", laid_loop_example_cothreads_impl_colorRegs), ("loop.example/cothreads/impl.binInstrs", laid_loop_example_cothreads_impl_binInstrs), ("loop.example/cothreads/impl.savedRegs", laid_loop_example_cothreads_impl_savedRegs)] }
def FnBuildImageSaid : Prop := fnBuildImageRow.holds Tryz.pinned (OpenSpec.ofChange fnBuildImageSpec)

/-- ITS FALSE NEIGHBOUR: 'it returns false'. Refute it at one input. -/
def fnBuildImageWrong : ChangeSpec := { name := "fnBuildImage", vars := ["loop.example/cothreads/impl.colorRegs", "loop.example/cothreads/impl.binInstrs", "loop.example/cothreads/impl.savedRegs", "loop.example/cothreads/impl.instrTable"], fn := fun _ => fun
  | [d, g1, g2, g3, g4] => { results := [.lit (.bool false)], args := [d], vars := [g1, g2, g3, g4] }
  | _ => none }
def FnBuildImageWrongFalsely : Prop := fnBuildImageRow.holds Tryz.pinned (OpenSpec.ofChange fnBuildImageWrong)

/-- 'laws.FnExactBuildImage': WHATEVER THE INPUT: true; the input reads as it did. -/
def fnExactBuildImageSpec : ChangeSpec := { name := "fnExactBuildImage", vars := ["loop.example/cothreads/impl.colorRegs", "loop.example/cothreads/impl.binInstrs", "loop.example/cothreads/impl.savedRegs", "loop.example/cothreads/impl.instrTable"], fn := fun _ => fun
  | [d1, d2, d3, g1, g2, g3, g4] => { results := [.lit (.bool true)], args := [d1, d2, d3], vars := [g1, g2, g3, g4] }
  | _ => none }
def fnExactBuildImageRow : OpenClaim := { program := "ytfpngipcclmliaagreatdoor", sum := "5b97d4ee37c52e4fb2dd716feb813062bdc5344e196ae9a1f96b1a5aa9e85d05", func := "loop.example/cothreads/laws.FnExactBuildImage", spec := "fnExactBuildImage", unfollowed := true, recurses := true, named := ["loop.example/cothreads/impl.colorRegs", "loop.example/cothreads/impl.binInstrs", "loop.example/cothreads/impl.savedRegs", "loop.example/cothreads/impl.instrTable"], loops := true, apart := false, laid := [("loop.example/cothreads/impl.instrTable", laid_loop_example_cothreads_impl_instrTable), ("loop.example/cothreads/impl.colorRegs", laid_loop_example_cothreads_impl_colorRegs), ("loop.example/cothreads/impl.binInstrs", laid_loop_example_cothreads_impl_binInstrs), ("loop.example/cothreads/impl.savedRegs", laid_loop_example_cothreads_impl_savedRegs)] }
def FnExactBuildImageSaid : Prop := fnExactBuildImageRow.holds Tryz.pinned (OpenSpec.ofChange fnExactBuildImageSpec)

/-- ITS FALSE NEIGHBOUR: 'it returns false'. Refute it at one input. -/
def fnExactBuildImageWrong : ChangeSpec := { name := "fnExactBuildImage", vars := ["loop.example/cothreads/impl.colorRegs", "loop.example/cothreads/impl.binInstrs", "loop.example/cothreads/impl.savedRegs", "loop.example/cothreads/impl.instrTable"], fn := fun _ => fun
  | [d1, d2, d3, g1, g2, g3, g4] => { results := [.lit (.bool false)], args := [d1, d2, d3], vars := [g1, g2, g3, g4] }
  | _ => none }
def FnExactBuildImageWrongFalsely : Prop := fnExactBuildImageRow.holds Tryz.pinned (OpenSpec.ofChange fnExactBuildImageWrong)

/- THE SECOND FORM. 'bulk': how many values and letters a reading holds, each counted each time it is reached (what is shared counts as often as it is met; a slice's spare places count too). A statement '..UptoSaid' is the law's where the arguments, and the package variables that the reading takes, are together of bulk at most 1048576: NARROWER than '..Said'. Prove '..Said' where nothing that the law and all that it calls make is longer than what came in: it says more and counts as full. Else prove '..UptoSaid'. A law counts once. -/
mutual
def uptoBulk {H : Type} : DataW H → Nat
  | .lit (.string bytes) => bytes.length + 1
  | .lit _ => 1
  | .nil => 1
  | .ptr d => uptoBulk d + 1
  | .slice elems spare => uptoBulkAll elems + uptoBulkAll spare + 1
  | .agg parts => uptoBulkAll parts + 1
  | .iface _ d => uptoBulk d + 1
  | .map entries => uptoBulkEntries entries + 1
  | .held _ => 1
def uptoBulkAll {H : Type} : List (DataW H) → Nat
  | [] => 0
  | d :: r => uptoBulk d + uptoBulkAll r
def uptoBulkEntries {H : Type} : List (Lit × DataW H) → Nat
  | [] => 0
  | x :: r => uptoBulkEntry x + uptoBulkEntries r
def uptoBulkEntry {H : Type} : Lit × DataW H → Nat
  | (.string bytes, d) => bytes.length + uptoBulk d + 1
  | (_, d) => uptoBulk d + 1
 end
def uptoSmall : (H : Type) → List (DataW H) → Bool := fun _ ds => decide (uptoBulkAll ds ≤ 1048576)
def OpenSpec.upto (s : _root_.Go.ChangeSpec) : _root_.Go.OpenSpec := { _root_.Go.OpenSpec.ofChange s with cond := some uptoSmall }

/-- 'laws.FnBuildTasks', WHERE WHAT IT READS IS OF BULK AT MOST 1048576: true; the input reads as it did. -/
def fnBuildTasksUptoRow : OpenClaim := { program := "ytfpngipcclmliaagreatdoor", sum := "5b97d4ee37c52e4fb2dd716feb813062bdc5344e196ae9a1f96b1a5aa9e85d05", func := "loop.example/cothreads/laws.FnBuildTasks", spec := "fnBuildTasks", unfollowed := true, recurses := true, named := ["loop.example/cothreads/impl.colorRegs", "loop.example/cothreads/impl.binInstrs"], apart := false, laid := [("loop.example/cothreads/impl.colorRegs", laid_loop_example_cothreads_impl_colorRegs), ("loop.example/cothreads/impl.binInstrs", laid_loop_example_cothreads_impl_binInstrs)], narrowed := true }
def FnBuildTasksUptoSaid : Prop := fnBuildTasksUptoRow.holds Tryz.pinned (OpenSpec.upto fnBuildTasksSpec)

/-- 'laws.FnExactBuildTasks', WHERE WHAT IT READS IS OF BULK AT MOST 1048576: true; the input reads as it did. -/
def fnExactBuildTasksUptoRow : OpenClaim := { program := "ytfpngipcclmliaagreatdoor", sum := "5b97d4ee37c52e4fb2dd716feb813062bdc5344e196ae9a1f96b1a5aa9e85d05", func := "loop.example/cothreads/laws.FnExactBuildTasks", spec := "fnExactBuildTasks", unfollowed := true, recurses := true, named := ["loop.example/cothreads/impl.colorRegs", "loop.example/cothreads/impl.binInstrs"], loops := true, apart := false, laid := [("loop.example/cothreads/impl.colorRegs", laid_loop_example_cothreads_impl_colorRegs), ("loop.example/cothreads/impl.binInstrs", laid_loop_example_cothreads_impl_binInstrs)], narrowed := true }
def FnExactBuildTasksUptoSaid : Prop := fnExactBuildTasksUptoRow.holds Tryz.pinned (OpenSpec.upto fnExactBuildTasksSpec)

/-- 'laws.FnBuildImage', WHERE WHAT IT READS IS OF BULK AT MOST 1048576: true; the input reads as it did. -/
def fnBuildImageUptoRow : OpenClaim := { program := "ytfpngipcclmliaagreatdoor", sum := "5b97d4ee37c52e4fb2dd716feb813062bdc5344e196ae9a1f96b1a5aa9e85d05", func := "loop.example/cothreads/laws.FnBuildImage", spec := "fnBuildImage", unfollowed := true, recurses := true, named := ["loop.example/cothreads/impl.colorRegs", "loop.example/cothreads/impl.binInstrs", "loop.example/cothreads/impl.savedRegs", "loop.example/cothreads/impl.instrTable"], apart := false, laid := [("loop.example/cothreads/impl.instrTable", laid_loop_example_cothreads_impl_instrTable), ("loop.example/cothreads/impl.colorRegs", laid_loop_example_cothreads_impl_colorRegs), ("loop.example/cothreads/impl.binInstrs", laid_loop_example_cothreads_impl_binInstrs), ("loop.example/cothreads/impl.savedRegs", laid_loop_example_cothreads_impl_savedRegs)], narrowed := true }
def FnBuildImageUptoSaid : Prop := fnBuildImageUptoRow.holds Tryz.pinned (OpenSpec.upto fnBuildImageSpec)

/-- 'laws.FnExactBuildImage', WHERE WHAT IT READS IS OF BULK AT MOST 1048576: true; the input reads as it did. -/
def fnExactBuildImageUptoRow : OpenClaim := { program := "ytfpngipcclmliaagreatdoor", sum := "5b97d4ee37c52e4fb2dd716feb813062bdc5344e196ae9a1f96b1a5aa9e85d05", func := "loop.example/cothreads/laws.FnExactBuildImage", spec := "fnExactBuildImage", unfollowed := true, recurses := true, named := ["loop.example/cothreads/impl.colorRegs", "loop.example/cothreads/impl.binInstrs", "loop.example/cothreads/impl.savedRegs", "loop.example/cothreads/impl.instrTable"], loops := true, apart := false, laid := [("loop.example/cothreads/impl.instrTable", laid_loop_example_cothreads_impl_instrTable), ("loop.example/cothreads/impl.colorRegs", laid_loop_example_cothreads_impl_colorRegs), ("loop.example/cothreads/impl.binInstrs", laid_loop_example_cothreads_impl_binInstrs), ("loop.example/cothreads/impl.savedRegs", laid_loop_example_cothreads_impl_savedRegs)], narrowed := true }
def FnExactBuildImageUptoSaid : Prop := fnExactBuildImageUptoRow.holds Tryz.pinned (OpenSpec.upto fnExactBuildImageSpec)

end Rows
end Go.Proofs.YtfpngipcclmliaaGreatDoor
