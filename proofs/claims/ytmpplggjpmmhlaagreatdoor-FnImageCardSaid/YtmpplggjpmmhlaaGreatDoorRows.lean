/-
  NARROWER THAN 'FOR EVERY INPUT', by the rows' own cells (each row's printed sentence says how): FnHartNew: laid · FnSquadNew: laid · FnImageBlocks: laid · FnImageData: laid · FnImageFirst: laid · FnImage: laid · FnImageRun: laid · FnImageStep: laid.
  DERIVED. THE GIVEN ROWS OF THIS SEAT. 8 by the template 'for every input the law returns true; each argument reads behind the call as it read before'; 0 by the template 'total and deterministic' (their statements: YtmpplggjpmmhlaaGreatDoorTotals.lean).
  GIVEN WITH THE SEED: the statements are not yours to turn. If you find one false, say at which input.
  Laid BY PROGRAM, IN A SANDBOX (cutbox-rows.mjs): the forced cells as the released guide's own fill.sh prints them over the translation 502847429491154c… (all of the seat's roots in one cut). By AI agents, Wed Nov 11 2026. No macro, syntax, notation, axiom, sorry.
-/
import Derived.Test.YtmpplggjpmmhlaaGreatDoorChecked
import GoSem.Claim
import GoSem.ClaimJoined
import GoSem.ClaimMapViews
import Derived.JoinedTies
import Derived.KernelRfl
namespace Go.Proofs.YtmpplggjpmmhlaaGreatDoor
/- THE CELL 'sum', in the pinned program and in every row, IS THE sha256 OF THE DUMP (.gsa) THAT YtmpplggjpmmhlaaGreatDoorProg.lean LOADS. Nothing in Lean hashes anything: it is a label: what it is worth is what the hold of that sum in a sandbox is worth. -/
noncomputable def Tryz.pinned : Pinned := { name := "ytmpplggjpmmhlaagreatdoor", sum := "502847429491154c94c2ed19e765128d4af84b67baff28340b3ea517e503f099", checked := Tryz.checked }
namespace Rows
def none {H : Type} : Left H := { results := [], args := [] }

/- WHAT THE LISTED PACKAGE-LEVEL VARIABLES READ AS WHEN THE CALL BEGINS. Each datum BY PROGRAM (the guide's laid-datum.mjs) off the statement by which the dump's own 'gosem.cut.vars' lays the variable. In a bare row this is a premise. The card (YtmpplggjpmmhlaaGreatDoorCards.lean) ties it to the program's text. -/
def laid_loop_example_cothreads_impl_instrTable {H : Type} : DataW H := .agg [.agg [.lit (.string [97, 100, 100]), .lit (.int .i64 51), .lit (.int .i64 0), .lit (.int .i64 0)], .agg [.lit (.string [115, 117, 98]), .lit (.int .i64 51), .lit (.int .i64 0), .lit (.int .i64 32)], .agg [.lit (.string [109, 117, 108]), .lit (.int .i64 51), .lit (.int .i64 0), .lit (.int .i64 1)], .agg [.lit (.string [100, 105, 118]), .lit (.int .i64 51), .lit (.int .i64 4), .lit (.int .i64 1)], .agg [.lit (.string [114, 101, 109]), .lit (.int .i64 51), .lit (.int .i64 6), .lit (.int .i64 1)], .agg [.lit (.string [97, 110, 100]), .lit (.int .i64 51), .lit (.int .i64 7), .lit (.int .i64 0)], .agg [.lit (.string [111, 114]), .lit (.int .i64 51), .lit (.int .i64 6), .lit (.int .i64 0)], .agg [.lit (.string [120, 111, 114]), .lit (.int .i64 51), .lit (.int .i64 4), .lit (.int .i64 0)], .agg [.lit (.string [115, 108, 108]), .lit (.int .i64 51), .lit (.int .i64 1), .lit (.int .i64 0)], .agg [.lit (.string [115, 114, 97]), .lit (.int .i64 51), .lit (.int .i64 5), .lit (.int .i64 32)], .agg [.lit (.string [115, 108, 116]), .lit (.int .i64 51), .lit (.int .i64 2), .lit (.int .i64 0)], .agg [.lit (.string [97, 100, 100, 105]), .lit (.int .i64 19), .lit (.int .i64 0), .lit (.int .i64 0)], .agg [.lit (.string [115, 108, 116, 105, 117]), .lit (.int .i64 19), .lit (.int .i64 3), .lit (.int .i64 0)], .agg [.lit (.string [108, 119]), .lit (.int .i64 3), .lit (.int .i64 2), .lit (.int .i64 0)], .agg [.lit (.string [106, 97, 108, 114]), .lit (.int .i64 103), .lit (.int .i64 0), .lit (.int .i64 0)], .agg [.lit (.string [115, 119]), .lit (.int .i64 35), .lit (.int .i64 2), .lit (.int .i64 0)], .agg [.lit (.string [98, 101, 113]), .lit (.int .i64 99), .lit (.int .i64 0), .lit (.int .i64 0)], .agg [.lit (.string [98, 110, 101]), .lit (.int .i64 99), .lit (.int .i64 1), .lit (.int .i64 0)], .agg [.lit (.string [108, 117, 105]), .lit (.int .i64 55), .lit (.int .i64 0), .lit (.int .i64 0)], .agg [.lit (.string [106, 97, 108]), .lit (.int .i64 111), .lit (.int .i64 0), .lit (.int .i64 0)], .agg [.lit (.string [101, 99, 97, 108, 108]), .lit (.int .i64 115), .lit (.int .i64 0), .lit (.int .i64 0)]]
def laid_loop_example_cothreads_impl_savedRegs {H : Type} : DataW H := .agg [.lit (.int .i64 1), .lit (.int .i64 2), .lit (.int .i64 8), .lit (.int .i64 9), .lit (.int .i64 18), .lit (.int .i64 19), .lit (.int .i64 20), .lit (.int .i64 21), .lit (.int .i64 22), .lit (.int .i64 23), .lit (.int .i64 10), .lit (.int .i64 11), .lit (.int .i64 17)]
def laid_loop_example_cothreads_impl_machineOps {H : Type} : DataW H := .agg [.lit (.int .i64 8), .lit (.int .i64 9), .lit (.int .i64 10), .lit (.int .i64 11), .lit (.int .i64 12), .lit (.int .i64 3), .lit (.int .i64 1), .lit (.int .i64 2), .lit (.int .i64 6), .lit (.int .i64 7), .lit (.int .i64 5)]

/-- 'laws.FnHartNew': WHATEVER THE INPUT: true; the input reads as it did. -/
def fnHartNewSpec : ChangeSpec := { name := "fnHartNew", vars := ["loop.example/cothreads/impl.instrTable"], fn := fun _ => fun
  | [d, g1] => { results := [.lit (.bool true)], args := [d], vars := [g1] }
  | _ => none }
def fnHartNewRow : OpenClaim := { program := "ytmpplggjpmmhlaagreatdoor", sum := "502847429491154c94c2ed19e765128d4af84b67baff28340b3ea517e503f099", func := "loop.example/cothreads/laws.FnHartNew", spec := "fnHartNew", unfollowed := true, recurses := true, named := ["loop.example/cothreads/impl.instrTable"], apart := false, laid := [("loop.example/cothreads/impl.instrTable", laid_loop_example_cothreads_impl_instrTable)] }
def FnHartNewSaid : Prop := fnHartNewRow.holds Tryz.pinned (OpenSpec.ofChange fnHartNewSpec)

/-- ITS FALSE NEIGHBOUR: 'it returns false'. Refute it at one input. -/
def fnHartNewWrong : ChangeSpec := { name := "fnHartNew", vars := ["loop.example/cothreads/impl.instrTable"], fn := fun _ => fun
  | [d, g1] => { results := [.lit (.bool false)], args := [d], vars := [g1] }
  | _ => none }
def FnHartNewWrongFalsely : Prop := fnHartNewRow.holds Tryz.pinned (OpenSpec.ofChange fnHartNewWrong)

/-- 'laws.FnSquadNew': WHATEVER THE INPUT: true; the input reads as it did. -/
def fnSquadNewSpec : ChangeSpec := { name := "fnSquadNew", vars := ["loop.example/cothreads/impl.instrTable"], fn := fun _ => fun
  | [d, g1] => { results := [.lit (.bool true)], args := [d], vars := [g1] }
  | _ => none }
def fnSquadNewRow : OpenClaim := { program := "ytmpplggjpmmhlaagreatdoor", sum := "502847429491154c94c2ed19e765128d4af84b67baff28340b3ea517e503f099", func := "loop.example/cothreads/laws.FnSquadNew", spec := "fnSquadNew", unfollowed := true, recurses := true, named := ["loop.example/cothreads/impl.instrTable"], apart := false, laid := [("loop.example/cothreads/impl.instrTable", laid_loop_example_cothreads_impl_instrTable)] }
def FnSquadNewSaid : Prop := fnSquadNewRow.holds Tryz.pinned (OpenSpec.ofChange fnSquadNewSpec)

/-- ITS FALSE NEIGHBOUR: 'it returns false'. Refute it at one input. -/
def fnSquadNewWrong : ChangeSpec := { name := "fnSquadNew", vars := ["loop.example/cothreads/impl.instrTable"], fn := fun _ => fun
  | [d, g1] => { results := [.lit (.bool false)], args := [d], vars := [g1] }
  | _ => none }
def FnSquadNewWrongFalsely : Prop := fnSquadNewRow.holds Tryz.pinned (OpenSpec.ofChange fnSquadNewWrong)

/-- 'laws.FnImageBlocks': WHATEVER THE INPUT: true; the input reads as it did. -/
def fnImageBlocksSpec : ChangeSpec := { name := "fnImageBlocks", vars := ["loop.example/cothreads/impl.savedRegs", "loop.example/cothreads/impl.instrTable"], fn := fun _ => fun
  | [d, g1, g2] => { results := [.lit (.bool true)], args := [d], vars := [g1, g2] }
  | _ => none }
def fnImageBlocksRow : OpenClaim := { program := "ytmpplggjpmmhlaagreatdoor", sum := "502847429491154c94c2ed19e765128d4af84b67baff28340b3ea517e503f099", func := "loop.example/cothreads/laws.FnImageBlocks", spec := "fnImageBlocks", unfollowed := true, recurses := true, named := ["loop.example/cothreads/impl.savedRegs", "loop.example/cothreads/impl.instrTable"], apart := false, laid := [("loop.example/cothreads/impl.instrTable", laid_loop_example_cothreads_impl_instrTable), ("loop.example/cothreads/impl.savedRegs", laid_loop_example_cothreads_impl_savedRegs)] }
def FnImageBlocksSaid : Prop := fnImageBlocksRow.holds Tryz.pinned (OpenSpec.ofChange fnImageBlocksSpec)

/-- ITS FALSE NEIGHBOUR: 'it returns false'. Refute it at one input. -/
def fnImageBlocksWrong : ChangeSpec := { name := "fnImageBlocks", vars := ["loop.example/cothreads/impl.savedRegs", "loop.example/cothreads/impl.instrTable"], fn := fun _ => fun
  | [d, g1, g2] => { results := [.lit (.bool false)], args := [d], vars := [g1, g2] }
  | _ => none }
def FnImageBlocksWrongFalsely : Prop := fnImageBlocksRow.holds Tryz.pinned (OpenSpec.ofChange fnImageBlocksWrong)

/-- 'laws.FnImageData': WHATEVER THE INPUT: true; the input reads as it did. -/
def fnImageDataSpec : ChangeSpec := { name := "fnImageData", vars := ["loop.example/cothreads/impl.savedRegs", "loop.example/cothreads/impl.instrTable"], fn := fun _ => fun
  | [d, g1, g2] => { results := [.lit (.bool true)], args := [d], vars := [g1, g2] }
  | _ => none }
def fnImageDataRow : OpenClaim := { program := "ytmpplggjpmmhlaagreatdoor", sum := "502847429491154c94c2ed19e765128d4af84b67baff28340b3ea517e503f099", func := "loop.example/cothreads/laws.FnImageData", spec := "fnImageData", unfollowed := true, recurses := true, named := ["loop.example/cothreads/impl.savedRegs", "loop.example/cothreads/impl.instrTable"], apart := false, laid := [("loop.example/cothreads/impl.instrTable", laid_loop_example_cothreads_impl_instrTable), ("loop.example/cothreads/impl.savedRegs", laid_loop_example_cothreads_impl_savedRegs)] }
def FnImageDataSaid : Prop := fnImageDataRow.holds Tryz.pinned (OpenSpec.ofChange fnImageDataSpec)

/-- ITS FALSE NEIGHBOUR: 'it returns false'. Refute it at one input. -/
def fnImageDataWrong : ChangeSpec := { name := "fnImageData", vars := ["loop.example/cothreads/impl.savedRegs", "loop.example/cothreads/impl.instrTable"], fn := fun _ => fun
  | [d, g1, g2] => { results := [.lit (.bool false)], args := [d], vars := [g1, g2] }
  | _ => none }
def FnImageDataWrongFalsely : Prop := fnImageDataRow.holds Tryz.pinned (OpenSpec.ofChange fnImageDataWrong)

/-- 'laws.FnImageFirst': WHATEVER THE INPUT: true; the input reads as it did. -/
def fnImageFirstSpec : ChangeSpec := { name := "fnImageFirst", vars := ["loop.example/cothreads/impl.savedRegs", "loop.example/cothreads/impl.instrTable"], fn := fun _ => fun
  | [d, g1, g2] => { results := [.lit (.bool true)], args := [d], vars := [g1, g2] }
  | _ => none }
def fnImageFirstRow : OpenClaim := { program := "ytmpplggjpmmhlaagreatdoor", sum := "502847429491154c94c2ed19e765128d4af84b67baff28340b3ea517e503f099", func := "loop.example/cothreads/laws.FnImageFirst", spec := "fnImageFirst", unfollowed := true, recurses := true, named := ["loop.example/cothreads/impl.savedRegs", "loop.example/cothreads/impl.instrTable"], apart := false, laid := [("loop.example/cothreads/impl.instrTable", laid_loop_example_cothreads_impl_instrTable), ("loop.example/cothreads/impl.savedRegs", laid_loop_example_cothreads_impl_savedRegs)] }
def FnImageFirstSaid : Prop := fnImageFirstRow.holds Tryz.pinned (OpenSpec.ofChange fnImageFirstSpec)

/-- ITS FALSE NEIGHBOUR: 'it returns false'. Refute it at one input. -/
def fnImageFirstWrong : ChangeSpec := { name := "fnImageFirst", vars := ["loop.example/cothreads/impl.savedRegs", "loop.example/cothreads/impl.instrTable"], fn := fun _ => fun
  | [d, g1, g2] => { results := [.lit (.bool false)], args := [d], vars := [g1, g2] }
  | _ => none }
def FnImageFirstWrongFalsely : Prop := fnImageFirstRow.holds Tryz.pinned (OpenSpec.ofChange fnImageFirstWrong)

/-- 'laws.FnImage': WHATEVER THE INPUT: true; the input reads as it did. -/
def fnImageSpec : ChangeSpec := { name := "fnImage", vars := ["loop.example/cothreads/impl.savedRegs", "loop.example/cothreads/impl.instrTable"], fn := fun _ => fun
  | [d, g1, g2] => { results := [.lit (.bool true)], args := [d], vars := [g1, g2] }
  | _ => none }
def fnImageRow : OpenClaim := { program := "ytmpplggjpmmhlaagreatdoor", sum := "502847429491154c94c2ed19e765128d4af84b67baff28340b3ea517e503f099", func := "loop.example/cothreads/laws.FnImage", spec := "fnImage", unfollowed := true, recurses := true, named := ["loop.example/cothreads/impl.savedRegs", "loop.example/cothreads/impl.instrTable"], apart := false, laid := [("loop.example/cothreads/impl.instrTable", laid_loop_example_cothreads_impl_instrTable), ("loop.example/cothreads/impl.savedRegs", laid_loop_example_cothreads_impl_savedRegs)] }
def FnImageSaid : Prop := fnImageRow.holds Tryz.pinned (OpenSpec.ofChange fnImageSpec)

/-- ITS FALSE NEIGHBOUR: 'it returns false'. Refute it at one input. -/
def fnImageWrong : ChangeSpec := { name := "fnImage", vars := ["loop.example/cothreads/impl.savedRegs", "loop.example/cothreads/impl.instrTable"], fn := fun _ => fun
  | [d, g1, g2] => { results := [.lit (.bool false)], args := [d], vars := [g1, g2] }
  | _ => none }
def FnImageWrongFalsely : Prop := fnImageRow.holds Tryz.pinned (OpenSpec.ofChange fnImageWrong)

/-- 'laws.FnImageRun': WHATEVER THE INPUT: true; the input reads as it did. -/
def fnImageRunSpec : ChangeSpec := { name := "fnImageRun", vars := ["loop.example/cothreads/impl.machineOps", "loop.example/cothreads/impl.instrTable"], fn := fun _ => fun
  | [d1, d2, g1, g2] => { results := [.lit (.bool true)], args := [d1, d2], vars := [g1, g2] }
  | _ => none }
def fnImageRunRow : OpenClaim := { program := "ytmpplggjpmmhlaagreatdoor", sum := "502847429491154c94c2ed19e765128d4af84b67baff28340b3ea517e503f099", func := "loop.example/cothreads/laws.FnImageRun", spec := "fnImageRun", unfollowed := true, recurses := true, named := ["loop.example/cothreads/impl.machineOps", "loop.example/cothreads/impl.instrTable"], apart := false, laid := [("loop.example/cothreads/impl.instrTable", laid_loop_example_cothreads_impl_instrTable), ("loop.example/cothreads/impl.machineOps", laid_loop_example_cothreads_impl_machineOps)] }
def FnImageRunSaid : Prop := fnImageRunRow.holds Tryz.pinned (OpenSpec.ofChange fnImageRunSpec)

/-- ITS FALSE NEIGHBOUR: 'it returns false'. Refute it at one input. -/
def fnImageRunWrong : ChangeSpec := { name := "fnImageRun", vars := ["loop.example/cothreads/impl.machineOps", "loop.example/cothreads/impl.instrTable"], fn := fun _ => fun
  | [d1, d2, g1, g2] => { results := [.lit (.bool false)], args := [d1, d2], vars := [g1, g2] }
  | _ => none }
def FnImageRunWrongFalsely : Prop := fnImageRunRow.holds Tryz.pinned (OpenSpec.ofChange fnImageRunWrong)

/-- 'laws.FnImageStep': WHATEVER THE INPUT: true; the input reads as it did. -/
def fnImageStepSpec : ChangeSpec := { name := "fnImageStep", vars := ["loop.example/cothreads/impl.machineOps", "loop.example/cothreads/impl.instrTable"], fn := fun _ => fun
  | [d, g1, g2] => { results := [.lit (.bool true)], args := [d], vars := [g1, g2] }
  | _ => none }
def fnImageStepRow : OpenClaim := { program := "ytmpplggjpmmhlaagreatdoor", sum := "502847429491154c94c2ed19e765128d4af84b67baff28340b3ea517e503f099", func := "loop.example/cothreads/laws.FnImageStep", spec := "fnImageStep", unfollowed := true, recurses := true, named := ["loop.example/cothreads/impl.machineOps", "loop.example/cothreads/impl.instrTable"], apart := false, laid := [("loop.example/cothreads/impl.instrTable", laid_loop_example_cothreads_impl_instrTable), ("loop.example/cothreads/impl.machineOps", laid_loop_example_cothreads_impl_machineOps)] }
def FnImageStepSaid : Prop := fnImageStepRow.holds Tryz.pinned (OpenSpec.ofChange fnImageStepSpec)

/-- ITS FALSE NEIGHBOUR: 'it returns false'. Refute it at one input. -/
def fnImageStepWrong : ChangeSpec := { name := "fnImageStep", vars := ["loop.example/cothreads/impl.machineOps", "loop.example/cothreads/impl.instrTable"], fn := fun _ => fun
  | [d, g1, g2] => { results := [.lit (.bool false)], args := [d], vars := [g1, g2] }
  | _ => none }
def FnImageStepWrongFalsely : Prop := fnImageStepRow.holds Tryz.pinned (OpenSpec.ofChange fnImageStepWrong)

/- THE SECOND FORM. 'bulk': how many values and letters a reading holds, each counted each time it is reached (what is shared counts as often as it is met; a slice's spare places count too). A statement '..UptoSaid' is the law's where the arguments, and the package variables that the reading takes, are together of bulk at most 1048576: NARROWER than '..Said'. Prove '..Said' where nothing that the law and all that it calls make is longer than what came in: it says more and counts as full. Else prove '..UptoSaid'. A law counts once. -/
mutual
def uptoBulk {H : Type} : DataW H → Nat
  | .lit (.string bytes) => bytes.length + 1
  | .lit _ => 1
  | .nil => 1
  | .ptr d => uptoBulk d + 1
  | .slice elems spare => uptoBulkAll elems + uptoBulkAll spare + 1
  | .agg parts => uptoBulkAll parts + 1
  | .iface _ d => uptoBulk d + 1
  | .map entries => uptoBulkEntries entries + 1
  | .held _ => 1
def uptoBulkAll {H : Type} : List (DataW H) → Nat
  | [] => 0
  | d :: r => uptoBulk d + uptoBulkAll r
def uptoBulkEntries {H : Type} : List (Lit × DataW H) → Nat
  | [] => 0
  | x :: r => uptoBulkEntry x + uptoBulkEntries r
def uptoBulkEntry {H : Type} : Lit × DataW H → Nat
  | (.string bytes, d) => bytes.length + uptoBulk d + 1
  | (_, d) => uptoBulk d + 1
 end
def uptoSmall : (H : Type) → List (DataW H) → Bool := fun _ ds => decide (uptoBulkAll ds ≤ 1048576)
def OpenSpec.upto (s : _root_.Go.ChangeSpec) : _root_.Go.OpenSpec := { _root_.Go.OpenSpec.ofChange s with cond := some uptoSmall }

/-- 'laws.FnHartNew', WHERE WHAT IT READS IS OF BULK AT MOST 1048576: true; the input reads as it did. -/
def fnHartNewUptoRow : OpenClaim := { program := "ytmpplggjpmmhlaagreatdoor", sum := "502847429491154c94c2ed19e765128d4af84b67baff28340b3ea517e503f099", func := "loop.example/cothreads/laws.FnHartNew", spec := "fnHartNew", unfollowed := true, recurses := true, named := ["loop.example/cothreads/impl.instrTable"], apart := false, laid := [("loop.example/cothreads/impl.instrTable", laid_loop_example_cothreads_impl_instrTable)], narrowed := true }
def FnHartNewUptoSaid : Prop := fnHartNewUptoRow.holds Tryz.pinned (OpenSpec.upto fnHartNewSpec)

/-- 'laws.FnSquadNew', WHERE WHAT IT READS IS OF BULK AT MOST 1048576: true; the input reads as it did. -/
def fnSquadNewUptoRow : OpenClaim := { program := "ytmpplggjpmmhlaagreatdoor", sum := "502847429491154c94c2ed19e765128d4af84b67baff28340b3ea517e503f099", func := "loop.example/cothreads/laws.FnSquadNew", spec := "fnSquadNew", unfollowed := true, recurses := true, named := ["loop.example/cothreads/impl.instrTable"], apart := false, laid := [("loop.example/cothreads/impl.instrTable", laid_loop_example_cothreads_impl_instrTable)], narrowed := true }
def FnSquadNewUptoSaid : Prop := fnSquadNewUptoRow.holds Tryz.pinned (OpenSpec.upto fnSquadNewSpec)

/-- 'laws.FnImageBlocks', WHERE WHAT IT READS IS OF BULK AT MOST 1048576: true; the input reads as it did. -/
def fnImageBlocksUptoRow : OpenClaim := { program := "ytmpplggjpmmhlaagreatdoor", sum := "502847429491154c94c2ed19e765128d4af84b67baff28340b3ea517e503f099", func := "loop.example/cothreads/laws.FnImageBlocks", spec := "fnImageBlocks", unfollowed := true, recurses := true, named := ["loop.example/cothreads/impl.savedRegs", "loop.example/cothreads/impl.instrTable"], apart := false, laid := [("loop.example/cothreads/impl.instrTable", laid_loop_example_cothreads_impl_instrTable), ("loop.example/cothreads/impl.savedRegs", laid_loop_example_cothreads_impl_savedRegs)], narrowed := true }
def FnImageBlocksUptoSaid : Prop := fnImageBlocksUptoRow.holds Tryz.pinned (OpenSpec.upto fnImageBlocksSpec)

/-- 'laws.FnImageData', WHERE WHAT IT READS IS OF BULK AT MOST 1048576: true; the input reads as it did. -/
def fnImageDataUptoRow : OpenClaim := { program := "ytmpplggjpmmhlaagreatdoor", sum := "502847429491154c94c2ed19e765128d4af84b67baff28340b3ea517e503f099", func := "loop.example/cothreads/laws.FnImageData", spec := "fnImageData", unfollowed := true, recurses := true, named := ["loop.example/cothreads/impl.savedRegs", "loop.example/cothreads/impl.instrTable"], apart := false, laid := [("loop.example/cothreads/impl.instrTable", laid_loop_example_cothreads_impl_instrTable), ("loop.example/cothreads/impl.savedRegs", laid_loop_example_cothreads_impl_savedRegs)], narrowed := true }
def FnImageDataUptoSaid : Prop := fnImageDataUptoRow.holds Tryz.pinned (OpenSpec.upto fnImageDataSpec)

/-- 'laws.FnImageFirst', WHERE WHAT IT READS IS OF BULK AT MOST 1048576: true; the input reads as it did. -/
def fnImageFirstUptoRow : OpenClaim := { program := "ytmpplggjpmmhlaagreatdoor", sum := "502847429491154c94c2ed19e765128d4af84b67baff28340b3ea517e503f099", func := "loop.example/cothreads/laws.FnImageFirst", spec := "fnImageFirst", unfollowed := true, recurses := true, named := ["loop.example/cothreads/impl.savedRegs", "loop.example/cothreads/impl.instrTable"], apart := false, laid := [("loop.example/cothreads/impl.instrTable", laid_loop_example_cothreads_impl_instrTable), ("loop.example/cothreads/impl.savedRegs", laid_loop_example_cothreads_impl_savedRegs)], narrowed := true }
def FnImageFirstUptoSaid : Prop := fnImageFirstUptoRow.holds Tryz.pinned (OpenSpec.upto fnImageFirstSpec)

/-- 'laws.FnImage', WHERE WHAT IT READS IS OF BULK AT MOST 1048576: true; the input reads as it did. -/
def fnImageUptoRow : OpenClaim := { program := "ytmpplggjpmmhlaagreatdoor", sum := "502847429491154c94c2ed19e765128d4af84b67baff28340b3ea517e503f099", func := "loop.example/cothreads/laws.FnImage", spec := "fnImage", unfollowed := true, recurses := true, named := ["loop.example/cothreads/impl.savedRegs", "loop.example/cothreads/impl.instrTable"], apart := false, laid := [("loop.example/cothreads/impl.instrTable", laid_loop_example_cothreads_impl_instrTable), ("loop.example/cothreads/impl.savedRegs", laid_loop_example_cothreads_impl_savedRegs)], narrowed := true }
def FnImageUptoSaid : Prop := fnImageUptoRow.holds Tryz.pinned (OpenSpec.upto fnImageSpec)

/-- 'laws.FnImageRun', WHERE WHAT IT READS IS OF BULK AT MOST 1048576: true; the input reads as it did. -/
def fnImageRunUptoRow : OpenClaim := { program := "ytmpplggjpmmhlaagreatdoor", sum := "502847429491154c94c2ed19e765128d4af84b67baff28340b3ea517e503f099", func := "loop.example/cothreads/laws.FnImageRun", spec := "fnImageRun", unfollowed := true, recurses := true, named := ["loop.example/cothreads/impl.machineOps", "loop.example/cothreads/impl.instrTable"], apart := false, laid := [("loop.example/cothreads/impl.instrTable", laid_loop_example_cothreads_impl_instrTable), ("loop.example/cothreads/impl.machineOps", laid_loop_example_cothreads_impl_machineOps)], narrowed := true }
def FnImageRunUptoSaid : Prop := fnImageRunUptoRow.holds Tryz.pinned (OpenSpec.upto fnImageRunSpec)

/-- 'laws.FnImageStep', WHERE WHAT IT READS IS OF BULK AT MOST 1048576: true; the input reads as it did. -/
def fnImageStepUptoRow : OpenClaim := { program := "ytmpplggjpmmhlaagreatdoor", sum := "502847429491154c94c2ed19e765128d4af84b67baff28340b3ea517e503f099", func := "loop.example/cothreads/laws.FnImageStep", spec := "fnImageStep", unfollowed := true, recurses := true, named := ["loop.example/cothreads/impl.machineOps", "loop.example/cothreads/impl.instrTable"], apart := false, laid := [("loop.example/cothreads/impl.instrTable", laid_loop_example_cothreads_impl_instrTable), ("loop.example/cothreads/impl.machineOps", laid_loop_example_cothreads_impl_machineOps)], narrowed := true }
def FnImageStepUptoSaid : Prop := fnImageStepUptoRow.holds Tryz.pinned (OpenSpec.upto fnImageStepSpec)

end Rows
end Go.Proofs.YtmpplggjpmmhlaaGreatDoor
