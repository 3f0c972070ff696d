/-
  NARROWER THAN 'FOR EVERY INPUT', by the rows' own cells (each row's printed sentence says how): FnTaskColors: laid · FnTaskInstrs: laid · FnTaskJumps: laid.
  DERIVED. THE GIVEN ROWS OF THIS SEAT. 3 by the template 'for every input the law returns true; each argument reads behind the call as it read before'; 0 by the template 'total and deterministic' (their statements: YtjpbdpfkhdekpaaGreatDoorTotals.lean).
  GIVEN WITH THE SEED: the statements are not yours to turn. If you find one false, say at which input.
  Laid BY PROGRAM, IN A SANDBOX (cutbox-rows.mjs): the forced cells as the released guide's own fill.sh prints them over the translation 3e2e80e307fb795e… (all of the seat's roots in one cut). By AI agents, Wed Nov 11 2026. No macro, syntax, notation, axiom, sorry.
-/
import Derived.Test.YtjpbdpfkhdekpaaGreatDoorChecked
import GoSem.Claim
import GoSem.ClaimJoined
import GoSem.ClaimMapViews
import Derived.JoinedTies
import Derived.KernelRfl
namespace Go.Proofs.YtjpbdpfkhdekpaaGreatDoor
/- THE CELL 'sum', in the pinned program and in every row, IS THE sha256 OF THE DUMP (.gsa) THAT YtjpbdpfkhdekpaaGreatDoorProg.lean LOADS. Nothing in Lean hashes anything: it is a label: what it is worth is what the hold of that sum in a sandbox is worth. -/
noncomputable def Tryz.pinned : Pinned := { name := "ytjpbdpfkhdekpaagreatdoor", sum := "3e2e80e307fb795eceeb4578e5bb88bd6252b541b8722bfc9b0f30085d1e1913", checked := Tryz.checked }
namespace Rows
def none {H : Type} : Left H := { results := [], args := [] }

/- WHAT THE LISTED PACKAGE-LEVEL VARIABLES READ AS WHEN THE CALL BEGINS. Each datum BY PROGRAM (the guide's laid-datum.mjs) off the statement by which the dump's own 'gosem.cut.vars' lays the variable. In a bare row this is a premise. The card (YtjpbdpfkhdekpaaGreatDoorCards.lean) ties it to the program's text. -/
def laid_loop_example_cothreads_impl_colorRegs {H : Type} : DataW H := .agg [.lit (.int .i64 8), .lit (.int .i64 9), .lit (.int .i64 18), .lit (.int .i64 19), .lit (.int .i64 20), .lit (.int .i64 21), .lit (.int .i64 22), .lit (.int .i64 23)]
def laid_loop_example_cothreads_impl_binInstrs {H : Type} : DataW H := .agg [.lit (.int .i64 7), .lit (.int .i64 8), .lit (.int .i64 6), .lit (.int .i64 8), .lit (.int .i64 11), .lit (.int .i64 9), .lit (.int .i64 10), .lit (.int .i64 1), .lit (.int .i64 2), .lit (.int .i64 3), .lit (.int .i64 4), .lit (.int .i64 5)]

/-- 'laws.FnTaskColors': WHATEVER THE INPUT: true; the input reads as it did. -/
def fnTaskColorsSpec : ChangeSpec := { name := "fnTaskColors", vars := ["loop.example/cothreads/impl.colorRegs", "loop.example/cothreads/impl.binInstrs"], fn := fun _ => fun
  | [d, g1, g2] => { results := [.lit (.bool true)], args := [d], vars := [g1, g2] }
  | _ => none }
def fnTaskColorsRow : OpenClaim := { program := "ytjpbdpfkhdekpaagreatdoor", sum := "3e2e80e307fb795eceeb4578e5bb88bd6252b541b8722bfc9b0f30085d1e1913", func := "loop.example/cothreads/laws.FnTaskColors", spec := "fnTaskColors", unfollowed := true, recurses := true, named := ["loop.example/cothreads/impl.colorRegs", "loop.example/cothreads/impl.binInstrs"], apart := false, laid := [("loop.example/cothreads/impl.colorRegs", laid_loop_example_cothreads_impl_colorRegs), ("loop.example/cothreads/impl.binInstrs", laid_loop_example_cothreads_impl_binInstrs)] }
def FnTaskColorsSaid : Prop := fnTaskColorsRow.holds Tryz.pinned (OpenSpec.ofChange fnTaskColorsSpec)

/-- ITS FALSE NEIGHBOUR: 'it returns false'. Refute it at one input. -/
def fnTaskColorsWrong : ChangeSpec := { name := "fnTaskColors", vars := ["loop.example/cothreads/impl.colorRegs", "loop.example/cothreads/impl.binInstrs"], fn := fun _ => fun
  | [d, g1, g2] => { results := [.lit (.bool false)], args := [d], vars := [g1, g2] }
  | _ => none }
def FnTaskColorsWrongFalsely : Prop := fnTaskColorsRow.holds Tryz.pinned (OpenSpec.ofChange fnTaskColorsWrong)

/-- 'laws.FnTaskInstrs': WHATEVER THE INPUT: true; the input reads as it did. -/
def fnTaskInstrsSpec : ChangeSpec := { name := "fnTaskInstrs", vars := ["loop.example/cothreads/impl.colorRegs", "loop.example/cothreads/impl.binInstrs"], fn := fun _ => fun
  | [d, g1, g2] => { results := [.lit (.bool true)], args := [d], vars := [g1, g2] }
  | _ => none }
def fnTaskInstrsRow : OpenClaim := { program := "ytjpbdpfkhdekpaagreatdoor", sum := "3e2e80e307fb795eceeb4578e5bb88bd6252b541b8722bfc9b0f30085d1e1913", func := "loop.example/cothreads/laws.FnTaskInstrs", spec := "fnTaskInstrs", unfollowed := true, recurses := true, named := ["loop.example/cothreads/impl.colorRegs", "loop.example/cothreads/impl.binInstrs"], apart := false, laid := [("loop.example/cothreads/impl.colorRegs", laid_loop_example_cothreads_impl_colorRegs), ("loop.example/cothreads/impl.binInstrs", laid_loop_example_cothreads_impl_binInstrs)] }
def FnTaskInstrsSaid : Prop := fnTaskInstrsRow.holds Tryz.pinned (OpenSpec.ofChange fnTaskInstrsSpec)

/-- ITS FALSE NEIGHBOUR: 'it returns false'. Refute it at one input. -/
def fnTaskInstrsWrong : ChangeSpec := { name := "fnTaskInstrs", vars := ["loop.example/cothreads/impl.colorRegs", "loop.example/cothreads/impl.binInstrs"], fn := fun _ => fun
  | [d, g1, g2] => { results := [.lit (.bool false)], args := [d], vars := [g1, g2] }
  | _ => none }
def FnTaskInstrsWrongFalsely : Prop := fnTaskInstrsRow.holds Tryz.pinned (OpenSpec.ofChange fnTaskInstrsWrong)

/-- 'laws.FnTaskJumps': WHATEVER THE INPUT: true; the input reads as it did. -/
def fnTaskJumpsSpec : ChangeSpec := { name := "fnTaskJumps", vars := ["loop.example/cothreads/impl.colorRegs", "loop.example/cothreads/impl.binInstrs"], fn := fun _ => fun
  | [d, g1, g2] => { results := [.lit (.bool true)], args := [d], vars := [g1, g2] }
  | _ => none }
def fnTaskJumpsRow : OpenClaim := { program := "ytjpbdpfkhdekpaagreatdoor", sum := "3e2e80e307fb795eceeb4578e5bb88bd6252b541b8722bfc9b0f30085d1e1913", func := "loop.example/cothreads/laws.FnTaskJumps", spec := "fnTaskJumps", unfollowed := true, recurses := true, named := ["loop.example/cothreads/impl.colorRegs", "loop.example/cothreads/impl.binInstrs"], apart := false, laid := [("loop.example/cothreads/impl.colorRegs", laid_loop_example_cothreads_impl_colorRegs), ("loop.example/cothreads/impl.binInstrs", laid_loop_example_cothreads_impl_binInstrs)] }
def FnTaskJumpsSaid : Prop := fnTaskJumpsRow.holds Tryz.pinned (OpenSpec.ofChange fnTaskJumpsSpec)

/-- ITS FALSE NEIGHBOUR: 'it returns false'. Refute it at one input. -/
def fnTaskJumpsWrong : ChangeSpec := { name := "fnTaskJumps", vars := ["loop.example/cothreads/impl.colorRegs", "loop.example/cothreads/impl.binInstrs"], fn := fun _ => fun
  | [d, g1, g2] => { results := [.lit (.bool false)], args := [d], vars := [g1, g2] }
  | _ => none }
def FnTaskJumpsWrongFalsely : Prop := fnTaskJumpsRow.holds Tryz.pinned (OpenSpec.ofChange fnTaskJumpsWrong)

/- THE SECOND FORM. 'bulk': how many values and letters a reading holds, each counted each time it is reached (what is shared counts as often as it is met; a slice's spare places count too). A statement '..UptoSaid' is the law's where the arguments, and the package variables that the reading takes, are together of bulk at most 1048576: NARROWER than '..Said'. Prove '..Said' where nothing that the law and all that it calls make is longer than what came in: it says more and counts as full. Else prove '..UptoSaid'. A law counts once. -/
mutual
def uptoBulk {H : Type} : DataW H → Nat
  | .lit (.string bytes) => bytes.length + 1
  | .lit _ => 1
  | .nil => 1
  | .ptr d => uptoBulk d + 1
  | .slice elems spare => uptoBulkAll elems + uptoBulkAll spare + 1
  | .agg parts => uptoBulkAll parts + 1
  | .iface _ d => uptoBulk d + 1
  | .map entries => uptoBulkEntries entries + 1
  | .held _ => 1
def uptoBulkAll {H : Type} : List (DataW H) → Nat
  | [] => 0
  | d :: r => uptoBulk d + uptoBulkAll r
def uptoBulkEntries {H : Type} : List (Lit × DataW H) → Nat
  | [] => 0
  | x :: r => uptoBulkEntry x + uptoBulkEntries r
def uptoBulkEntry {H : Type} : Lit × DataW H → Nat
  | (.string bytes, d) => bytes.length + uptoBulk d + 1
  | (_, d) => uptoBulk d + 1
 end
def uptoSmall : (H : Type) → List (DataW H) → Bool := fun _ ds => decide (uptoBulkAll ds ≤ 1048576)
def OpenSpec.upto (s : _root_.Go.ChangeSpec) : _root_.Go.OpenSpec := { _root_.Go.OpenSpec.ofChange s with cond := some uptoSmall }

/-- 'laws.FnTaskColors', WHERE WHAT IT READS IS OF BULK AT MOST 1048576: true; the input reads as it did. -/
def fnTaskColorsUptoRow : OpenClaim := { program := "ytjpbdpfkhdekpaagreatdoor", sum := "3e2e80e307fb795eceeb4578e5bb88bd6252b541b8722bfc9b0f30085d1e1913", func := "loop.example/cothreads/laws.FnTaskColors", spec := "fnTaskColors", unfollowed := true, recurses := true, named := ["loop.example/cothreads/impl.colorRegs", "loop.example/cothreads/impl.binInstrs"], apart := false, laid := [("loop.example/cothreads/impl.colorRegs", laid_loop_example_cothreads_impl_colorRegs), ("loop.example/cothreads/impl.binInstrs", laid_loop_example_cothreads_impl_binInstrs)], narrowed := true }
def FnTaskColorsUptoSaid : Prop := fnTaskColorsUptoRow.holds Tryz.pinned (OpenSpec.upto fnTaskColorsSpec)

/-- 'laws.FnTaskInstrs', WHERE WHAT IT READS IS OF BULK AT MOST 1048576: true; the input reads as it did. -/
def fnTaskInstrsUptoRow : OpenClaim := { program := "ytjpbdpfkhdekpaagreatdoor", sum := "3e2e80e307fb795eceeb4578e5bb88bd6252b541b8722bfc9b0f30085d1e1913", func := "loop.example/cothreads/laws.FnTaskInstrs", spec := "fnTaskInstrs", unfollowed := true, recurses := true, named := ["loop.example/cothreads/impl.colorRegs", "loop.example/cothreads/impl.binInstrs"], apart := false, laid := [("loop.example/cothreads/impl.colorRegs", laid_loop_example_cothreads_impl_colorRegs), ("loop.example/cothreads/impl.binInstrs", laid_loop_example_cothreads_impl_binInstrs)], narrowed := true }
def FnTaskInstrsUptoSaid : Prop := fnTaskInstrsUptoRow.holds Tryz.pinned (OpenSpec.upto fnTaskInstrsSpec)

/-- 'laws.FnTaskJumps', WHERE WHAT IT READS IS OF BULK AT MOST 1048576: true; the input reads as it did. -/
def fnTaskJumpsUptoRow : OpenClaim := { program := "ytjpbdpfkhdekpaagreatdoor", sum := "3e2e80e307fb795eceeb4578e5bb88bd6252b541b8722bfc9b0f30085d1e1913", func := "loop.example/cothreads/laws.FnTaskJumps", spec := "fnTaskJumps", unfollowed := true, recurses := true, named := ["loop.example/cothreads/impl.colorRegs", "loop.example/cothreads/impl.binInstrs"], apart := false, laid := [("loop.example/cothreads/impl.colorRegs", laid_loop_example_cothreads_impl_colorRegs), ("loop.example/cothreads/impl.binInstrs", laid_loop_example_cothreads_impl_binInstrs)], narrowed := true }
def FnTaskJumpsUptoSaid : Prop := fnTaskJumpsUptoRow.holds Tryz.pinned (OpenSpec.upto fnTaskJumpsSpec)

end Rows
end Go.Proofs.YtjpbdpfkhdekpaaGreatDoor
