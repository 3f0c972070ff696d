/-
  NARROWER THAN 'FOR EVERY INPUT', by the rows' own cells (each row's printed sentence says how): FnExactBuildCodes: loops.
  DERIVED. THE GIVEN ROWS OF THIS SEAT. 2 by the template 'for every input the law returns true; each argument reads behind the call as it read before'; 0 by the template 'total and deterministic' (their statements: YtmjebmhcbnkojaaGreatTotals.lean).
  GIVEN WITH THE SEED: the statements are not yours to turn. If you find one false, say at which input.
  Laid BY PROGRAM, IN A SANDBOX (cutbox-rows.mjs): the forced cells as the released guide's own fill.sh prints them over the translation c8d1def7670f0d5e… (all of the seat's roots in one cut). By AI agents, Wed Nov 11 2026. No macro, syntax, notation, axiom, sorry.
-/
import Derived.Test.YtmjebmhcbnkojaaGreatChecked
import GoSem.Claim
import GoSem.ClaimJoined
import GoSem.ClaimMapViews
import Derived.JoinedTies
import Derived.KernelRfl
namespace Go.Proofs.YtmjebmhcbnkojaaGreat
/- THE CELL 'sum', in the pinned program and in every row, IS THE sha256 OF THE DUMP (.gsa) THAT YtmjebmhcbnkojaaGreatProg.lean LOADS. Nothing in Lean hashes anything: it is a label: what it is worth is what the hold of that sum in a sandbox is worth. -/
noncomputable def Tryz.pinned : Pinned := { name := "ytmjebmhcbnkojaagreat", sum := "c8d1def7670f0d5e377eb6e67a80f6101613aed3e0fcfe671a4f820a9473a771", checked := Tryz.checked }
namespace Rows
def none {H : Type} : Left H := { results := [], args := [] }

/-- 'laws.FnBuildCodes': WHATEVER THE INPUT: true; the input reads as it did. -/
def fnBuildCodesSpec : ChangeSpec := { name := "fnBuildCodes", fn := fun _ => fun
  | [d] => { results := [.lit (.bool true)], args := [d] }
  | _ => none }
def fnBuildCodesRow : OpenClaim := { program := "ytmjebmhcbnkojaagreat", sum := "c8d1def7670f0d5e377eb6e67a80f6101613aed3e0fcfe671a4f820a9473a771", func := "loop.example/cothreads/laws.FnBuildCodes", spec := "fnBuildCodes", unfollowed := true, recurses := true, apart := false }
def FnBuildCodesSaid : Prop := fnBuildCodesRow.holds Tryz.pinned (OpenSpec.ofChange fnBuildCodesSpec)

/-- ITS FALSE NEIGHBOUR: 'it returns false'. Refute it at one input. -/
def fnBuildCodesWrong : ChangeSpec := { name := "fnBuildCodes", fn := fun _ => fun
  | [d] => { results := [.lit (.bool false)], args := [d] }
  | _ => none }
def FnBuildCodesWrongFalsely : Prop := fnBuildCodesRow.holds Tryz.pinned (OpenSpec.ofChange fnBuildCodesWrong)

/-- 'laws.FnExactBuildCodes': WHATEVER THE INPUT: true; the input reads as it did. -/
def fnExactBuildCodesSpec : ChangeSpec := { name := "fnExactBuildCodes", fn := fun _ => fun
  | [d1, d2] => { results := [.lit (.bool true)], args := [d1, d2] }
  | _ => none }
def fnExactBuildCodesRow : OpenClaim := { program := "ytmjebmhcbnkojaagreat", sum := "c8d1def7670f0d5e377eb6e67a80f6101613aed3e0fcfe671a4f820a9473a771", func := "loop.example/cothreads/laws.FnExactBuildCodes", spec := "fnExactBuildCodes", unfollowed := true, recurses := true, loops := true, apart := false }
def FnExactBuildCodesSaid : Prop := fnExactBuildCodesRow.holds Tryz.pinned (OpenSpec.ofChange fnExactBuildCodesSpec)

/-- ITS FALSE NEIGHBOUR: 'it returns false'. Refute it at one input. -/
def fnExactBuildCodesWrong : ChangeSpec := { name := "fnExactBuildCodes", fn := fun _ => fun
  | [d1, d2] => { results := [.lit (.bool false)], args := [d1, d2] }
  | _ => none }
def FnExactBuildCodesWrongFalsely : Prop := fnExactBuildCodesRow.holds Tryz.pinned (OpenSpec.ofChange fnExactBuildCodesWrong)

/- THE SECOND FORM. 'bulk': how many values and letters a reading holds, each counted each time it is reached (what is shared counts as often as it is met; a slice's spare places count too). A statement '..UptoSaid' is the law's where the arguments, and the package variables that the reading takes, are together of bulk at most 1048576: NARROWER than '..Said'. Prove '..Said' where nothing that the law and all that it calls make is longer than what came in: it says more and counts as full. Else prove '..UptoSaid'. A law counts once. -/
mutual
def uptoBulk {H : Type} : DataW H → Nat
  | .lit (.string bytes) => bytes.length + 1
  | .lit _ => 1
  | .nil => 1
  | .ptr d => uptoBulk d + 1
  | .slice elems spare => uptoBulkAll elems + uptoBulkAll spare + 1
  | .agg parts => uptoBulkAll parts + 1
  | .iface _ d => uptoBulk d + 1
  | .map entries => uptoBulkEntries entries + 1
  | .held _ => 1
def uptoBulkAll {H : Type} : List (DataW H) → Nat
  | [] => 0
  | d :: r => uptoBulk d + uptoBulkAll r
def uptoBulkEntries {H : Type} : List (Lit × DataW H) → Nat
  | [] => 0
  | x :: r => uptoBulkEntry x + uptoBulkEntries r
def uptoBulkEntry {H : Type} : Lit × DataW H → Nat
  | (.string bytes, d) => bytes.length + uptoBulk d + 1
  | (_, d) => uptoBulk d + 1
 end
def uptoSmall : (H : Type) → List (DataW H) → Bool := fun _ ds => decide (uptoBulkAll ds ≤ 1048576)
def OpenSpec.upto (s : _root_.Go.ChangeSpec) : _root_.Go.OpenSpec := { _root_.Go.OpenSpec.ofChange s with cond := some uptoSmall }

/-- 'laws.FnBuildCodes', WHERE WHAT IT READS IS OF BULK AT MOST 1048576: true; the input reads as it did. -/
def fnBuildCodesUptoRow : OpenClaim := { program := "ytmjebmhcbnkojaagreat", sum := "c8d1def7670f0d5e377eb6e67a80f6101613aed3e0fcfe671a4f820a9473a771", func := "loop.example/cothreads/laws.FnBuildCodes", spec := "fnBuildCodes", unfollowed := true, recurses := true, apart := false, narrowed := true }
def FnBuildCodesUptoSaid : Prop := fnBuildCodesUptoRow.holds Tryz.pinned (OpenSpec.upto fnBuildCodesSpec)

/-- 'laws.FnExactBuildCodes', WHERE WHAT IT READS IS OF BULK AT MOST 1048576: true; the input reads as it did. -/
def fnExactBuildCodesUptoRow : OpenClaim := { program := "ytmjebmhcbnkojaagreat", sum := "c8d1def7670f0d5e377eb6e67a80f6101613aed3e0fcfe671a4f820a9473a771", func := "loop.example/cothreads/laws.FnExactBuildCodes", spec := "fnExactBuildCodes", unfollowed := true, recurses := true, loops := true, apart := false, narrowed := true }
def FnExactBuildCodesUptoSaid : Prop := fnExactBuildCodesUptoRow.holds Tryz.pinned (OpenSpec.upto fnExactBuildCodesSpec)

end Rows
end Go.Proofs.YtmjebmhcbnkojaaGreat
