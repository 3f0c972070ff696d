/-
  DERIVED. GIVEN WITH THE SEED: THE CARDS: each row of YtcljimkjmklkmaaGreatDoorRows.lean that lists a variable, with what it lists TIED to the program's text (the seventh form; the later family's looks); each row that meets fmt, with fmt's text TOLD by the authors' own Lean function (tested against real Go, not proved from fmt's source: count such statements apart). THE CARD IS WHAT COUNTS. Prove the row's statement (the work); the ties are given (YtcljimkjmklkmaaGreatDoorTie.lean); close each card by the builder's one call (the guide's Derived/Test/ToyasCard.lean, 'card_holds'). Laid BY PROGRAM, IN A SANDBOX (cutbox-door.mjs). By AI agents, Wed Nov 11 2026. No macro, syntax, notation, axiom, sorry.
-/
import Derived.Test.YtcljimkjmklkmaaGreatDoorRows
import GoSem.ClaimSeven
namespace Go.Proofs.YtcljimkjmklkmaaGreatDoor
namespace Rows

/-- THE TIED CARD OF 'laws.FnSquadCode'. -/
def fnSquadCodeCard : Claim7 := { stood := { row := fnSquadCodeRow, standIns := [], harness := (true, "e7e9202144d61dce6bec65945764cc69918ce242c2bfe64cd54a1682a60118fe"), looks := false }, kinds := [], alts := [], laidByText := true, laidKinds := [.wider, .data], laidTests := true, laidLooks := .later }
def FnSquadCodeCardSaid : Prop := Claim7.holds Tryz.pinned (.plain (OpenSpec.ofChange fnSquadCodeSpec)) fnSquadCodeCard

/-- THE TIED CARD OF 'laws.FnSquadRun'. -/
def fnSquadRunCard : Claim7 := { stood := { row := fnSquadRunRow, standIns := [], harness := (true, "e7e9202144d61dce6bec65945764cc69918ce242c2bfe64cd54a1682a60118fe"), looks := false }, kinds := [], alts := [], laidByText := true, laidKinds := [.wider, .data], laidTests := true, laidLooks := .later }
def FnSquadRunCardSaid : Prop := Claim7.holds Tryz.pinned (.plain (OpenSpec.ofChange fnSquadRunSpec)) fnSquadRunCard

/-- THE TIED CARD OF 'laws.FnSquadOut'. -/
def fnSquadOutCard : Claim7 := { stood := { row := fnSquadOutRow, standIns := [], harness := (true, "e7e9202144d61dce6bec65945764cc69918ce242c2bfe64cd54a1682a60118fe"), looks := false }, kinds := [], alts := [], laidByText := true, laidKinds := [.wider, .data], laidTests := true, laidLooks := .later }
def FnSquadOutCardSaid : Prop := Claim7.holds Tryz.pinned (.plain (OpenSpec.ofChange fnSquadOutSpec)) fnSquadOutCard

/-- THE SECOND FORM's CARD OF 'laws.FnSquadCode'. -/
def fnSquadCodeUptoCard : Claim7 := { stood := { row := fnSquadCodeUptoRow, standIns := [], harness := (true, "e7e9202144d61dce6bec65945764cc69918ce242c2bfe64cd54a1682a60118fe"), looks := false }, kinds := [], alts := [], laidByText := true, laidKinds := [.wider, .data], laidTests := true, laidLooks := .later }
def FnSquadCodeUptoCardSaid : Prop := Claim7.holds Tryz.pinned (.plain (OpenSpec.upto fnSquadCodeSpec)) fnSquadCodeUptoCard

/-- THE SECOND FORM's CARD OF 'laws.FnSquadRun'. -/
def fnSquadRunUptoCard : Claim7 := { stood := { row := fnSquadRunUptoRow, standIns := [], harness := (true, "e7e9202144d61dce6bec65945764cc69918ce242c2bfe64cd54a1682a60118fe"), looks := false }, kinds := [], alts := [], laidByText := true, laidKinds := [.wider, .data], laidTests := true, laidLooks := .later }
def FnSquadRunUptoCardSaid : Prop := Claim7.holds Tryz.pinned (.plain (OpenSpec.upto fnSquadRunSpec)) fnSquadRunUptoCard

/-- THE SECOND FORM's CARD OF 'laws.FnSquadOut'. -/
def fnSquadOutUptoCard : Claim7 := { stood := { row := fnSquadOutUptoRow, standIns := [], harness := (true, "e7e9202144d61dce6bec65945764cc69918ce242c2bfe64cd54a1682a60118fe"), looks := false }, kinds := [], alts := [], laidByText := true, laidKinds := [.wider, .data], laidTests := true, laidLooks := .later }
def FnSquadOutUptoCardSaid : Prop := Claim7.holds Tryz.pinned (.plain (OpenSpec.upto fnSquadOutSpec)) fnSquadOutUptoCard
end Rows
end Go.Proofs.YtcljimkjmklkmaaGreatDoor
