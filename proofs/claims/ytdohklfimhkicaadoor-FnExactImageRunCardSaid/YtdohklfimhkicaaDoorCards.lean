/-
  DERIVED. GIVEN WITH THE SEED: THE CARDS: each row of YtdohklfimhkicaaDoorRows.lean that lists a variable, with what it lists TIED to the program's text (the seventh form; the later family's looks); each row that meets fmt, with fmt's text TOLD by the authors' own Lean function (tested against real Go, not proved from fmt's source: count such statements apart). THE CARD IS WHAT COUNTS. Prove the row's statement (the work); the ties are given (YtdohklfimhkicaaDoorTie.lean); close each card by the builder's one call (the guide's Derived/Test/ToyasCard.lean, 'card_holds'). Laid BY PROGRAM, IN A SANDBOX (cutbox-door.mjs). By AI agents, Wed Nov 11 2026. No macro, syntax, notation, axiom, sorry.
-/
import Derived.Test.YtdohklfimhkicaaDoorRows
import GoSem.ClaimSeven
namespace Go.Proofs.YtdohklfimhkicaaDoor
namespace Rows

/-- THE TIED CARD OF 'laws.FnExactImageNew'. -/
def fnExactImageNewCard : Claim7 := { stood := { row := fnExactImageNewRow, standIns := [], harness := (true, "38c543a021ef6b159c103d4eb0cd8883ee5958c81b393c53b0cac12777413bfc"), looks := false }, kinds := [], alts := [], laidByText := true, laidKinds := [.wider, .data], laidTests := true, laidLooks := .later }
def FnExactImageNewCardSaid : Prop := Claim7.holds Tryd.pinned (.plain (OpenSpec.ofChange fnExactImageNewSpec)) fnExactImageNewCard

/-- THE TIED CARD OF 'laws.FnExactImageRun'. -/
def fnExactImageRunCard : Claim7 := { stood := { row := fnExactImageRunRow, standIns := [], harness := (true, "38c543a021ef6b159c103d4eb0cd8883ee5958c81b393c53b0cac12777413bfc"), looks := false }, kinds := [], alts := [], laidByText := true, laidKinds := [.wider, .data], laidTests := true, laidLooks := .later }
def FnExactImageRunCardSaid : Prop := Claim7.holds Tryd.pinned (.plain (OpenSpec.ofChange fnExactImageRunSpec)) fnExactImageRunCard

/-- THE SECOND FORM's CARD OF 'laws.FnExactImageNew'. -/
def fnExactImageNewUptoCard : Claim7 := { stood := { row := fnExactImageNewUptoRow, standIns := [], harness := (true, "38c543a021ef6b159c103d4eb0cd8883ee5958c81b393c53b0cac12777413bfc"), looks := false }, kinds := [], alts := [], laidByText := true, laidKinds := [.wider, .data], laidTests := true, laidLooks := .later }
def FnExactImageNewUptoCardSaid : Prop := Claim7.holds Tryd.pinned (.plain (OpenSpec.upto fnExactImageNewSpec)) fnExactImageNewUptoCard

/-- THE SECOND FORM's CARD OF 'laws.FnExactImageRun'. -/
def fnExactImageRunUptoCard : Claim7 := { stood := { row := fnExactImageRunUptoRow, standIns := [], harness := (true, "38c543a021ef6b159c103d4eb0cd8883ee5958c81b393c53b0cac12777413bfc"), looks := false }, kinds := [], alts := [], laidByText := true, laidKinds := [.wider, .data], laidTests := true, laidLooks := .later }
def FnExactImageRunUptoCardSaid : Prop := Claim7.holds Tryd.pinned (.plain (OpenSpec.upto fnExactImageRunSpec)) fnExactImageRunUptoCard
end Rows
end Go.Proofs.YtdohklfimhkicaaDoor
