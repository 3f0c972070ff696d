/-
  DERIVED. GIVEN WITH THE SEED: THE CARDS: each row of YtjpbdpfkhdekpaaGreatDoorRows.lean that lists a variable, with what it lists TIED to the program's text (the seventh form; the later family's looks); each row that meets fmt, with fmt's text TOLD by the authors' own Lean function (tested against real Go, not proved from fmt's source: count such statements apart). THE CARD IS WHAT COUNTS. Prove the row's statement (the work); the ties are given (YtjpbdpfkhdekpaaGreatDoorTie.lean); close each card by the builder's one call (the guide's Derived/Test/ToyasCard.lean, 'card_holds'). Laid BY PROGRAM, IN A SANDBOX (cutbox-door.mjs). By AI agents, Wed Nov 11 2026. No macro, syntax, notation, axiom, sorry.
-/
import Derived.Test.YtjpbdpfkhdekpaaGreatDoorRows
import GoSem.ClaimSeven
namespace Go.Proofs.YtjpbdpfkhdekpaaGreatDoor
namespace Rows

/-- THE TIED CARD OF 'laws.FnTaskColors'. -/
def fnTaskColorsCard : Claim7 := { stood := { row := fnTaskColorsRow, standIns := [], harness := (true, "b433a7b768d10a1cef5a3328a3e1c136faa28c70edf68e201f80f4002f4169f9"), looks := false }, kinds := [], alts := [], laidByText := true, laidKinds := [.data, .data], laidTests := true, laidLooks := .later }
def FnTaskColorsCardSaid : Prop := Claim7.holds Tryz.pinned (.plain (OpenSpec.ofChange fnTaskColorsSpec)) fnTaskColorsCard

/-- THE TIED CARD OF 'laws.FnTaskInstrs'. -/
def fnTaskInstrsCard : Claim7 := { stood := { row := fnTaskInstrsRow, standIns := [], harness := (true, "b433a7b768d10a1cef5a3328a3e1c136faa28c70edf68e201f80f4002f4169f9"), looks := false }, kinds := [], alts := [], laidByText := true, laidKinds := [.data, .data], laidTests := true, laidLooks := .later }
def FnTaskInstrsCardSaid : Prop := Claim7.holds Tryz.pinned (.plain (OpenSpec.ofChange fnTaskInstrsSpec)) fnTaskInstrsCard

/-- THE TIED CARD OF 'laws.FnTaskJumps'. -/
def fnTaskJumpsCard : Claim7 := { stood := { row := fnTaskJumpsRow, standIns := [], harness := (true, "b433a7b768d10a1cef5a3328a3e1c136faa28c70edf68e201f80f4002f4169f9"), looks := false }, kinds := [], alts := [], laidByText := true, laidKinds := [.data, .data], laidTests := true, laidLooks := .later }
def FnTaskJumpsCardSaid : Prop := Claim7.holds Tryz.pinned (.plain (OpenSpec.ofChange fnTaskJumpsSpec)) fnTaskJumpsCard

/-- THE SECOND FORM's CARD OF 'laws.FnTaskColors'. -/
def fnTaskColorsUptoCard : Claim7 := { stood := { row := fnTaskColorsUptoRow, standIns := [], harness := (true, "b433a7b768d10a1cef5a3328a3e1c136faa28c70edf68e201f80f4002f4169f9"), looks := false }, kinds := [], alts := [], laidByText := true, laidKinds := [.data, .data], laidTests := true, laidLooks := .later }
def FnTaskColorsUptoCardSaid : Prop := Claim7.holds Tryz.pinned (.plain (OpenSpec.upto fnTaskColorsSpec)) fnTaskColorsUptoCard

/-- THE SECOND FORM's CARD OF 'laws.FnTaskInstrs'. -/
def fnTaskInstrsUptoCard : Claim7 := { stood := { row := fnTaskInstrsUptoRow, standIns := [], harness := (true, "b433a7b768d10a1cef5a3328a3e1c136faa28c70edf68e201f80f4002f4169f9"), looks := false }, kinds := [], alts := [], laidByText := true, laidKinds := [.data, .data], laidTests := true, laidLooks := .later }
def FnTaskInstrsUptoCardSaid : Prop := Claim7.holds Tryz.pinned (.plain (OpenSpec.upto fnTaskInstrsSpec)) fnTaskInstrsUptoCard

/-- THE SECOND FORM's CARD OF 'laws.FnTaskJumps'. -/
def fnTaskJumpsUptoCard : Claim7 := { stood := { row := fnTaskJumpsUptoRow, standIns := [], harness := (true, "b433a7b768d10a1cef5a3328a3e1c136faa28c70edf68e201f80f4002f4169f9"), looks := false }, kinds := [], alts := [], laidByText := true, laidKinds := [.data, .data], laidTests := true, laidLooks := .later }
def FnTaskJumpsUptoCardSaid : Prop := Claim7.holds Tryz.pinned (.plain (OpenSpec.upto fnTaskJumpsSpec)) fnTaskJumpsUptoCard
end Rows
end Go.Proofs.YtjpbdpfkhdekpaaGreatDoor
