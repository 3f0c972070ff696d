/-
  DERIVED. GIVEN WITH THE SEED: THE CARDS: each row of YtgcmopfhafoabaaGreatDoorRows.lean that lists a variable, with what it lists TIED to the program's text (the seventh form; the later family's looks); each row that meets fmt, with fmt's text TOLD by the authors' own Lean function (tested against real Go, not proved from fmt's source: count such statements apart). THE CARD IS WHAT COUNTS. Prove the row's statement (the work); the ties are given (YtgcmopfhafoabaaGreatDoorTie.lean); close each card by the builder's one call (the guide's Derived/Test/ToyasCard.lean, 'card_holds'). Laid BY PROGRAM, IN A SANDBOX (cutbox-door.mjs). By AI agents, Wed Nov 11 2026. No macro, syntax, notation, axiom, sorry.
-/
import Derived.Test.YtgcmopfhafoabaaGreatDoorRows
import GoSem.ClaimSeven
namespace Go.Proofs.YtgcmopfhafoabaaGreatDoor
namespace Rows

/-- THE TIED CARD OF 'laws.FnImageCode'. -/
def fnImageCodeCard : Claim7 := { stood := { row := fnImageCodeRow, standIns := [], harness := (true, "c2bf0268ebf363ac8f2b5d68cdb0e36bf4545aeaf8d86fa7986d6e3416043f4d"), looks := false }, kinds := [], alts := [], laidByText := true, laidKinds := [.wider, .data, .data], laidTests := true, laidLooks := .later }
def FnImageCodeCardSaid : Prop := Claim7.holds Tryz.pinned (.plain (OpenSpec.ofChange fnImageCodeSpec)) fnImageCodeCard

/-- THE TIED CARD OF 'laws.FnImageFrames'. -/
def fnImageFramesCard : Claim7 := { stood := { row := fnImageFramesRow, standIns := [], harness := (true, "c2bf0268ebf363ac8f2b5d68cdb0e36bf4545aeaf8d86fa7986d6e3416043f4d"), looks := false }, kinds := [], alts := [], laidByText := true, laidKinds := [.wider, .data, .data], laidTests := true, laidLooks := .later }
def FnImageFramesCardSaid : Prop := Claim7.holds Tryz.pinned (.plain (OpenSpec.ofChange fnImageFramesSpec)) fnImageFramesCard

/-- THE TIED CARD OF 'laws.FnImageRooms'. -/
def fnImageRoomsCard : Claim7 := { stood := { row := fnImageRoomsRow, standIns := [], harness := (true, "c2bf0268ebf363ac8f2b5d68cdb0e36bf4545aeaf8d86fa7986d6e3416043f4d"), looks := false }, kinds := [], alts := [], laidByText := true, laidKinds := [.wider, .data, .data], laidTests := true, laidLooks := .later }
def FnImageRoomsCardSaid : Prop := Claim7.holds Tryz.pinned (.plain (OpenSpec.ofChange fnImageRoomsSpec)) fnImageRoomsCard

/-- THE TIED CARD OF 'laws.FnImageSquad'. -/
def fnImageSquadCard : Claim7 := { stood := { row := fnImageSquadRow, standIns := [], harness := (true, "c2bf0268ebf363ac8f2b5d68cdb0e36bf4545aeaf8d86fa7986d6e3416043f4d"), looks := false }, kinds := [], alts := [], laidByText := true, laidKinds := [.wider, .data, .data, .data, .data], laidTests := true, laidLooks := .later }
def FnImageSquadCardSaid : Prop := Claim7.holds Tryz.pinned (.plain (OpenSpec.ofChange fnImageSquadSpec)) fnImageSquadCard

/-- THE TIED CARD OF 'laws.FnSquadRegs'. -/
def fnSquadRegsCard : Claim7 := { stood := { row := fnSquadRegsRow, standIns := [], harness := (true, "c2bf0268ebf363ac8f2b5d68cdb0e36bf4545aeaf8d86fa7986d6e3416043f4d"), looks := false }, kinds := [], alts := [], laidByText := true, laidKinds := [.wider, .data, .data, .data], laidTests := true, laidLooks := .later }
def FnSquadRegsCardSaid : Prop := Claim7.holds Tryz.pinned (.plain (OpenSpec.ofChange fnSquadRegsSpec)) fnSquadRegsCard

/-- THE TIED CARD OF 'laws.FnSquadCrew'. -/
def fnSquadCrewCard : Claim7 := { stood := { row := fnSquadCrewRow, standIns := [], harness := (true, "c2bf0268ebf363ac8f2b5d68cdb0e36bf4545aeaf8d86fa7986d6e3416043f4d"), looks := false }, kinds := [], alts := [], laidByText := true, laidKinds := [.wider, .data, .data, .data], laidTests := true, laidLooks := .later }
def FnSquadCrewCardSaid : Prop := Claim7.holds Tryz.pinned (.plain (OpenSpec.ofChange fnSquadCrewSpec)) fnSquadCrewCard

/-- THE TIED CARD OF 'laws.FnImageCrew'. -/
def fnImageCrewCard : Claim7 := { stood := { row := fnImageCrewRow, standIns := [], harness := (true, "c2bf0268ebf363ac8f2b5d68cdb0e36bf4545aeaf8d86fa7986d6e3416043f4d"), looks := false }, kinds := [], alts := [], laidByText := true, laidKinds := [.wider, .data, .data, .data, .data], laidTests := true, laidLooks := .later }
def FnImageCrewCardSaid : Prop := Claim7.holds Tryz.pinned (.plain (OpenSpec.ofChange fnImageCrewSpec)) fnImageCrewCard

/-- THE SECOND FORM's CARD OF 'laws.FnImageCode'. -/
def fnImageCodeUptoCard : Claim7 := { stood := { row := fnImageCodeUptoRow, standIns := [], harness := (true, "c2bf0268ebf363ac8f2b5d68cdb0e36bf4545aeaf8d86fa7986d6e3416043f4d"), looks := false }, kinds := [], alts := [], laidByText := true, laidKinds := [.wider, .data, .data], laidTests := true, laidLooks := .later }
def FnImageCodeUptoCardSaid : Prop := Claim7.holds Tryz.pinned (.plain (OpenSpec.upto fnImageCodeSpec)) fnImageCodeUptoCard

/-- THE SECOND FORM's CARD OF 'laws.FnImageFrames'. -/
def fnImageFramesUptoCard : Claim7 := { stood := { row := fnImageFramesUptoRow, standIns := [], harness := (true, "c2bf0268ebf363ac8f2b5d68cdb0e36bf4545aeaf8d86fa7986d6e3416043f4d"), looks := false }, kinds := [], alts := [], laidByText := true, laidKinds := [.wider, .data, .data], laidTests := true, laidLooks := .later }
def FnImageFramesUptoCardSaid : Prop := Claim7.holds Tryz.pinned (.plain (OpenSpec.upto fnImageFramesSpec)) fnImageFramesUptoCard

/-- THE SECOND FORM's CARD OF 'laws.FnImageRooms'. -/
def fnImageRoomsUptoCard : Claim7 := { stood := { row := fnImageRoomsUptoRow, standIns := [], harness := (true, "c2bf0268ebf363ac8f2b5d68cdb0e36bf4545aeaf8d86fa7986d6e3416043f4d"), looks := false }, kinds := [], alts := [], laidByText := true, laidKinds := [.wider, .data, .data], laidTests := true, laidLooks := .later }
def FnImageRoomsUptoCardSaid : Prop := Claim7.holds Tryz.pinned (.plain (OpenSpec.upto fnImageRoomsSpec)) fnImageRoomsUptoCard

/-- THE SECOND FORM's CARD OF 'laws.FnImageSquad'. -/
def fnImageSquadUptoCard : Claim7 := { stood := { row := fnImageSquadUptoRow, standIns := [], harness := (true, "c2bf0268ebf363ac8f2b5d68cdb0e36bf4545aeaf8d86fa7986d6e3416043f4d"), looks := false }, kinds := [], alts := [], laidByText := true, laidKinds := [.wider, .data, .data, .data, .data], laidTests := true, laidLooks := .later }
def FnImageSquadUptoCardSaid : Prop := Claim7.holds Tryz.pinned (.plain (OpenSpec.upto fnImageSquadSpec)) fnImageSquadUptoCard

/-- THE SECOND FORM's CARD OF 'laws.FnSquadRegs'. -/
def fnSquadRegsUptoCard : Claim7 := { stood := { row := fnSquadRegsUptoRow, standIns := [], harness := (true, "c2bf0268ebf363ac8f2b5d68cdb0e36bf4545aeaf8d86fa7986d6e3416043f4d"), looks := false }, kinds := [], alts := [], laidByText := true, laidKinds := [.wider, .data, .data, .data], laidTests := true, laidLooks := .later }
def FnSquadRegsUptoCardSaid : Prop := Claim7.holds Tryz.pinned (.plain (OpenSpec.upto fnSquadRegsSpec)) fnSquadRegsUptoCard

/-- THE SECOND FORM's CARD OF 'laws.FnSquadCrew'. -/
def fnSquadCrewUptoCard : Claim7 := { stood := { row := fnSquadCrewUptoRow, standIns := [], harness := (true, "c2bf0268ebf363ac8f2b5d68cdb0e36bf4545aeaf8d86fa7986d6e3416043f4d"), looks := false }, kinds := [], alts := [], laidByText := true, laidKinds := [.wider, .data, .data, .data], laidTests := true, laidLooks := .later }
def FnSquadCrewUptoCardSaid : Prop := Claim7.holds Tryz.pinned (.plain (OpenSpec.upto fnSquadCrewSpec)) fnSquadCrewUptoCard

/-- THE SECOND FORM's CARD OF 'laws.FnImageCrew'. -/
def fnImageCrewUptoCard : Claim7 := { stood := { row := fnImageCrewUptoRow, standIns := [], harness := (true, "c2bf0268ebf363ac8f2b5d68cdb0e36bf4545aeaf8d86fa7986d6e3416043f4d"), looks := false }, kinds := [], alts := [], laidByText := true, laidKinds := [.wider, .data, .data, .data, .data], laidTests := true, laidLooks := .later }
def FnImageCrewUptoCardSaid : Prop := Claim7.holds Tryz.pinned (.plain (OpenSpec.upto fnImageCrewSpec)) fnImageCrewUptoCard
end Rows
end Go.Proofs.YtgcmopfhafoabaaGreatDoor
