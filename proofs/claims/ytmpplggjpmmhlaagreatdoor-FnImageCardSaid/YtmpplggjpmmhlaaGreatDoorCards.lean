/-
  DERIVED. GIVEN WITH THE SEED: THE CARDS: each row of YtmpplggjpmmhlaaGreatDoorRows.lean that lists a variable, with what it lists TIED to the program's text (the seventh form; the later family's looks); each row that meets fmt, with fmt's text TOLD by the authors' own Lean function (tested against real Go, not proved from fmt's source: count such statements apart). THE CARD IS WHAT COUNTS. Prove the row's statement (the work); the ties are given (YtmpplggjpmmhlaaGreatDoorTie.lean); close each card by the builder's one call (the guide's Derived/Test/ToyasCard.lean, 'card_holds'). Laid BY PROGRAM, IN A SANDBOX (cutbox-door.mjs). By AI agents, Wed Nov 11 2026. No macro, syntax, notation, axiom, sorry.
-/
import Derived.Test.YtmpplggjpmmhlaaGreatDoorRows
import GoSem.ClaimSeven
namespace Go.Proofs.YtmpplggjpmmhlaaGreatDoor
namespace Rows

/-- THE TIED CARD OF 'laws.FnHartNew'. -/
def fnHartNewCard : Claim7 := { stood := { row := fnHartNewRow, standIns := [], harness := (true, "156000f5c2754275058a0525daf3b6ff1810792c3489f35587d8ed7c07a958ec"), looks := false }, kinds := [], alts := [], laidByText := true, laidKinds := [.wider], laidTests := true, laidLooks := .later }
def FnHartNewCardSaid : Prop := Claim7.holds Tryz.pinned (.plain (OpenSpec.ofChange fnHartNewSpec)) fnHartNewCard

/-- THE TIED CARD OF 'laws.FnSquadNew'. -/
def fnSquadNewCard : Claim7 := { stood := { row := fnSquadNewRow, standIns := [], harness := (true, "156000f5c2754275058a0525daf3b6ff1810792c3489f35587d8ed7c07a958ec"), looks := false }, kinds := [], alts := [], laidByText := true, laidKinds := [.wider], laidTests := true, laidLooks := .later }
def FnSquadNewCardSaid : Prop := Claim7.holds Tryz.pinned (.plain (OpenSpec.ofChange fnSquadNewSpec)) fnSquadNewCard

/-- THE TIED CARD OF 'laws.FnImageBlocks'. -/
def fnImageBlocksCard : Claim7 := { stood := { row := fnImageBlocksRow, standIns := [], harness := (true, "156000f5c2754275058a0525daf3b6ff1810792c3489f35587d8ed7c07a958ec"), looks := false }, kinds := [], alts := [], laidByText := true, laidKinds := [.wider, .data], laidTests := true, laidLooks := .later }
def FnImageBlocksCardSaid : Prop := Claim7.holds Tryz.pinned (.plain (OpenSpec.ofChange fnImageBlocksSpec)) fnImageBlocksCard

/-- THE TIED CARD OF 'laws.FnImageData'. -/
def fnImageDataCard : Claim7 := { stood := { row := fnImageDataRow, standIns := [], harness := (true, "156000f5c2754275058a0525daf3b6ff1810792c3489f35587d8ed7c07a958ec"), looks := false }, kinds := [], alts := [], laidByText := true, laidKinds := [.wider, .data], laidTests := true, laidLooks := .later }
def FnImageDataCardSaid : Prop := Claim7.holds Tryz.pinned (.plain (OpenSpec.ofChange fnImageDataSpec)) fnImageDataCard

/-- THE TIED CARD OF 'laws.FnImageFirst'. -/
def fnImageFirstCard : Claim7 := { stood := { row := fnImageFirstRow, standIns := [], harness := (true, "156000f5c2754275058a0525daf3b6ff1810792c3489f35587d8ed7c07a958ec"), looks := false }, kinds := [], alts := [], laidByText := true, laidKinds := [.wider, .data], laidTests := true, laidLooks := .later }
def FnImageFirstCardSaid : Prop := Claim7.holds Tryz.pinned (.plain (OpenSpec.ofChange fnImageFirstSpec)) fnImageFirstCard

/-- THE TIED CARD OF 'laws.FnImage'. -/
def fnImageCard : Claim7 := { stood := { row := fnImageRow, standIns := [], harness := (true, "156000f5c2754275058a0525daf3b6ff1810792c3489f35587d8ed7c07a958ec"), looks := false }, kinds := [], alts := [], laidByText := true, laidKinds := [.wider, .data], laidTests := true, laidLooks := .later }
def FnImageCardSaid : Prop := Claim7.holds Tryz.pinned (.plain (OpenSpec.ofChange fnImageSpec)) fnImageCard

/-- THE TIED CARD OF 'laws.FnImageRun'. -/
def fnImageRunCard : Claim7 := { stood := { row := fnImageRunRow, standIns := [], harness := (true, "156000f5c2754275058a0525daf3b6ff1810792c3489f35587d8ed7c07a958ec"), looks := false }, kinds := [], alts := [], laidByText := true, laidKinds := [.wider, .data], laidTests := true, laidLooks := .later }
def FnImageRunCardSaid : Prop := Claim7.holds Tryz.pinned (.plain (OpenSpec.ofChange fnImageRunSpec)) fnImageRunCard

/-- THE TIED CARD OF 'laws.FnImageStep'. -/
def fnImageStepCard : Claim7 := { stood := { row := fnImageStepRow, standIns := [], harness := (true, "156000f5c2754275058a0525daf3b6ff1810792c3489f35587d8ed7c07a958ec"), looks := false }, kinds := [], alts := [], laidByText := true, laidKinds := [.wider, .data], laidTests := true, laidLooks := .later }
def FnImageStepCardSaid : Prop := Claim7.holds Tryz.pinned (.plain (OpenSpec.ofChange fnImageStepSpec)) fnImageStepCard

/-- THE SECOND FORM's CARD OF 'laws.FnHartNew'. -/
def fnHartNewUptoCard : Claim7 := { stood := { row := fnHartNewUptoRow, standIns := [], harness := (true, "156000f5c2754275058a0525daf3b6ff1810792c3489f35587d8ed7c07a958ec"), looks := false }, kinds := [], alts := [], laidByText := true, laidKinds := [.wider], laidTests := true, laidLooks := .later }
def FnHartNewUptoCardSaid : Prop := Claim7.holds Tryz.pinned (.plain (OpenSpec.upto fnHartNewSpec)) fnHartNewUptoCard

/-- THE SECOND FORM's CARD OF 'laws.FnSquadNew'. -/
def fnSquadNewUptoCard : Claim7 := { stood := { row := fnSquadNewUptoRow, standIns := [], harness := (true, "156000f5c2754275058a0525daf3b6ff1810792c3489f35587d8ed7c07a958ec"), looks := false }, kinds := [], alts := [], laidByText := true, laidKinds := [.wider], laidTests := true, laidLooks := .later }
def FnSquadNewUptoCardSaid : Prop := Claim7.holds Tryz.pinned (.plain (OpenSpec.upto fnSquadNewSpec)) fnSquadNewUptoCard

/-- THE SECOND FORM's CARD OF 'laws.FnImageBlocks'. -/
def fnImageBlocksUptoCard : Claim7 := { stood := { row := fnImageBlocksUptoRow, standIns := [], harness := (true, "156000f5c2754275058a0525daf3b6ff1810792c3489f35587d8ed7c07a958ec"), looks := false }, kinds := [], alts := [], laidByText := true, laidKinds := [.wider, .data], laidTests := true, laidLooks := .later }
def FnImageBlocksUptoCardSaid : Prop := Claim7.holds Tryz.pinned (.plain (OpenSpec.upto fnImageBlocksSpec)) fnImageBlocksUptoCard

/-- THE SECOND FORM's CARD OF 'laws.FnImageData'. -/
def fnImageDataUptoCard : Claim7 := { stood := { row := fnImageDataUptoRow, standIns := [], harness := (true, "156000f5c2754275058a0525daf3b6ff1810792c3489f35587d8ed7c07a958ec"), looks := false }, kinds := [], alts := [], laidByText := true, laidKinds := [.wider, .data], laidTests := true, laidLooks := .later }
def FnImageDataUptoCardSaid : Prop := Claim7.holds Tryz.pinned (.plain (OpenSpec.upto fnImageDataSpec)) fnImageDataUptoCard

/-- THE SECOND FORM's CARD OF 'laws.FnImageFirst'. -/
def fnImageFirstUptoCard : Claim7 := { stood := { row := fnImageFirstUptoRow, standIns := [], harness := (true, "156000f5c2754275058a0525daf3b6ff1810792c3489f35587d8ed7c07a958ec"), looks := false }, kinds := [], alts := [], laidByText := true, laidKinds := [.wider, .data], laidTests := true, laidLooks := .later }
def FnImageFirstUptoCardSaid : Prop := Claim7.holds Tryz.pinned (.plain (OpenSpec.upto fnImageFirstSpec)) fnImageFirstUptoCard

/-- THE SECOND FORM's CARD OF 'laws.FnImage'. -/
def fnImageUptoCard : Claim7 := { stood := { row := fnImageUptoRow, standIns := [], harness := (true, "156000f5c2754275058a0525daf3b6ff1810792c3489f35587d8ed7c07a958ec"), looks := false }, kinds := [], alts := [], laidByText := true, laidKinds := [.wider, .data], laidTests := true, laidLooks := .later }
def FnImageUptoCardSaid : Prop := Claim7.holds Tryz.pinned (.plain (OpenSpec.upto fnImageSpec)) fnImageUptoCard

/-- THE SECOND FORM's CARD OF 'laws.FnImageRun'. -/
def fnImageRunUptoCard : Claim7 := { stood := { row := fnImageRunUptoRow, standIns := [], harness := (true, "156000f5c2754275058a0525daf3b6ff1810792c3489f35587d8ed7c07a958ec"), looks := false }, kinds := [], alts := [], laidByText := true, laidKinds := [.wider, .data], laidTests := true, laidLooks := .later }
def FnImageRunUptoCardSaid : Prop := Claim7.holds Tryz.pinned (.plain (OpenSpec.upto fnImageRunSpec)) fnImageRunUptoCard

/-- THE SECOND FORM's CARD OF 'laws.FnImageStep'. -/
def fnImageStepUptoCard : Claim7 := { stood := { row := fnImageStepUptoRow, standIns := [], harness := (true, "156000f5c2754275058a0525daf3b6ff1810792c3489f35587d8ed7c07a958ec"), looks := false }, kinds := [], alts := [], laidByText := true, laidKinds := [.wider, .data], laidTests := true, laidLooks := .later }
def FnImageStepUptoCardSaid : Prop := Claim7.holds Tryz.pinned (.plain (OpenSpec.upto fnImageStepSpec)) fnImageStepUptoCard
end Rows
end Go.Proofs.YtmpplggjpmmhlaaGreatDoor
