/-
  DERIVED. GIVEN WITH THE SEED: THE CARDS: each row of YtfpngipcclmliaaGreatDoorRows.lean that lists a variable, with what it lists TIED to the program's text (the seventh form; the later family's looks); each row that meets fmt, with fmt's text TOLD by the authors' own Lean function (tested against real Go, not proved from fmt's source: count such statements apart). THE CARD IS WHAT COUNTS. Prove the row's statement (the work); the ties are given (YtfpngipcclmliaaGreatDoorTie.lean); close each card by the builder's one call (the guide's Derived/Test/ToyasCard.lean, 'card_holds'). Laid BY PROGRAM, IN A SANDBOX (cutbox-door.mjs). By AI agents, Wed Nov 11 2026. No macro, syntax, notation, axiom, sorry.
-/
import Derived.Test.YtfpngipcclmliaaGreatDoorRows
import GoSem.ClaimSeven
namespace Go.Proofs.YtfpngipcclmliaaGreatDoor
namespace Rows

/-- THE TIED CARD OF 'laws.FnBuildTasks'. -/
def fnBuildTasksCard : Claim7 := { stood := { row := fnBuildTasksRow, standIns := [], harness := (true, "bcf424f1ec2e5fd40d1221a1ab1aec5c09a4d0198b1ad741868035f20a8ef492"), looks := false }, kinds := [], alts := [], laidByText := true, laidKinds := [.data, .data], laidTests := true, laidLooks := .later }
def FnBuildTasksCardSaid : Prop := Claim7.holds Tryz.pinned (.plain (OpenSpec.ofChange fnBuildTasksSpec)) fnBuildTasksCard

/-- THE TIED CARD OF 'laws.FnExactBuildTasks'. -/
def fnExactBuildTasksCard : Claim7 := { stood := { row := fnExactBuildTasksRow, standIns := [], harness := (true, "bcf424f1ec2e5fd40d1221a1ab1aec5c09a4d0198b1ad741868035f20a8ef492"), looks := false }, kinds := [], alts := [], laidByText := true, laidKinds := [.data, .data], laidTests := true, laidLooks := .later }
def FnExactBuildTasksCardSaid : Prop := Claim7.holds Tryz.pinned (.plain (OpenSpec.ofChange fnExactBuildTasksSpec)) fnExactBuildTasksCard

/-- THE TIED CARD OF 'laws.FnBuildImage'. -/
def fnBuildImageCard : Claim7 := { stood := { row := fnBuildImageRow, standIns := [], harness := (true, "bcf424f1ec2e5fd40d1221a1ab1aec5c09a4d0198b1ad741868035f20a8ef492"), looks := false }, kinds := [], alts := [], laidByText := true, laidKinds := [.wider, .data, .data, .data], laidTests := true, laidLooks := .later }
def FnBuildImageCardSaid : Prop := Claim7.holds Tryz.pinned (.plain (OpenSpec.ofChange fnBuildImageSpec)) fnBuildImageCard

/-- THE TIED CARD OF 'laws.FnExactBuildImage'. -/
def fnExactBuildImageCard : Claim7 := { stood := { row := fnExactBuildImageRow, standIns := [], harness := (true, "bcf424f1ec2e5fd40d1221a1ab1aec5c09a4d0198b1ad741868035f20a8ef492"), looks := false }, kinds := [], alts := [], laidByText := true, laidKinds := [.wider, .data, .data, .data], laidTests := true, laidLooks := .later }
def FnExactBuildImageCardSaid : Prop := Claim7.holds Tryz.pinned (.plain (OpenSpec.ofChange fnExactBuildImageSpec)) fnExactBuildImageCard

/-- THE SECOND FORM's CARD OF 'laws.FnBuildTasks'. -/
def fnBuildTasksUptoCard : Claim7 := { stood := { row := fnBuildTasksUptoRow, standIns := [], harness := (true, "bcf424f1ec2e5fd40d1221a1ab1aec5c09a4d0198b1ad741868035f20a8ef492"), looks := false }, kinds := [], alts := [], laidByText := true, laidKinds := [.data, .data], laidTests := true, laidLooks := .later }
def FnBuildTasksUptoCardSaid : Prop := Claim7.holds Tryz.pinned (.plain (OpenSpec.upto fnBuildTasksSpec)) fnBuildTasksUptoCard

/-- THE SECOND FORM's CARD OF 'laws.FnExactBuildTasks'. -/
def fnExactBuildTasksUptoCard : Claim7 := { stood := { row := fnExactBuildTasksUptoRow, standIns := [], harness := (true, "bcf424f1ec2e5fd40d1221a1ab1aec5c09a4d0198b1ad741868035f20a8ef492"), looks := false }, kinds := [], alts := [], laidByText := true, laidKinds := [.data, .data], laidTests := true, laidLooks := .later }
def FnExactBuildTasksUptoCardSaid : Prop := Claim7.holds Tryz.pinned (.plain (OpenSpec.upto fnExactBuildTasksSpec)) fnExactBuildTasksUptoCard

/-- THE SECOND FORM's CARD OF 'laws.FnBuildImage'. -/
def fnBuildImageUptoCard : Claim7 := { stood := { row := fnBuildImageUptoRow, standIns := [], harness := (true, "bcf424f1ec2e5fd40d1221a1ab1aec5c09a4d0198b1ad741868035f20a8ef492"), looks := false }, kinds := [], alts := [], laidByText := true, laidKinds := [.wider, .data, .data, .data], laidTests := true, laidLooks := .later }
def FnBuildImageUptoCardSaid : Prop := Claim7.holds Tryz.pinned (.plain (OpenSpec.upto fnBuildImageSpec)) fnBuildImageUptoCard

/-- THE SECOND FORM's CARD OF 'laws.FnExactBuildImage'. -/
def fnExactBuildImageUptoCard : Claim7 := { stood := { row := fnExactBuildImageUptoRow, standIns := [], harness := (true, "bcf424f1ec2e5fd40d1221a1ab1aec5c09a4d0198b1ad741868035f20a8ef492"), looks := false }, kinds := [], alts := [], laidByText := true, laidKinds := [.wider, .data, .data, .data], laidTests := true, laidLooks := .later }
def FnExactBuildImageUptoCardSaid : Prop := Claim7.holds Tryz.pinned (.plain (OpenSpec.upto fnExactBuildImageSpec)) fnExactBuildImageUptoCard
end Rows
end Go.Proofs.YtfpngipcclmliaaGreatDoor
