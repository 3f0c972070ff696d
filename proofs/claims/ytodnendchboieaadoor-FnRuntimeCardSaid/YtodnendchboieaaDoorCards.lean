/-
  DERIVED. GIVEN WITH THE SEED: THE CARDS: each row of YtodnendchboieaaDoorRows.lean that lists a variable, with what it lists TIED to the program's text (the seventh form; the later family's looks); each row that meets fmt, with fmt's text TOLD by the authors' own Lean function (tested against real Go, not proved from fmt's source: count such statements apart). THE CARD IS WHAT COUNTS. Prove the row's statement (the work); the ties are given (YtodnendchboieaaDoorTie.lean); close each card by the builder's one call (the guide's Derived/Test/ToyasCard.lean, 'card_holds'). Laid BY PROGRAM, IN A SANDBOX (cutbox-door.mjs). By AI agents, Wed Nov 11 2026. No macro, syntax, notation, axiom, sorry.
-/
import Derived.Test.YtodnendchboieaaDoorRows
import GoSem.ClaimSeven
namespace Go.Proofs.YtodnendchboieaaDoor
namespace Rows

/-- THE TIED CARD OF 'laws.FnExactRuntimeInstr'. -/
def fnExactRuntimeInstrCard : Claim7 := { stood := { row := fnExactRuntimeInstrRow, standIns := [], harness := (true, "28beb48465dc37d58bade87a86551678f00f74b23a7006e32b3dd11e8a41b0f7"), looks := false }, kinds := [], alts := [], laidByText := true, laidKinds := [.data], laidTests := true, laidLooks := .later }
def FnExactRuntimeInstrCardSaid : Prop := Claim7.holds Tryd.pinned (.plain (OpenSpec.ofChange fnExactRuntimeInstrSpec)) fnExactRuntimeInstrCard

/-- THE TIED CARD OF 'laws.FnRuntimeEnd'. -/
def fnRuntimeEndCard : Claim7 := { stood := { row := fnRuntimeEndRow, standIns := [], harness := (true, "28beb48465dc37d58bade87a86551678f00f74b23a7006e32b3dd11e8a41b0f7"), looks := false }, kinds := [], alts := [], laidByText := true, laidKinds := [.data], laidTests := true, laidLooks := .later }
def FnRuntimeEndCardSaid : Prop := Claim7.holds Tryd.pinned (.plain (OpenSpec.ofChange fnRuntimeEndSpec)) fnRuntimeEndCard

/-- THE TIED CARD OF 'laws.FnRuntimeIdle'. -/
def fnRuntimeIdleCard : Claim7 := { stood := { row := fnRuntimeIdleRow, standIns := [], harness := (true, "28beb48465dc37d58bade87a86551678f00f74b23a7006e32b3dd11e8a41b0f7"), looks := false }, kinds := [], alts := [], laidByText := true, laidKinds := [.data], laidTests := true, laidLooks := .later }
def FnRuntimeIdleCardSaid : Prop := Claim7.holds Tryd.pinned (.plain (OpenSpec.ofChange fnRuntimeIdleSpec)) fnRuntimeIdleCard

/-- THE TIED CARD OF 'laws.FnRuntimeRegs'. -/
def fnRuntimeRegsCard : Claim7 := { stood := { row := fnRuntimeRegsRow, standIns := [], harness := (true, "28beb48465dc37d58bade87a86551678f00f74b23a7006e32b3dd11e8a41b0f7"), looks := false }, kinds := [], alts := [], laidByText := true, laidKinds := [.data], laidTests := true, laidLooks := .later }
def FnRuntimeRegsCardSaid : Prop := Claim7.holds Tryd.pinned (.plain (OpenSpec.ofChange fnRuntimeRegsSpec)) fnRuntimeRegsCard

/-- THE TIED CARD OF 'laws.FnRuntime'. -/
def fnRuntimeCard : Claim7 := { stood := { row := fnRuntimeRow, standIns := [], harness := (true, "28beb48465dc37d58bade87a86551678f00f74b23a7006e32b3dd11e8a41b0f7"), looks := false }, kinds := [], alts := [], laidByText := true, laidKinds := [.data], laidTests := true, laidLooks := .later }
def FnRuntimeCardSaid : Prop := Claim7.holds Tryd.pinned (.plain (OpenSpec.ofChange fnRuntimeSpec)) fnRuntimeCard

/-- THE TIED CARD OF 'laws.FnRuntimeSave'. -/
def fnRuntimeSaveCard : Claim7 := { stood := { row := fnRuntimeSaveRow, standIns := [], harness := (true, "28beb48465dc37d58bade87a86551678f00f74b23a7006e32b3dd11e8a41b0f7"), looks := false }, kinds := [], alts := [], laidByText := true, laidKinds := [.data], laidTests := true, laidLooks := .later }
def FnRuntimeSaveCardSaid : Prop := Claim7.holds Tryd.pinned (.plain (OpenSpec.ofChange fnRuntimeSaveSpec)) fnRuntimeSaveCard

/-- THE SECOND FORM's CARD OF 'laws.FnExactRuntimeInstr'. -/
def fnExactRuntimeInstrUptoCard : Claim7 := { stood := { row := fnExactRuntimeInstrUptoRow, standIns := [], harness := (true, "28beb48465dc37d58bade87a86551678f00f74b23a7006e32b3dd11e8a41b0f7"), looks := false }, kinds := [], alts := [], laidByText := true, laidKinds := [.data], laidTests := true, laidLooks := .later }
def FnExactRuntimeInstrUptoCardSaid : Prop := Claim7.holds Tryd.pinned (.plain (OpenSpec.upto fnExactRuntimeInstrSpec)) fnExactRuntimeInstrUptoCard

/-- THE SECOND FORM's CARD OF 'laws.FnRuntimeEnd'. -/
def fnRuntimeEndUptoCard : Claim7 := { stood := { row := fnRuntimeEndUptoRow, standIns := [], harness := (true, "28beb48465dc37d58bade87a86551678f00f74b23a7006e32b3dd11e8a41b0f7"), looks := false }, kinds := [], alts := [], laidByText := true, laidKinds := [.data], laidTests := true, laidLooks := .later }
def FnRuntimeEndUptoCardSaid : Prop := Claim7.holds Tryd.pinned (.plain (OpenSpec.upto fnRuntimeEndSpec)) fnRuntimeEndUptoCard

/-- THE SECOND FORM's CARD OF 'laws.FnRuntimeIdle'. -/
def fnRuntimeIdleUptoCard : Claim7 := { stood := { row := fnRuntimeIdleUptoRow, standIns := [], harness := (true, "28beb48465dc37d58bade87a86551678f00f74b23a7006e32b3dd11e8a41b0f7"), looks := false }, kinds := [], alts := [], laidByText := true, laidKinds := [.data], laidTests := true, laidLooks := .later }
def FnRuntimeIdleUptoCardSaid : Prop := Claim7.holds Tryd.pinned (.plain (OpenSpec.upto fnRuntimeIdleSpec)) fnRuntimeIdleUptoCard

/-- THE SECOND FORM's CARD OF 'laws.FnRuntimeRegs'. -/
def fnRuntimeRegsUptoCard : Claim7 := { stood := { row := fnRuntimeRegsUptoRow, standIns := [], harness := (true, "28beb48465dc37d58bade87a86551678f00f74b23a7006e32b3dd11e8a41b0f7"), looks := false }, kinds := [], alts := [], laidByText := true, laidKinds := [.data], laidTests := true, laidLooks := .later }
def FnRuntimeRegsUptoCardSaid : Prop := Claim7.holds Tryd.pinned (.plain (OpenSpec.upto fnRuntimeRegsSpec)) fnRuntimeRegsUptoCard

/-- THE SECOND FORM's CARD OF 'laws.FnRuntime'. -/
def fnRuntimeUptoCard : Claim7 := { stood := { row := fnRuntimeUptoRow, standIns := [], harness := (true, "28beb48465dc37d58bade87a86551678f00f74b23a7006e32b3dd11e8a41b0f7"), looks := false }, kinds := [], alts := [], laidByText := true, laidKinds := [.data], laidTests := true, laidLooks := .later }
def FnRuntimeUptoCardSaid : Prop := Claim7.holds Tryd.pinned (.plain (OpenSpec.upto fnRuntimeSpec)) fnRuntimeUptoCard

/-- THE SECOND FORM's CARD OF 'laws.FnRuntimeSave'. -/
def fnRuntimeSaveUptoCard : Claim7 := { stood := { row := fnRuntimeSaveUptoRow, standIns := [], harness := (true, "28beb48465dc37d58bade87a86551678f00f74b23a7006e32b3dd11e8a41b0f7"), looks := false }, kinds := [], alts := [], laidByText := true, laidKinds := [.data], laidTests := true, laidLooks := .later }
def FnRuntimeSaveUptoCardSaid : Prop := Claim7.holds Tryd.pinned (.plain (OpenSpec.upto fnRuntimeSaveSpec)) fnRuntimeSaveUptoCard
end Rows
end Go.Proofs.YtodnendchboieaaDoor
