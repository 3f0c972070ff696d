/-
  DERIVED. GIVEN WITH THE SEED: THE PROGRAM's TIES (one call each: nine closed facts by the kernel) AND EACH ROW's TIE, after the 31st guide's Derived/Test/Toyas{Tie, Card}.lean. No idea stands in it: it is a product of the set-up. Laid BY PROGRAM, IN A SANDBOX (cutbox-door.mjs). By AI agents, Wed Nov 11 2026. No macro, syntax, notation, axiom, sorry.
-/
import Derived.Test.YtgcmopfhafoabaaGreatDoorRows
import Derived.LaidByTextLater
import Derived.SevenTiedAt
import Derived.LaidSub
import Derived.LaidOnce
namespace Go.Proofs.YtgcmopfhafoabaaGreatDoor
open Go
set_option maxRecDepth 100000
theorem seatTie1 : Tryz.prog.laidByTextLater [("loop.example/cothreads/impl.instrTable", Rows.laid_loop_example_cothreads_impl_instrTable), ("loop.example/cothreads/impl.colorRegs", Rows.laid_loop_example_cothreads_impl_colorRegs), ("loop.example/cothreads/impl.binInstrs", Rows.laid_loop_example_cothreads_impl_binInstrs), ("loop.example/cothreads/impl.machineOps", Rows.laid_loop_example_cothreads_impl_machineOps), ("loop.example/cothreads/impl.savedRegs", Rows.laid_loop_example_cothreads_impl_savedRegs)] [.wider, .data, .data, .data, .data] true :=
  Program.laidByTextLater_by_one 55 8 85 (by kernel_rfl) (by kernel_rfl) (by kernel_rfl) (by kernel_rfl) (by kernel_rfl) (by kernel_rfl) (fun _ _ => by kernel_rfl)
theorem noOwnUnsafe : Tryz.pinned.checked.prog.headLifts.contains "ownunsafe" = false := by kernel_rfl
theorem tie : Tryz.prog.laidByTextLater [("loop.example/cothreads/impl.instrTable", Rows.laid_loop_example_cothreads_impl_instrTable), ("loop.example/cothreads/impl.machineOps", Rows.laid_loop_example_cothreads_impl_machineOps), ("loop.example/cothreads/impl.savedRegs", Rows.laid_loop_example_cothreads_impl_savedRegs)] [.wider, .data, .data] true :=
  Program.laidByTextLater.sub seatTie1 ["loop.example/cothreads/impl.instrTable", "loop.example/cothreads/impl.machineOps", "loop.example/cothreads/impl.savedRegs"] (by kernel_rfl) (by kernel_rfl)
theorem fnImageCode_row_tie : Rows.fnImageCodeRow.laidByTextAt .later Tryz.pinned [.wider, .data, .data] true :=
  OpenClaim.laidByTextAt_later rfl rfl tie noOwnUnsafe
theorem fnImageFrames_row_tie : Rows.fnImageFramesRow.laidByTextAt .later Tryz.pinned [.wider, .data, .data] true :=
  OpenClaim.laidByTextAt_later rfl rfl tie noOwnUnsafe
theorem fnImageRooms_row_tie : Rows.fnImageRoomsRow.laidByTextAt .later Tryz.pinned [.wider, .data, .data] true :=
  OpenClaim.laidByTextAt_later rfl rfl tie noOwnUnsafe
theorem tie2 : Tryz.prog.laidByTextLater [("loop.example/cothreads/impl.instrTable", Rows.laid_loop_example_cothreads_impl_instrTable), ("loop.example/cothreads/impl.colorRegs", Rows.laid_loop_example_cothreads_impl_colorRegs), ("loop.example/cothreads/impl.binInstrs", Rows.laid_loop_example_cothreads_impl_binInstrs), ("loop.example/cothreads/impl.machineOps", Rows.laid_loop_example_cothreads_impl_machineOps), ("loop.example/cothreads/impl.savedRegs", Rows.laid_loop_example_cothreads_impl_savedRegs)] [.wider, .data, .data, .data, .data] true :=
  Program.laidByTextLater.sub seatTie1 ["loop.example/cothreads/impl.instrTable", "loop.example/cothreads/impl.colorRegs", "loop.example/cothreads/impl.binInstrs", "loop.example/cothreads/impl.machineOps", "loop.example/cothreads/impl.savedRegs"] (by kernel_rfl) (by kernel_rfl)
theorem fnImageSquad_row_tie : Rows.fnImageSquadRow.laidByTextAt .later Tryz.pinned [.wider, .data, .data, .data, .data] true :=
  OpenClaim.laidByTextAt_later rfl rfl tie2 noOwnUnsafe
theorem fnImageCrew_row_tie : Rows.fnImageCrewRow.laidByTextAt .later Tryz.pinned [.wider, .data, .data, .data, .data] true :=
  OpenClaim.laidByTextAt_later rfl rfl tie2 noOwnUnsafe
theorem tie3 : Tryz.prog.laidByTextLater [("loop.example/cothreads/impl.instrTable", Rows.laid_loop_example_cothreads_impl_instrTable), ("loop.example/cothreads/impl.colorRegs", Rows.laid_loop_example_cothreads_impl_colorRegs), ("loop.example/cothreads/impl.binInstrs", Rows.laid_loop_example_cothreads_impl_binInstrs), ("loop.example/cothreads/impl.machineOps", Rows.laid_loop_example_cothreads_impl_machineOps)] [.wider, .data, .data, .data] true :=
  Program.laidByTextLater.sub seatTie1 ["loop.example/cothreads/impl.instrTable", "loop.example/cothreads/impl.colorRegs", "loop.example/cothreads/impl.binInstrs", "loop.example/cothreads/impl.machineOps"] (by kernel_rfl) (by kernel_rfl)
theorem fnSquadRegs_row_tie : Rows.fnSquadRegsRow.laidByTextAt .later Tryz.pinned [.wider, .data, .data, .data] true :=
  OpenClaim.laidByTextAt_later rfl rfl tie3 noOwnUnsafe
theorem fnSquadCrew_row_tie : Rows.fnSquadCrewRow.laidByTextAt .later Tryz.pinned [.wider, .data, .data, .data] true :=
  OpenClaim.laidByTextAt_later rfl rfl tie3 noOwnUnsafe
theorem fnImageCodeUpto_row_tie : Rows.fnImageCodeUptoRow.laidByTextAt .later Tryz.pinned [.wider, .data, .data] true :=
  OpenClaim.laidByTextAt_later rfl rfl tie noOwnUnsafe
theorem fnImageFramesUpto_row_tie : Rows.fnImageFramesUptoRow.laidByTextAt .later Tryz.pinned [.wider, .data, .data] true :=
  OpenClaim.laidByTextAt_later rfl rfl tie noOwnUnsafe
theorem fnImageRoomsUpto_row_tie : Rows.fnImageRoomsUptoRow.laidByTextAt .later Tryz.pinned [.wider, .data, .data] true :=
  OpenClaim.laidByTextAt_later rfl rfl tie noOwnUnsafe
theorem fnImageSquadUpto_row_tie : Rows.fnImageSquadUptoRow.laidByTextAt .later Tryz.pinned [.wider, .data, .data, .data, .data] true :=
  OpenClaim.laidByTextAt_later rfl rfl tie2 noOwnUnsafe
theorem fnSquadRegsUpto_row_tie : Rows.fnSquadRegsUptoRow.laidByTextAt .later Tryz.pinned [.wider, .data, .data, .data] true :=
  OpenClaim.laidByTextAt_later rfl rfl tie3 noOwnUnsafe
theorem fnSquadCrewUpto_row_tie : Rows.fnSquadCrewUptoRow.laidByTextAt .later Tryz.pinned [.wider, .data, .data, .data] true :=
  OpenClaim.laidByTextAt_later rfl rfl tie3 noOwnUnsafe
theorem fnImageCrewUpto_row_tie : Rows.fnImageCrewUptoRow.laidByTextAt .later Tryz.pinned [.wider, .data, .data, .data, .data] true :=
  OpenClaim.laidByTextAt_later rfl rfl tie2 noOwnUnsafe
end Go.Proofs.YtgcmopfhafoabaaGreatDoor
