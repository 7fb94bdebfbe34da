/-
  DERIVED. GIVEN WITH THE SEED: THE CARDS: each row of YtemngapfnkokiaaGreatDoorRows.lean that lists a variable, with what it lists TIED to the program's text (the seventh form; the later family's looks); each row that meets fmt, with fmt's text TOLD by the authors' own Lean function (tested against real Go, not proved from fmt's source: count such statements apart). THE CARD IS WHAT COUNTS. Prove the row's statement (the work); the ties are given (YtemngapfnkokiaaGreatDoorTie.lean); close each card by the builder's one call (the guide's Derived/Test/ToyasCard.lean, 'card_holds'). Laid BY PROGRAM, IN A SANDBOX (cutbox-door.mjs). By AI agents, Wed Nov 11 2026. No macro, syntax, notation, axiom, sorry.
-/
import Derived.Test.YtemngapfnkokiaaGreatDoorRows
import GoSem.ClaimSeven
namespace Go.Proofs.YtemngapfnkokiaaGreatDoor
namespace Rows

/-- THE TIED CARD OF 'patinalaw03.CpuRuns'. -/
def cpuRunsCard : Claim7 := { stood := { row := cpuRunsRow, standIns := [], harness := (true, "68af26b3d577d46c51a3a4c0b69f2513f666da36cbec7f34027caf2c57e11f7d"), looks := false }, kinds := [], alts := [], laidByText := true, laidKinds := [.data], laidTests := true, laidLooks := .later }
def CpuRunsCardSaid : Prop := Claim7.holds Tryz.pinned (.plain (OpenSpec.ofChange cpuRunsSpec)) cpuRunsCard

/-- THE SECOND FORM's CARD OF 'patinalaw03.CpuRuns'. -/
def cpuRunsUptoCard : Claim7 := { stood := { row := cpuRunsUptoRow, standIns := [], harness := (true, "68af26b3d577d46c51a3a4c0b69f2513f666da36cbec7f34027caf2c57e11f7d"), looks := false }, kinds := [], alts := [], laidByText := true, laidKinds := [.data], laidTests := true, laidLooks := .later }
def CpuRunsUptoCardSaid : Prop := Claim7.holds Tryz.pinned (.plain (OpenSpec.upto cpuRunsSpec)) cpuRunsUptoCard
end Rows
end Go.Proofs.YtemngapfnkokiaaGreatDoor
