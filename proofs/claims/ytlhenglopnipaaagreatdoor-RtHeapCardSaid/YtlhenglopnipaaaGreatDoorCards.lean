/-
  DERIVED. GIVEN WITH THE SEED: THE CARDS: each row of YtlhenglopnipaaaGreatDoorRows.lean that lists a variable, with what it lists TIED to the program's text (the seventh form; the later family's looks); each row that meets fmt, with fmt's text TOLD by the authors' own Lean function (tested against real Go, not proved from fmt's source: count such statements apart). THE CARD IS WHAT COUNTS. Prove the row's statement (the work); the ties are given (YtlhenglopnipaaaGreatDoorTie.lean); close each card by the builder's one call (the guide's Derived/Test/ToyasCard.lean, 'card_holds'). Laid BY PROGRAM, IN A SANDBOX (cutbox-door.mjs). By AI agents, Wed Nov 11 2026. No macro, syntax, notation, axiom, sorry.
-/
import Derived.Test.YtlhenglopnipaaaGreatDoorRows
import GoSem.ClaimSeven
namespace Go.Proofs.YtlhenglopnipaaaGreatDoor
namespace Rows

/-- THE TIED CARD OF 'patinalaw10.RtPrints'. -/
def rtPrintsCard : Claim7 := { stood := { row := rtPrintsRow, standIns := [], harness := (true, "2137d26d751a3af3329f8bc900044ae9a7669570e5d57be05658463210e05559"), looks := false }, kinds := [], alts := [], laidByText := true, laidKinds := [.data, .data], laidTests := true, laidLooks := .later }
def RtPrintsCardSaid : Prop := Claim7.holds Tryz.pinned (.plain (OpenSpec.ofChange rtPrintsSpec)) rtPrintsCard

/-- THE TIED CARD OF 'patinalaw10.RtReads'. -/
def rtReadsCard : Claim7 := { stood := { row := rtReadsRow, standIns := [], harness := (true, "2137d26d751a3af3329f8bc900044ae9a7669570e5d57be05658463210e05559"), looks := false }, kinds := [], alts := [], laidByText := true, laidKinds := [.data, .data], laidTests := true, laidLooks := .later }
def RtReadsCardSaid : Prop := Claim7.holds Tryz.pinned (.plain (OpenSpec.ofChange rtReadsSpec)) rtReadsCard

/-- THE TIED CARD OF 'patinalaw10.RtHeap'. -/
def rtHeapCard : Claim7 := { stood := { row := rtHeapRow, standIns := [], harness := (true, "2137d26d751a3af3329f8bc900044ae9a7669570e5d57be05658463210e05559"), looks := false }, kinds := [], alts := [], laidByText := true, laidKinds := [.data, .data], laidTests := true, laidLooks := .later }
def RtHeapCardSaid : Prop := Claim7.holds Tryz.pinned (.plain (OpenSpec.ofChange rtHeapSpec)) rtHeapCard

/-- THE TIED CARD OF 'patinalaw10.RtRoom'. -/
def rtRoomCard : Claim7 := { stood := { row := rtRoomRow, standIns := [], harness := (true, "2137d26d751a3af3329f8bc900044ae9a7669570e5d57be05658463210e05559"), looks := false }, kinds := [], alts := [], laidByText := true, laidKinds := [.data, .data], laidTests := true, laidLooks := .later }
def RtRoomCardSaid : Prop := Claim7.holds Tryz.pinned (.plain (OpenSpec.ofChange rtRoomSpec)) rtRoomCard

/-- THE TIED CARD OF 'patinalaw10.RtStarts'. -/
def rtStartsCard : Claim7 := { stood := { row := rtStartsRow, standIns := [], harness := (true, "2137d26d751a3af3329f8bc900044ae9a7669570e5d57be05658463210e05559"), looks := false }, kinds := [], alts := [], laidByText := true, laidKinds := [.data, .data], laidTests := true, laidLooks := .later }
def RtStartsCardSaid : Prop := Claim7.holds Tryz.pinned (.plain (OpenSpec.ofChange rtStartsSpec)) rtStartsCard

/-- THE TIED CARD OF 'patinalaw10.RtImages'. -/
def rtImagesCard : Claim7 := { stood := { row := rtImagesRow, standIns := [], harness := (true, "2137d26d751a3af3329f8bc900044ae9a7669570e5d57be05658463210e05559"), looks := false }, kinds := [], alts := [], laidByText := true, laidKinds := [.data, .data], laidTests := true, laidLooks := .later }
def RtImagesCardSaid : Prop := Claim7.holds Tryz.pinned (.plain (OpenSpec.ofChange rtImagesSpec)) rtImagesCard

/-- THE SECOND FORM's CARD OF 'patinalaw10.RtPrints'. -/
def rtPrintsUptoCard : Claim7 := { stood := { row := rtPrintsUptoRow, standIns := [], harness := (true, "2137d26d751a3af3329f8bc900044ae9a7669570e5d57be05658463210e05559"), looks := false }, kinds := [], alts := [], laidByText := true, laidKinds := [.data, .data], laidTests := true, laidLooks := .later }
def RtPrintsUptoCardSaid : Prop := Claim7.holds Tryz.pinned (.plain (OpenSpec.upto rtPrintsSpec)) rtPrintsUptoCard

/-- THE SECOND FORM's CARD OF 'patinalaw10.RtReads'. -/
def rtReadsUptoCard : Claim7 := { stood := { row := rtReadsUptoRow, standIns := [], harness := (true, "2137d26d751a3af3329f8bc900044ae9a7669570e5d57be05658463210e05559"), looks := false }, kinds := [], alts := [], laidByText := true, laidKinds := [.data, .data], laidTests := true, laidLooks := .later }
def RtReadsUptoCardSaid : Prop := Claim7.holds Tryz.pinned (.plain (OpenSpec.upto rtReadsSpec)) rtReadsUptoCard

/-- THE SECOND FORM's CARD OF 'patinalaw10.RtHeap'. -/
def rtHeapUptoCard : Claim7 := { stood := { row := rtHeapUptoRow, standIns := [], harness := (true, "2137d26d751a3af3329f8bc900044ae9a7669570e5d57be05658463210e05559"), looks := false }, kinds := [], alts := [], laidByText := true, laidKinds := [.data, .data], laidTests := true, laidLooks := .later }
def RtHeapUptoCardSaid : Prop := Claim7.holds Tryz.pinned (.plain (OpenSpec.upto rtHeapSpec)) rtHeapUptoCard

/-- THE SECOND FORM's CARD OF 'patinalaw10.RtRoom'. -/
def rtRoomUptoCard : Claim7 := { stood := { row := rtRoomUptoRow, standIns := [], harness := (true, "2137d26d751a3af3329f8bc900044ae9a7669570e5d57be05658463210e05559"), looks := false }, kinds := [], alts := [], laidByText := true, laidKinds := [.data, .data], laidTests := true, laidLooks := .later }
def RtRoomUptoCardSaid : Prop := Claim7.holds Tryz.pinned (.plain (OpenSpec.upto rtRoomSpec)) rtRoomUptoCard

/-- THE SECOND FORM's CARD OF 'patinalaw10.RtStarts'. -/
def rtStartsUptoCard : Claim7 := { stood := { row := rtStartsUptoRow, standIns := [], harness := (true, "2137d26d751a3af3329f8bc900044ae9a7669570e5d57be05658463210e05559"), looks := false }, kinds := [], alts := [], laidByText := true, laidKinds := [.data, .data], laidTests := true, laidLooks := .later }
def RtStartsUptoCardSaid : Prop := Claim7.holds Tryz.pinned (.plain (OpenSpec.upto rtStartsSpec)) rtStartsUptoCard

/-- THE SECOND FORM's CARD OF 'patinalaw10.RtImages'. -/
def rtImagesUptoCard : Claim7 := { stood := { row := rtImagesUptoRow, standIns := [], harness := (true, "2137d26d751a3af3329f8bc900044ae9a7669570e5d57be05658463210e05559"), looks := false }, kinds := [], alts := [], laidByText := true, laidKinds := [.data, .data], laidTests := true, laidLooks := .later }
def RtImagesUptoCardSaid : Prop := Claim7.holds Tryz.pinned (.plain (OpenSpec.upto rtImagesSpec)) rtImagesUptoCard
end Rows
end Go.Proofs.YtlhenglopnipaaaGreatDoor
