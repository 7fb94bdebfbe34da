/-
  DERIVED. GIVEN WITH THE SEED: THE CARDS: each row of YtemngapfnkokiaaDoorRows.lean that lists a variable, with what it lists TIED to the program's text (the seventh form; the later family's looks); each row that meets fmt, with fmt's text TOLD by the authors' own Lean function (tested against real Go, not proved from fmt's source: count such statements apart). THE CARD IS WHAT COUNTS. Prove the row's statement (the work); the ties are given (YtemngapfnkokiaaDoorTie.lean); close each card by the builder's one call (the guide's Derived/Test/ToyasCard.lean, 'card_holds'). Laid BY PROGRAM, IN A SANDBOX (cutbox-door.mjs). By AI agents, Wed Nov 11 2026. No macro, syntax, notation, axiom, sorry.
-/
import Derived.Test.YtemngapfnkokiaaDoorRows
import GoSem.ClaimSeven
namespace Go.Proofs.YtemngapfnkokiaaDoor
namespace Rows

/-- THE TIED CARD OF 'patinalaw05.AsmLoads'. -/
def asmLoadsCard : Claim7 := { stood := { row := asmLoadsRow, standIns := [], harness := (true, "2c76ff1e1792aaa02ca2e11c908cc678b7d8602914b2bdca7b63eb38151d73a3"), looks := false }, kinds := [], alts := [], laidByText := true, laidKinds := [.data, .data], laidTests := true, laidLooks := .later }
def AsmLoadsCardSaid : Prop := Claim7.holds Tryd.pinned (.plain (OpenSpec.ofChange asmLoadsSpec)) asmLoadsCard

/-- THE TIED CARD OF 'patinalaw05.AsmMoved'. -/
def asmMovedCard : Claim7 := { stood := { row := asmMovedRow, standIns := [], harness := (true, "2c76ff1e1792aaa02ca2e11c908cc678b7d8602914b2bdca7b63eb38151d73a3"), looks := false }, kinds := [], alts := [], laidByText := true, laidKinds := [.data, .data], laidTests := true, laidLooks := .later }
def AsmMovedCardSaid : Prop := Claim7.holds Tryd.pinned (.plain (OpenSpec.ofChange asmMovedSpec)) asmMovedCard

/-- THE TIED CARD OF 'patinalaw05.AsmFinds'. -/
def asmFindsCard : Claim7 := { stood := { row := asmFindsRow, standIns := [], harness := (true, "2c76ff1e1792aaa02ca2e11c908cc678b7d8602914b2bdca7b63eb38151d73a3"), looks := false }, kinds := [], alts := [], laidByText := true, laidKinds := [.data, .data], laidTests := true, laidLooks := .later }
def AsmFindsCardSaid : Prop := Claim7.holds Tryd.pinned (.plain (OpenSpec.ofChange asmFindsSpec)) asmFindsCard

/-- THE TIED CARD OF 'patinalaw05.AsmReaches'. -/
def asmReachesCard : Claim7 := { stood := { row := asmReachesRow, standIns := [], harness := (true, "2c76ff1e1792aaa02ca2e11c908cc678b7d8602914b2bdca7b63eb38151d73a3"), looks := false }, kinds := [], alts := [], laidByText := true, laidKinds := [.data, .data], laidTests := true, laidLooks := .later }
def AsmReachesCardSaid : Prop := Claim7.holds Tryd.pinned (.plain (OpenSpec.ofChange asmReachesSpec)) asmReachesCard

/-- THE TIED CARD OF 'patinalaw03.CpuAlus'. -/
def cpuAlusCard : Claim7 := { stood := { row := cpuAlusRow, standIns := [], harness := (true, "2c76ff1e1792aaa02ca2e11c908cc678b7d8602914b2bdca7b63eb38151d73a3"), looks := false }, kinds := [], alts := [], laidByText := true, laidKinds := [.data], laidTests := true, laidLooks := .later }
def CpuAlusCardSaid : Prop := Claim7.holds Tryd.pinned (.plain (OpenSpec.ofChange cpuAlusSpec)) cpuAlusCard

/-- THE TIED CARD OF 'patinalaw03.CpuNil'. -/
def cpuNilCard : Claim7 := { stood := { row := cpuNilRow, standIns := [], harness := (true, "2c76ff1e1792aaa02ca2e11c908cc678b7d8602914b2bdca7b63eb38151d73a3"), looks := false }, kinds := [], alts := [], laidByText := true, laidKinds := [.data], laidTests := true, laidLooks := .later }
def CpuNilCardSaid : Prop := Claim7.holds Tryd.pinned (.plain (OpenSpec.ofChange cpuNilSpec)) cpuNilCard

/-- THE TIED CARD OF 'patinalaw03.CpuParts'. -/
def cpuPartsCard : Claim7 := { stood := { row := cpuPartsRow, standIns := [], harness := (true, "2c76ff1e1792aaa02ca2e11c908cc678b7d8602914b2bdca7b63eb38151d73a3"), looks := false }, kinds := [], alts := [], laidByText := true, laidKinds := [.data], laidTests := true, laidLooks := .later }
def CpuPartsCardSaid : Prop := Claim7.holds Tryd.pinned (.plain (OpenSpec.ofChange cpuPartsSpec)) cpuPartsCard

/-- THE SECOND FORM's CARD OF 'patinalaw05.AsmLoads'. -/
def asmLoadsUptoCard : Claim7 := { stood := { row := asmLoadsUptoRow, standIns := [], harness := (true, "2c76ff1e1792aaa02ca2e11c908cc678b7d8602914b2bdca7b63eb38151d73a3"), looks := false }, kinds := [], alts := [], laidByText := true, laidKinds := [.data, .data], laidTests := true, laidLooks := .later }
def AsmLoadsUptoCardSaid : Prop := Claim7.holds Tryd.pinned (.plain (OpenSpec.upto asmLoadsSpec)) asmLoadsUptoCard

/-- THE SECOND FORM's CARD OF 'patinalaw05.AsmMoved'. -/
def asmMovedUptoCard : Claim7 := { stood := { row := asmMovedUptoRow, standIns := [], harness := (true, "2c76ff1e1792aaa02ca2e11c908cc678b7d8602914b2bdca7b63eb38151d73a3"), looks := false }, kinds := [], alts := [], laidByText := true, laidKinds := [.data, .data], laidTests := true, laidLooks := .later }
def AsmMovedUptoCardSaid : Prop := Claim7.holds Tryd.pinned (.plain (OpenSpec.upto asmMovedSpec)) asmMovedUptoCard

/-- THE SECOND FORM's CARD OF 'patinalaw05.AsmFinds'. -/
def asmFindsUptoCard : Claim7 := { stood := { row := asmFindsUptoRow, standIns := [], harness := (true, "2c76ff1e1792aaa02ca2e11c908cc678b7d8602914b2bdca7b63eb38151d73a3"), looks := false }, kinds := [], alts := [], laidByText := true, laidKinds := [.data, .data], laidTests := true, laidLooks := .later }
def AsmFindsUptoCardSaid : Prop := Claim7.holds Tryd.pinned (.plain (OpenSpec.upto asmFindsSpec)) asmFindsUptoCard

/-- THE SECOND FORM's CARD OF 'patinalaw05.AsmReaches'. -/
def asmReachesUptoCard : Claim7 := { stood := { row := asmReachesUptoRow, standIns := [], harness := (true, "2c76ff1e1792aaa02ca2e11c908cc678b7d8602914b2bdca7b63eb38151d73a3"), looks := false }, kinds := [], alts := [], laidByText := true, laidKinds := [.data, .data], laidTests := true, laidLooks := .later }
def AsmReachesUptoCardSaid : Prop := Claim7.holds Tryd.pinned (.plain (OpenSpec.upto asmReachesSpec)) asmReachesUptoCard

/-- THE SECOND FORM's CARD OF 'patinalaw03.CpuAlus'. -/
def cpuAlusUptoCard : Claim7 := { stood := { row := cpuAlusUptoRow, standIns := [], harness := (true, "2c76ff1e1792aaa02ca2e11c908cc678b7d8602914b2bdca7b63eb38151d73a3"), looks := false }, kinds := [], alts := [], laidByText := true, laidKinds := [.data], laidTests := true, laidLooks := .later }
def CpuAlusUptoCardSaid : Prop := Claim7.holds Tryd.pinned (.plain (OpenSpec.upto cpuAlusSpec)) cpuAlusUptoCard

/-- THE SECOND FORM's CARD OF 'patinalaw03.CpuNil'. -/
def cpuNilUptoCard : Claim7 := { stood := { row := cpuNilUptoRow, standIns := [], harness := (true, "2c76ff1e1792aaa02ca2e11c908cc678b7d8602914b2bdca7b63eb38151d73a3"), looks := false }, kinds := [], alts := [], laidByText := true, laidKinds := [.data], laidTests := true, laidLooks := .later }
def CpuNilUptoCardSaid : Prop := Claim7.holds Tryd.pinned (.plain (OpenSpec.upto cpuNilSpec)) cpuNilUptoCard

/-- THE SECOND FORM's CARD OF 'patinalaw03.CpuParts'. -/
def cpuPartsUptoCard : Claim7 := { stood := { row := cpuPartsUptoRow, standIns := [], harness := (true, "2c76ff1e1792aaa02ca2e11c908cc678b7d8602914b2bdca7b63eb38151d73a3"), looks := false }, kinds := [], alts := [], laidByText := true, laidKinds := [.data], laidTests := true, laidLooks := .later }
def CpuPartsUptoCardSaid : Prop := Claim7.holds Tryd.pinned (.plain (OpenSpec.upto cpuPartsSpec)) cpuPartsUptoCard
end Rows
end Go.Proofs.YtemngapfnkokiaaDoor
