/-
  NARROWER THAN 'FOR EVERY INPUT', by the rows' own cells (each row's printed sentence says how): AsmLoads: laid · AsmMoved: laid · AsmFinds: laid · AsmReaches: laid · CpuAlus: laid · CpuNil: laid · CpuParts: laid.
  DERIVED. THE GIVEN ROWS OF THIS SEAT. 7 by the template 'for every input the law returns true; each argument reads behind the call as it read before'; 0 by the template 'total and deterministic' (their statements: YtemngapfnkokiaaDoorTotals.lean).
  GIVEN WITH THE SEED: the statements are not yours to turn. If you find one false, say at which input.
  Laid BY PROGRAM, IN A SANDBOX (cutbox-rows.mjs): the forced cells as the released guide's own fill.sh prints them over the translation d9a4082db4b2eda4… (all of the seat's roots in one cut). By AI agents, Wed Nov 11 2026. No macro, syntax, notation, axiom, sorry.
-/
import Derived.Test.YtemngapfnkokiaaDoorChecked
import GoSem.Claim
import GoSem.ClaimJoined
import GoSem.ClaimMapViews
import Derived.JoinedTies
import Derived.KernelRfl
namespace Go.Proofs.YtemngapfnkokiaaDoor
/- THE CELL 'sum', in the pinned program and in every row, IS THE sha256 OF THE DUMP (.gsa) THAT YtemngapfnkokiaaDoorProg.lean LOADS. Nothing in Lean hashes anything: it is a label: what it is worth is what the hold of that sum in a sandbox is worth. -/
noncomputable def Tryd.pinned : Pinned := { name := "ytemngapfnkokiaadoor", sum := "d9a4082db4b2eda48dc5e63eb87b35db221cd546fdd52638c8143d1b0d6c4c52", checked := Tryd.checked }
namespace Rows
def none {H : Type} : Left H := { results := [], args := [] }

/- WHAT THE LISTED PACKAGE-LEVEL VARIABLES READ AS WHEN THE CALL BEGINS. Each datum BY PROGRAM (the guide's laid-datum.mjs) off the statement by which the dump's own 'gosem.cut.vars' lays the variable. In a bare row this is a premise. The card (YtemngapfnkokiaaDoorCards.lean) ties it to the program's text. -/
def laid_math_bits_deBruijn64tab {H : Type} : DataW H := .agg [.lit (.int .u8 0), .lit (.int .u8 1), .lit (.int .u8 56), .lit (.int .u8 2), .lit (.int .u8 57), .lit (.int .u8 49), .lit (.int .u8 28), .lit (.int .u8 3), .lit (.int .u8 61), .lit (.int .u8 58), .lit (.int .u8 42), .lit (.int .u8 50), .lit (.int .u8 38), .lit (.int .u8 29), .lit (.int .u8 17), .lit (.int .u8 4), .lit (.int .u8 62), .lit (.int .u8 47), .lit (.int .u8 59), .lit (.int .u8 36), .lit (.int .u8 45), .lit (.int .u8 43), .lit (.int .u8 51), .lit (.int .u8 22), .lit (.int .u8 53), .lit (.int .u8 39), .lit (.int .u8 33), .lit (.int .u8 30), .lit (.int .u8 24), .lit (.int .u8 18), .lit (.int .u8 12), .lit (.int .u8 5), .lit (.int .u8 63), .lit (.int .u8 55), .lit (.int .u8 48), .lit (.int .u8 27), .lit (.int .u8 60), .lit (.int .u8 41), .lit (.int .u8 37), .lit (.int .u8 16), .lit (.int .u8 46), .lit (.int .u8 35), .lit (.int .u8 44), .lit (.int .u8 21), .lit (.int .u8 52), .lit (.int .u8 32), .lit (.int .u8 23), .lit (.int .u8 11), .lit (.int .u8 54), .lit (.int .u8 26), .lit (.int .u8 40), .lit (.int .u8 15), .lit (.int .u8 34), .lit (.int .u8 20), .lit (.int .u8 31), .lit (.int .u8 10), .lit (.int .u8 25), .lit (.int .u8 14), .lit (.int .u8 19), .lit (.int .u8 9), .lit (.int .u8 13), .lit (.int .u8 8), .lit (.int .u8 7), .lit (.int .u8 6)]
def laid_patina_rv_rows {H : Type} : DataW H := .agg [.agg [.lit (.int .u8 0), .lit (.int .u32 0), .lit (.int .u32 0), .lit (.int .u32 0)], .agg [.lit (.int .u8 85), .lit (.int .u32 55), .lit (.int .u32 0), .lit (.int .u32 0)], .agg [.lit (.int .u8 85), .lit (.int .u32 23), .lit (.int .u32 0), .lit (.int .u32 0)], .agg [.lit (.int .u8 74), .lit (.int .u32 111), .lit (.int .u32 0), .lit (.int .u32 0)], .agg [.lit (.int .u8 73), .lit (.int .u32 103), .lit (.int .u32 0), .lit (.int .u32 0)], .agg [.lit (.int .u8 66), .lit (.int .u32 99), .lit (.int .u32 0), .lit (.int .u32 0)], .agg [.lit (.int .u8 66), .lit (.int .u32 99), .lit (.int .u32 1), .lit (.int .u32 0)], .agg [.lit (.int .u8 66), .lit (.int .u32 99), .lit (.int .u32 4), .lit (.int .u32 0)], .agg [.lit (.int .u8 66), .lit (.int .u32 99), .lit (.int .u32 5), .lit (.int .u32 0)], .agg [.lit (.int .u8 66), .lit (.int .u32 99), .lit (.int .u32 6), .lit (.int .u32 0)], .agg [.lit (.int .u8 66), .lit (.int .u32 99), .lit (.int .u32 7), .lit (.int .u32 0)], .agg [.lit (.int .u8 73), .lit (.int .u32 3), .lit (.int .u32 0), .lit (.int .u32 0)], .agg [.lit (.int .u8 73), .lit (.int .u32 3), .lit (.int .u32 1), .lit (.int .u32 0)], .agg [.lit (.int .u8 73), .lit (.int .u32 3), .lit (.int .u32 2), .lit (.int .u32 0)], .agg [.lit (.int .u8 73), .lit (.int .u32 3), .lit (.int .u32 3), .lit (.int .u32 0)], .agg [.lit (.int .u8 73), .lit (.int .u32 3), .lit (.int .u32 4), .lit (.int .u32 0)], .agg [.lit (.int .u8 73), .lit (.int .u32 3), .lit (.int .u32 5), .lit (.int .u32 0)], .agg [.lit (.int .u8 73), .lit (.int .u32 3), .lit (.int .u32 6), .lit (.int .u32 0)], .agg [.lit (.int .u8 83), .lit (.int .u32 35), .lit (.int .u32 0), .lit (.int .u32 0)], .agg [.lit (.int .u8 83), .lit (.int .u32 35), .lit (.int .u32 1), .lit (.int .u32 0)], .agg [.lit (.int .u8 83), .lit (.int .u32 35), .lit (.int .u32 2), .lit (.int .u32 0)], .agg [.lit (.int .u8 83), .lit (.int .u32 35), .lit (.int .u32 3), .lit (.int .u32 0)], .agg [.lit (.int .u8 73), .lit (.int .u32 19), .lit (.int .u32 0), .lit (.int .u32 0)], .agg [.lit (.int .u8 73), .lit (.int .u32 19), .lit (.int .u32 2), .lit (.int .u32 0)], .agg [.lit (.int .u8 73), .lit (.int .u32 19), .lit (.int .u32 3), .lit (.int .u32 0)], .agg [.lit (.int .u8 73), .lit (.int .u32 19), .lit (.int .u32 4), .lit (.int .u32 0)], .agg [.lit (.int .u8 73), .lit (.int .u32 19), .lit (.int .u32 6), .lit (.int .u32 0)], .agg [.lit (.int .u8 73), .lit (.int .u32 19), .lit (.int .u32 7), .lit (.int .u32 0)], .agg [.lit (.int .u8 72), .lit (.int .u32 19), .lit (.int .u32 1), .lit (.int .u32 0)], .agg [.lit (.int .u8 72), .lit (.int .u32 19), .lit (.int .u32 5), .lit (.int .u32 0)], .agg [.lit (.int .u8 72), .lit (.int .u32 19), .lit (.int .u32 5), .lit (.int .u32 32)], .agg [.lit (.int .u8 73), .lit (.int .u32 27), .lit (.int .u32 0), .lit (.int .u32 0)], .agg [.lit (.int .u8 72), .lit (.int .u32 27), .lit (.int .u32 1), .lit (.int .u32 0)], .agg [.lit (.int .u8 72), .lit (.int .u32 27), .lit (.int .u32 5), .lit (.int .u32 0)], .agg [.lit (.int .u8 72), .lit (.int .u32 27), .lit (.int .u32 5), .lit (.int .u32 32)], .agg [.lit (.int .u8 82), .lit (.int .u32 51), .lit (.int .u32 0), .lit (.int .u32 0)], .agg [.lit (.int .u8 82), .lit (.int .u32 51), .lit (.int .u32 0), .lit (.int .u32 32)], .agg [.lit (.int .u8 82), .lit (.int .u32 51), .lit (.int .u32 1), .lit (.int .u32 0)], .agg [.lit (.int .u8 82), .lit (.int .u32 51), .lit (.int .u32 2), .lit (.int .u32 0)], .agg [.lit (.int .u8 82), .lit (.int .u32 51), .lit (.int .u32 3), .lit (.int .u32 0)], .agg [.lit (.int .u8 82), .lit (.int .u32 51), .lit (.int .u32 4), .lit (.int .u32 0)], .agg [.lit (.int .u8 82), .lit (.int .u32 51), .lit (.int .u32 5), .lit (.int .u32 0)], .agg [.lit (.int .u8 82), .lit (.int .u32 51), .lit (.int .u32 5), .lit (.int .u32 32)], .agg [.lit (.int .u8 82), .lit (.int .u32 51), .lit (.int .u32 6), .lit (.int .u32 0)], .agg [.lit (.int .u8 82), .lit (.int .u32 51), .lit (.int .u32 7), .lit (.int .u32 0)], .agg [.lit (.int .u8 82), .lit (.int .u32 59), .lit (.int .u32 0), .lit (.int .u32 0)], .agg [.lit (.int .u8 82), .lit (.int .u32 59), .lit (.int .u32 0), .lit (.int .u32 32)], .agg [.lit (.int .u8 82), .lit (.int .u32 59), .lit (.int .u32 1), .lit (.int .u32 0)], .agg [.lit (.int .u8 82), .lit (.int .u32 59), .lit (.int .u32 5), .lit (.int .u32 0)], .agg [.lit (.int .u8 82), .lit (.int .u32 59), .lit (.int .u32 5), .lit (.int .u32 32)], .agg [.lit (.int .u8 82), .lit (.int .u32 51), .lit (.int .u32 0), .lit (.int .u32 1)], .agg [.lit (.int .u8 82), .lit (.int .u32 51), .lit (.int .u32 1), .lit (.int .u32 1)], .agg [.lit (.int .u8 82), .lit (.int .u32 51), .lit (.int .u32 2), .lit (.int .u32 1)], .agg [.lit (.int .u8 82), .lit (.int .u32 51), .lit (.int .u32 3), .lit (.int .u32 1)], .agg [.lit (.int .u8 82), .lit (.int .u32 51), .lit (.int .u32 4), .lit (.int .u32 1)], .agg [.lit (.int .u8 82), .lit (.int .u32 51), .lit (.int .u32 5), .lit (.int .u32 1)], .agg [.lit (.int .u8 82), .lit (.int .u32 51), .lit (.int .u32 6), .lit (.int .u32 1)], .agg [.lit (.int .u8 82), .lit (.int .u32 51), .lit (.int .u32 7), .lit (.int .u32 1)], .agg [.lit (.int .u8 82), .lit (.int .u32 59), .lit (.int .u32 0), .lit (.int .u32 1)], .agg [.lit (.int .u8 82), .lit (.int .u32 59), .lit (.int .u32 4), .lit (.int .u32 1)], .agg [.lit (.int .u8 82), .lit (.int .u32 59), .lit (.int .u32 5), .lit (.int .u32 1)], .agg [.lit (.int .u8 82), .lit (.int .u32 59), .lit (.int .u32 6), .lit (.int .u32 1)], .agg [.lit (.int .u8 82), .lit (.int .u32 59), .lit (.int .u32 7), .lit (.int .u32 1)], .agg [.lit (.int .u8 78), .lit (.int .u32 15), .lit (.int .u32 0), .lit (.int .u32 0)], .agg [.lit (.int .u8 78), .lit (.int .u32 115), .lit (.int .u32 0), .lit (.int .u32 0)], .agg [.lit (.int .u8 78), .lit (.int .u32 1048691), .lit (.int .u32 0), .lit (.int .u32 0)]]

/-- 'patinalaw05.AsmLoads': WHATEVER THE INPUT: true; the input reads as it did. -/
def asmLoadsSpec : ChangeSpec := { name := "asmLoads", fn := fun _ => fun
  | [d1, d2] => { results := [.lit (.bool true)], args := [d1, d2] }
  | _ => none }
def asmLoadsRow : OpenClaim := { program := "ytemngapfnkokiaadoor", sum := "d9a4082db4b2eda48dc5e63eb87b35db221cd546fdd52638c8143d1b0d6c4c52", func := "patina/patinalaw05.AsmLoads", spec := "asmLoads", unfollowed := true, recurses := true, named := ["math/bits.deBruijn64tab", "patina/rv.rows"], apart := false, laid := [("math/bits.deBruijn64tab", laid_math_bits_deBruijn64tab), ("patina/rv.rows", laid_patina_rv_rows)] }
def AsmLoadsSaid : Prop := asmLoadsRow.holds Tryd.pinned (OpenSpec.ofChange asmLoadsSpec)

/-- ITS FALSE NEIGHBOUR: 'it returns false'. Refute it at one input. -/
def asmLoadsWrong : ChangeSpec := { name := "asmLoads", fn := fun _ => fun
  | [d1, d2] => { results := [.lit (.bool false)], args := [d1, d2] }
  | _ => none }
def AsmLoadsWrongFalsely : Prop := asmLoadsRow.holds Tryd.pinned (OpenSpec.ofChange asmLoadsWrong)

/-- 'patinalaw05.AsmMoved': WHATEVER THE INPUT: true; the input reads as it did. -/
def asmMovedSpec : ChangeSpec := { name := "asmMoved", fn := fun _ => fun
  | [d1, d2] => { results := [.lit (.bool true)], args := [d1, d2] }
  | _ => none }
def asmMovedRow : OpenClaim := { program := "ytemngapfnkokiaadoor", sum := "d9a4082db4b2eda48dc5e63eb87b35db221cd546fdd52638c8143d1b0d6c4c52", func := "patina/patinalaw05.AsmMoved", spec := "asmMoved", unfollowed := true, recurses := true, named := ["patina/rv.rows", "math/bits.deBruijn64tab"], apart := false, laid := [("math/bits.deBruijn64tab", laid_math_bits_deBruijn64tab), ("patina/rv.rows", laid_patina_rv_rows)] }
def AsmMovedSaid : Prop := asmMovedRow.holds Tryd.pinned (OpenSpec.ofChange asmMovedSpec)

/-- ITS FALSE NEIGHBOUR: 'it returns false'. Refute it at one input. -/
def asmMovedWrong : ChangeSpec := { name := "asmMoved", fn := fun _ => fun
  | [d1, d2] => { results := [.lit (.bool false)], args := [d1, d2] }
  | _ => none }
def AsmMovedWrongFalsely : Prop := asmMovedRow.holds Tryd.pinned (OpenSpec.ofChange asmMovedWrong)

/-- 'patinalaw05.AsmFinds': WHATEVER THE INPUT: true; the input reads as it did. -/
def asmFindsSpec : ChangeSpec := { name := "asmFinds", fn := fun _ => fun
  | [d1, d2] => { results := [.lit (.bool true)], args := [d1, d2] }
  | _ => none }
def asmFindsRow : OpenClaim := { program := "ytemngapfnkokiaadoor", sum := "d9a4082db4b2eda48dc5e63eb87b35db221cd546fdd52638c8143d1b0d6c4c52", func := "patina/patinalaw05.AsmFinds", spec := "asmFinds", unfollowed := true, recurses := true, named := ["patina/rv.rows", "math/bits.deBruijn64tab"], apart := false, laid := [("math/bits.deBruijn64tab", laid_math_bits_deBruijn64tab), ("patina/rv.rows", laid_patina_rv_rows)] }
def AsmFindsSaid : Prop := asmFindsRow.holds Tryd.pinned (OpenSpec.ofChange asmFindsSpec)

/-- ITS FALSE NEIGHBOUR: 'it returns false'. Refute it at one input. -/
def asmFindsWrong : ChangeSpec := { name := "asmFinds", fn := fun _ => fun
  | [d1, d2] => { results := [.lit (.bool false)], args := [d1, d2] }
  | _ => none }
def AsmFindsWrongFalsely : Prop := asmFindsRow.holds Tryd.pinned (OpenSpec.ofChange asmFindsWrong)

/-- 'patinalaw05.AsmReaches': WHATEVER THE INPUT: true; the input reads as it did. -/
def asmReachesSpec : ChangeSpec := { name := "asmReaches", fn := fun _ => fun
  | [d] => { results := [.lit (.bool true)], args := [d] }
  | _ => none }
def asmReachesRow : OpenClaim := { program := "ytemngapfnkokiaadoor", sum := "d9a4082db4b2eda48dc5e63eb87b35db221cd546fdd52638c8143d1b0d6c4c52", func := "patina/patinalaw05.AsmReaches", spec := "asmReaches", unfollowed := true, recurses := true, named := ["patina/rv.rows", "math/bits.deBruijn64tab"], apart := false, laid := [("math/bits.deBruijn64tab", laid_math_bits_deBruijn64tab), ("patina/rv.rows", laid_patina_rv_rows)] }
def AsmReachesSaid : Prop := asmReachesRow.holds Tryd.pinned (OpenSpec.ofChange asmReachesSpec)

/-- ITS FALSE NEIGHBOUR: 'it returns false'. Refute it at one input. -/
def asmReachesWrong : ChangeSpec := { name := "asmReaches", fn := fun _ => fun
  | [d] => { results := [.lit (.bool false)], args := [d] }
  | _ => none }
def AsmReachesWrongFalsely : Prop := asmReachesRow.holds Tryd.pinned (OpenSpec.ofChange asmReachesWrong)

/-- 'patinalaw03.CpuAlus': WHATEVER THE INPUT: true; the input reads as it did. -/
def cpuAlusSpec : ChangeSpec := { name := "cpuAlus", fn := fun _ => fun
  | [d1, d2, d3] => { results := [.lit (.bool true)], args := [d1, d2, d3] }
  | _ => none }
def cpuAlusRow : OpenClaim := { program := "ytemngapfnkokiaadoor", sum := "d9a4082db4b2eda48dc5e63eb87b35db221cd546fdd52638c8143d1b0d6c4c52", func := "patina/patinalaw03.CpuAlus", spec := "cpuAlus", unfollowed := true, recurses := true, named := ["patina/rv.rows"], apart := false, laid := [("patina/rv.rows", laid_patina_rv_rows)] }
def CpuAlusSaid : Prop := cpuAlusRow.holds Tryd.pinned (OpenSpec.ofChange cpuAlusSpec)

/-- ITS FALSE NEIGHBOUR: 'it returns false'. Refute it at one input. -/
def cpuAlusWrong : ChangeSpec := { name := "cpuAlus", fn := fun _ => fun
  | [d1, d2, d3] => { results := [.lit (.bool false)], args := [d1, d2, d3] }
  | _ => none }
def CpuAlusWrongFalsely : Prop := cpuAlusRow.holds Tryd.pinned (OpenSpec.ofChange cpuAlusWrong)

/-- 'patinalaw03.CpuNil': WHATEVER THE INPUT: true; the input reads as it did. -/
def cpuNilSpec : ChangeSpec := { name := "cpuNil", fn := fun _ => fun
  | [d] => { results := [.lit (.bool true)], args := [d] }
  | _ => none }
def cpuNilRow : OpenClaim := { program := "ytemngapfnkokiaadoor", sum := "d9a4082db4b2eda48dc5e63eb87b35db221cd546fdd52638c8143d1b0d6c4c52", func := "patina/patinalaw03.CpuNil", spec := "cpuNil", unfollowed := true, recurses := true, named := ["patina/rv.rows"], apart := false, laid := [("patina/rv.rows", laid_patina_rv_rows)] }
def CpuNilSaid : Prop := cpuNilRow.holds Tryd.pinned (OpenSpec.ofChange cpuNilSpec)

/-- ITS FALSE NEIGHBOUR: 'it returns false'. Refute it at one input. -/
def cpuNilWrong : ChangeSpec := { name := "cpuNil", fn := fun _ => fun
  | [d] => { results := [.lit (.bool false)], args := [d] }
  | _ => none }
def CpuNilWrongFalsely : Prop := cpuNilRow.holds Tryd.pinned (OpenSpec.ofChange cpuNilWrong)

/-- 'patinalaw03.CpuParts': WHATEVER THE INPUT: true; the input reads as it did. -/
def cpuPartsSpec : ChangeSpec := { name := "cpuParts", fn := fun _ => fun
  | [d1, d2] => { results := [.lit (.bool true)], args := [d1, d2] }
  | _ => none }
def cpuPartsRow : OpenClaim := { program := "ytemngapfnkokiaadoor", sum := "d9a4082db4b2eda48dc5e63eb87b35db221cd546fdd52638c8143d1b0d6c4c52", func := "patina/patinalaw03.CpuParts", spec := "cpuParts", unfollowed := true, recurses := true, named := ["patina/rv.rows"], apart := false, laid := [("patina/rv.rows", laid_patina_rv_rows)] }
def CpuPartsSaid : Prop := cpuPartsRow.holds Tryd.pinned (OpenSpec.ofChange cpuPartsSpec)

/-- ITS FALSE NEIGHBOUR: 'it returns false'. Refute it at one input. -/
def cpuPartsWrong : ChangeSpec := { name := "cpuParts", fn := fun _ => fun
  | [d1, d2] => { results := [.lit (.bool false)], args := [d1, d2] }
  | _ => none }
def CpuPartsWrongFalsely : Prop := cpuPartsRow.holds Tryd.pinned (OpenSpec.ofChange cpuPartsWrong)

/- THE SECOND FORM. 'bulk': how many values and letters a reading holds, each counted each time it is reached (what is shared counts as often as it is met; a slice's spare places count too). A statement '..UptoSaid' is the law's where the arguments, and the package variables that the reading takes, are together of bulk at most 1048576: NARROWER than '..Said'. Prove '..Said' where nothing that the law and all that it calls make is longer than what came in: it says more and counts as full. Else prove '..UptoSaid'. A law counts once. -/
mutual
def uptoBulk {H : Type} : DataW H → Nat
  | .lit (.string bytes) => bytes.length + 1
  | .lit _ => 1
  | .nil => 1
  | .ptr d => uptoBulk d + 1
  | .slice elems spare => uptoBulkAll elems + uptoBulkAll spare + 1
  | .agg parts => uptoBulkAll parts + 1
  | .iface _ d => uptoBulk d + 1
  | .map entries => uptoBulkEntries entries + 1
  | .held _ => 1
def uptoBulkAll {H : Type} : List (DataW H) → Nat
  | [] => 0
  | d :: r => uptoBulk d + uptoBulkAll r
def uptoBulkEntries {H : Type} : List (Lit × DataW H) → Nat
  | [] => 0
  | x :: r => uptoBulkEntry x + uptoBulkEntries r
def uptoBulkEntry {H : Type} : Lit × DataW H → Nat
  | (.string bytes, d) => bytes.length + uptoBulk d + 1
  | (_, d) => uptoBulk d + 1
 end
def uptoSmall : (H : Type) → List (DataW H) → Bool := fun _ ds => decide (uptoBulkAll ds ≤ 1048576)
def OpenSpec.upto (s : _root_.Go.ChangeSpec) : _root_.Go.OpenSpec := { _root_.Go.OpenSpec.ofChange s with cond := some uptoSmall }

/-- 'patinalaw05.AsmLoads', WHERE WHAT IT READS IS OF BULK AT MOST 1048576: true; the input reads as it did. -/
def asmLoadsUptoRow : OpenClaim := { program := "ytemngapfnkokiaadoor", sum := "d9a4082db4b2eda48dc5e63eb87b35db221cd546fdd52638c8143d1b0d6c4c52", func := "patina/patinalaw05.AsmLoads", spec := "asmLoads", unfollowed := true, recurses := true, named := ["math/bits.deBruijn64tab", "patina/rv.rows"], apart := false, laid := [("math/bits.deBruijn64tab", laid_math_bits_deBruijn64tab), ("patina/rv.rows", laid_patina_rv_rows)], narrowed := true }
def AsmLoadsUptoSaid : Prop := asmLoadsUptoRow.holds Tryd.pinned (OpenSpec.upto asmLoadsSpec)

/-- 'patinalaw05.AsmMoved', WHERE WHAT IT READS IS OF BULK AT MOST 1048576: true; the input reads as it did. -/
def asmMovedUptoRow : OpenClaim := { program := "ytemngapfnkokiaadoor", sum := "d9a4082db4b2eda48dc5e63eb87b35db221cd546fdd52638c8143d1b0d6c4c52", func := "patina/patinalaw05.AsmMoved", spec := "asmMoved", unfollowed := true, recurses := true, named := ["patina/rv.rows", "math/bits.deBruijn64tab"], apart := false, laid := [("math/bits.deBruijn64tab", laid_math_bits_deBruijn64tab), ("patina/rv.rows", laid_patina_rv_rows)], narrowed := true }
def AsmMovedUptoSaid : Prop := asmMovedUptoRow.holds Tryd.pinned (OpenSpec.upto asmMovedSpec)

/-- 'patinalaw05.AsmFinds', WHERE WHAT IT READS IS OF BULK AT MOST 1048576: true; the input reads as it did. -/
def asmFindsUptoRow : OpenClaim := { program := "ytemngapfnkokiaadoor", sum := "d9a4082db4b2eda48dc5e63eb87b35db221cd546fdd52638c8143d1b0d6c4c52", func := "patina/patinalaw05.AsmFinds", spec := "asmFinds", unfollowed := true, recurses := true, named := ["patina/rv.rows", "math/bits.deBruijn64tab"], apart := false, laid := [("math/bits.deBruijn64tab", laid_math_bits_deBruijn64tab), ("patina/rv.rows", laid_patina_rv_rows)], narrowed := true }
def AsmFindsUptoSaid : Prop := asmFindsUptoRow.holds Tryd.pinned (OpenSpec.upto asmFindsSpec)

/-- 'patinalaw05.AsmReaches', WHERE WHAT IT READS IS OF BULK AT MOST 1048576: true; the input reads as it did. -/
def asmReachesUptoRow : OpenClaim := { program := "ytemngapfnkokiaadoor", sum := "d9a4082db4b2eda48dc5e63eb87b35db221cd546fdd52638c8143d1b0d6c4c52", func := "patina/patinalaw05.AsmReaches", spec := "asmReaches", unfollowed := true, recurses := true, named := ["patina/rv.rows", "math/bits.deBruijn64tab"], apart := false, laid := [("math/bits.deBruijn64tab", laid_math_bits_deBruijn64tab), ("patina/rv.rows", laid_patina_rv_rows)], narrowed := true }
def AsmReachesUptoSaid : Prop := asmReachesUptoRow.holds Tryd.pinned (OpenSpec.upto asmReachesSpec)

/-- 'patinalaw03.CpuAlus', WHERE WHAT IT READS IS OF BULK AT MOST 1048576: true; the input reads as it did. -/
def cpuAlusUptoRow : OpenClaim := { program := "ytemngapfnkokiaadoor", sum := "d9a4082db4b2eda48dc5e63eb87b35db221cd546fdd52638c8143d1b0d6c4c52", func := "patina/patinalaw03.CpuAlus", spec := "cpuAlus", unfollowed := true, recurses := true, named := ["patina/rv.rows"], apart := false, laid := [("patina/rv.rows", laid_patina_rv_rows)], narrowed := true }
def CpuAlusUptoSaid : Prop := cpuAlusUptoRow.holds Tryd.pinned (OpenSpec.upto cpuAlusSpec)

/-- 'patinalaw03.CpuNil', WHERE WHAT IT READS IS OF BULK AT MOST 1048576: true; the input reads as it did. -/
def cpuNilUptoRow : OpenClaim := { program := "ytemngapfnkokiaadoor", sum := "d9a4082db4b2eda48dc5e63eb87b35db221cd546fdd52638c8143d1b0d6c4c52", func := "patina/patinalaw03.CpuNil", spec := "cpuNil", unfollowed := true, recurses := true, named := ["patina/rv.rows"], apart := false, laid := [("patina/rv.rows", laid_patina_rv_rows)], narrowed := true }
def CpuNilUptoSaid : Prop := cpuNilUptoRow.holds Tryd.pinned (OpenSpec.upto cpuNilSpec)

/-- 'patinalaw03.CpuParts', WHERE WHAT IT READS IS OF BULK AT MOST 1048576: true; the input reads as it did. -/
def cpuPartsUptoRow : OpenClaim := { program := "ytemngapfnkokiaadoor", sum := "d9a4082db4b2eda48dc5e63eb87b35db221cd546fdd52638c8143d1b0d6c4c52", func := "patina/patinalaw03.CpuParts", spec := "cpuParts", unfollowed := true, recurses := true, named := ["patina/rv.rows"], apart := false, laid := [("patina/rv.rows", laid_patina_rv_rows)], narrowed := true }
def CpuPartsUptoSaid : Prop := cpuPartsUptoRow.holds Tryd.pinned (OpenSpec.upto cpuPartsSpec)

end Rows
end Go.Proofs.YtemngapfnkokiaaDoor
