/-
  NARROWER THAN 'FOR EVERY INPUT', by the rows' own cells (each row's printed sentence says how): RtPrints: laid · RtReads: laid · RtHeap: laid · RtRoom: laid · RtStarts: laid · RtImages: laid.
  DERIVED. THE GIVEN ROWS OF THIS SEAT. 6 by the template 'for every input the law returns true; each argument reads behind the call as it read before'; 0 by the template 'total and deterministic' (their statements: YtlhenglopnipaaaGreatDoorTotals.lean).
  GIVEN WITH THE SEED: the statements are not yours to turn. If you find one false, say at which input.
  Laid BY PROGRAM, IN A SANDBOX (cutbox-rows.mjs): the forced cells as the released guide's own fill.sh prints them over the translation 4df13711790dc384… (all of the seat's roots in one cut). By AI agents, Wed Nov 11 2026. No macro, syntax, notation, axiom, sorry.
-/
import Derived.Test.YtlhenglopnipaaaGreatDoorChecked
import GoSem.Claim
import GoSem.ClaimJoined
import GoSem.ClaimMapViews
import Derived.JoinedTies
import Derived.KernelRfl
namespace Go.Proofs.YtlhenglopnipaaaGreatDoor
/- THE CELL 'sum', in the pinned program and in every row, IS THE sha256 OF THE DUMP (.gsa) THAT YtlhenglopnipaaaGreatDoorProg.lean LOADS. Nothing in Lean hashes anything: it is a label: what it is worth is what the hold of that sum in a sandbox is worth. -/
noncomputable def Tryz.pinned : Pinned := { name := "ytlhenglopnipaaagreatdoor", sum := "4df13711790dc384d5d16be0afb45963adca20215289609c7c31c203ed8398a3", checked := Tryz.checked }
namespace Rows
def none {H : Type} : Left H := { results := [], args := [] }

/- WHAT THE LISTED PACKAGE-LEVEL VARIABLES READ AS WHEN THE CALL BEGINS. Each datum BY PROGRAM (the guide's laid-datum.mjs) off the statement by which the dump's own 'gosem.cut.vars' lays the variable. In a bare row this is a premise. The card (YtlhenglopnipaaaGreatDoorCards.lean) ties it to the program's text. -/
def laid_math_bits_deBruijn64tab {H : Type} : DataW H := .agg [.lit (.int .u8 0), .lit (.int .u8 1), .lit (.int .u8 56), .lit (.int .u8 2), .lit (.int .u8 57), .lit (.int .u8 49), .lit (.int .u8 28), .lit (.int .u8 3), .lit (.int .u8 61), .lit (.int .u8 58), .lit (.int .u8 42), .lit (.int .u8 50), .lit (.int .u8 38), .lit (.int .u8 29), .lit (.int .u8 17), .lit (.int .u8 4), .lit (.int .u8 62), .lit (.int .u8 47), .lit (.int .u8 59), .lit (.int .u8 36), .lit (.int .u8 45), .lit (.int .u8 43), .lit (.int .u8 51), .lit (.int .u8 22), .lit (.int .u8 53), .lit (.int .u8 39), .lit (.int .u8 33), .lit (.int .u8 30), .lit (.int .u8 24), .lit (.int .u8 18), .lit (.int .u8 12), .lit (.int .u8 5), .lit (.int .u8 63), .lit (.int .u8 55), .lit (.int .u8 48), .lit (.int .u8 27), .lit (.int .u8 60), .lit (.int .u8 41), .lit (.int .u8 37), .lit (.int .u8 16), .lit (.int .u8 46), .lit (.int .u8 35), .lit (.int .u8 44), .lit (.int .u8 21), .lit (.int .u8 52), .lit (.int .u8 32), .lit (.int .u8 23), .lit (.int .u8 11), .lit (.int .u8 54), .lit (.int .u8 26), .lit (.int .u8 40), .lit (.int .u8 15), .lit (.int .u8 34), .lit (.int .u8 20), .lit (.int .u8 31), .lit (.int .u8 10), .lit (.int .u8 25), .lit (.int .u8 14), .lit (.int .u8 19), .lit (.int .u8 9), .lit (.int .u8 13), .lit (.int .u8 8), .lit (.int .u8 7), .lit (.int .u8 6)]
def laid_patina_rv_rows {H : Type} : DataW H := .agg [.agg [.lit (.int .u8 0), .lit (.int .u32 0), .lit (.int .u32 0), .lit (.int .u32 0)], .agg [.lit (.int .u8 85), .lit (.int .u32 55), .lit (.int .u32 0), .lit (.int .u32 0)], .agg [.lit (.int .u8 85), .lit (.int .u32 23), .lit (.int .u32 0), .lit (.int .u32 0)], .agg [.lit (.int .u8 74), .lit (.int .u32 111), .lit (.int .u32 0), .lit (.int .u32 0)], .agg [.lit (.int .u8 73), .lit (.int .u32 103), .lit (.int .u32 0), .lit (.int .u32 0)], .agg [.lit (.int .u8 66), .lit (.int .u32 99), .lit (.int .u32 0), .lit (.int .u32 0)], .agg [.lit (.int .u8 66), .lit (.int .u32 99), .lit (.int .u32 1), .lit (.int .u32 0)], .agg [.lit (.int .u8 66), .lit (.int .u32 99), .lit (.int .u32 4), .lit (.int .u32 0)], .agg [.lit (.int .u8 66), .lit (.int .u32 99), .lit (.int .u32 5), .lit (.int .u32 0)], .agg [.lit (.int .u8 66), .lit (.int .u32 99), .lit (.int .u32 6), .lit (.int .u32 0)], .agg [.lit (.int .u8 66), .lit (.int .u32 99), .lit (.int .u32 7), .lit (.int .u32 0)], .agg [.lit (.int .u8 73), .lit (.int .u32 3), .lit (.int .u32 0), .lit (.int .u32 0)], .agg [.lit (.int .u8 73), .lit (.int .u32 3), .lit (.int .u32 1), .lit (.int .u32 0)], .agg [.lit (.int .u8 73), .lit (.int .u32 3), .lit (.int .u32 2), .lit (.int .u32 0)], .agg [.lit (.int .u8 73), .lit (.int .u32 3), .lit (.int .u32 3), .lit (.int .u32 0)], .agg [.lit (.int .u8 73), .lit (.int .u32 3), .lit (.int .u32 4), .lit (.int .u32 0)], .agg [.lit (.int .u8 73), .lit (.int .u32 3), .lit (.int .u32 5), .lit (.int .u32 0)], .agg [.lit (.int .u8 73), .lit (.int .u32 3), .lit (.int .u32 6), .lit (.int .u32 0)], .agg [.lit (.int .u8 83), .lit (.int .u32 35), .lit (.int .u32 0), .lit (.int .u32 0)], .agg [.lit (.int .u8 83), .lit (.int .u32 35), .lit (.int .u32 1), .lit (.int .u32 0)], .agg [.lit (.int .u8 83), .lit (.int .u32 35), .lit (.int .u32 2), .lit (.int .u32 0)], .agg [.lit (.int .u8 83), .lit (.int .u32 35), .lit (.int .u32 3), .lit (.int .u32 0)], .agg [.lit (.int .u8 73), .lit (.int .u32 19), .lit (.int .u32 0), .lit (.int .u32 0)], .agg [.lit (.int .u8 73), .lit (.int .u32 19), .lit (.int .u32 2), .lit (.int .u32 0)], .agg [.lit (.int .u8 73), .lit (.int .u32 19), .lit (.int .u32 3), .lit (.int .u32 0)], .agg [.lit (.int .u8 73), .lit (.int .u32 19), .lit (.int .u32 4), .lit (.int .u32 0)], .agg [.lit (.int .u8 73), .lit (.int .u32 19), .lit (.int .u32 6), .lit (.int .u32 0)], .agg [.lit (.int .u8 73), .lit (.int .u32 19), .lit (.int .u32 7), .lit (.int .u32 0)], .agg [.lit (.int .u8 72), .lit (.int .u32 19), .lit (.int .u32 1), .lit (.int .u32 0)], .agg [.lit (.int .u8 72), .lit (.int .u32 19), .lit (.int .u32 5), .lit (.int .u32 0)], .agg [.lit (.int .u8 72), .lit (.int .u32 19), .lit (.int .u32 5), .lit (.int .u32 32)], .agg [.lit (.int .u8 73), .lit (.int .u32 27), .lit (.int .u32 0), .lit (.int .u32 0)], .agg [.lit (.int .u8 72), .lit (.int .u32 27), .lit (.int .u32 1), .lit (.int .u32 0)], .agg [.lit (.int .u8 72), .lit (.int .u32 27), .lit (.int .u32 5), .lit (.int .u32 0)], .agg [.lit (.int .u8 72), .lit (.int .u32 27), .lit (.int .u32 5), .lit (.int .u32 32)], .agg [.lit (.int .u8 82), .lit (.int .u32 51), .lit (.int .u32 0), .lit (.int .u32 0)], .agg [.lit (.int .u8 82), .lit (.int .u32 51), .lit (.int .u32 0), .lit (.int .u32 32)], .agg [.lit (.int .u8 82), .lit (.int .u32 51), .lit (.int .u32 1), .lit (.int .u32 0)], .agg [.lit (.int .u8 82), .lit (.int .u32 51), .lit (.int .u32 2), .lit (.int .u32 0)], .agg [.lit (.int .u8 82), .lit (.int .u32 51), .lit (.int .u32 3), .lit (.int .u32 0)], .agg [.lit (.int .u8 82), .lit (.int .u32 51), .lit (.int .u32 4), .lit (.int .u32 0)], .agg [.lit (.int .u8 82), .lit (.int .u32 51), .lit (.int .u32 5), .lit (.int .u32 0)], .agg [.lit (.int .u8 82), .lit (.int .u32 51), .lit (.int .u32 5), .lit (.int .u32 32)], .agg [.lit (.int .u8 82), .lit (.int .u32 51), .lit (.int .u32 6), .lit (.int .u32 0)], .agg [.lit (.int .u8 82), .lit (.int .u32 51), .lit (.int .u32 7), .lit (.int .u32 0)], .agg [.lit (.int .u8 82), .lit (.int .u32 59), .lit (.int .u32 0), .lit (.int .u32 0)], .agg [.lit (.int .u8 82), .lit (.int .u32 59), .lit (.int .u32 0), .lit (.int .u32 32)], .agg [.lit (.int .u8 82), .lit (.int .u32 59), .lit (.int .u32 1), .lit (.int .u32 0)], .agg [.lit (.int .u8 82), .lit (.int .u32 59), .lit (.int .u32 5), .lit (.int .u32 0)], .agg [.lit (.int .u8 82), .lit (.int .u32 59), .lit (.int .u32 5), .lit (.int .u32 32)], .agg [.lit (.int .u8 82), .lit (.int .u32 51), .lit (.int .u32 0), .lit (.int .u32 1)], .agg [.lit (.int .u8 82), .lit (.int .u32 51), .lit (.int .u32 1), .lit (.int .u32 1)], .agg [.lit (.int .u8 82), .lit (.int .u32 51), .lit (.int .u32 2), .lit (.int .u32 1)], .agg [.lit (.int .u8 82), .lit (.int .u32 51), .lit (.int .u32 3), .lit (.int .u32 1)], .agg [.lit (.int .u8 82), .lit (.int .u32 51), .lit (.int .u32 4), .lit (.int .u32 1)], .agg [.lit (.int .u8 82), .lit (.int .u32 51), .lit (.int .u32 5), .lit (.int .u32 1)], .agg [.lit (.int .u8 82), .lit (.int .u32 51), .lit (.int .u32 6), .lit (.int .u32 1)], .agg [.lit (.int .u8 82), .lit (.int .u32 51), .lit (.int .u32 7), .lit (.int .u32 1)], .agg [.lit (.int .u8 82), .lit (.int .u32 59), .lit (.int .u32 0), .lit (.int .u32 1)], .agg [.lit (.int .u8 82), .lit (.int .u32 59), .lit (.int .u32 4), .lit (.int .u32 1)], .agg [.lit (.int .u8 82), .lit (.int .u32 59), .lit (.int .u32 5), .lit (.int .u32 1)], .agg [.lit (.int .u8 82), .lit (.int .u32 59), .lit (.int .u32 6), .lit (.int .u32 1)], .agg [.lit (.int .u8 82), .lit (.int .u32 59), .lit (.int .u32 7), .lit (.int .u32 1)], .agg [.lit (.int .u8 78), .lit (.int .u32 15), .lit (.int .u32 0), .lit (.int .u32 0)], .agg [.lit (.int .u8 78), .lit (.int .u32 115), .lit (.int .u32 0), .lit (.int .u32 0)], .agg [.lit (.int .u8 78), .lit (.int .u32 1048691), .lit (.int .u32 0), .lit (.int .u32 0)]]

/-- 'patinalaw10.RtPrints': WHATEVER THE INPUT: true; the input reads as it did. -/
def rtPrintsSpec : ChangeSpec := { name := "rtPrints", fn := fun _ => fun
  | [d] => { results := [.lit (.bool true)], args := [d] }
  | _ => none }
def rtPrintsRow : OpenClaim := { program := "ytlhenglopnipaaagreatdoor", sum := "4df13711790dc384d5d16be0afb45963adca20215289609c7c31c203ed8398a3", func := "patina/patinalaw10.RtPrints", spec := "rtPrints", unfollowed := true, recurses := true, named := ["patina/rv.rows", "math/bits.deBruijn64tab"], apart := false, laid := [("math/bits.deBruijn64tab", laid_math_bits_deBruijn64tab), ("patina/rv.rows", laid_patina_rv_rows)] }
def RtPrintsSaid : Prop := rtPrintsRow.holds Tryz.pinned (OpenSpec.ofChange rtPrintsSpec)

/-- ITS FALSE NEIGHBOUR: 'it returns false'. Refute it at one input. -/
def rtPrintsWrong : ChangeSpec := { name := "rtPrints", fn := fun _ => fun
  | [d] => { results := [.lit (.bool false)], args := [d] }
  | _ => none }
def RtPrintsWrongFalsely : Prop := rtPrintsRow.holds Tryz.pinned (OpenSpec.ofChange rtPrintsWrong)

/-- 'patinalaw10.RtReads': WHATEVER THE INPUT: true; the input reads as it did. -/
def rtReadsSpec : ChangeSpec := { name := "rtReads", fn := fun _ => fun
  | [d1, d2] => { results := [.lit (.bool true)], args := [d1, d2] }
  | _ => none }
def rtReadsRow : OpenClaim := { program := "ytlhenglopnipaaagreatdoor", sum := "4df13711790dc384d5d16be0afb45963adca20215289609c7c31c203ed8398a3", func := "patina/patinalaw10.RtReads", spec := "rtReads", unfollowed := true, recurses := true, named := ["patina/rv.rows", "math/bits.deBruijn64tab"], apart := false, laid := [("math/bits.deBruijn64tab", laid_math_bits_deBruijn64tab), ("patina/rv.rows", laid_patina_rv_rows)] }
def RtReadsSaid : Prop := rtReadsRow.holds Tryz.pinned (OpenSpec.ofChange rtReadsSpec)

/-- ITS FALSE NEIGHBOUR: 'it returns false'. Refute it at one input. -/
def rtReadsWrong : ChangeSpec := { name := "rtReads", fn := fun _ => fun
  | [d1, d2] => { results := [.lit (.bool false)], args := [d1, d2] }
  | _ => none }
def RtReadsWrongFalsely : Prop := rtReadsRow.holds Tryz.pinned (OpenSpec.ofChange rtReadsWrong)

/-- 'patinalaw10.RtHeap': WHATEVER THE INPUT: true; the input reads as it did. -/
def rtHeapSpec : ChangeSpec := { name := "rtHeap", fn := fun _ => fun
  | [d] => { results := [.lit (.bool true)], args := [d] }
  | _ => none }
def rtHeapRow : OpenClaim := { program := "ytlhenglopnipaaagreatdoor", sum := "4df13711790dc384d5d16be0afb45963adca20215289609c7c31c203ed8398a3", func := "patina/patinalaw10.RtHeap", spec := "rtHeap", unfollowed := true, recurses := true, named := ["patina/rv.rows", "math/bits.deBruijn64tab"], apart := false, laid := [("math/bits.deBruijn64tab", laid_math_bits_deBruijn64tab), ("patina/rv.rows", laid_patina_rv_rows)] }
def RtHeapSaid : Prop := rtHeapRow.holds Tryz.pinned (OpenSpec.ofChange rtHeapSpec)

/-- ITS FALSE NEIGHBOUR: 'it returns false'. Refute it at one input. -/
def rtHeapWrong : ChangeSpec := { name := "rtHeap", fn := fun _ => fun
  | [d] => { results := [.lit (.bool false)], args := [d] }
  | _ => none }
def RtHeapWrongFalsely : Prop := rtHeapRow.holds Tryz.pinned (OpenSpec.ofChange rtHeapWrong)

/-- 'patinalaw10.RtRoom': WHATEVER THE INPUT: true; the input reads as it did. -/
def rtRoomSpec : ChangeSpec := { name := "rtRoom", fn := fun _ => fun
  | [d1, d2] => { results := [.lit (.bool true)], args := [d1, d2] }
  | _ => none }
def rtRoomRow : OpenClaim := { program := "ytlhenglopnipaaagreatdoor", sum := "4df13711790dc384d5d16be0afb45963adca20215289609c7c31c203ed8398a3", func := "patina/patinalaw10.RtRoom", spec := "rtRoom", unfollowed := true, recurses := true, named := ["patina/rv.rows", "math/bits.deBruijn64tab"], apart := false, laid := [("math/bits.deBruijn64tab", laid_math_bits_deBruijn64tab), ("patina/rv.rows", laid_patina_rv_rows)] }
def RtRoomSaid : Prop := rtRoomRow.holds Tryz.pinned (OpenSpec.ofChange rtRoomSpec)

/-- ITS FALSE NEIGHBOUR: 'it returns false'. Refute it at one input. -/
def rtRoomWrong : ChangeSpec := { name := "rtRoom", fn := fun _ => fun
  | [d1, d2] => { results := [.lit (.bool false)], args := [d1, d2] }
  | _ => none }
def RtRoomWrongFalsely : Prop := rtRoomRow.holds Tryz.pinned (OpenSpec.ofChange rtRoomWrong)

/-- 'patinalaw10.RtStarts': WHATEVER THE INPUT: true; the input reads as it did. -/
def rtStartsSpec : ChangeSpec := { name := "rtStarts", fn := fun _ => fun
  | [d] => { results := [.lit (.bool true)], args := [d] }
  | _ => none }
def rtStartsRow : OpenClaim := { program := "ytlhenglopnipaaagreatdoor", sum := "4df13711790dc384d5d16be0afb45963adca20215289609c7c31c203ed8398a3", func := "patina/patinalaw10.RtStarts", spec := "rtStarts", unfollowed := true, recurses := true, named := ["patina/rv.rows", "math/bits.deBruijn64tab"], apart := false, laid := [("math/bits.deBruijn64tab", laid_math_bits_deBruijn64tab), ("patina/rv.rows", laid_patina_rv_rows)] }
def RtStartsSaid : Prop := rtStartsRow.holds Tryz.pinned (OpenSpec.ofChange rtStartsSpec)

/-- ITS FALSE NEIGHBOUR: 'it returns false'. Refute it at one input. -/
def rtStartsWrong : ChangeSpec := { name := "rtStarts", fn := fun _ => fun
  | [d] => { results := [.lit (.bool false)], args := [d] }
  | _ => none }
def RtStartsWrongFalsely : Prop := rtStartsRow.holds Tryz.pinned (OpenSpec.ofChange rtStartsWrong)

/-- 'patinalaw10.RtImages': WHATEVER THE INPUT: true; the input reads as it did. -/
def rtImagesSpec : ChangeSpec := { name := "rtImages", fn := fun _ => fun
  | [d] => { results := [.lit (.bool true)], args := [d] }
  | _ => none }
def rtImagesRow : OpenClaim := { program := "ytlhenglopnipaaagreatdoor", sum := "4df13711790dc384d5d16be0afb45963adca20215289609c7c31c203ed8398a3", func := "patina/patinalaw10.RtImages", spec := "rtImages", unfollowed := true, recurses := true, named := ["patina/rv.rows", "math/bits.deBruijn64tab"], apart := false, laid := [("math/bits.deBruijn64tab", laid_math_bits_deBruijn64tab), ("patina/rv.rows", laid_patina_rv_rows)] }
def RtImagesSaid : Prop := rtImagesRow.holds Tryz.pinned (OpenSpec.ofChange rtImagesSpec)

/-- ITS FALSE NEIGHBOUR: 'it returns false'. Refute it at one input. -/
def rtImagesWrong : ChangeSpec := { name := "rtImages", fn := fun _ => fun
  | [d] => { results := [.lit (.bool false)], args := [d] }
  | _ => none }
def RtImagesWrongFalsely : Prop := rtImagesRow.holds Tryz.pinned (OpenSpec.ofChange rtImagesWrong)

/- THE SECOND FORM. 'bulk': how many values and letters a reading holds, each counted each time it is reached (what is shared counts as often as it is met; a slice's spare places count too). A statement '..UptoSaid' is the law's where the arguments, and the package variables that the reading takes, are together of bulk at most 1048576: NARROWER than '..Said'. Prove '..Said' where nothing that the law and all that it calls make is longer than what came in: it says more and counts as full. Else prove '..UptoSaid'. A law counts once. -/
mutual
def uptoBulk {H : Type} : DataW H → Nat
  | .lit (.string bytes) => bytes.length + 1
  | .lit _ => 1
  | .nil => 1
  | .ptr d => uptoBulk d + 1
  | .slice elems spare => uptoBulkAll elems + uptoBulkAll spare + 1
  | .agg parts => uptoBulkAll parts + 1
  | .iface _ d => uptoBulk d + 1
  | .map entries => uptoBulkEntries entries + 1
  | .held _ => 1
def uptoBulkAll {H : Type} : List (DataW H) → Nat
  | [] => 0
  | d :: r => uptoBulk d + uptoBulkAll r
def uptoBulkEntries {H : Type} : List (Lit × DataW H) → Nat
  | [] => 0
  | x :: r => uptoBulkEntry x + uptoBulkEntries r
def uptoBulkEntry {H : Type} : Lit × DataW H → Nat
  | (.string bytes, d) => bytes.length + uptoBulk d + 1
  | (_, d) => uptoBulk d + 1
 end
def uptoSmall : (H : Type) → List (DataW H) → Bool := fun _ ds => decide (uptoBulkAll ds ≤ 1048576)
def OpenSpec.upto (s : _root_.Go.ChangeSpec) : _root_.Go.OpenSpec := { _root_.Go.OpenSpec.ofChange s with cond := some uptoSmall }

/-- 'patinalaw10.RtPrints', WHERE WHAT IT READS IS OF BULK AT MOST 1048576: true; the input reads as it did. -/
def rtPrintsUptoRow : OpenClaim := { program := "ytlhenglopnipaaagreatdoor", sum := "4df13711790dc384d5d16be0afb45963adca20215289609c7c31c203ed8398a3", func := "patina/patinalaw10.RtPrints", spec := "rtPrints", unfollowed := true, recurses := true, named := ["patina/rv.rows", "math/bits.deBruijn64tab"], apart := false, laid := [("math/bits.deBruijn64tab", laid_math_bits_deBruijn64tab), ("patina/rv.rows", laid_patina_rv_rows)], narrowed := true }
def RtPrintsUptoSaid : Prop := rtPrintsUptoRow.holds Tryz.pinned (OpenSpec.upto rtPrintsSpec)

/-- 'patinalaw10.RtReads', WHERE WHAT IT READS IS OF BULK AT MOST 1048576: true; the input reads as it did. -/
def rtReadsUptoRow : OpenClaim := { program := "ytlhenglopnipaaagreatdoor", sum := "4df13711790dc384d5d16be0afb45963adca20215289609c7c31c203ed8398a3", func := "patina/patinalaw10.RtReads", spec := "rtReads", unfollowed := true, recurses := true, named := ["patina/rv.rows", "math/bits.deBruijn64tab"], apart := false, laid := [("math/bits.deBruijn64tab", laid_math_bits_deBruijn64tab), ("patina/rv.rows", laid_patina_rv_rows)], narrowed := true }
def RtReadsUptoSaid : Prop := rtReadsUptoRow.holds Tryz.pinned (OpenSpec.upto rtReadsSpec)

/-- 'patinalaw10.RtHeap', WHERE WHAT IT READS IS OF BULK AT MOST 1048576: true; the input reads as it did. -/
def rtHeapUptoRow : OpenClaim := { program := "ytlhenglopnipaaagreatdoor", sum := "4df13711790dc384d5d16be0afb45963adca20215289609c7c31c203ed8398a3", func := "patina/patinalaw10.RtHeap", spec := "rtHeap", unfollowed := true, recurses := true, named := ["patina/rv.rows", "math/bits.deBruijn64tab"], apart := false, laid := [("math/bits.deBruijn64tab", laid_math_bits_deBruijn64tab), ("patina/rv.rows", laid_patina_rv_rows)], narrowed := true }
def RtHeapUptoSaid : Prop := rtHeapUptoRow.holds Tryz.pinned (OpenSpec.upto rtHeapSpec)

/-- 'patinalaw10.RtRoom', WHERE WHAT IT READS IS OF BULK AT MOST 1048576: true; the input reads as it did. -/
def rtRoomUptoRow : OpenClaim := { program := "ytlhenglopnipaaagreatdoor", sum := "4df13711790dc384d5d16be0afb45963adca20215289609c7c31c203ed8398a3", func := "patina/patinalaw10.RtRoom", spec := "rtRoom", unfollowed := true, recurses := true, named := ["patina/rv.rows", "math/bits.deBruijn64tab"], apart := false, laid := [("math/bits.deBruijn64tab", laid_math_bits_deBruijn64tab), ("patina/rv.rows", laid_patina_rv_rows)], narrowed := true }
def RtRoomUptoSaid : Prop := rtRoomUptoRow.holds Tryz.pinned (OpenSpec.upto rtRoomSpec)

/-- 'patinalaw10.RtStarts', WHERE WHAT IT READS IS OF BULK AT MOST 1048576: true; the input reads as it did. -/
def rtStartsUptoRow : OpenClaim := { program := "ytlhenglopnipaaagreatdoor", sum := "4df13711790dc384d5d16be0afb45963adca20215289609c7c31c203ed8398a3", func := "patina/patinalaw10.RtStarts", spec := "rtStarts", unfollowed := true, recurses := true, named := ["patina/rv.rows", "math/bits.deBruijn64tab"], apart := false, laid := [("math/bits.deBruijn64tab", laid_math_bits_deBruijn64tab), ("patina/rv.rows", laid_patina_rv_rows)], narrowed := true }
def RtStartsUptoSaid : Prop := rtStartsUptoRow.holds Tryz.pinned (OpenSpec.upto rtStartsSpec)

/-- 'patinalaw10.RtImages', WHERE WHAT IT READS IS OF BULK AT MOST 1048576: true; the input reads as it did. -/
def rtImagesUptoRow : OpenClaim := { program := "ytlhenglopnipaaagreatdoor", sum := "4df13711790dc384d5d16be0afb45963adca20215289609c7c31c203ed8398a3", func := "patina/patinalaw10.RtImages", spec := "rtImages", unfollowed := true, recurses := true, named := ["patina/rv.rows", "math/bits.deBruijn64tab"], apart := false, laid := [("math/bits.deBruijn64tab", laid_math_bits_deBruijn64tab), ("patina/rv.rows", laid_patina_rv_rows)], narrowed := true }
def RtImagesUptoSaid : Prop := rtImagesUptoRow.holds Tryz.pinned (OpenSpec.upto rtImagesSpec)

end Rows
end Go.Proofs.YtlhenglopnipaaaGreatDoor
