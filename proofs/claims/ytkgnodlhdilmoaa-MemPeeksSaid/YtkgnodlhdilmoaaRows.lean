/-
  No cell of these rows narrows 'for every input' (looked for: loops, veiled, ifaces, maps, wideKeys, modest, calm, conditions, laid).
  DERIVED. THE GIVEN ROWS OF THIS SEAT. 15 by the template 'for every input the law returns true; each argument reads behind the call as it read before'; 0 by the template 'total and deterministic' (their statements: YtkgnodlhdilmoaaTotals.lean).
  GIVEN WITH THE SEED: the statements are not yours to turn. If you find one false, say at which input.
  Laid BY PROGRAM, IN A SANDBOX (cutbox-rows.mjs): the forced cells as the released guide's own fill.sh prints them over the translation 160abd86c8e4a048… (all of the seat's roots in one cut). By AI agents, Wed Nov 11 2026. No macro, syntax, notation, axiom, sorry.
-/
import Derived.Test.YtkgnodlhdilmoaaChecked
import GoSem.Claim
import GoSem.ClaimJoined
import GoSem.ClaimMapViews
import Derived.JoinedTies
import Derived.KernelRfl
namespace Go.Proofs.Ytkgnodlhdilmoaa
/- THE CELL 'sum', in the pinned program and in every row, IS THE sha256 OF THE DUMP (.gsa) THAT YtkgnodlhdilmoaaProg.lean LOADS. Nothing in Lean hashes anything: it is a label: what it is worth is what the hold of that sum in a sandbox is worth. -/
noncomputable def Try.pinned : Pinned := { name := "ytkgnodlhdilmoaa", sum := "160abd86c8e4a048228d2e61c1bb61db662d573d9b8363e74c6f2f5be4176d10", checked := Try.checked }
namespace Rows
def none {H : Type} : Left H := { results := [], args := [] }

/-- 'patinalaw02.MemHalves': WHATEVER THE INPUT: true; the input reads as it did. -/
def memHalvesSpec : ChangeSpec := { name := "memHalves", fn := fun _ => fun
  | [d] => { results := [.lit (.bool true)], args := [d] }
  | _ => none }
def memHalvesRow : OpenClaim := { program := "ytkgnodlhdilmoaa", sum := "160abd86c8e4a048228d2e61c1bb61db662d573d9b8363e74c6f2f5be4176d10", func := "patina/patinalaw02.MemHalves", spec := "memHalves", apart := false }
def MemHalvesSaid : Prop := memHalvesRow.holds Try.pinned (OpenSpec.ofChange memHalvesSpec)

/-- ITS FALSE NEIGHBOUR: 'it returns false'. Refute it at one input. -/
def memHalvesWrong : ChangeSpec := { name := "memHalves", fn := fun _ => fun
  | [d] => { results := [.lit (.bool false)], args := [d] }
  | _ => none }
def MemHalvesWrongFalsely : Prop := memHalvesRow.holds Try.pinned (OpenSpec.ofChange memHalvesWrong)

/-- 'patinalaw04.ElfReads': WHATEVER THE INPUT: true; the input reads as it did. -/
def elfReadsSpec : ChangeSpec := { name := "elfReads", fn := fun _ => fun
  | [d] => { results := [.lit (.bool true)], args := [d] }
  | _ => none }
def elfReadsRow : OpenClaim := { program := "ytkgnodlhdilmoaa", sum := "160abd86c8e4a048228d2e61c1bb61db662d573d9b8363e74c6f2f5be4176d10", func := "patina/patinalaw04.ElfReads", spec := "elfReads", apart := false }
def ElfReadsSaid : Prop := elfReadsRow.holds Try.pinned (OpenSpec.ofChange elfReadsSpec)

/-- ITS FALSE NEIGHBOUR: 'it returns false'. Refute it at one input. -/
def elfReadsWrong : ChangeSpec := { name := "elfReads", fn := fun _ => fun
  | [d] => { results := [.lit (.bool false)], args := [d] }
  | _ => none }
def ElfReadsWrongFalsely : Prop := elfReadsRow.holds Try.pinned (OpenSpec.ofChange elfReadsWrong)

/-- 'patinalaw04.ElfBack': WHATEVER THE INPUT: true; the input reads as it did. -/
def elfBackSpec : ChangeSpec := { name := "elfBack", fn := fun _ => fun
  | [d] => { results := [.lit (.bool true)], args := [d] }
  | _ => none }
def elfBackRow : OpenClaim := { program := "ytkgnodlhdilmoaa", sum := "160abd86c8e4a048228d2e61c1bb61db662d573d9b8363e74c6f2f5be4176d10", func := "patina/patinalaw04.ElfBack", spec := "elfBack", apart := false }
def ElfBackSaid : Prop := elfBackRow.holds Try.pinned (OpenSpec.ofChange elfBackSpec)

/-- ITS FALSE NEIGHBOUR: 'it returns false'. Refute it at one input. -/
def elfBackWrong : ChangeSpec := { name := "elfBack", fn := fun _ => fun
  | [d] => { results := [.lit (.bool false)], args := [d] }
  | _ => none }
def ElfBackWrongFalsely : Prop := elfBackRow.holds Try.pinned (OpenSpec.ofChange elfBackWrong)

/-- 'patinalaw04.ElfStrict': WHATEVER THE INPUT: true; the input reads as it did. -/
def elfStrictSpec : ChangeSpec := { name := "elfStrict", fn := fun _ => fun
  | [d] => { results := [.lit (.bool true)], args := [d] }
  | _ => none }
def elfStrictRow : OpenClaim := { program := "ytkgnodlhdilmoaa", sum := "160abd86c8e4a048228d2e61c1bb61db662d573d9b8363e74c6f2f5be4176d10", func := "patina/patinalaw04.ElfStrict", spec := "elfStrict", apart := false }
def ElfStrictSaid : Prop := elfStrictRow.holds Try.pinned (OpenSpec.ofChange elfStrictSpec)

/-- ITS FALSE NEIGHBOUR: 'it returns false'. Refute it at one input. -/
def elfStrictWrong : ChangeSpec := { name := "elfStrict", fn := fun _ => fun
  | [d] => { results := [.lit (.bool false)], args := [d] }
  | _ => none }
def ElfStrictWrongFalsely : Prop := elfStrictRow.holds Try.pinned (OpenSpec.ofChange elfStrictWrong)

/-- 'patinalaw04.ElfCuts': WHATEVER THE INPUT: true; the input reads as it did. -/
def elfCutsSpec : ChangeSpec := { name := "elfCuts", fn := fun _ => fun
  | [d1, d2, d3] => { results := [.lit (.bool true)], args := [d1, d2, d3] }
  | _ => none }
def elfCutsRow : OpenClaim := { program := "ytkgnodlhdilmoaa", sum := "160abd86c8e4a048228d2e61c1bb61db662d573d9b8363e74c6f2f5be4176d10", func := "patina/patinalaw04.ElfCuts", spec := "elfCuts", apart := false }
def ElfCutsSaid : Prop := elfCutsRow.holds Try.pinned (OpenSpec.ofChange elfCutsSpec)

/-- ITS FALSE NEIGHBOUR: 'it returns false'. Refute it at one input. -/
def elfCutsWrong : ChangeSpec := { name := "elfCuts", fn := fun _ => fun
  | [d1, d2, d3] => { results := [.lit (.bool false)], args := [d1, d2, d3] }
  | _ => none }
def ElfCutsWrongFalsely : Prop := elfCutsRow.holds Try.pinned (OpenSpec.ofChange elfCutsWrong)

/-- 'patinalaw04.ElfWrites': WHATEVER THE INPUT: true; the input reads as it did. -/
def elfWritesSpec : ChangeSpec := { name := "elfWrites", fn := fun _ => fun
  | [d] => { results := [.lit (.bool true)], args := [d] }
  | _ => none }
def elfWritesRow : OpenClaim := { program := "ytkgnodlhdilmoaa", sum := "160abd86c8e4a048228d2e61c1bb61db662d573d9b8363e74c6f2f5be4176d10", func := "patina/patinalaw04.ElfWrites", spec := "elfWrites", apart := false }
def ElfWritesSaid : Prop := elfWritesRow.holds Try.pinned (OpenSpec.ofChange elfWritesSpec)

/-- ITS FALSE NEIGHBOUR: 'it returns false'. Refute it at one input. -/
def elfWritesWrong : ChangeSpec := { name := "elfWrites", fn := fun _ => fun
  | [d] => { results := [.lit (.bool false)], args := [d] }
  | _ => none }
def ElfWritesWrongFalsely : Prop := elfWritesRow.holds Try.pinned (OpenSpec.ofChange elfWritesWrong)

/-- 'patinalaw04.ElfLoads': WHATEVER THE INPUT: true; the input reads as it did. -/
def elfLoadsSpec : ChangeSpec := { name := "elfLoads", fn := fun _ => fun
  | [d1, d2] => { results := [.lit (.bool true)], args := [d1, d2] }
  | _ => none }
def elfLoadsRow : OpenClaim := { program := "ytkgnodlhdilmoaa", sum := "160abd86c8e4a048228d2e61c1bb61db662d573d9b8363e74c6f2f5be4176d10", func := "patina/patinalaw04.ElfLoads", spec := "elfLoads", apart := false }
def ElfLoadsSaid : Prop := elfLoadsRow.holds Try.pinned (OpenSpec.ofChange elfLoadsSpec)

/-- ITS FALSE NEIGHBOUR: 'it returns false'. Refute it at one input. -/
def elfLoadsWrong : ChangeSpec := { name := "elfLoads", fn := fun _ => fun
  | [d1, d2] => { results := [.lit (.bool false)], args := [d1, d2] }
  | _ => none }
def ElfLoadsWrongFalsely : Prop := elfLoadsRow.holds Try.pinned (OpenSpec.ofChange elfLoadsWrong)

/-- 'patinalaw04.ElfMemory': WHATEVER THE INPUT: true; the input reads as it did. -/
def elfMemorySpec : ChangeSpec := { name := "elfMemory", fn := fun _ => fun
  | [d] => { results := [.lit (.bool true)], args := [d] }
  | _ => none }
def elfMemoryRow : OpenClaim := { program := "ytkgnodlhdilmoaa", sum := "160abd86c8e4a048228d2e61c1bb61db662d573d9b8363e74c6f2f5be4176d10", func := "patina/patinalaw04.ElfMemory", spec := "elfMemory", apart := false }
def ElfMemorySaid : Prop := elfMemoryRow.holds Try.pinned (OpenSpec.ofChange elfMemorySpec)

/-- ITS FALSE NEIGHBOUR: 'it returns false'. Refute it at one input. -/
def elfMemoryWrong : ChangeSpec := { name := "elfMemory", fn := fun _ => fun
  | [d] => { results := [.lit (.bool false)], args := [d] }
  | _ => none }
def ElfMemoryWrongFalsely : Prop := elfMemoryRow.holds Try.pinned (OpenSpec.ofChange elfMemoryWrong)

/-- 'patinalaw02.MemMapped': WHATEVER THE INPUT: true; the input reads as it did. -/
def memMappedSpec : ChangeSpec := { name := "memMapped", fn := fun _ => fun
  | [d] => { results := [.lit (.bool true)], args := [d] }
  | _ => none }
def memMappedRow : OpenClaim := { program := "ytkgnodlhdilmoaa", sum := "160abd86c8e4a048228d2e61c1bb61db662d573d9b8363e74c6f2f5be4176d10", func := "patina/patinalaw02.MemMapped", spec := "memMapped", unfollowed := true, recurses := true, apart := false }
def MemMappedSaid : Prop := memMappedRow.holds Try.pinned (OpenSpec.ofChange memMappedSpec)

/-- ITS FALSE NEIGHBOUR: 'it returns false'. Refute it at one input. -/
def memMappedWrong : ChangeSpec := { name := "memMapped", fn := fun _ => fun
  | [d] => { results := [.lit (.bool false)], args := [d] }
  | _ => none }
def MemMappedWrongFalsely : Prop := memMappedRow.holds Try.pinned (OpenSpec.ofChange memMappedWrong)

/-- 'patinalaw02.MemLoads': WHATEVER THE INPUT: true; the input reads as it did. -/
def memLoadsSpec : ChangeSpec := { name := "memLoads", fn := fun _ => fun
  | [d] => { results := [.lit (.bool true)], args := [d] }
  | _ => none }
def memLoadsRow : OpenClaim := { program := "ytkgnodlhdilmoaa", sum := "160abd86c8e4a048228d2e61c1bb61db662d573d9b8363e74c6f2f5be4176d10", func := "patina/patinalaw02.MemLoads", spec := "memLoads", unfollowed := true, recurses := true, apart := false }
def MemLoadsSaid : Prop := memLoadsRow.holds Try.pinned (OpenSpec.ofChange memLoadsSpec)

/-- ITS FALSE NEIGHBOUR: 'it returns false'. Refute it at one input. -/
def memLoadsWrong : ChangeSpec := { name := "memLoads", fn := fun _ => fun
  | [d] => { results := [.lit (.bool false)], args := [d] }
  | _ => none }
def MemLoadsWrongFalsely : Prop := memLoadsRow.holds Try.pinned (OpenSpec.ofChange memLoadsWrong)

/-- 'patinalaw02.MemNil': WHATEVER THE INPUT: true; the input reads as it did. -/
def memNilSpec : ChangeSpec := { name := "memNil", fn := fun _ => fun
  | [d1, d2, d3] => { results := [.lit (.bool true)], args := [d1, d2, d3] }
  | _ => none }
def memNilRow : OpenClaim := { program := "ytkgnodlhdilmoaa", sum := "160abd86c8e4a048228d2e61c1bb61db662d573d9b8363e74c6f2f5be4176d10", func := "patina/patinalaw02.MemNil", spec := "memNil", unfollowed := true, recurses := true, apart := false }
def MemNilSaid : Prop := memNilRow.holds Try.pinned (OpenSpec.ofChange memNilSpec)

/-- ITS FALSE NEIGHBOUR: 'it returns false'. Refute it at one input. -/
def memNilWrong : ChangeSpec := { name := "memNil", fn := fun _ => fun
  | [d1, d2, d3] => { results := [.lit (.bool false)], args := [d1, d2, d3] }
  | _ => none }
def MemNilWrongFalsely : Prop := memNilRow.holds Try.pinned (OpenSpec.ofChange memNilWrong)

/-- 'patinalaw02.MemTwo': WHATEVER THE INPUT: true; the input reads as it did. -/
def memTwoSpec : ChangeSpec := { name := "memTwo", fn := fun _ => fun
  | [d1, d2, d3] => { results := [.lit (.bool true)], args := [d1, d2, d3] }
  | _ => none }
def memTwoRow : OpenClaim := { program := "ytkgnodlhdilmoaa", sum := "160abd86c8e4a048228d2e61c1bb61db662d573d9b8363e74c6f2f5be4176d10", func := "patina/patinalaw02.MemTwo", spec := "memTwo", unfollowed := true, recurses := true, apart := false }
def MemTwoSaid : Prop := memTwoRow.holds Try.pinned (OpenSpec.ofChange memTwoSpec)

/-- ITS FALSE NEIGHBOUR: 'it returns false'. Refute it at one input. -/
def memTwoWrong : ChangeSpec := { name := "memTwo", fn := fun _ => fun
  | [d1, d2, d3] => { results := [.lit (.bool false)], args := [d1, d2, d3] }
  | _ => none }
def MemTwoWrongFalsely : Prop := memTwoRow.holds Try.pinned (OpenSpec.ofChange memTwoWrong)

/-- 'patinalaw02.MemFrom': WHATEVER THE INPUT: true; the input reads as it did. -/
def memFromSpec : ChangeSpec := { name := "memFrom", fn := fun _ => fun
  | [d] => { results := [.lit (.bool true)], args := [d] }
  | _ => none }
def memFromRow : OpenClaim := { program := "ytkgnodlhdilmoaa", sum := "160abd86c8e4a048228d2e61c1bb61db662d573d9b8363e74c6f2f5be4176d10", func := "patina/patinalaw02.MemFrom", spec := "memFrom", unfollowed := true, recurses := true, apart := false }
def MemFromSaid : Prop := memFromRow.holds Try.pinned (OpenSpec.ofChange memFromSpec)

/-- ITS FALSE NEIGHBOUR: 'it returns false'. Refute it at one input. -/
def memFromWrong : ChangeSpec := { name := "memFrom", fn := fun _ => fun
  | [d] => { results := [.lit (.bool false)], args := [d] }
  | _ => none }
def MemFromWrongFalsely : Prop := memFromRow.holds Try.pinned (OpenSpec.ofChange memFromWrong)

/-- 'patinalaw02.MemStores': WHATEVER THE INPUT: true; the input reads as it did. -/
def memStoresSpec : ChangeSpec := { name := "memStores", fn := fun _ => fun
  | [d] => { results := [.lit (.bool true)], args := [d] }
  | _ => none }
def memStoresRow : OpenClaim := { program := "ytkgnodlhdilmoaa", sum := "160abd86c8e4a048228d2e61c1bb61db662d573d9b8363e74c6f2f5be4176d10", func := "patina/patinalaw02.MemStores", spec := "memStores", unfollowed := true, recurses := true, apart := false }
def MemStoresSaid : Prop := memStoresRow.holds Try.pinned (OpenSpec.ofChange memStoresSpec)

/-- ITS FALSE NEIGHBOUR: 'it returns false'. Refute it at one input. -/
def memStoresWrong : ChangeSpec := { name := "memStores", fn := fun _ => fun
  | [d] => { results := [.lit (.bool false)], args := [d] }
  | _ => none }
def MemStoresWrongFalsely : Prop := memStoresRow.holds Try.pinned (OpenSpec.ofChange memStoresWrong)

/-- 'patinalaw02.MemPeeks': WHATEVER THE INPUT: true; the input reads as it did. -/
def memPeeksSpec : ChangeSpec := { name := "memPeeks", fn := fun _ => fun
  | [d1, d2] => { results := [.lit (.bool true)], args := [d1, d2] }
  | _ => none }
def memPeeksRow : OpenClaim := { program := "ytkgnodlhdilmoaa", sum := "160abd86c8e4a048228d2e61c1bb61db662d573d9b8363e74c6f2f5be4176d10", func := "patina/patinalaw02.MemPeeks", spec := "memPeeks", unfollowed := true, recurses := true, apart := false }
def MemPeeksSaid : Prop := memPeeksRow.holds Try.pinned (OpenSpec.ofChange memPeeksSpec)

/-- ITS FALSE NEIGHBOUR: 'it returns false'. Refute it at one input. -/
def memPeeksWrong : ChangeSpec := { name := "memPeeks", fn := fun _ => fun
  | [d1, d2] => { results := [.lit (.bool false)], args := [d1, d2] }
  | _ => none }
def MemPeeksWrongFalsely : Prop := memPeeksRow.holds Try.pinned (OpenSpec.ofChange memPeeksWrong)

/- THE SECOND FORM. 'bulk': how many values and letters a reading holds, each counted each time it is reached (what is shared counts as often as it is met; a slice's spare places count too). A statement '..UptoSaid' is the law's where the arguments, and the package variables that the reading takes, are together of bulk at most 1048576: NARROWER than '..Said'. Prove '..Said' where nothing that the law and all that it calls make is longer than what came in: it says more and counts as full. Else prove '..UptoSaid'. A law counts once. -/
mutual
def uptoBulk {H : Type} : DataW H → Nat
  | .lit (.string bytes) => bytes.length + 1
  | .lit _ => 1
  | .nil => 1
  | .ptr d => uptoBulk d + 1
  | .slice elems spare => uptoBulkAll elems + uptoBulkAll spare + 1
  | .agg parts => uptoBulkAll parts + 1
  | .iface _ d => uptoBulk d + 1
  | .map entries => uptoBulkEntries entries + 1
  | .held _ => 1
def uptoBulkAll {H : Type} : List (DataW H) → Nat
  | [] => 0
  | d :: r => uptoBulk d + uptoBulkAll r
def uptoBulkEntries {H : Type} : List (Lit × DataW H) → Nat
  | [] => 0
  | x :: r => uptoBulkEntry x + uptoBulkEntries r
def uptoBulkEntry {H : Type} : Lit × DataW H → Nat
  | (.string bytes, d) => bytes.length + uptoBulk d + 1
  | (_, d) => uptoBulk d + 1
 end
def uptoSmall : (H : Type) → List (DataW H) → Bool := fun _ ds => decide (uptoBulkAll ds ≤ 1048576)
def OpenSpec.upto (s : _root_.Go.ChangeSpec) : _root_.Go.OpenSpec := { _root_.Go.OpenSpec.ofChange s with cond := some uptoSmall }

/-- 'patinalaw02.MemHalves', WHERE WHAT IT READS IS OF BULK AT MOST 1048576: true; the input reads as it did. -/
def memHalvesUptoRow : OpenClaim := { program := "ytkgnodlhdilmoaa", sum := "160abd86c8e4a048228d2e61c1bb61db662d573d9b8363e74c6f2f5be4176d10", func := "patina/patinalaw02.MemHalves", spec := "memHalves", apart := false, narrowed := true }
def MemHalvesUptoSaid : Prop := memHalvesUptoRow.holds Try.pinned (OpenSpec.upto memHalvesSpec)

/-- 'patinalaw04.ElfReads', WHERE WHAT IT READS IS OF BULK AT MOST 1048576: true; the input reads as it did. -/
def elfReadsUptoRow : OpenClaim := { program := "ytkgnodlhdilmoaa", sum := "160abd86c8e4a048228d2e61c1bb61db662d573d9b8363e74c6f2f5be4176d10", func := "patina/patinalaw04.ElfReads", spec := "elfReads", apart := false, narrowed := true }
def ElfReadsUptoSaid : Prop := elfReadsUptoRow.holds Try.pinned (OpenSpec.upto elfReadsSpec)

/-- 'patinalaw04.ElfBack', WHERE WHAT IT READS IS OF BULK AT MOST 1048576: true; the input reads as it did. -/
def elfBackUptoRow : OpenClaim := { program := "ytkgnodlhdilmoaa", sum := "160abd86c8e4a048228d2e61c1bb61db662d573d9b8363e74c6f2f5be4176d10", func := "patina/patinalaw04.ElfBack", spec := "elfBack", apart := false, narrowed := true }
def ElfBackUptoSaid : Prop := elfBackUptoRow.holds Try.pinned (OpenSpec.upto elfBackSpec)

/-- 'patinalaw04.ElfStrict', WHERE WHAT IT READS IS OF BULK AT MOST 1048576: true; the input reads as it did. -/
def elfStrictUptoRow : OpenClaim := { program := "ytkgnodlhdilmoaa", sum := "160abd86c8e4a048228d2e61c1bb61db662d573d9b8363e74c6f2f5be4176d10", func := "patina/patinalaw04.ElfStrict", spec := "elfStrict", apart := false, narrowed := true }
def ElfStrictUptoSaid : Prop := elfStrictUptoRow.holds Try.pinned (OpenSpec.upto elfStrictSpec)

/-- 'patinalaw04.ElfCuts', WHERE WHAT IT READS IS OF BULK AT MOST 1048576: true; the input reads as it did. -/
def elfCutsUptoRow : OpenClaim := { program := "ytkgnodlhdilmoaa", sum := "160abd86c8e4a048228d2e61c1bb61db662d573d9b8363e74c6f2f5be4176d10", func := "patina/patinalaw04.ElfCuts", spec := "elfCuts", apart := false, narrowed := true }
def ElfCutsUptoSaid : Prop := elfCutsUptoRow.holds Try.pinned (OpenSpec.upto elfCutsSpec)

/-- 'patinalaw04.ElfWrites', WHERE WHAT IT READS IS OF BULK AT MOST 1048576: true; the input reads as it did. -/
def elfWritesUptoRow : OpenClaim := { program := "ytkgnodlhdilmoaa", sum := "160abd86c8e4a048228d2e61c1bb61db662d573d9b8363e74c6f2f5be4176d10", func := "patina/patinalaw04.ElfWrites", spec := "elfWrites", apart := false, narrowed := true }
def ElfWritesUptoSaid : Prop := elfWritesUptoRow.holds Try.pinned (OpenSpec.upto elfWritesSpec)

/-- 'patinalaw04.ElfLoads', WHERE WHAT IT READS IS OF BULK AT MOST 1048576: true; the input reads as it did. -/
def elfLoadsUptoRow : OpenClaim := { program := "ytkgnodlhdilmoaa", sum := "160abd86c8e4a048228d2e61c1bb61db662d573d9b8363e74c6f2f5be4176d10", func := "patina/patinalaw04.ElfLoads", spec := "elfLoads", apart := false, narrowed := true }
def ElfLoadsUptoSaid : Prop := elfLoadsUptoRow.holds Try.pinned (OpenSpec.upto elfLoadsSpec)

/-- 'patinalaw04.ElfMemory', WHERE WHAT IT READS IS OF BULK AT MOST 1048576: true; the input reads as it did. -/
def elfMemoryUptoRow : OpenClaim := { program := "ytkgnodlhdilmoaa", sum := "160abd86c8e4a048228d2e61c1bb61db662d573d9b8363e74c6f2f5be4176d10", func := "patina/patinalaw04.ElfMemory", spec := "elfMemory", apart := false, narrowed := true }
def ElfMemoryUptoSaid : Prop := elfMemoryUptoRow.holds Try.pinned (OpenSpec.upto elfMemorySpec)

/-- 'patinalaw02.MemMapped', WHERE WHAT IT READS IS OF BULK AT MOST 1048576: true; the input reads as it did. -/
def memMappedUptoRow : OpenClaim := { program := "ytkgnodlhdilmoaa", sum := "160abd86c8e4a048228d2e61c1bb61db662d573d9b8363e74c6f2f5be4176d10", func := "patina/patinalaw02.MemMapped", spec := "memMapped", unfollowed := true, recurses := true, apart := false, narrowed := true }
def MemMappedUptoSaid : Prop := memMappedUptoRow.holds Try.pinned (OpenSpec.upto memMappedSpec)

/-- 'patinalaw02.MemLoads', WHERE WHAT IT READS IS OF BULK AT MOST 1048576: true; the input reads as it did. -/
def memLoadsUptoRow : OpenClaim := { program := "ytkgnodlhdilmoaa", sum := "160abd86c8e4a048228d2e61c1bb61db662d573d9b8363e74c6f2f5be4176d10", func := "patina/patinalaw02.MemLoads", spec := "memLoads", unfollowed := true, recurses := true, apart := false, narrowed := true }
def MemLoadsUptoSaid : Prop := memLoadsUptoRow.holds Try.pinned (OpenSpec.upto memLoadsSpec)

/-- 'patinalaw02.MemNil', WHERE WHAT IT READS IS OF BULK AT MOST 1048576: true; the input reads as it did. -/
def memNilUptoRow : OpenClaim := { program := "ytkgnodlhdilmoaa", sum := "160abd86c8e4a048228d2e61c1bb61db662d573d9b8363e74c6f2f5be4176d10", func := "patina/patinalaw02.MemNil", spec := "memNil", unfollowed := true, recurses := true, apart := false, narrowed := true }
def MemNilUptoSaid : Prop := memNilUptoRow.holds Try.pinned (OpenSpec.upto memNilSpec)

/-- 'patinalaw02.MemTwo', WHERE WHAT IT READS IS OF BULK AT MOST 1048576: true; the input reads as it did. -/
def memTwoUptoRow : OpenClaim := { program := "ytkgnodlhdilmoaa", sum := "160abd86c8e4a048228d2e61c1bb61db662d573d9b8363e74c6f2f5be4176d10", func := "patina/patinalaw02.MemTwo", spec := "memTwo", unfollowed := true, recurses := true, apart := false, narrowed := true }
def MemTwoUptoSaid : Prop := memTwoUptoRow.holds Try.pinned (OpenSpec.upto memTwoSpec)

/-- 'patinalaw02.MemFrom', WHERE WHAT IT READS IS OF BULK AT MOST 1048576: true; the input reads as it did. -/
def memFromUptoRow : OpenClaim := { program := "ytkgnodlhdilmoaa", sum := "160abd86c8e4a048228d2e61c1bb61db662d573d9b8363e74c6f2f5be4176d10", func := "patina/patinalaw02.MemFrom", spec := "memFrom", unfollowed := true, recurses := true, apart := false, narrowed := true }
def MemFromUptoSaid : Prop := memFromUptoRow.holds Try.pinned (OpenSpec.upto memFromSpec)

/-- 'patinalaw02.MemStores', WHERE WHAT IT READS IS OF BULK AT MOST 1048576: true; the input reads as it did. -/
def memStoresUptoRow : OpenClaim := { program := "ytkgnodlhdilmoaa", sum := "160abd86c8e4a048228d2e61c1bb61db662d573d9b8363e74c6f2f5be4176d10", func := "patina/patinalaw02.MemStores", spec := "memStores", unfollowed := true, recurses := true, apart := false, narrowed := true }
def MemStoresUptoSaid : Prop := memStoresUptoRow.holds Try.pinned (OpenSpec.upto memStoresSpec)

/-- 'patinalaw02.MemPeeks', WHERE WHAT IT READS IS OF BULK AT MOST 1048576: true; the input reads as it did. -/
def memPeeksUptoRow : OpenClaim := { program := "ytkgnodlhdilmoaa", sum := "160abd86c8e4a048228d2e61c1bb61db662d573d9b8363e74c6f2f5be4176d10", func := "patina/patinalaw02.MemPeeks", spec := "memPeeks", unfollowed := true, recurses := true, apart := false, narrowed := true }
def MemPeeksUptoSaid : Prop := memPeeksUptoRow.holds Try.pinned (OpenSpec.upto memPeeksSpec)

end Rows
end Go.Proofs.Ytkgnodlhdilmoaa
