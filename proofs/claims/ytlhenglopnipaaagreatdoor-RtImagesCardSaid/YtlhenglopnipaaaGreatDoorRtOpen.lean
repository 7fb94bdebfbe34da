/- What comes in, opened: numbers, bytes. -/
import Derived.Test.YtlhenglopnipaaaGreatDoorRows
import Derived.Test.YtlhenglopnipaaaGreatDoorTie
import Derived.Test.YtlhenglopnipaaaGreatDoorCards
import Derived.Test.YtlhenglopnipaaaGreatDoorOpen
import Derived.Test.YtlhenglopnipaaaGreatDoorLaidTz
import Derived.ProofKit
import Derived.LaidMore
import Derived.OpenShut
import Derived.Stop.Joined
import Derived.SevenTiedAt
import Derived.Test.YtlhenglopnipaaaGreatDoorAsmPQ
import Derived.Test.YtlhenglopnipaaaGreatDoorRtLY
namespace Go.Proofs.YtlhenglopnipaaaGreatDoor
open Go Go.ChangeShapes Go.WideShapes Go.ChangeAt Go.RowKit Go.Pat Go.Joins Go.WideMaps Go.WideElems
theorem own : ownKnob Tryz.prog.godebug = none := by kernel_rfl
theorem laidOut : laidOutB Tryz.prog = true := by kernel_rfl
theorem i64_cells : Tryz.prog.cellsOf 2 = 1 := by kernel_rfl
variable {H : Type} {enc : TypeId × Value → H} {w : World} {base : Nat} {spare : Nat → Bool} {held : Bool}
/-- numbers that came in. -/
theorem open_i64s {fuel : Nat} {cs : List Value} {x : DataW H × List MemPlace} (h : DataW.trod enc Tryz.prog w base spare held fuel 22 cs = some x) :
    ∃ (A : Option Addr) (cap : Nat) (l : List Int), cs = [.slice A l.length cap] ∧ Cs w.heap.size w A (zcells l) ∧ (∀ n ∈ l, i64B n) ∧ l.length ≤ 9223372036854775807 := by
  rcases open_ints Tryz.underlying22 Tryz.underlying2 i64_cells h with ⟨rfl, -⟩ | ⟨a, len, cap, zs, rfl, -, hlc, hcm, hzl, -, hc, hw⟩
  · exact ⟨none, 0, [], rfl, .nil, by simp, by simp⟩
  · have hlen : len ≤ zs.length := by rw [hzl]; split <;> omega
    have hl : (zs.take len).length = len := by rw [List.length_take]; omega
    refine ⟨some a, cap, zs.take len, by rw [hl], fun i hi => ?_, fun n hn => ?_, by rw [hl]; unfold maxLen at hcm; omega⟩
    · rw [zcells_length, hl] at hi
      have h0 := hc 0 (by omega)
      have hi2 := hc i (by omega)
      obtain ⟨e1, e2⟩ := addr_of_cell hi2 h0
      refine ⟨a.block, a.off, by rw [← e1], block_of_cell h0, ?_⟩
      rw [e2]
      have hiz : i < zs.length := by omega
      simp [zcells, List.getD_eq_getElem?_getD, hiz]
    · have := hw n (List.mem_of_mem_take hn)
      simp only [Lit.wf] at this
      have h3 : IntKind.i64.min ≤ n ∧ n ≤ 9223372036854775807 := by simpa using this
      have h4 : IntKind.i64.min = -9223372036854775808 := by decide
      rw [h4] at h3
      exact ⟨h3.1, by omega⟩
end Go.Proofs.YtlhenglopnipaaaGreatDoor
