/- patinalaw03.CpuRuns: what its walk leans on: a case's cells; New of the reference machine in all cases. -/
import Derived.Test.YtemngapfnkokiaaGreatDoorRefNk
import Derived.Test.YtemngapfnkokiaaGreatDoorRefNb
import Derived.Test.YtemngapfnkokiaaGreatDoorRefNc
import Derived.Test.YtemngapfnkokiaaGreatDoorPagesM
namespace Go.Pat
open Go Go.RowKit
theorem sortF_rises {fs : List Fr} (h : (Bases fs).Pairwise (· < ·)) : sortF fs = fs := by
  unfold sortF
  refine List.mergeSort_of_pairwise ?_
  exact (List.pairwise_map.1 h).imp (fun hab => by have := hab; simp; omega)
end Go.Pat
namespace Go.Proofs
open Go Go.RowKit Go.Pat
section
variable {w : World} {b : Nat} {c : Mc} {OA PA IA : Option Addr} {oc pc ic np ni : Nat} {N : Int}
theorem case_range (h : w.heap[b]? = some (.cells (caseC c OA PA IA oc pc ic np ni N).toArray 30 (0, 0))) : w.rangeAt b 0 (c.cells (.slice OA c.out.length oc)) := fun j v hv => by
  refine (obj_cell h (0 + j)).trans ?_
  rw [Nat.zero_add, List.getElem?_toArray, caseC, List.getElem?_append_left]
  · exact hv
  · rcases Nat.lt_or_ge j (c.cells (.slice OA c.out.length oc)).length with h | h
    · exact h
    · rw [List.getElem?_eq_none h] at hv; cases hv
theorem case_tail (hl : c.regs.length = 32) (h : w.heap[b]? = some (.cells (caseC c OA PA IA oc pc ic np ni N).toArray 30 (0, 0))) (i : Nat) : w.cell? ⟨b, 39 + i, none⟩ = [Value.slice PA np pc, .slice IA ni ic, .int .i64 N][i]? := by
  rw [obj_cell h (39 + i), List.getElem?_toArray, caseC, List.getElem?_append_right (by rw [ccells_len hl]; omega), ccells_len hl, Nat.add_sub_cancel_left]
end
theorem r3new_any (w : World) (c : Mc) (OA PA IA : Option Addr) (oc pc ic : Nat) (ps : List PgIn) (inp : List UInt8) (hl : c.regs.length = 32) (hsm : ∀ i, c.reg i < 18446744073709551616) (hpc : c.pc < 18446744073709551616)
    (hO : Bs w.heap.size w OA c.out) (hol : c.out.length ≤ 140737488355328) (hP : PgsAt w.heap.size w PA ps) (hI : Bs w.heap.size w IA inp) (hil : inp.length ≤ 140737488355328) :
    Calls Tryz.prog 5 #[.agg (c.cells (.slice OA c.out.length oc)).toArray, .slice PA ps.length pc, .slice IA inp.length ic] w (RNewTo w c ps inp) := by
  cases hr : rightB c inp.length with
  | false =>
    have hn : newE c ps inp.length = 1 := by unfold newE; rw [hr]; rfl
    refine (r3new_bad w c OA PA IA oc pc ic ps inp hl hr).mono ?_
    rintro e w' ⟨rfl, hB⟩
    exact ⟨hB, .inl ⟨by rw [hn]; decide, by rw [hn]⟩⟩
  | true =>
    by_cases hf : c.fault = 0
    · exact r3new_whole w c OA PA IA oc pc ic ps inp hl hsm hpc hO hol hP hI hil hr hf
    · exact r3new_ill w c OA PA IA oc pc ic ps inp hl hsm hpc hO hol hP hI hil hr hf
end Go.Proofs
