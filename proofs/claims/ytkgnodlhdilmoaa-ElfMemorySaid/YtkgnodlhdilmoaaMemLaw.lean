/- What the laws of package mem have in common. -/
import Derived.Test.YtkgnodlhdilmoaaMemK
namespace Go.Pat
open Go Go.RowKit
theorem Cs.mono {B B' : Nat} {w : World} {A : Option Addr} {xs : List Value} (h : Cs B w A xs) (hB : B ≤ B') : Cs B' w A xs := fun i hi => by
  obtain ⟨b, o, e, hlt, r⟩ := h i hi
  exact ⟨b, o, e, Nat.lt_of_lt_of_le hlt hB, r⟩
theorem PgsAt.mono {B B' : Nat} {w : World} {A : Option Addr} {ps : List PgIn} (h : PgsAt B w A ps) (hB : B ≤ B') : PgsAt B' w A ps := by
  refine ⟨fun i hi => ?_, fun p hp => (h.bytes p hp).mono hB, h.small, h.few⟩
  obtain ⟨b, o, e, hlt, r⟩ := h.cells i hi
  exact ⟨b, o, e, Nat.lt_of_lt_of_le hlt hB, r⟩

end Go.Pat
namespace Go.Proofs
open Go Go.RowKit Go.Pat

theorem From_all (w : World) (A : Option Addr) (cap : Nat) (ps : List PgIn) (hP : PgsAt w.heap.size w A ps) :
    Calls Try.prog 18 #[.slice A ps.length cap] w (FromPost w ps) := by
  by_cases h : ps.length ≤ 4096
  · exact From_any w A cap ps hP h
  · have e20 : fromE (ps.map PgIn.pg) = 20 := by unfold fromE; rw [if_pos (by simp; omega)]
    refine (From_many w A ps.length cap (by omega) hP.few).mono ?_
    rintro e w' ⟨rfl, rfl⟩
    exact .inr ⟨by rw [e20]; decide, by rw [e20], Below.refl _ _⟩

theorem case_cells (w : World) (a b c d : Value) (t : Nat) {w1 : World} (hb : Below (w.alloc (.cells #[a, b, c, d] t)).heap.size (w.alloc (.cells #[a, b, c, d] t)) w1) :
    w1.cell? ⟨w.heap.size, 0, none⟩ = some a ∧ w1.cell? ⟨w.heap.size, 1, none⟩ = some b ∧ w1.cell? ⟨w.heap.size, 2, none⟩ = some c ∧ w1.cell? ⟨w.heap.size, 3, none⟩ = some d := by
  have hs : w.heap.size < (w.alloc (.cells #[a, b, c, d] t)).heap.size := by simp
  refine ⟨(hb.cell (p := ⟨w.heap.size, 0, none⟩) hs).trans ?_, (hb.cell (p := ⟨w.heap.size, 1, none⟩) hs).trans ?_, (hb.cell (p := ⟨w.heap.size, 2, none⟩) hs).trans ?_, (hb.cell (p := ⟨w.heap.size, 3, none⟩) hs).trans ?_⟩
  all_goals
    unfold World.cell?
    rw [show (w.alloc (.cells #[a, b, c, d] t)).heap[w.heap.size]? = some (.cells #[a, b, c, d] t) from Array.getElem?_push_size]
    rfl
end Go.Proofs
