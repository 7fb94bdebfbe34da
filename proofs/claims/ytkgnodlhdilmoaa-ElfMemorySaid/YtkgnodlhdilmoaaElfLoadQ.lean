/- what both Load tell, in one. -/
import Derived.Test.YtkgnodlhdilmoaaLoad
namespace Go.Pat
open Go Go.RowKit
def loadQ (en : Nat) (ss : List Sgd) : Nat × Nat × List Pgd := if checkE en ss = 0 then (en, 0, loadT ss ss.length) else (0, 40, [])
end Go.Pat
namespace Go.Proofs
open Go Go.RowKit Go.Pat

theorem loadE_open {w w' : World} {en : Nat} {ss : List Sgd} {e : Ending} (h : LoadE w en ss e w') : ∃ (en2 er n c : Nat) (A : Option Addr) (ps : List PgIn), loadQ en ss = (en2, er, ps.map PgIn.pg) ∧
    e = .returned (.tuple #[.agg (cpuA en2), .slice A n c, .int .i64 er]) ∧ PgsAt w'.heap.size w' A ps ∧ ps.length = n ∧ n ≤ 4096 ∧ Below w.heap.size w w' := by
  rcases h with ⟨hc, A, c, ps, rfl, hown, hps, hB⟩ | ⟨hc, rfl, hB⟩
  · have hl : ps.length ≤ 4096 := by
      have h1 := (load_pages hc).2.2
      rw [← hps, List.length_map] at h1
      exact h1
    obtain ⟨A2, c2, e, hP⟩ := hown.pgs (by omega)
    simp only [Value.slice.injEq] at e
    obtain ⟨rfl, -, rfl⟩ := e
    exact ⟨en, 0, ps.length, c, A, ps, by unfold loadQ; rw [if_pos hc, hps], rfl, hP, rfl, hl, hB⟩
  · exact ⟨0, 40, 0, 0, none, [], by unfold loadQ; rw [if_neg (by rw [hc]; decide)]; rfl, rfl, ⟨fun i hi => absurd hi (by simp), by simp, by simp, by simp⟩, rfl, by omega, hB⟩
end Go.Proofs
