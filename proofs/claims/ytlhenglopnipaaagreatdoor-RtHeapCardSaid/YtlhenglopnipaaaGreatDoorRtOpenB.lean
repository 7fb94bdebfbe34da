/- Blocks that came in, opened. -/
import Derived.Test.YtlhenglopnipaaaGreatDoorRtOpenC
import Derived.Test.YtlhenglopnipaaaGreatDoorRtHw
namespace Go.Proofs.YtlhenglopnipaaaGreatDoor
open Go Go.ChangeShapes Go.WideShapes Go.ChangeAt Go.RowKit Go.Pat Go.Joins Go.WideMaps Go.WideElems Go.Deep
instance : Inhabited Bk := ⟨⟨0, false, 0⟩⟩
theorem k_names : Tryz.prog.cellsOf 3 = 1 ∧ Tryz.prog.cellsOf 4 = 1 ∧ Tryz.prog.cellsOf 47 = 3 := ⟨by kernel_rfl, by kernel_rfl, by kernel_rfl⟩
section
variable {H : Type} {enc : TypeId × Value → H} {w : World} {base : Nat} {spare : Nat → Bool} {held : Bool}
theorem open_block {fuel : Nat} {cs : List Value} {x : DataW H × List MemPlace} (h : DataW.trod enc Tryz.prog w base spare held fuel 47 cs = some x) : ∃ y : Bk, cs = y.cells := by
  obtain ⟨xs, m, _, rfl, hl, hn, hf⟩ := DataW.trod_struct Tryz.underlying47 h
  obtain ⟨e1, e2, e3⟩ := k_names
  rw [e3] at hl
  obtain ⟨y0, y1, y2, rfl⟩ := lst3x (show xs.length = 3 from hn)
  have g0 : DataW.trod enc Tryz.prog w base spare held m 3 ((cs.drop 0).take (Tryz.prog.cellsOf 3)) = some y0 := hf 0 _ rfl
  have g1 : DataW.trod enc Tryz.prog w base spare held m 4 ((cs.drop 1).take (Tryz.prog.cellsOf 4)) = some y1 := hf 1 _ rfl
  have g2 : DataW.trod enc Tryz.prog w base spare held m 3 ((cs.drop 2).take (Tryz.prog.cellsOf 3)) = some y2 := hf 2 _ rfl
  rw [e1] at g0 g2
  rw [e2] at g1
  obtain ⟨z0, h0, _, _⟩ := DataW.trod_int Tryz.underlying3 g0
  obtain ⟨z1, h1, _⟩ := DataW.trod_bool Tryz.underlying4 g1
  obtain ⟨z2, h2, _, _⟩ := DataW.trod_int Tryz.underlying3 g2
  refine ⟨⟨z0, z1, z2⟩, ?_⟩
  have s0 := take_drop10 cs 0 1
  have s1 := take_drop10 cs 1 1
  have s2 := take_drop10 cs 2 1
  have dn : cs.drop (2 + 1) = [] := List.drop_eq_nil_of_le (by omega)
  rw [h0] at s0
  rw [h1] at s1
  rw [h2, dn] at s2
  rw [← List.drop_zero (l := cs), s0, s1, s2]
  rfl
theorem open_blocks {fuel : Nat} {cs : List Value} {x : DataW H × List MemPlace} (h : DataW.trod enc Tryz.prog w base spare held fuel 42 cs = some x) :
    ∃ (A : Option Addr) (c : Nat) (l : List Bk), cs = [.slice A l.length c] ∧ Cs w.heap.size w A (bkcells l) ∧ l.length ≤ maxLen := by
  obtain ⟨e1, e2, e3⟩ := k_names
  rcases open_slice Tryz.underlying42 h with ⟨rfl, _⟩ | ⟨a, len, cap, m, n, D, Pl, rfl, hb, hl, hm, hmm, hx, hi⟩
  · exact ⟨none, 0, [], rfl, .nil, by simp⟩
  · have hlm : len ≤ m := by rw [hmm]; split <;> omega
    have hV : ∀ i, i < len → ∃ y : Bk, ∀ r, r < 3 → w.cell? (a.add (i * 3 + r)) = (y.cells)[r]? := fun i hil => by
      obtain ⟨cs', hc, ht⟩ := hi i (by omega)
      rw [e3] at hc
      obtain ⟨y, rfl⟩ := open_block ht
      obtain ⟨_, hcl, hat⟩ := World.cells?_some hc
      refine ⟨y, fun r hr => ?_⟩
      rw [← Go.Deep.add_add]
      exact hat r hr
    obtain ⟨f, hf⟩ := choose_lt hV
    refine ⟨some a, cap, (List.range len).map f, by simp, fun j hj => ?_, by simp; omega⟩
    · rw [bkcells_length, List.length_map, List.length_range] at hj
      have hi2x : j / 3 < len := by omega
      have hr2x : j % 3 < 3 := Nat.mod_lt _ (by decide)
      have hj2 : j / 3 * 3 + j % 3 = j := by omega
      have c1 := (hf (j / 3) hi2x) (j % 3) hr2x
      have c0 := (hf 0 (by omega)) 0 (by decide)
      have hcl : (f (j / 3)).cells.length = 3 := rfl
      have c1' : w.cell? (a.add j) = some (((f (j / 3)).cells)[j % 3]'(by omega)) := by
        rw [hj2] at c1
        rw [c1, List.getElem?_eq_getElem]
      have c0' : w.cell? (a.add 0) = some (.int .i64 (f 0).w) := c0
      obtain ⟨h1, h2⟩ := addr_of_cell c1' c0'
      refine ⟨a.block, a.off, by rw [← h1], block_of_cell (a := ⟨a.block, a.off + j, none⟩) h2, ?_⟩
      rw [h2]
      have h3 := bkcells_get ((List.range len).map f) (j / 3) (by simp; omega) (j % 3) hr2x
      rw [hj2, List.getElem?_eq_getElem (by rw [bkcells_length]; simp; omega)] at h3
      rw [h3]
      simp
end
end Go.Proofs.YtlhenglopnipaaaGreatDoor
