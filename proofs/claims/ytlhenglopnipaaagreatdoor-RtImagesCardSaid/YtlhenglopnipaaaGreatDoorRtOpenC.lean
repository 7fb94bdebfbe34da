/- An assembled program that came in, opened. -/
import Derived.Test.YtlhenglopnipaaaGreatDoorRtOpen
import Derived.Test.YtlhenglopnipaaaGreatDoorFitsA
namespace Go.Proofs.YtlhenglopnipaaaGreatDoor
open Go Go.ChangeShapes Go.WideShapes Go.ChangeAt Go.RowKit Go.Pat Go.Joins Go.WideMaps Go.WideElems Go.Deep
theorem l_names : Tryz.prog.cellsOf 9 = 1 ∧ Tryz.prog.cellsOf 32 = 1 ∧ Tryz.prog.cellsOf 88 = 2 ∧ Tryz.prog.cellsOf 51 = 1 ∧ Tryz.prog.cellsOf 53 = 3 := ⟨by kernel_rfl, by kernel_rfl, by kernel_rfl, by kernel_rfl, by kernel_rfl⟩
theorem b_cells : Tryz.prog.cellsOf 35 = 1 := by kernel_rfl
theorem take_drop10 (l : List Value) (a k : Nat) : l.drop a = (l.drop a).take k ++ l.drop (a + k) := by
  rw [← List.drop_drop, List.take_append_drop]
theorem lst2 {α : Type} : ∀ {l : List α}, l.length = 2 → ∃ a b, l = [a, b]
  | [a, b], _ => ⟨a, b, rfl⟩
theorem lst3x {α : Type} : ∀ {l : List α}, l.length = 3 → ∃ a b c, l = [a, b, c]
  | [a, b, c], _ => ⟨a, b, c, rfl⟩
section
variable {H : Type} {enc : TypeId × Value → H} {w : World} {base : Nat} {spare : Nat → Bool} {held : Bool}
theorem open_label {fuel : Nat} {cs : List Value} {x : DataW H × List MemPlace} (h : DataW.trod enc Tryz.prog w base spare held fuel 88 cs = some x) :
    ∃ y : Lab, cs = [.string y.1, .int .u64 (y.2 : Int)] := by
  obtain ⟨xs, m, _, rfl, hl, hn, hf⟩ := DataW.trod_struct Tryz.underlying88 h
  obtain ⟨e1, e2, e3, e4, e5⟩ := l_names
  rw [e3] at hl
  obtain ⟨y0, y1, rfl⟩ := lst2 (show xs.length = 2 from hn)
  have g0 : DataW.trod enc Tryz.prog w base spare held m 9 ((cs.drop 0).take (Tryz.prog.cellsOf 9)) = some y0 := hf 0 _ rfl
  have g1 : DataW.trod enc Tryz.prog w base spare held m 32 ((cs.drop 1).take (Tryz.prog.cellsOf 32)) = some y1 := hf 1 _ rfl
  rw [e1] at g0
  rw [e2] at g1
  obtain ⟨s, h0, _, _⟩ := DataW.trod_string Tryz.underlying9 g0
  obtain ⟨z1, h1, _, k1⟩ := DataW.trod_int Tryz.underlying32 g1
  have q1 : 0 ≤ z1 ∧ z1 ≤ 18446744073709551615 := by simp [Lit.wf] at k1; exact k1
  obtain ⟨p1, rfl⟩ : ∃ p : Nat, z1 = p := ⟨z1.toNat, by omega⟩
  refine ⟨(s, p1), ?_⟩
  have s0 := take_drop10 cs 0 1
  have s1 := take_drop10 cs 1 1
  have dn : cs.drop (1 + 1) = [] := List.drop_eq_nil_of_le (by omega)
  rw [h0] at s0
  rw [h1, dn] at s1
  rw [← List.drop_zero (l := cs), s0, s1]
  rfl
theorem lcells_get2 (l : List Lab) (i : Nat) (hi : i < l.length) (j : Nat) (hj : j < 2) : (lcells l)[i * 2 + j]? = ([Value.string (l[i]).1, .int .u64 ((l[i]).2 : Int)])[j]? := by
  induction l generalizing i with
  | nil => simp at hi
  | cons x r ih =>
    cases i with
    | zero =>
      rw [Nat.zero_mul, Nat.zero_add, lcells, List.getElem?_append_left (by simpa using hj)]
      rfl
    | succ i =>
      rw [lcells, List.getElem?_append_right (by simp; omega)]
      have := ih i (by simpa using hi)
      rw [show (i + 1) * 2 + j - ([Value.string x.1, Value.int .u64 (x.2 : Int)] : List Value).length = i * 2 + j by simp; omega]
      exact this
theorem open_labels {fuel : Nat} {cs : List Value} {x : DataW H × List MemPlace} (h : DataW.trod enc Tryz.prog w base spare held fuel 51 cs = some x) :
    ∃ (A : Option Addr) (c : Nat) (l : List Lab), cs = [.slice A l.length c] ∧ Cs w.heap.size w A (lcells l) ∧ l.length ≤ maxLen := by
  obtain ⟨e1, e2, e3, e4, e5⟩ := l_names
  rcases open_slice Tryz.underlying51 h with ⟨rfl, _⟩ | ⟨a, len, cap, m, n, D, Pl, rfl, hb, hl, hm, hmm, hx, hi⟩
  · exact ⟨none, 0, [], rfl, .nil, by simp⟩
  · have hlm : len ≤ m := by rw [hmm]; split <;> omega
    have hV : ∀ i, i < len → ∃ y : Lab, ∀ r, r < 2 → w.cell? (a.add (i * 2 + r)) = ([Value.string y.1, .int .u64 (y.2 : Int)])[r]? := fun i hil => by
      obtain ⟨cs', hc, ht⟩ := hi i (by omega)
      rw [e3] at hc
      obtain ⟨y, rfl⟩ := open_label ht
      obtain ⟨_, hcl, hat⟩ := World.cells?_some hc
      refine ⟨y, fun r hr => ?_⟩
      rw [← Go.Deep.add_add]
      exact hat r hr
    obtain ⟨f, hf⟩ := choose_lt hV
    refine ⟨some a, cap, (List.range len).map f, by simp, fun j hj => ?_, by simp; omega⟩
    · rw [lcells_length, List.length_map, List.length_range] at hj
      have hi2x : j / 2 < len := by omega
      have hr2x : j % 2 < 2 := Nat.mod_lt _ (by decide)
      have hj2 : j / 2 * 2 + j % 2 = j := by omega
      have c1 := (hf (j / 2) hi2x) (j % 2) hr2x
      have c0 := (hf 0 (by omega)) 0 (by decide)
      have c1' : w.cell? (a.add j) = some (([Value.string (f (j / 2)).1, .int .u64 ((f (j / 2)).2 : Int)])[j % 2]'(by simp; omega)) := by
        rw [hj2] at c1
        rw [c1, List.getElem?_eq_getElem]
      have c0' : w.cell? (a.add 0) = some (.string (f 0).1) := c0
      obtain ⟨h1, h2⟩ := addr_of_cell c1' c0'
      refine ⟨a.block, a.off, by rw [← h1], block_of_cell (a := ⟨a.block, a.off + j, none⟩) h2, ?_⟩
      rw [h2]
      have h3 := lcells_get2 ((List.range len).map f) (j / 2) (by simp; omega) (j % 2) hr2x
      rw [hj2, List.getElem?_eq_getElem (by rw [lcells_length]; simp; omega)] at h3
      rw [h3]
      simp
theorem open_code {fuel : Nat} {cs : List Value} {x : DataW H × List MemPlace} (h : DataW.trod enc Tryz.prog w base spare held fuel 53 cs = some x) (hs : ∀ n ∈ x.1.weights Tryz.prog 53, n ≤ reachBytes) :
    ∃ (TA : Option Addr) (tc : Nat) (t : List UInt8) (DA : Option Addr) (dc : Nat) (d : List UInt8) (LA : Option Addr) (lc : Nat) (ls : List Lab), cs = [.slice TA t.length tc, .slice DA d.length dc, .slice LA ls.length lc] ∧
      Bs w.heap.size w TA t ∧ Bs w.heap.size w DA d ∧ Cs w.heap.size w LA (lcells ls) ∧ t.length ≤ 140737488351232 ∧ d.length ≤ 140737488351232 ∧ ls.length ≤ maxLen := by
  obtain ⟨xs, m, _, rfl, hl, hn, hf⟩ := DataW.trod_struct Tryz.underlying53 h
  obtain ⟨e1, e2, e3, e4, e5⟩ := l_names
  rw [e5] at hl
  obtain ⟨y0, y1, y2, rfl⟩ := lst3x (show xs.length = 3 from hn)
  have g0 : DataW.trod enc Tryz.prog w base spare held m 35 ((cs.drop 0).take (Tryz.prog.cellsOf 35)) = some y0 := hf 0 _ rfl
  have g1 : DataW.trod enc Tryz.prog w base spare held m 35 ((cs.drop 1).take (Tryz.prog.cellsOf 35)) = some y1 := hf 1 _ rfl
  have g2 : DataW.trod enc Tryz.prog w base spare held m 51 ((cs.drop 2).take (Tryz.prog.cellsOf 51)) = some y2 := hf 2 _ rfl
  rw [b_cells] at g0 g1
  rw [e4] at g2
  obtain ⟨TA, tc, t, h0, hT, hTl⟩ := open_bytes g0 (agg_weights Tryz.underlying53 hs 0 rfl rfl)
  obtain ⟨DA, dc, d, h1, hD, hDl⟩ := open_bytes g1 (agg_weights Tryz.underlying53 hs 1 rfl rfl)
  obtain ⟨LA, lc, ls, h2, hL, hLl⟩ := open_labels g2
  refine ⟨TA, tc, t, DA, dc, d, LA, lc, ls, ?_, hT, hD, hL, hTl, hDl, hLl⟩
  have s0 := take_drop10 cs 0 1
  have s1 := take_drop10 cs 1 1
  have s2 := take_drop10 cs 2 1
  have dn : cs.drop (2 + 1) = [] := List.drop_eq_nil_of_le (by omega)
  rw [h0] at s0
  rw [h1] at s1
  rw [h2, dn] at s2
  rw [← List.drop_zero (l := cs), s0, s1, s2]
  rfl
end
end Go.Proofs.YtlhenglopnipaaaGreatDoor
