/- A case of patinalaw05, opened: items, addresses. -/
import Derived.Test.YtemngapfnkokiaaDoorOpen
import Derived.Test.YtemngapfnkokiaaDoorItems
import Derived.OpenShut
import Derived.Test.YtemngapfnkokiaaDoorAsmW
namespace Go.Proofs
open Go Go.RowKit Go.Pat Go.Joins Go.ChangeShapes Go.WideShapes Go.Deep
instance : Inhabited It := ⟨⟨0, no, 0, 0, 0, 0, 0⟩⟩
section
variable {H : Type} {enc : TypeId × Value → H} {w : World} {base : Nat} {spare : Nat → Bool} {held : Bool}
theorem take_drop5 (l : List Value) (a k : Nat) : l.drop a = (l.drop a).take k ++ l.drop (a + k) := by
  have := (List.take_append_drop k (l.drop a)).symm
  rwa [List.drop_drop] at this
theorem c5_names : Tryd.prog.cellsOf 3 = 1 ∧ Tryd.prog.cellsOf 2 = 1 ∧ Tryd.prog.cellsOf 9 = 1 ∧ Tryd.prog.cellsOf 32 = 5 ∧ Tryd.prog.cellsOf 61 = 7 ∧ Tryd.prog.cellsOf 38 = 1 ∧ Tryd.prog.cellsOf 30 = 1 ∧ Tryd.prog.cellsOf 40 = 4 :=
  ⟨by kernel_rfl, by kernel_rfl, by kernel_rfl, by kernel_rfl, by kernel_rfl, by kernel_rfl, by kernel_rfl, by kernel_rfl⟩
theorem lst5 {α : Type} : ∀ {l : List α}, l.length = 5 → ∃ a b c d e, l = [a, b, c, d, e]
  | [a, b, c, d, e], _ => ⟨a, b, c, d, e, rfl⟩
theorem lst4 {α : Type} : ∀ {l : List α}, l.length = 4 → ∃ a b c d, l = [a, b, c, d]
  | [a, b, c, d], _ => ⟨a, b, c, d, rfl⟩
theorem lst3 {α : Type} : ∀ {l : List α}, l.length = 3 → ∃ a b c, l = [a, b, c]
  | [a, b, c], _ => ⟨a, b, c, rfl⟩
theorem open_instr {fuel : Nat} {cs : List Value} {x : DataW H × List MemPlace} (h : DataW.trod enc Tryd.prog w base spare held fuel 32 cs = some x) :
    ∃ op rd a b n : Int, cs = [.int .i64 op, .int .i64 rd, .int .i64 a, .int .i64 b, .int .i64 n] ∧ -9223372036854775808 ≤ n ∧ n < 9223372036854775808 := by
  obtain ⟨xs, m, _, rfl, hl, hn, hf⟩ := DataW.trod_struct Tryd.underlying32 h
  obtain ⟨e1, e2, e3, e4, e5, e6, e7, e8⟩ := c5_names
  rw [e4] at hl
  obtain ⟨y0, y1, y2, y3, y4, rfl⟩ := lst5 (show xs.length = 5 from hn)
  have g0 : DataW.trod enc Tryd.prog w base spare held m 3 ((cs.drop 0).take (Tryd.prog.cellsOf 3)) = some y0 := hf 0 _ rfl
  have g1 : DataW.trod enc Tryd.prog w base spare held m 3 ((cs.drop 1).take (Tryd.prog.cellsOf 3)) = some y1 := hf 1 _ rfl
  have g2 : DataW.trod enc Tryd.prog w base spare held m 3 ((cs.drop 2).take (Tryd.prog.cellsOf 3)) = some y2 := hf 2 _ rfl
  have g3 : DataW.trod enc Tryd.prog w base spare held m 3 ((cs.drop 3).take (Tryd.prog.cellsOf 3)) = some y3 := hf 3 _ rfl
  have g4 : DataW.trod enc Tryd.prog w base spare held m 2 ((cs.drop 4).take (Tryd.prog.cellsOf 2)) = some y4 := hf 4 _ rfl
  rw [e1] at g0 g1 g2 g3
  rw [e2] at g4
  obtain ⟨z0, h0, _, _⟩ := DataW.trod_int Tryd.underlying3 g0
  obtain ⟨z1, h1, _, _⟩ := DataW.trod_int Tryd.underlying3 g1
  obtain ⟨z2, h2, _, _⟩ := DataW.trod_int Tryd.underlying3 g2
  obtain ⟨z3, h3, _, _⟩ := DataW.trod_int Tryd.underlying3 g3
  obtain ⟨z4, h4, _, k4⟩ := DataW.trod_int Tryd.underlying2 g4
  have hz : -9223372036854775808 ≤ z4 ∧ z4 ≤ 9223372036854775807 := by simp [Lit.wf] at k4; exact k4
  refine ⟨z0, z1, z2, z3, z4, ?_, hz.1, by omega⟩
  have s0 := take_drop5 cs 0 1
  have s1 := take_drop5 cs 1 1
  have s2 := take_drop5 cs 2 1
  have s3 := take_drop5 cs 3 1
  have s4 := take_drop5 cs 4 1
  have dn : cs.drop (4 + 1) = [] := List.drop_eq_nil_of_le (by omega)
  rw [h0] at s0
  rw [h1] at s1
  rw [h2] at s2
  rw [h3] at s3
  rw [h4, dn] at s4
  rw [← List.drop_zero (l := cs), s0, s1, s2, s3, s4]
  rfl
theorem open_item {fuel : Nat} {cs : List Value} {x : DataW H × List MemPlace} (h : DataW.trod enc Tryd.prog w base spare held fuel 61 cs = some x) :
    ∃ y : It, cs = y.cells ∧ y.s.size ≤ maxLen ∧ -9223372036854775808 ≤ y.n ∧ y.n < 9223372036854775808 := by
  obtain ⟨xs, m, _, rfl, hl, hn, hf⟩ := DataW.trod_struct Tryd.underlying61 h
  obtain ⟨e1, e2, e3, e4, e5, e6, e7, e8⟩ := c5_names
  rw [e5] at hl
  obtain ⟨y0, y1, y2, rfl⟩ := lst3 (show xs.length = 3 from hn)
  have g0 : DataW.trod enc Tryd.prog w base spare held m 3 ((cs.drop 0).take (Tryd.prog.cellsOf 3)) = some y0 := hf 0 _ rfl
  have g1 : DataW.trod enc Tryd.prog w base spare held m 9 ((cs.drop 1).take (Tryd.prog.cellsOf 9)) = some y1 := hf 1 _ rfl
  have g2 : DataW.trod enc Tryd.prog w base spare held m 32 ((cs.drop 2).take (Tryd.prog.cellsOf 32)) = some y2 := hf 2 _ rfl
  rw [e1] at g0
  rw [e3] at g1
  rw [e4] at g2
  obtain ⟨z0, h0, _, _⟩ := DataW.trod_int Tryd.underlying3 g0
  obtain ⟨s, h1, _, k1⟩ := DataW.trod_string Tryd.underlying9 g1
  obtain ⟨op, rd, a, b, n, h2, k2⟩ := open_instr g2
  refine ⟨⟨z0, s, op, rd, a, b, n⟩, ?_, k1, k2⟩
  have s0 := take_drop5 cs 0 1
  have s1 := take_drop5 cs 1 1
  have s2 := take_drop5 cs 2 5
  have dn : cs.drop (2 + 5) = [] := List.drop_eq_nil_of_le (by omega)
  rw [h0] at s0
  rw [h1] at s1
  rw [h2, dn] at s2
  rw [← List.drop_zero (l := cs), s0, s1, s2]
  rfl
theorem open_items {fuel : Nat} {cs : List Value} {x : DataW H × List MemPlace} (h : DataW.trod enc Tryd.prog w base spare held fuel 38 cs = some x) :
    ∃ (A : Option Addr) (c : Nat) (l : List It), cs = [.slice A l.length c] ∧ Cs w.heap.size w A (tcells l) ∧ (∀ y ∈ l, y.s.size ≤ maxLen ∧ -9223372036854775808 ≤ y.n ∧ y.n < 9223372036854775808) ∧ l.length ≤ maxLen := by
  obtain ⟨e1, e2, e3, e4, e5, e6, e7, e8⟩ := c5_names
  rcases open_slice Tryd.underlying38 h with ⟨rfl, _⟩ | ⟨a, len, cap, m, n, D, Pl, rfl, hb, hl, hm, hmm, hx, hi⟩
  · exact ⟨none, 0, [], rfl, .nil, (fun y hy => by cases hy), by simp⟩
  · have hlm : len ≤ m := by rw [hmm]; split <;> omega
    have hV : ∀ i, i < len → ∃ y : It, (∀ r, r < 7 → w.cell? (a.add (i * 7 + r)) = (y.cells)[r]?) ∧ y.s.size ≤ maxLen ∧ -9223372036854775808 ≤ y.n ∧ y.n < 9223372036854775808 := fun i hil => by
      obtain ⟨cs', hc, ht⟩ := hi i (by omega)
      rw [e5] at hc
      obtain ⟨y, rfl, k⟩ := open_item ht
      obtain ⟨_, hcl, hat⟩ := World.cells?_some hc
      refine ⟨y, fun r hr => ?_, k⟩
      rw [← Go.Deep.add_add]
      exact hat r hr
    obtain ⟨f, hf⟩ := choose_lt hV
    refine ⟨some a, cap, (List.range len).map f, by simp, fun j hj => ?_, fun y hy => ?_, by simp; omega⟩
    · rw [tcells_length, List.length_map, List.length_range] at hj
      have hi7 : j / 7 < len := by omega
      have hr7 : j % 7 < 7 := Nat.mod_lt _ (by decide)
      have hj2 : j / 7 * 7 + j % 7 = j := by omega
      have c1 := (hf (j / 7) hi7).1 (j % 7) hr7
      have c0 := (hf 0 (by omega)).1 0 (by decide)
      have c1' : w.cell? (a.add j) = some ((f (j / 7)).cells[j % 7]'(by simp [It.cells]; omega)) := by
        rw [hj2] at c1
        rw [c1, List.getElem?_eq_getElem]
      have c0' : w.cell? (a.add 0) = some (.int .i64 (f 0).k) := c0
      obtain ⟨h1, h2⟩ := addr_of_cell c1' c0'
      refine ⟨a.block, a.off, by rw [← h1], block_of_cell (a := ⟨a.block, a.off + j, none⟩) h2, ?_⟩
      rw [h2]
      have h3 := tcells_get ((List.range len).map f) (j / 7) (by simp; omega) (j % 7) hr7
      rw [hj2, List.getElem?_eq_getElem (by rw [tcells_length]; simp; omega)] at h3
      rw [h3]
      simp
    · obtain ⟨i, hi, rfl⟩ := List.mem_map.1 hy
      exact (hf i (List.mem_range.1 hi)).2
theorem open_case5 {fuel : Nat} {cs : List Value} {x : DataW H × List MemPlace} (h : DataW.trod enc Tryd.prog w base spare held fuel 40 cs = some x) :
    ∃ (TA : Option Addr) (tc : Nat) (text : List It) (DA : Option Addr) (dc : Nat) (data : List It) (at_ dat : Nat), cs = [.slice TA text.length tc, .slice DA data.length dc, .int .u64 (at_ : Int), .int .u64 (dat : Int)] ∧
      Cs w.heap.size w TA (tcells text) ∧ Cs w.heap.size w DA (tcells data) ∧ (∀ y ∈ text ++ data, y.s.size ≤ maxLen ∧ -9223372036854775808 ≤ y.n ∧ y.n < 9223372036854775808) ∧ text.length ≤ maxLen ∧ data.length ≤ maxLen ∧ at_ < 18446744073709551616 ∧ dat < 18446744073709551616 := by
  obtain ⟨xs, m, _, rfl, hl, hn, hf⟩ := DataW.trod_struct Tryd.underlying40 h
  obtain ⟨e1, e2, e3, e4, e5, e6, e7, e8⟩ := c5_names
  rw [e8] at hl
  obtain ⟨y0, y1, y2, y3, rfl⟩ := lst4 (show xs.length = 4 from hn)
  have g0 : DataW.trod enc Tryd.prog w base spare held m 38 ((cs.drop 0).take (Tryd.prog.cellsOf 38)) = some y0 := hf 0 _ rfl
  have g1 : DataW.trod enc Tryd.prog w base spare held m 38 ((cs.drop 1).take (Tryd.prog.cellsOf 38)) = some y1 := hf 1 _ rfl
  have g2 : DataW.trod enc Tryd.prog w base spare held m 30 ((cs.drop 2).take (Tryd.prog.cellsOf 30)) = some y2 := hf 2 _ rfl
  have g3 : DataW.trod enc Tryd.prog w base spare held m 30 ((cs.drop 3).take (Tryd.prog.cellsOf 30)) = some y3 := hf 3 _ rfl
  rw [e6] at g0 g1
  rw [e7] at g2 g3
  obtain ⟨TA, tc, text, h0, hT, hTy, hTl⟩ := open_items g0
  obtain ⟨DA, dc, data, h1, hD, hDy, hDl⟩ := open_items g1
  obtain ⟨z2, h2, _, k2⟩ := DataW.trod_int Tryd.underlying30 g2
  obtain ⟨z3, h3, _, k3⟩ := DataW.trod_int Tryd.underlying30 g3
  have q2 : 0 ≤ z2 ∧ z2 ≤ 18446744073709551615 := by simp [Lit.wf] at k2; exact k2
  have q3 : 0 ≤ z3 ∧ z3 ≤ 18446744073709551615 := by simp [Lit.wf] at k3; exact k3
  obtain ⟨p2, rfl⟩ : ∃ p : Nat, z2 = p := ⟨z2.toNat, by omega⟩
  obtain ⟨p3, rfl⟩ : ∃ p : Nat, z3 = p := ⟨z3.toNat, by omega⟩
  refine ⟨TA, tc, text, DA, dc, data, p2, p3, ?_, hT, hD, fun y hy => (List.mem_append.1 hy).elim (hTy y) (hDy y), hTl, hDl, by omega, by omega⟩
  have s0 := take_drop5 cs 0 1
  have s1 := take_drop5 cs 1 1
  have s2 := take_drop5 cs 2 1
  have s3 := take_drop5 cs 3 1
  have dn : cs.drop (3 + 1) = [] := List.drop_eq_nil_of_le (by omega)
  rw [h0] at s0
  rw [h1] at s1
  rw [h2] at s2
  rw [h3, dn] at s3
  rw [← List.drop_zero (l := cs), s0, s1, s2, s3]
  rfl
end
end Go.Proofs

/- patinalaw05.wide: it answers, whatever it says. (Printed by wip/tools/gen_wide.py.) -/
namespace Go.Proofs
open Go Go.RowKit Go.Pat
def AnyB (w : World) (e : Ending) (w' : World) : Prop := ∃ b : Bool, e = .returned (.bool b) ∧ Below w.heap.size w w'
set_option maxRecDepth 20000 in
set_option maxHeartbeats 8000000 in
theorem wide5_any (w : World) (TA : Option Addr) (tc : Nat) (text : List It) (DA : Option Addr) (dc : Nat) (data : List It) (at_ dat : Int) (hT : Cs w.heap.size w TA (tcells text)) (hD : Cs w.heap.size w DA (tcells data)) (ht : text.length ≤ maxLen) (hd : data.length ≤ maxLen) :
    Calls Tryd.prog 16 #[.agg #[.slice TA text.length tc, .slice DA data.length dc, .int .u64 at_, .int .u64 dat]] w (AnyB w) := by
  unfold maxLen at ht hd
  have hB2 := form2 w (.cells #[.slice TA text.length tc, .slice DA data.length dc, .int .u64 at_, .int .u64 dat] 40) (.cells #[.slice TA text.length tc, .slice DA data.length dc] 38)
  have hx := heap_alloc_new (w.alloc (.cells #[.slice TA text.length tc, .slice DA data.length dc, .int .u64 at_, .int .u64 dat] 40)) (.cells #[.slice TA text.length tc, .slice DA data.length dc] 38)
  rw [World.size_alloc] at hx
  have HX := Lib.hid (And.intro hx (And.intro hT (And.intro hD hB2)))
  clear hx hT hD hB2
  go_enter Tryd.func16, Tryd.ntmps16
  go_wp2_with fail
  go_loopw [3, 14] (fun q i wr => ∃ (k : Nat) (n : Int), k ≤ 2 ∧ i = .int .i64 k ∧ q = .int .i64 n ∧ wr.heap[w.heap.size + 1]? = some (.cells #[.slice TA text.length tc, .slice DA data.length dc] 38 (0, 0)) ∧ Below w.heap.size w wr) (fun _ i _ => 2 - (intOf i).toNat)
  case atStart => exact ⟨0, 0, by omega, rfl, rfl, HX.out.1, HX.out.2.2.2⟩
  case round =>
    obtain ⟨k, n, hk, rfl, rfl, hx, hB⟩ := hrel
    have hxl := lt_of_block hx
    rcases (show k = 0 ∨ k = 1 ∨ k = 2 by omega) with rfl | rfl | rfl
    · have g0 : wr.cell? ⟨w.heap.size + 1, 0, none⟩ = some (.slice TA text.length tc) := (obj_cell hx 0).trans rfl
      have HH := Lib.hid (And.intro hx hB)
      obtain ⟨W0, hW0⟩ : ∃ W0, W0 = wr := ⟨_, rfl⟩
      subst hW0
      clear hx hB
      go_wp2_with fail
      go_loopw [3, 20] (fun q i wr => ∃ (j : Nat) (n : Int), j ≤ text.length ∧ i = .int .i64 j ∧ q = .int .i64 n ∧ Below W0.heap.size W0 wr) (fun _ i _ => text.length - (intOf i).toNat)
      case atStart => exact ⟨0, n, Nat.zero_le _, rfl, rfl, Below.refl _ _⟩
      case round =>
        obtain ⟨j, n, hj, rfl, rfl, hB⟩ := hrel
        by_cases hlt : j < text.length
        · have t1 : decide ((j : Int) < (text.length : Int)) = true := decide_eq_true (by omega)
          have hju : (j : Int) < (text.length : Int) := by omega
          obtain ⟨b, o, e0, hb, x0, x1, x2, x3, x4, x5, x6⟩ := item_at (((HX.out.2.1.below HH.out.2).more HH.out.2.size).below hB) j hlt
          cases e0
          have hsz := hB.size
          generalize text[j].k = v0 at *
          generalize text[j].s = v1 at *
          generalize text[j].op = v2 at *
          generalize text[j].rd = v3 at *
          generalize text[j].a = v4 at *
          generalize text[j].b = v5 at *
          generalize text[j].n = v6 at *
          have HB := Lib.hid (hB.alloc hB.size (.cells #[.int .i64 v0, .string v1, .int .i64 v2, .int .i64 v3, .int .i64 v4, .int .i64 v5, .int .i64 v6] 61))
          have hbl : b < wr.heap.size := Nat.lt_of_lt_of_le hb hsz
          clear hB
          cases t9 : (v0 == 9)
          · go_wp2_with fail
            go_roundw
            case rel => exact ⟨j + 1, n, by omega, by go_num, rfl, HB.out⟩
            case measure => simp [intOf]; omega
          · have hv0 : v0 = 9 := by simpa using t9
            subst hv0
            cases ta : decide (0 < v6)
            · go_wp2_with fail
              go_roundw
              case rel => exact ⟨j + 1, n, by omega, by go_num, rfl, HB.out⟩
              case measure => simp [intOf]; omega
            · cases tb : decide (v6 ≤ 1048576)
              · go_wp2_with fail
                go_roundw
                case rel => exact ⟨j + 1, n, by omega, by go_num, rfl, HB.out⟩
                case measure => simp [intOf]; omega
              · go_wp2_with fail
                go_roundw
                case rel => exact ⟨j + 1, _, by omega, by go_num, rfl, HB.out⟩
                case measure => simp [intOf]; omega
        · have t1 : decide ((j : Int) < (text.length : Int)) = false := decide_eq_false (by omega)
          obtain rfl : j = text.length := by omega
          have HB := Lib.hid (And.intro ((hB.block (w.heap.size + 1) hxl).trans HH.out.1) (HH.out.2.trans (hB.mono HH.out.2.size)))
          clear hB
          go_wp2_with fail
          go_roundw
          case rel => exact ⟨1, n, by omega, rfl, rfl, HB.out.1, HB.out.2⟩
          case measure => simp [intOf]
    · have g0 : wr.cell? ⟨w.heap.size + 1, 1, none⟩ = some (.slice DA data.length dc) := (obj_cell hx 1).trans rfl
      have HH := Lib.hid (And.intro hx hB)
      obtain ⟨W0, hW0⟩ : ∃ W0, W0 = wr := ⟨_, rfl⟩
      subst hW0
      clear hx hB
      go_wp2_with fail
      go_loopw [3, 20] (fun q i wr => ∃ (j : Nat) (n : Int), j ≤ data.length ∧ i = .int .i64 j ∧ q = .int .i64 n ∧ Below W0.heap.size W0 wr) (fun _ i _ => data.length - (intOf i).toNat)
      case atStart => exact ⟨0, n, Nat.zero_le _, rfl, rfl, Below.refl _ _⟩
      case round =>
        obtain ⟨j, n, hj, rfl, rfl, hB⟩ := hrel
        by_cases hlt : j < data.length
        · have t1 : decide ((j : Int) < (data.length : Int)) = true := decide_eq_true (by omega)
          have hju : (j : Int) < (data.length : Int) := by omega
          obtain ⟨b, o, e0, hb, x0, x1, x2, x3, x4, x5, x6⟩ := item_at (((HX.out.2.2.1.below HH.out.2).more HH.out.2.size).below hB) j hlt
          cases e0
          have hsz := hB.size
          generalize data[j].k = v0 at *
          generalize data[j].s = v1 at *
          generalize data[j].op = v2 at *
          generalize data[j].rd = v3 at *
          generalize data[j].a = v4 at *
          generalize data[j].b = v5 at *
          generalize data[j].n = v6 at *
          have HB := Lib.hid (hB.alloc hB.size (.cells #[.int .i64 v0, .string v1, .int .i64 v2, .int .i64 v3, .int .i64 v4, .int .i64 v5, .int .i64 v6] 61))
          have hbl : b < wr.heap.size := Nat.lt_of_lt_of_le hb hsz
          clear hB
          cases t9 : (v0 == 9)
          · go_wp2_with fail
            go_roundw
            case rel => exact ⟨j + 1, n, by omega, by go_num, rfl, HB.out⟩
            case measure => simp [intOf]; omega
          · have hv0 : v0 = 9 := by simpa using t9
            subst hv0
            cases ta : decide (0 < v6)
            · go_wp2_with fail
              go_roundw
              case rel => exact ⟨j + 1, n, by omega, by go_num, rfl, HB.out⟩
              case measure => simp [intOf]; omega
            · cases tb : decide (v6 ≤ 1048576)
              · go_wp2_with fail
                go_roundw
                case rel => exact ⟨j + 1, n, by omega, by go_num, rfl, HB.out⟩
                case measure => simp [intOf]; omega
              · go_wp2_with fail
                go_roundw
                case rel => exact ⟨j + 1, _, by omega, by go_num, rfl, HB.out⟩
                case measure => simp [intOf]; omega
        · have t1 : decide ((j : Int) < (data.length : Int)) = false := decide_eq_false (by omega)
          obtain rfl : j = data.length := by omega
          have HB := Lib.hid (And.intro ((hB.block (w.heap.size + 1) hxl).trans HH.out.1) (HH.out.2.trans (hB.mono HH.out.2.size)))
          clear hB
          go_wp2_with fail
          go_roundw
          case rel => exact ⟨2, n, by omega, rfl, rfl, HB.out.1, HB.out.2⟩
          case measure => simp [intOf]
    · have HH := Lib.hid hB
      clear hx hB
      go_wp2_with fail
      go_ret
      exact ⟨_, rfl, HH.out⟩
end Go.Proofs
