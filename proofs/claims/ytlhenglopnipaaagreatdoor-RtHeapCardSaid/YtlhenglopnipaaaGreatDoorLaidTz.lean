/- What the tied condition gives: the operations' rows. -/
import Derived.Test.YtlhenglopnipaaaGreatDoorRows
import Derived.Test.YtlhenglopnipaaaGreatDoorDecI
import Derived.ProofKit
import Derived.LaidMore
import Derived.OpenShut
import Derived.Lib.SmallJoins
import Derived.Stop.Joined
namespace Go.Proofs.YtlhenglopnipaaaGreatDoor
open Go Go.ChangeShapes Go.WideShapes Go.ChangeAt Go.RowKit Go.Pat Go.Joins Go.WideMaps Go.WideElems
theorem gRows : Tryz.prog.globalNamed "patina/rv.rows" = some 0 := by kernel_rfl
theorem tRows : (Tryz.prog.globals[0]?).map (·.type) = some 174 := by kernel_rfl
def rowD (op : Nat) : DataW Unit := .agg [.lit (.int .u8 ((rvRow op).1 : Int)), .lit (.int .u32 ((rvRow op).2.1 : Int)), .lit (.int .u32 ((rvRow op).2.2.1 : Int)), .lit (.int .u32 ((rvRow op).2.2.2 : Int))]
theorem rows_data : (Rows.laid_patina_rv_rows : DataW Unit) = .agg ((List.range 66).map rowD) := by kernel_rfl
theorem cell_of_take {l : List Value} {p j : Nat} {a : Value} (hj : j < 4) (h : (((l.drop p).take 4).drop j).take 1 = [a]) : l[p + j]? = some a := by
  have h1 := congrArg (fun x => x[0]?) h
  simp only [List.getElem?_take, List.getElem?_drop, List.getElem?_cons_zero] at h1
  rw [if_pos (by omega), if_pos (by omega), Nat.add_zero] at h1
  exact h1
theorem c_u8 : Tryz.prog.cellsOf 5 = 1 := by kernel_rfl
theorem c_u32 : Tryz.prog.cellsOf 126 = 1 := by kernel_rfl
theorem c_row : Tryz.prog.cellsOf 152 = 4 := by kernel_rfl
theorem rows_trod {W : World} {cs : Array Value} {x : DataW Unit × List MemPlace} {enc : TypeId × Value → Unit} {base : Nat} {spare : Nat → Bool} {held : Bool} {fuel : Nat} (hv : W.var? Tryz.prog "patina/rv.rows" = some cs)
    (hd : DataW.trod enc Tryz.prog W base spare held fuel 174 cs.toList = some x) (hx : x.1 = Rows.laid_patina_rv_rows) : RvRows W := by
  rw [rows_data] at hx
  obtain ⟨xs, m1, rfl, rfl, hlen, hn, hel⟩ := DataW.trod_array Tryz.underlying174 hd
  simp only [DataW.agg.injEq] at hx
  have key : ∀ op, op < 66 → W.rangeAt 0 (op * 4) [.int .u8 ((rvRow op).1 : Int), .int .u32 ((rvRow op).2.1 : Int), .int .u32 ((rvRow op).2.2.1 : Int), .int .u32 ((rvRow op).2.2.2 : Int)] := by
    intro op hop
    have h0 := hel op hop
    have h1 : xs[op]?.map (·.1) = some (rowD op) := by rw [← List.getElem?_map, hx, List.getElem?_map, List.getElem?_range hop]; rfl
    obtain ⟨y, hy, hy2⟩ := Option.map_eq_some_iff.1 h1
    rw [hy, c_row] at h0
    obtain ⟨y0, y1, y2, y3, n, rfl, _, q0, q1, q2, q3⟩ := trod_struct4 Tryz.underlying152 h0
    simp only [rowD, DataW.agg.injEq, List.cons.injEq, and_true] at hy2
    obtain ⟨k0, e0, rfl, _⟩ := DataW.trod_int Tryz.underlying5 q0
    obtain ⟨k1, e1, rfl, _⟩ := DataW.trod_int Tryz.underlying126 q1
    obtain ⟨k2, e2, rfl, _⟩ := DataW.trod_int Tryz.underlying126 q2
    obtain ⟨k3, e3, rfl, _⟩ := DataW.trod_int Tryz.underlying126 q3
    obtain ⟨z0, z1, z2, z3⟩ := hy2
    have w0 := Lit.int.inj (DataW.lit.inj z0)
    have w1 := Lit.int.inj (DataW.lit.inj z1)
    have w2 := Lit.int.inj (DataW.lit.inj z2)
    have w3 := Lit.int.inj (DataW.lit.inj z3)
    simp only [c_u8, c_u32] at e0 e1 e2 e3
    have d0 := cell_of_take (p := op * 4) (j := 0) (by omega) e0
    have d1 := cell_of_take (p := op * 4) (j := 1) (by omega) e1
    have d2 := cell_of_take (p := op * 4) (j := 2) (by omega) e2
    have d3 := cell_of_take (p := op * 4) (j := 3) (by omega) e3
    rw [w0.2] at d0
    rw [w1.2] at d1
    rw [w2.2] at d2
    rw [w3.2] at d3
    intro j v hj
    have hc := World.var?_cell gRows hv (op * 4 + j)
    rw [← Array.getElem?_toList] at hc
    match j, hj with
    | 0, hj => rw [hc, d0]; exact hj
    | 1, hj => rw [hc, d1]; exact hj
    | 2, hj => rw [hc, d2]; exact hj
    | 3, hj => rw [hc, d3]; exact hj
  exact ⟨World.block_lt_of_cell? W ⟨0, _, none⟩ (key 0 (by omega) 0 _ rfl), key⟩
theorem rvRows_laid {W : World} (h : laidMetH Tryz.prog [("patina/rv.rows", Rows.laid_patina_rv_rows)] W) : RvRows W := by
  rw [MakeChecks.laidMetH_plain _ _ _ (by kernel_rfl)] at h
  obtain ⟨ps, ⟨g1, t1, cs1, f1, p1, q1, hg1, ht1, hv1, hd1, _, _⟩, _, _⟩ := h
  obtain rfl := Option.some.inj (gRows.symm.trans hg1)
  obtain rfl := Option.some.inj (tRows.symm.trans ht1)
  exact rows_trod hv1 hd1 rfl
end Go.Proofs.YtlhenglopnipaaaGreatDoor

/- What the tied condition gives: the table of math/bits, and the operations' rows. -/
namespace Go.Proofs.YtlhenglopnipaaaGreatDoor
open Go Go.ChangeShapes Go.WideShapes Go.ChangeAt Go.RowKit Go.Pat Go.Joins Go.WideMaps Go.WideElems
theorem gTz : Tryz.prog.globalNamed "math/bits.deBruijn64tab" = some 1 := by kernel_rfl
theorem tTz : (Tryz.prog.globals[1]?).map (·.type) = some 187 := by kernel_rfl
def tzD (j : Nat) : DataW Unit := .lit (.int .u8 ((Lib.deBruijn64tab.getD j 0 : Nat) : Int))
theorem tz_data : (Rows.laid_math_bits_deBruijn64tab : DataW Unit) = .agg ((List.range 64).map tzD) := by kernel_rfl
theorem tz_trod {W : World} {cs : Array Value} {x : DataW Unit × List MemPlace} {enc : TypeId × Value → Unit} {base : Nat} {spare : Nat → Bool} {held : Bool} {fuel : Nat} (hv : W.var? Tryz.prog "math/bits.deBruijn64tab" = some cs)
    (hd : DataW.trod enc Tryz.prog W base spare held fuel 187 cs.toList = some x) (hx : x.1 = Rows.laid_math_bits_deBruijn64tab) : TzTab W := by
  rw [tz_data] at hx
  obtain ⟨xs, m1, rfl, rfl, hlen, hn, hel⟩ := DataW.trod_array Tryz.underlying187 hd
  simp only [DataW.agg.injEq] at hx
  have key : ∀ j, j < 64 → W.cell? ⟨1, j, none⟩ = some (.int .u8 ((Lib.deBruijn64tab.getD j 0 : Nat) : Int)) := by
    intro j hj
    have h0 := hel j hj
    have h1 : xs[j]?.map (·.1) = some (tzD j) := by rw [← List.getElem?_map, hx, List.getElem?_map, List.getElem?_range hj]; rfl
    obtain ⟨y, hy, hy2⟩ := Option.map_eq_some_iff.1 h1
    rw [hy, c_u8] at h0
    obtain ⟨k0, e0, rfl, _⟩ := DataW.trod_int Tryz.underlying5 h0
    simp only [tzD, DataW.lit.injEq, Lit.int.injEq, true_and] at hy2
    have d0 : cs.toList[j]? = some (.int .u8 k0) := by
      have h2 := congrArg (fun x => x[0]?) e0
      simp only [List.getElem?_take, List.getElem?_drop, List.getElem?_cons_zero] at h2
      simpa using h2
    rw [hy2] at d0
    have hc := World.var?_cell gTz hv j
    rw [← Array.getElem?_toList] at hc
    rw [hc, d0]
  exact ⟨World.block_lt_of_cell? W ⟨1, _, none⟩ (key 0 (by omega)), key⟩
theorem tabs_laid {W : World} (h : laidMetH Tryz.prog [("math/bits.deBruijn64tab", Rows.laid_math_bits_deBruijn64tab), ("patina/rv.rows", Rows.laid_patina_rv_rows)] W) : TzTab W ∧ RvRows W := by
  rw [MakeChecks.laidMetH_plain _ _ _ (by kernel_rfl)] at h
  obtain ⟨ps, ⟨g1, t1, cs1, f1, p1, q1, hg1, ht1, hv1, hd1, ⟨g2, t2, cs2, f2, p2, q2, hg2, ht2, hv2, hd2, _, _⟩, _⟩, _, _⟩ := h
  obtain rfl := Option.some.inj (gTz.symm.trans hg1)
  obtain rfl := Option.some.inj (tTz.symm.trans ht1)
  obtain rfl := Option.some.inj (gRows.symm.trans hg2)
  obtain rfl := Option.some.inj (tRows.symm.trans ht2)
  exact ⟨tz_trod hv1 hd1 rfl, rows_trod hv2 hd2 rfl⟩
end Go.Proofs.YtlhenglopnipaaaGreatDoor
