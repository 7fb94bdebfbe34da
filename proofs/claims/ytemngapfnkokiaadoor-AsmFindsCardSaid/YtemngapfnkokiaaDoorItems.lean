/- Items in memory; (*program).item. -/
import Derived.Test.YtemngapfnkokiaaDoorItem
import Derived.RegionTactic
namespace Go.Pat
open Go Go.RowKit
def It.cells (x : It) : List Value := [.int .i64 x.k, .string x.s, .int .i64 x.op, .int .i64 x.rd, .int .i64 x.a, .int .i64 x.b, .int .i64 x.n]
def tcells : List It → List Value
  | [] => []
  | i :: r => i.cells ++ tcells r
theorem tcells_length (l : List It) : (tcells l).length = l.length * 7 := by
  induction l with
  | nil => rfl
  | cons i r ih => simp [tcells, It.cells, ih]; omega
theorem tcells_get (l : List It) (i : Nat) (hi : i < l.length) (j : Nat) (hj : j < 7) : (tcells l)[i * 7 + j]? = (l[i].cells)[j]? := by
  induction l generalizing i with
  | nil => simp at hi
  | cons s r ih =>
    cases i with
    | zero => simp only [tcells, Nat.zero_mul, Nat.zero_add, List.getElem_cons_zero]; rw [List.getElem?_append_left (by simp [It.cells]; omega)]
    | succ i =>
      rw [show (i + 1) * 7 + j = 7 + (i * 7 + j) by omega]
      simp only [tcells, List.getElem_cons_succ]
      rw [List.getElem?_append_right (by simp [It.cells])]
      simp only [It.cells, List.length_cons, List.length_nil]
      rw [show 7 + (i * 7 + j) - (0 + 1 + 1 + 1 + 1 + 1 + 1 + 1) = i * 7 + j by omega]
      exact ih i (by simpa using hi)
theorem item_at {B : Nat} {w : World} {A : Option Addr} {l : List It} (h : Cs B w A (tcells l)) (k : Nat) (hk : k < l.length) :
    ∃ b o, A = some ⟨b, o, none⟩ ∧ b < B ∧ w.cell? ⟨b, o + k * 7, none⟩ = some (.int .i64 l[k].k) ∧ w.cell? ⟨b, o + k * 7 + 1, none⟩ = some (.string l[k].s) ∧ w.cell? ⟨b, o + k * 7 + 2, none⟩ = some (.int .i64 l[k].op) ∧
      w.cell? ⟨b, o + k * 7 + 3, none⟩ = some (.int .i64 l[k].rd) ∧ w.cell? ⟨b, o + k * 7 + 4, none⟩ = some (.int .i64 l[k].a) ∧ w.cell? ⟨b, o + k * 7 + 5, none⟩ = some (.int .i64 l[k].b) ∧ w.cell? ⟨b, o + k * 7 + 6, none⟩ = some (.int .i64 l[k].n) := by
  have hlen := tcells_length l
  have gt : ∀ j, j < 7 → ∃ b o, A = some ⟨b, o, none⟩ ∧ b < B ∧ w.cell? ⟨b, o + (k * 7 + j), none⟩ = (l[k].cells)[j]? := fun j hj => by
    obtain ⟨b, o, e, hb, hx⟩ := h (k * 7 + j) (by omega)
    refine ⟨b, o, e, hb, ?_⟩
    rw [hx, ← tcells_get l k hk j hj, List.getElem?_eq_getElem (by omega)]
  obtain ⟨b, o, rfl, hb, g0⟩ := gt 0 (by omega)
  obtain ⟨_, _, e1, _, g1⟩ := gt 1 (by omega)
  obtain ⟨_, _, e2, _, g2⟩ := gt 2 (by omega)
  obtain ⟨_, _, e3, _, g3⟩ := gt 3 (by omega)
  obtain ⟨_, _, e4, _, g4⟩ := gt 4 (by omega)
  obtain ⟨_, _, e5, _, g5⟩ := gt 5 (by omega)
  obtain ⟨_, _, e6, _, g6⟩ := gt 6 (by omega)
  cases e1; cases e2; cases e3; cases e4; cases e5; cases e6
  exact ⟨b, o, rfl, hb, g0, g1, g2, g3, g4, g5, g6⟩
/-- a program's parts in memory. -/
structure PrAt (w : World) (p : Nat) (TA : Option Addr) (tc : Nat) (text : List It) (DA : Option Addr) (dc : Nat) (data : List It) (at_ dat mb : Nat) (sv : Value) : Prop where
  str : w.heap[p]? = some (.cells #[.slice TA text.length tc, .slice DA data.length dc, .int .u64 (at_ : Int), .int .u64 (dat : Int), .map (some mb), sv] 110 (0, 0))
  tx : Cs w.heap.size w TA (tcells text)
  dt : Cs w.heap.size w DA (tcells data)
  tl : text.length ≤ 1048576
  dl : data.length ≤ 1048576
theorem PrAt.below {w w' : World} {p : Nat} {TA : Option Addr} {tc : Nat} {text : List It} {DA : Option Addr} {dc : Nat} {data : List It} {at_ dat mb : Nat} {sv : Value} (h : PrAt w p TA tc text DA dc data at_ dat mb sv) (hb : Below w.heap.size w w') :
    PrAt w' p TA tc text DA dc data at_ dat mb sv :=
  ⟨(hb.block _ (lt_of_block h.str)).trans h.str, (h.tx.below hb).more hb.size, (h.dt.below hb).more hb.size, h.tl, h.dl⟩
theorem PrAt.cell {w : World} {p : Nat} {TA : Option Addr} {tc : Nat} {text : List It} {DA : Option Addr} {dc : Nat} {data : List It} {at_ dat mb : Nat} {sv : Value} (h : PrAt w p TA tc text DA dc data at_ dat mb sv) (i : Nat) :
    w.cell? ⟨p, i, none⟩ = (#[.slice TA text.length tc, .slice DA data.length dc, .int .u64 (at_ : Int), .int .u64 (dat : Int), .map (some mb), sv] : Array Value)[i]? := Go.Proofs.obj_cell h.str i
end Go.Pat
namespace Go.Proofs
open Go Go.RowKit Go.Pat
theorem Tryd_sizeItem : (Tryd.prog.info? 61).map (·.size) = some 7 := by kernel_rfl
def ItemTo (x : It) (w : World) (e : Ending) (w' : World) : Prop := e = .returned (.agg x.cs) ∧ Below w.heap.size w w'
section
variable (w : World) (p : Nat) (TA : Option Addr) (tc : Nat) (text : List It) (DA : Option Addr) (dc : Nat) (data : List It) (at_ dat mb : Nat) (sv : Value)
set_option maxRecDepth 20000 in
set_option maxHeartbeats 4000000 in
theorem apitem_text (hP : PrAt w p TA tc text DA dc data at_ dat mb sv) (n : Nat) (hn : n < text.length) : Calls Tryd.prog 49 #[.pointer (some ⟨p, 0, none⟩), .int .i64 (n : Int)] w (ItemTo text[n] w) := by
  have hlt := lt_of_block hP.str
  have c0 : w.cell? ⟨p, 0, none⟩ = some (.slice TA text.length tc) := hP.cell 0
  obtain ⟨b, o, rfl, hb, x0, x1, x2, x3, x4, x5, x6⟩ := item_at hP.tx n hn
  have t1 : decide ((n : Int) < (text.length : Int)) = true := decide_eq_true (by omega)
  have htl := hP.tl
  have HV := Lib.hid (show text[n].cs = #[.int .i64 text[n].k, .string text[n].s, .int .i64 text[n].op, .int .i64 text[n].rd, .int .i64 text[n].a, .int .i64 text[n].b, .int .i64 text[n].n] from rfl)
  unfold ItemTo
  generalize text[n].cs = V at *
  generalize text[n].k = v0 at *
  generalize text[n].s = v1 at *
  generalize text[n].op = v2 at *
  generalize text[n].rd = v3 at *
  generalize text[n].a = v4 at *
  generalize text[n].b = v5 at *
  generalize text[n].n = v6 at *
  clear hP
  go_enter Tryd.func49, Tryd.ntmps49
  go_wp2
  refine bodyPost_ret (results_cell_row rfl _ _ w.heap.size 61 #[.int .i64 v0, .string v1, .int .i64 v2, .int .i64 v3, .int .i64 v4, .int .i64 v5, .int .i64 v6] (0, 0) _ rfl (heap_alloc_new w _) Tryd.underlying61 rfl Tryd_sizeItem) rfl ⟨by rw [HV.out], form1 w _⟩
set_option maxRecDepth 20000 in
set_option maxHeartbeats 4000000 in
theorem apitem_data (hP : PrAt w p TA tc text DA dc data at_ dat mb sv) (n : Nat) (hn : text.length ≤ n) (hn2 : n - text.length < data.length) : Calls Tryd.prog 49 #[.pointer (some ⟨p, 0, none⟩), .int .i64 (n : Int)] w (ItemTo (data[n - text.length]) w) := by
  have hlt := lt_of_block hP.str
  have c0 : w.cell? ⟨p, 0, none⟩ = some (.slice TA text.length tc) := hP.cell 0
  have c1 : w.cell? ⟨p, 1, none⟩ = some (.slice DA data.length dc) := hP.cell 1
  obtain ⟨b, o, rfl, hb, x0, x1, x2, x3, x4, x5, x6⟩ := item_at hP.dt (n - text.length) hn2
  have t1 : decide ((n : Int) < (text.length : Int)) = false := decide_eq_false (by omega)
  have htl := hP.tl
  have hdl := hP.dl
  have HV := Lib.hid (show (data[n - text.length]).cs = #[.int .i64 (data[n - text.length]).k, .string (data[n - text.length]).s, .int .i64 (data[n - text.length]).op, .int .i64 (data[n - text.length]).rd, .int .i64 (data[n - text.length]).a, .int .i64 (data[n - text.length]).b, .int .i64 (data[n - text.length]).n] from rfl)
  unfold ItemTo
  generalize (data[n - text.length]).cs = V at *
  generalize (data[n - text.length]).k = v0 at *
  generalize (data[n - text.length]).s = v1 at *
  generalize (data[n - text.length]).op = v2 at *
  generalize (data[n - text.length]).rd = v3 at *
  generalize (data[n - text.length]).a = v4 at *
  generalize (data[n - text.length]).b = v5 at *
  generalize (data[n - text.length]).n = v6 at *
  clear hP
  obtain ⟨m, hm⟩ : ∃ m, n - text.length = m := ⟨_, rfl⟩
  rw [hm] at x0 x1 x2 x3 x4 x5 x6 hn2
  have e1 : IntKind.i64.wrap ((n : Int) - (text.length : Int)) = (m : Int) := by rw [IntKind.wrap_i64]; omega
  have e2 : (n : Int) - (text.length : Int) = (m : Int) := by omega
  clear hm
  go_enter Tryd.func49, Tryd.ntmps49
  go_wp2
  go_region
  all_goals go_wp2
  all_goals refine bodyPost_ret (results_cell_row rfl _ _ w.heap.size 61 #[.int .i64 v0, .string v1, .int .i64 v2, .int .i64 v3, .int .i64 v4, .int .i64 v5, .int .i64 v6] (0, 0) _ rfl (heap_alloc_new w _) Tryd.underlying61 rfl Tryd_sizeItem) rfl ⟨by rw [HV.out], (form1 w _).drew⟩
theorem apitem_any (hP : PrAt w p TA tc text DA dc data at_ dat mb sv) (n : Nat) (hn : n < (text ++ data).length) : Calls Tryd.prog 49 #[.pointer (some ⟨p, 0, none⟩), .int .i64 (n : Int)] w (ItemTo ((text ++ data)[n]) w) := by
  by_cases h : n < text.length
  · rw [List.getElem_append_left h]
    exact apitem_text w p TA tc text DA dc data at_ dat mb sv hP n h
  · rw [List.getElem_append_right (by omega)]
    exact apitem_data w p TA tc text DA dc data at_ dat mb sv hP n (by omega) (by rw [List.length_append] at hn; omega)
end
end Go.Proofs
