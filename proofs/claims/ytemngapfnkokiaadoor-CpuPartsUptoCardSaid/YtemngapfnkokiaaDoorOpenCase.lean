/- A case of patinalaw03, opened: a machine's state, pages, bytes, a number; its readings are small. -/
import Derived.Test.YtemngapfnkokiaaDoorRows
import Derived.Test.YtemngapfnkokiaaDoorOpen
import Derived.Test.YtemngapfnkokiaaDoorPartsB
import Derived.OpenShut
namespace Go.Proofs.YtemngapfnkokiaaDoor
open Go Go.RowKit Go.Pat Go.Joins Go.ChangeShapes Go.WideShapes Go.Deep
section
variable {H : Type} {enc : TypeId × Value → H} {w : World} {base : Nat} {spare : Nat → Bool} {held : Bool}
theorem list8 {α : Type} : ∀ {l : List α}, l.length = 8 → ∃ a b c d e f g h, l = [a, b, c, d, e, f, g, h]
  | [a, b, c, d, e, f, g, h], _ => ⟨a, b, c, d, e, f, g, h, rfl⟩
theorem list4 {α : Type} : ∀ {l : List α}, l.length = 4 → ∃ a b c d, l = [a, b, c, d]
  | [a, b, c, d], _ => ⟨a, b, c, d, rfl⟩
theorem bulk_pos (d : DataW H) : 1 ≤ Rows.uptoBulk d := by
  cases d with
  | lit l => cases l <;> simp [Rows.uptoBulk]
  | _ => simp [Rows.uptoBulk]
theorem bulk_len (l : List (DataW H)) : l.length ≤ Rows.uptoBulkAll l := by
  induction l with
  | nil => simp
  | cons d l ih =>
    have := bulk_pos d
    simp only [List.length_cons, Rows.uptoBulkAll]
    omega
theorem bulk_mem {l : List (DataW H)} {j : Nat} {d : DataW H} (h : l[j]? = some d) : Rows.uptoBulk d ≤ Rows.uptoBulkAll l := by
  induction l generalizing j with
  | nil => simp at h
  | cons a l ih =>
    simp only [Rows.uptoBulkAll]
    cases j with
    | zero => simp only [List.getElem?_cons_zero, Option.some.injEq] at h; subst h; omega
    | succ j => have := ih (j := j) (by simpa using h); omega
theorem bulk_agg (l : List (DataW H)) : Rows.uptoBulkAll l ≤ Rows.uptoBulk (DataW.agg l) := by simp [Rows.uptoBulk]
theorem bulk_bytes {fuel : Nat} {cs : List Value} {x : DataW H × List MemPlace} (h : DataW.trod enc Tryd.prog w base spare held fuel 42 cs = some x) {A : Option Addr} {n c : Nat} (hcs : cs = [.slice A n c]) : n ≤ Rows.uptoBulk x.1 := by
  rcases open_slice1 Tryd.underlying42 Tryd_cells8 h with ⟨h0, _⟩ | ⟨a, len, cap, m, k, V, D, Pl, h0, hb, hl, hm, hmm, rfl, hx⟩
  · rw [h0] at hcs
    simp only [List.cons.injEq, Value.slice.injEq, and_true] at hcs
    omega
  · rw [h0] at hcs
    simp only [List.cons.injEq, Value.slice.injEq, and_true] at hcs
    have h1 := bulk_len ((List.range len).map D)
    simp only [List.length_map, List.length_range] at h1
    simp only [Rows.uptoBulk]
    omega
theorem take_drop (l : List Value) (a k : Nat) : l.drop a = (l.drop a).take k ++ l.drop (a + k) := by
  have := (List.take_append_drop k (l.drop a)).symm
  rwa [List.drop_drop] at this
theorem natLit {n : Int} (h : (Lit.int .u64 n).wf = true) : ∃ k : Nat, n = (k : Int) ∧ k < 18446744073709551616 := by
  have hz : 0 ≤ n ∧ n ≤ 18446744073709551615 := by simp [Lit.wf] at h; exact h
  exact ⟨n.toNat, by omega, by omega⟩
theorem open_regs {fuel : Nat} {cs : List Value} {x : DataW H × List MemPlace} (h : DataW.trod enc Tryd.prog w base spare held fuel 74 cs = some x) :
    ∃ l : List Nat, cs = l.map rV ∧ l.length = 32 ∧ ∀ i, l.getD i 0 < 18446744073709551616 := by
  obtain ⟨xs, m, _, rfl, hl, hn, hel⟩ := DataW.trod_array Tryd.underlying74 h
  have e1 : Tryd.prog.cellsOf 30 = 1 := by kernel_rfl
  have e2 : Tryd.prog.cellsOf 74 = 32 := by kernel_rfl
  rw [e2] at hl
  have hV : ∀ i, i < 32 → ∃ k : Nat, cs[i]? = some (rV k) ∧ k < 18446744073709551616 := fun i hi => by
    have h1 := hel i hi
    rw [e1, Nat.mul_one, List.getElem?_eq_getElem (by omega)] at h1
    obtain ⟨n, h2, _, h3⟩ := DataW.trod_int Tryd.underlying30 h1
    obtain ⟨k, rfl, hk⟩ := natLit h3
    have h4 := congrArg (fun x => x[0]?) h2
    simp only [List.getElem?_take, List.getElem?_drop, List.getElem?_cons_zero] at h4
    rw [if_pos (by omega), Nat.add_zero] at h4
    exact ⟨k, h4, hk⟩
  obtain ⟨f, hf⟩ := choose_lt hV
  refine ⟨(List.range 32).map f, ?_, by simp, fun i => ?_⟩
  · apply List.ext_getElem?
    intro i
    by_cases hi : i < 32
    · rw [(hf i hi).1]
      simp [hi]
    · rw [List.getElem?_eq_none (by omega), List.getElem?_eq_none (by simp; omega)]
  · rw [List.getD_eq_getElem?_getD]
    by_cases hi : i < 32
    · simp [hi, (hf i hi).2]
    · rw [List.getElem?_eq_none (by simp; omega)]
      decide
theorem c_names : Tryd.prog.cellsOf 30 = 1 ∧ Tryd.prog.cellsOf 74 = 32 ∧ Tryd.prog.cellsOf 3 = 1 ∧ Tryd.prog.cellsOf 4 = 1 ∧ Tryd.prog.cellsOf 23 = 1 ∧ Tryd.prog.cellsOf 42 = 1 ∧ Tryd.prog.cellsOf 76 = 39 ∧ Tryd.prog.cellsOf 78 = 1 ∧ Tryd.prog.cellsOf 83 = 42 :=
  ⟨by kernel_rfl, by kernel_rfl, by kernel_rfl, by kernel_rfl, by kernel_rfl, by kernel_rfl, by kernel_rfl, by kernel_rfl, by kernel_rfl⟩
/-- a state, opened. -/
theorem open_cpu {fuel : Nat} {cs : List Value} {x : DataW H × List MemPlace} (h : DataW.trod enc Tryd.prog w base spare held fuel 76 cs = some x) (hs : ∀ n ∈ x.1.weights Tryd.prog 76, n ≤ reachBytes) :
    ∃ (c : Mc) (A : Option Addr) (k : Nat), cs = c.cells (.slice A c.out.length k) ∧ c.regs.length = 32 ∧ (∀ i, c.reg i < 18446744073709551616) ∧ c.pc < 18446744073709551616 ∧ Bs w.heap.size w A c.out ∧ c.out.length ≤ 140737488351232 ∧ c.out.length ≤ Rows.uptoBulk x.1 := by
  obtain ⟨xs, m, _, rfl, hl, hn, hf⟩ := DataW.trod_struct Tryd.underlying76 h
  obtain ⟨e1, e2, e3, e4, e5, e6, e7, -, -⟩ := c_names
  rw [e7] at hl
  obtain ⟨y0, y1, y2, y3, y4, y5, y6, y7, rfl⟩ := list8 (show xs.length = 8 from hn)
  have g0 : DataW.trod enc Tryd.prog w base spare held m 30 ((cs.drop 0).take (Tryd.prog.cellsOf 30)) = some y0 := hf 0 _ rfl
  have g1 : DataW.trod enc Tryd.prog w base spare held m 74 ((cs.drop 1).take (Tryd.prog.cellsOf 74)) = some y1 := hf 1 _ rfl
  have g2 : DataW.trod enc Tryd.prog w base spare held m 3 ((cs.drop 33).take (Tryd.prog.cellsOf 3)) = some y2 := hf 2 _ rfl
  have g3 : DataW.trod enc Tryd.prog w base spare held m 4 ((cs.drop 34).take (Tryd.prog.cellsOf 4)) = some y3 := hf 3 _ rfl
  have g4 : DataW.trod enc Tryd.prog w base spare held m 3 ((cs.drop 35).take (Tryd.prog.cellsOf 3)) = some y4 := hf 4 _ rfl
  have g5 : DataW.trod enc Tryd.prog w base spare held m 23 ((cs.drop 36).take (Tryd.prog.cellsOf 23)) = some y5 := hf 5 _ rfl
  have g6 : DataW.trod enc Tryd.prog w base spare held m 42 ((cs.drop 37).take (Tryd.prog.cellsOf 42)) = some y6 := hf 6 _ rfl
  have g7 : DataW.trod enc Tryd.prog w base spare held m 3 ((cs.drop 38).take (Tryd.prog.cellsOf 3)) = some y7 := hf 7 _ rfl
  rw [e1] at g0
  rw [e2] at g1
  rw [e3] at g2 g4 g7
  rw [e4] at g3
  rw [e5] at g5
  rw [e6] at g6
  obtain ⟨z0, h0, _, k0⟩ := DataW.trod_int Tryd.underlying30 g0
  obtain ⟨R, h1, hR, hRs⟩ := open_regs g1
  obtain ⟨z2, h2, _, _⟩ := DataW.trod_int Tryd.underlying3 g2
  obtain ⟨z3, h3, _⟩ := DataW.trod_bool Tryd.underlying4 g3
  obtain ⟨z4, h4, _, _⟩ := DataW.trod_int Tryd.underlying3 g4
  obtain ⟨z5, h5, _, _⟩ := DataW.trod_int Tryd.underlying23 g5
  obtain ⟨A, k, l, h6, hB, hlen⟩ := open_bytes g6 (agg_weights Tryd.underlying76 hs 6 rfl rfl)
  obtain ⟨z7, h7, _, _⟩ := DataW.trod_int Tryd.underlying3 g7
  have hb := bulk_bytes g6 h6
  obtain ⟨p, rfl, hp⟩ := natLit k0
  have hb6 : Rows.uptoBulk y6.1 ≤ Rows.uptoBulkAll ([y0, y1, y2, y3, y4, y5, y6, y7].map (·.1)) := bulk_mem (j := 6) rfl
  have hb7 := bulk_agg ([y0, y1, y2, y3, y4, y5, y6, y7].map (·.1))
  refine ⟨⟨p, R, z2, z3, z4, z5, l, z7⟩, A, k, ?_, hR, hRs, hp, hB, hlen, Nat.le_trans hb (Nat.le_trans hb6 hb7)⟩
  have s0 := take_drop cs 0 1
  have s1 := take_drop cs 1 32
  have s2 := take_drop cs 33 1
  have s3 := take_drop cs 34 1
  have s4 := take_drop cs 35 1
  have s5 := take_drop cs 36 1
  have s6 := take_drop cs 37 1
  have s7 := take_drop cs 38 1
  rw [h0] at s0
  rw [h1] at s1
  rw [h2] at s2
  rw [h3] at s3
  rw [h4] at s4
  rw [h5] at s5
  rw [h6] at s6
  have dn : cs.drop (38 + 1) = [] := List.drop_eq_nil_of_le (by omega)
  rw [h7, dn] at s7
  rw [← List.drop_zero (l := cs), s0, s1, s2, s3, s4, s5, s6, s7]
  simp [Mc.cells, Mc.tail, rV]
theorem open_case {fuel : Nat} {cs : List Value} {x : DataW H × List MemPlace} (h : DataW.trod enc Tryd.prog w base spare held fuel 83 cs = some x) (hs : ∀ n ∈ x.1.weights Tryd.prog 83, n ≤ reachBytes) :
    ∃ (c : Mc) (OA PA IA : Option Addr) (oc pc ic : Nat) (ps : List PgIn) (inp : List UInt8) (N : Int), cs = caseC c OA PA IA oc pc ic ps.length inp.length N ∧ c.regs.length = 32 ∧ (∀ i, c.reg i < 18446744073709551616) ∧ c.pc < 18446744073709551616 ∧
      Bs w.heap.size w OA c.out ∧ c.out.length ≤ 140737488351232 ∧ c.out.length ≤ Rows.uptoBulk x.1 ∧ PgsAt w.heap.size w PA ps ∧ Bs w.heap.size w IA inp ∧ inp.length ≤ 140737488351232 := by
  obtain ⟨xs, m, _, rfl, hl, hn, hf⟩ := DataW.trod_struct Tryd.underlying83 h
  obtain ⟨e1, e2, e3, e4, e5, e6, e7, e8, e9⟩ := c_names
  rw [e9] at hl
  obtain ⟨y0, y1, y2, y3, rfl⟩ := list4 (show xs.length = 4 from hn)
  have g0 : DataW.trod enc Tryd.prog w base spare held m 76 ((cs.drop 0).take (Tryd.prog.cellsOf 76)) = some y0 := hf 0 _ rfl
  have g1 : DataW.trod enc Tryd.prog w base spare held m 78 ((cs.drop 39).take (Tryd.prog.cellsOf 78)) = some y1 := hf 1 _ rfl
  have g2 : DataW.trod enc Tryd.prog w base spare held m 42 ((cs.drop 40).take (Tryd.prog.cellsOf 42)) = some y2 := hf 2 _ rfl
  have g3 : DataW.trod enc Tryd.prog w base spare held m 3 ((cs.drop 41).take (Tryd.prog.cellsOf 3)) = some y3 := hf 3 _ rfl
  rw [e7] at g0
  rw [e8] at g1
  rw [e6] at g2
  rw [e3] at g3
  obtain ⟨c, OA, oc, h0, hl0, hs0, hp0, hO, hol, hob⟩ := open_cpu g0 (agg_weights Tryd.underlying83 hs 0 rfl rfl)
  obtain ⟨PA, pc, ps, h1, hP⟩ := open_pages g1 (agg_weights Tryd.underlying83 hs 1 rfl rfl)
  obtain ⟨IA, ic, inp, h2, hI, hil⟩ := open_bytes g2 (agg_weights Tryd.underlying83 hs 2 rfl rfl)
  obtain ⟨N, h3, _, _⟩ := DataW.trod_int Tryd.underlying3 g3
  have hb6 : Rows.uptoBulk y0.1 ≤ Rows.uptoBulkAll ([y0, y1, y2, y3].map (·.1)) := bulk_mem (j := 0) rfl
  have hb7 := bulk_agg ([y0, y1, y2, y3].map (·.1))
  refine ⟨c, OA, PA, IA, oc, pc, ic, ps, inp, N, ?_, hl0, hs0, hp0, hO, hol, Nat.le_trans hob (Nat.le_trans hb6 hb7), hP, hI, hil⟩
  have s0 := take_drop cs 0 39
  have s1 := take_drop cs 39 1
  have s2 := take_drop cs 40 1
  have s3 := take_drop cs 41 1
  rw [h0] at s0
  rw [h1] at s1
  rw [h2] at s2
  have dn : cs.drop (41 + 1) = [] := List.drop_eq_nil_of_le (by omega)
  rw [h3, dn] at s3
  rw [← List.drop_zero (l := cs), s0, s1, s2, s3]
  simp [caseC]
end
end Go.Proofs.YtemngapfnkokiaaDoor
