/- patinalaw10.RtHeap: the blocks that came in, and what the walk keeps. -/
import Derived.Test.YtlhenglopnipaaaGreatDoorRtHv
import Derived.Test.YtlhenglopnipaaaGreatDoorRtDg
import Derived.Test.YtlhenglopnipaaaGreatDoorRtRoom
namespace Go.Pat
open Go Go.RowKit Go.Proofs
structure Bk where
  w : Int
  f : Bool
  b : Int
def Bk.cells (x : Bk) : List Value := [.int .i64 x.w, .bool x.f, .int .i64 x.b]
def bkcells : List Bk → List Value
  | [] => []
  | x :: l => x.cells ++ bkcells l
theorem bkcells_length : ∀ l : List Bk, (bkcells l).length = l.length * 3
  | [] => rfl
  | x :: l => by rw [bkcells, List.length_append, bkcells_length l, List.length_cons]; show 3 + _ = _; omega
theorem bkcells_get (l : List Bk) (i : Nat) (hi : i < l.length) (j : Nat) (hj : j < 3) : (bkcells l)[i * 3 + j]? = (l[i].cells)[j]? := by
  induction l generalizing i with
  | nil => simp at hi
  | cons x r ih =>
    have hx : x.cells.length = 3 := rfl
    cases i with
    | zero =>
      rw [Nat.zero_mul, Nat.zero_add, bkcells, List.getElem?_append_left (by omega)]
      rfl
    | succ i =>
      rw [bkcells, List.getElem?_append_right (by omega), show (i + 1) * 3 + j - x.cells.length = i * 3 + j by omega]
      exact ih i (by simpa using hi)
theorem bk_at {B : Nat} {w : World} {A : Option Addr} {l : List Bk} (h : Cs B w A (bkcells l)) (k : Nat) (hk : k < l.length) :
    ∃ b o, A = some ⟨b, o, none⟩ ∧ b < B ∧ w.cell? ⟨b, o + k * 3, none⟩ = some (.int .i64 l[k].w) ∧ w.cell? ⟨b, o + k * 3 + 1, none⟩ = some (.bool l[k].f) ∧ w.cell? ⟨b, o + k * 3 + 2, none⟩ = some (.int .i64 l[k].b) := by
  have hl := bkcells_length l
  have gt : ∀ j, j < 3 → ∃ b o, A = some ⟨b, o, none⟩ ∧ b < B ∧ w.cell? ⟨b, o + (k * 3 + j), none⟩ = (l[k].cells)[j]? := fun j hj => by
    obtain ⟨b, o, e, hb, hx⟩ := h (k * 3 + j) (by omega)
    exact ⟨b, o, e, hb, by rw [hx, ← List.getElem?_eq_getElem, bkcells_get l k hk j hj]⟩
  obtain ⟨b, o, e, hb, h0⟩ := gt 0 (by decide)
  obtain ⟨b1, o1, e1, _, h1⟩ := gt 1 (by decide)
  obtain ⟨b2, o2, e2, _, h2⟩ := gt 2 (by decide)
  rw [e] at e1 e2
  cases e1
  cases e2
  exact ⟨b, o, e, hb, h0, h1, h2⟩
/-- how many words a block has, and which block is given back ahead of it. -/
def WL (l : List Bk) (k : Nat) : Nat := match l[k]? with
  | none => 0
  | some x => if 0 ≤ x.w ∧ x.w ≤ 64 then x.w.toNat else 0
def kbX (x : Bk) (i : Nat) (fr : Nat → Bool) : Option Nat := if (x.f = true ∧ 0 ≤ x.b) ∧ (x.b < (i : Int) ∧ fr x.b.toNat = false) then some x.b.toNat else none
def kbL (l : List Bk) (i : Nat) (fr : Nat → Bool) : Option Nat := match l[i]? with
  | none => none
  | some x => kbX x i fr
theorem WL_le (l : List Bk) (k : Nat) : WL l k ≤ 64 := by
  unfold WL
  split
  · decide
  · split <;> omega
theorem WL_at (l : List Bk) (k : Nat) (hk : k < l.length) (h : 0 ≤ l[k].w ∧ l[k].w ≤ 64) : (WL l k : Int) = l[k].w := by
  unfold WL
  rw [List.getElem?_eq_getElem hk]
  show ((if 0 ≤ l[k].w ∧ l[k].w ≤ 64 then l[k].w.toNat else 0 : Nat) : Int) = _
  rw [if_pos h]
  omega
theorem kbL_at (l : List Bk) (k : Nat) (hk : k < l.length) (fr : Nat → Bool) : kbL l k fr = kbX l[k] k fr := by
  unfold kbL
  rw [List.getElem?_eq_getElem hk]
theorem kbL_ok (l : List Bk) (i : Nat) (f : Nat → Bool) (k : Nat) (h : kbL l i f = some k) : k < i ∧ f k = false := by
  unfold kbL at h
  split at h
  · cases h
  · unfold kbX at h
    split at h
    · rename_i hc
      obtain rfl := Option.some.inj h
      exact ⟨by omega, hc.2.2⟩
    · cases h
/-- so many words and so many flags as cells. -/
def wA (n : Nat) (W : Nat → Nat) : Array Value := ((List.range n).map fun k => Value.int .i64 (W k : Nat)).toArray
def fA (n : Nat) (F : Nat → Bool) : Array Value := ((List.range n).map fun k => Value.bool (F k)).toArray
theorem wA_get (n : Nat) (W : Nat → Nat) (k : Nat) (hk : k < n) : (wA n W)[k]? = some (.int .i64 (W k : Nat)) := by simp [wA, hk]
theorem fA_get (n : Nat) (F : Nat → Bool) (k : Nat) (hk : k < n) : (fA n F)[k]? = some (.bool (F k)) := by simp [fA, hk]
theorem range_set {α : Type} (n : Nat) (f : Nat → α) (k : Nat) (x : α) : ((List.range n).map f).set k x = (List.range n).map fun y => if y = k then x else f y := by
  refine List.ext_getElem (by simp) fun i h1 h2 => ?_
  rw [List.getElem_set, List.getElem_map, List.getElem_map, List.getElem_range]
  by_cases e : k = i
  · rw [if_pos e, if_pos e.symm]
  · rw [if_neg e, if_neg (fun c => e c.symm)]
theorem wA_set (n : Nat) (W : Nat → Nat) (k x : Nat) : (wA n W).setIfInBounds k (.int .i64 (x : Nat)) = wA n (fun y => if y = k then x else W y) := by
  unfold wA
  rw [List.setIfInBounds_toArray, range_set]
  congr 2
  funext y
  by_cases e : y = k
  · simp [e]
  · simp [e]
theorem fA_set (n : Nat) (F : Nat → Bool) (k : Nat) : (fA n F).setIfInBounds k (.bool true) = fA n (fun y => if y = k then true else F y) := by
  unfold fA
  rw [List.setIfInBounds_toArray, range_set]
  congr 2
  funext y
  by_cases e : y = k
  · simp [e]
  · simp [e]
theorem wA_zero (n : Nat) : (madeCells (Value.int IntKind.i64 0).cells (n * 1)) = wA n (fun _ => 0) := by
  unfold wA
  rw [Nat.mul_one]
  refine Array.ext (by simp [madeCells]) fun i h1 h2 => by simp [madeCells, Value.cells, Nat.mod_one]
theorem fA_zero (n : Nat) : (madeCells (Value.bool false).cells (n * 1)) = fA n (fun _ => false) := by
  unfold fA
  rw [Nat.mul_one]
  refine Array.ext (by simp [madeCells]) fun i h1 h2 => by simp [madeCells, Value.cells, Nat.mod_one]
theorem chkO_len (i : Nat) : ∀ c, (chkO i c).length ≤ 22 * c
  | 0 => Nat.le_refl _
  | c + 1 => by
    have h1 := chkO_len i c
    have h2 := decB_len (1000 * i + 7 * c + 1)
    simp only [chkO, List.length_append, List.length_cons, List.length_nil]
    omega
theorem chksO_len (l : List Bk) (fr : Nat → Bool) : ∀ i, (chksO (WL l) fr i).length ≤ 222 * i
  | 0 => Nat.le_refl _
  | i + 1 => by
    have h1 := chksO_len l fr i
    have h3 := WL_le l i
    have h2 : (cbO (WL l) i (fr i)).length ≤ 222 := by
      cases fr i with
      | true => exact Nat.zero_le _
      | false =>
        have h4 := chkO_len i ((WL l i + 6) / 7)
        simp only [cbO, List.length_append, List.length_cons, List.length_nil]
        omega
    rw [chksO, List.length_append]
    omega
end Go.Pat
namespace Go.Proofs
open Go Go.RowKit Go.Pat
/-- what the walk of RtHeap keeps: the items, the words, the flags. -/
structure HpW (w : World) (B bw bf n : Nat) (wr : World) (v : Value) (it : List It) (W : Nat → Nat) (F : Nat → Bool) : Prop where
  own : OwnT wr B v it
  low : Below w.heap.size w wr
  siz : B ≤ wr.heap.size
  hbw : w.heap.size ≤ bw
  hlt : bw < bf
  hbf : bf < B
  wds : wr.heap[bw]? = some (.cells (wA n W) 3 (0, 0))
  frs : wr.heap[bf]? = some (.cells (fA n F) 4 (0, 0))
section
variable {w wr w2 : World} {B bw bf n : Nat} {v v2 : Value} {it it2 : List It} {W : Nat → Nat} {F : Nat → Bool}
theorem HpW.word (h : HpW w B bw bf n wr v it W F) (k : Nat) (hk : k < n) : wr.cell? ⟨bw, k, none⟩ = some (.int .i64 (W k : Nat)) := by
  rw [cell_of_row _ _ k _ _ _ h.wds, wA_get n W k hk]
theorem HpW.flag (h : HpW w B bw bf n wr v it W F) (k : Nat) (hk : k < n) : wr.cell? ⟨bf, k, none⟩ = some (.bool (F k)) := by
  rw [cell_of_row _ _ k _ _ _ h.frs, fA_get n F k hk]
theorem HpW.soft (h : HpW w B bw bf n wr v it W F) (k : Nat) : wr.frozen? ⟨bw, k, none⟩ = false ∧ wr.frozen? ⟨bf, k, none⟩ = false := ⟨frozen_of_row _ _ k _ _ h.wds, frozen_of_row _ _ k _ _ h.frs⟩
theorem HpW.lt (h : HpW w B bw bf n wr v it W F) : bw < wr.heap.size ∧ bf < wr.heap.size := by
  have h1 := h.siz
  have h2 := h.hbf
  have h3 := h.hlt
  exact ⟨by omega, by omega⟩
/-- worlds that grow. -/
theorem HpW.below (h : HpW w B bw bf n wr v it W F) (hB : Below wr.heap.size wr w2) : HpW w B bw bf n w2 v it W F :=
  ⟨h.own.below hB, h.low.trans (hB.mono h.low.size), Nat.le_trans h.siz hB.size, h.hbw, h.hlt, h.hbf, (hB.block _ h.lt.1).trans h.wds, (hB.block _ h.lt.2).trans h.frs⟩
/-- more items. -/
theorem HpW.app (h : HpW w B bw bf n wr v it W F) {it2 : List It} {m : Nat} (hm : m = it2.length) (h1 : w2.ownsRow B 28 7 v2 m (tcells it2)) (hg : wr.grownBy w2 v.ownBlock) : HpW w B bw bf n w2 v2 it2 W F := by
  subst hm
  have hB : Below B wr w2 := (Below.refl B wr).grown hg h.siz (fun q hq => (h.own.lt q hq).1)
  have h3 := h.hlt
  have h4 := h.hbf
  have h5 := h.hbw
  exact ⟨h1, h.low.trans (hB.mono (by omega)), Nat.le_trans h.siz hg.size, h.hbw, h.hlt, h.hbf, (hB.block _ (by omega)).trans h.wds, (hB.block _ h4).trans h.frs⟩
theorem HpW.setw (h : HpW w B bw bf n wr v it W F) (k x : Nat) : HpW w B bw bf n (wr.setCell ⟨bw, k, none⟩ (.int .i64 (x : Nat))) v it (fun y => if y = k then x else W y) F := by
  have h3 := h.hlt
  have h4 := h.hbf
  refine ⟨h.own.keep fun g hg => heap_setCell_other _ _ _ _ ?_, h.low.setCell h.hbw _, by simp [World.setCell]; exact h.siz, h.hbw, h.hlt, h.hbf, ?_, ?_⟩
  · have := (h.own.block hg).1
    show g ≠ bw
    omega
  · rw [← wA_set]
    exact heap_setCell_same _ _ _ _ _ _ h.wds
  · rw [heap_setCell_other _ _ _ _ (show bf ≠ bw by omega)]
    exact h.frs
theorem HpW.setf (h : HpW w B bw bf n wr v it W F) (k : Nat) : HpW w B bw bf n (wr.setCell ⟨bf, k, none⟩ (.bool true)) v it W (fun y => if y = k then true else F y) := by
  have h3 := h.hlt
  have h4 := h.hbf
  have h5 := h.hbw
  refine ⟨h.own.keep fun g hg => heap_setCell_other _ _ _ _ ?_, h.low.setCell (by show w.heap.size ≤ bf; omega) _, by simp [World.setCell]; exact h.siz, h.hbw, h.hlt, h.hbf, ?_, ?_⟩
  · have := (h.own.block hg).1
    show g ≠ bf
    omega
  · rw [heap_setCell_other _ _ _ _ (show bw ≠ bf by omega)]
    exact h.wds
  · rw [← fA_set]
    exact heap_setCell_same _ _ _ _ _ _ h.frs
end
/-- a run of the heap's main. -/
theorem ran_heap (l : List Bk) (hn : l.length ≤ 40) (inp : List UInt8) :
    Asmd (hpL (WL l) (kbL l) l.length) (hpC (WL l) (kbL l) l.length) ∧
    ∀ fs : List Fr, fs.map Fr.pg = loadT (img3 (insB (allC (hpC (WL l) (kbL l) l.length)))) 3 → lens fs → (runM 30000000 ⟨c0, fs, inp⟩).2.c.halted = true ∧ (runM 30000000 ⟨c0, fs, inp⟩).2.c.code = 0 ∧ (runM 30000000 ⟨c0, fs, inp⟩).2.c.fault = 0 ∧ (runM 30000000 ⟨c0, fs, inp⟩).2.c.out = [48, 10] ++ chksO (WL l) (frF (kbL l) l.length) l.length := by
  have hA := heap_asmd (WL_le l) (kbL_ok l) l.length hn
  exact ⟨hA, fun fs hfs hlen => main_run hA (heap_body (WL_le l) (kbL_ok l) l.length hn inp (Nat.le_trans (hpC_len (WL_le l) l.length hn) (by decide))) hfs hlen 30000000 (by decide)⟩
end Go.Proofs
