/- Numbers as bytes: elf.put, elf.get, patinaref04.number, patinaref04.read. -/
import Derived.Test.YtemngapfnkokiaaDoorMemBase
import Derived.Test.YtemngapfnkokiaaDoorMemTop
import Derived.Laws.CopyOwn
namespace Go.Pat
open Go Go.RowKit

/-- a number's n lowest bytes. -/
def le (n v : Nat) : List UInt8 := (List.range n).map fun i => UInt8.ofNat (v / 256 ^ i)
theorem le_length (n v : Nat) : (le n v).length = n := by simp [le]
theorem le_succ (n v : Nat) : le (n + 1) v = le n v ++ [UInt8.ofNat (v / 256 ^ n)] := by simp [le, List.range_succ]
/-- a number out of its bytes. -/
def num (l : List UInt8) (at_ : Nat) : Nat → Nat
  | 0 => 0
  | k + 1 => num l at_ k + (l.getD (at_ + k) 0).toNat * 256 ^ k
theorem num_lt (l : List UInt8) (at_ k : Nat) : num l at_ k < 256 ^ k := by
  induction k with
  | zero => simp [num]
  | succ k ih =>
    have := UInt8.toNat_lt (l.getD (at_ + k) 0)
    have h2 : (l.getD (at_ + k) 0).toNat * 256 ^ k ≤ 255 * 256 ^ k := Nat.mul_le_mul_right _ (by omega)
    simp only [num, Nat.pow_succ]
    omega

theorem splice_nil {α : Type} (l : List α) (a : Nat) : splice l a [] = l := by simp [splice]
theorem splice_get {α : Type} (l : List α) (a : Nat) (xs : List α) (h : a + xs.length ≤ l.length) (i : Nat) : (splice l a xs)[i]? = if a ≤ i ∧ i < a + xs.length then xs[i - a]? else l[i]? := by
  unfold splice
  by_cases h1 : i < a
  · rw [if_neg (by omega), List.getElem?_append_left (by simp; omega), List.getElem?_take, if_pos h1]
  · rw [List.getElem?_append_right (by simp; omega)]
    simp only [List.length_take, Nat.min_eq_left (show a ≤ l.length by omega)]
    by_cases h2 : i < a + xs.length
    · rw [if_pos (by omega), List.getElem?_append_left (by omega)]
    · rw [if_neg (by omega), List.getElem?_append_right (by omega), List.getElem?_drop]
      congr 1
      omega
theorem splice_splice {α : Type} (l : List α) (a : Nat) (xs ys : List α) (h : a + xs.length + ys.length ≤ l.length) : splice (splice l a xs) (a + xs.length) ys = splice l a (xs ++ ys) := by
  have h1 : (splice l a xs).length = l.length := length_splice _ _ _ (by omega)
  apply List.ext_getElem?
  intro i
  rw [splice_get _ _ _ (by rw [h1]; omega), splice_get _ _ _ (by omega), splice_get _ _ _ (by simp; omega)]
  simp only [List.length_append]
  by_cases c1 : a ≤ i ∧ i < a + (xs.length + ys.length)
  · rw [if_pos c1]
    by_cases c2 : a + xs.length ≤ i
    · rw [if_pos (by omega), List.getElem?_append_right (by omega)]
      congr 1
      omega
    · rw [if_neg (by omega), if_pos (by omega), List.getElem?_append_left (by omega)]
  · rw [if_neg c1, if_neg (by omega), if_neg (by omega)]
theorem splice_set {α : Type} (l : List α) (a : Nat) (x : α) (h : a < l.length) : splice l a [x] = l.set a x := by
  apply List.ext_getElem?
  intro i
  rw [splice_get _ _ _ (by simp; omega), List.getElem?_set]
  simp only [List.length_singleton]
  by_cases c : a = i
  · subst c; rw [if_pos (by omega), if_pos rfl, if_pos h]; simp
  · rw [if_neg (by omega), if_neg c]

/-- a block of bytes. -/
def Buf (w : World) (g : Nat) (l : List UInt8) : Prop := w.heap[g]? = some (.cells (bcells l).toArray 5 (0, 0))
theorem Buf.lt {w : World} {g : Nat} {l : List UInt8} (h : Buf w g l) : g < w.heap.size := lt_of_block h
theorem Buf.cell {w : World} {g : Nat} {l : List UInt8} (h : Buf w g l) (i : Nat) (hi : i < l.length) : w.cell? ⟨g, i, none⟩ = some (.int .u8 ((l[i]).toNat : Int)) := by
  unfold Buf at h
  simp [World.cell?, h, bcells, hi, bval]
theorem Buf.frozen {w : World} {g : Nat} {l : List UInt8} (h : Buf w g l) (i : Nat) : w.frozen? ⟨g, i, none⟩ = false := by
  unfold Buf at h
  simp [World.frozen?, h]
theorem Buf.keep {w w' : World} {g : Nat} {l : List UInt8} (h : Buf w g l) (hk : w'.heap[g]? = w.heap[g]?) : Buf w' g l := by unfold Buf; rw [hk]; exact h
theorem Buf.below {w w' : World} {g : Nat} {l : List UInt8} (h : Buf w g l) (hb : Below w.heap.size w w') : Buf w' g l := h.keep (hb.block g h.lt)
theorem Buf.set {w : World} {g : Nat} {l : List UInt8} (h : Buf w g l) (i : Nat) (c : UInt8) : Buf (w.setCell ⟨g, i, none⟩ (.int .u8 (c.toNat : Int))) g (l.set i c) := by
  unfold Buf at h ⊢
  simp only [World.setCell, Array.getElem?_modify, if_pos, h, Option.map_some]
  congr 2
  apply Array.ext'
  simp [bcells, bval, List.map_set]
theorem Buf.bs {w : World} {g B : Nat} {l : List UInt8} (h : Buf w g l) (hB : g < B) : Bs B w (some ⟨g, 0, none⟩) l := fun i hi => by
  have hi' : i < l.length := by simpa [bcells] using hi
  exact ⟨g, 0, rfl, hB, by rw [Nat.zero_add, h.cell i hi']; simp [bcells, bval]⟩
theorem bcells_splice (l : List UInt8) (a : Nat) (xs : List UInt8) : splice (bcells l) a (bcells xs) = bcells (splice l a xs) := by
  simp [splice, bcells, List.map_take, List.map_drop]
end Go.Pat
namespace Go.Proofs
open Go Go.RowKit Go.Pat

end Go.Proofs
