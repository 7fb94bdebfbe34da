/- Numbers as bytes: elf.put, elf.get, patinaref04.number, patinaref04.read. -/
import Derived.Test.YtkgnodlhdilmoaaMemBase
import Derived.Test.YtkgnodlhdilmoaaMemTop
import Derived.Laws.CopyOwn
namespace Go.Pat
open Go Go.RowKit

/-- a number's n lowest bytes. -/
def le (n v : Nat) : List UInt8 := (List.range n).map fun i => UInt8.ofNat (v / 256 ^ i)
theorem le_length (n v : Nat) : (le n v).length = n := by simp [le]
theorem le_succ (n v : Nat) : le (n + 1) v = le n v ++ [UInt8.ofNat (v / 256 ^ n)] := by simp [le, List.range_succ]
/-- a number out of its bytes. -/
def num (l : List UInt8) (at_ : Nat) : Nat → Nat
  | 0 => 0
  | k + 1 => num l at_ k + (l.getD (at_ + k) 0).toNat * 256 ^ k
theorem num_lt (l : List UInt8) (at_ k : Nat) : num l at_ k < 256 ^ k := by
  induction k with
  | zero => simp [num]
  | succ k ih =>
    have := UInt8.toNat_lt (l.getD (at_ + k) 0)
    have h2 : (l.getD (at_ + k) 0).toNat * 256 ^ k ≤ 255 * 256 ^ k := Nat.mul_le_mul_right _ (by omega)
    simp only [num, Nat.pow_succ]
    omega

theorem splice_nil {α : Type} (l : List α) (a : Nat) : splice l a [] = l := by simp [splice]
theorem splice_get {α : Type} (l : List α) (a : Nat) (xs : List α) (h : a + xs.length ≤ l.length) (i : Nat) : (splice l a xs)[i]? = if a ≤ i ∧ i < a + xs.length then xs[i - a]? else l[i]? := by
  unfold splice
  by_cases h1 : i < a
  · rw [if_neg (by omega), List.getElem?_append_left (by simp; omega), List.getElem?_take, if_pos h1]
  · rw [List.getElem?_append_right (by simp; omega)]
    simp only [List.length_take, Nat.min_eq_left (show a ≤ l.length by omega)]
    by_cases h2 : i < a + xs.length
    · rw [if_pos (by omega), List.getElem?_append_left (by omega)]
    · rw [if_neg (by omega), List.getElem?_append_right (by omega), List.getElem?_drop]
      congr 1
      omega
theorem splice_splice {α : Type} (l : List α) (a : Nat) (xs ys : List α) (h : a + xs.length + ys.length ≤ l.length) : splice (splice l a xs) (a + xs.length) ys = splice l a (xs ++ ys) := by
  have h1 : (splice l a xs).length = l.length := length_splice _ _ _ (by omega)
  apply List.ext_getElem?
  intro i
  rw [splice_get _ _ _ (by rw [h1]; omega), splice_get _ _ _ (by omega), splice_get _ _ _ (by simp; omega)]
  simp only [List.length_append]
  by_cases c1 : a ≤ i ∧ i < a + (xs.length + ys.length)
  · rw [if_pos c1]
    by_cases c2 : a + xs.length ≤ i
    · rw [if_pos (by omega), List.getElem?_append_right (by omega)]
      congr 1
      omega
    · rw [if_neg (by omega), if_pos (by omega), List.getElem?_append_left (by omega)]
  · rw [if_neg c1, if_neg (by omega), if_neg (by omega)]
theorem splice_set {α : Type} (l : List α) (a : Nat) (x : α) (h : a < l.length) : splice l a [x] = l.set a x := by
  apply List.ext_getElem?
  intro i
  rw [splice_get _ _ _ (by simp; omega), List.getElem?_set]
  simp only [List.length_singleton]
  by_cases c : a = i
  · subst c; rw [if_pos (by omega), if_pos rfl, if_pos h]; simp
  · rw [if_neg (by omega), if_neg c]

/-- a block of bytes. -/
def Buf (w : World) (g : Nat) (l : List UInt8) : Prop := w.heap[g]? = some (.cells (bcells l).toArray 5 (0, 0))
theorem Buf.lt {w : World} {g : Nat} {l : List UInt8} (h : Buf w g l) : g < w.heap.size := lt_of_block h
theorem Buf.cell {w : World} {g : Nat} {l : List UInt8} (h : Buf w g l) (i : Nat) (hi : i < l.length) : w.cell? ⟨g, i, none⟩ = some (.int .u8 ((l[i]).toNat : Int)) := by
  unfold Buf at h
  simp [World.cell?, h, bcells, hi, bval]
theorem Buf.frozen {w : World} {g : Nat} {l : List UInt8} (h : Buf w g l) (i : Nat) : w.frozen? ⟨g, i, none⟩ = false := by
  unfold Buf at h
  simp [World.frozen?, h]
theorem Buf.keep {w w' : World} {g : Nat} {l : List UInt8} (h : Buf w g l) (hk : w'.heap[g]? = w.heap[g]?) : Buf w' g l := by unfold Buf; rw [hk]; exact h
theorem Buf.below {w w' : World} {g : Nat} {l : List UInt8} (h : Buf w g l) (hb : Below w.heap.size w w') : Buf w' g l := h.keep (hb.block g h.lt)
theorem Buf.set {w : World} {g : Nat} {l : List UInt8} (h : Buf w g l) (i : Nat) (c : UInt8) : Buf (w.setCell ⟨g, i, none⟩ (.int .u8 (c.toNat : Int))) g (l.set i c) := by
  unfold Buf at h ⊢
  simp only [World.setCell, Array.getElem?_modify, if_pos, h, Option.map_some]
  congr 2
  apply Array.ext'
  simp [bcells, bval, List.map_set]
theorem Buf.bs {w : World} {g B : Nat} {l : List UInt8} (h : Buf w g l) (hB : g < B) : Bs B w (some ⟨g, 0, none⟩) l := fun i hi => by
  have hi' : i < l.length := by simpa [bcells] using hi
  exact ⟨g, 0, rfl, hB, by rw [Nat.zero_add, h.cell i hi']; simp [bcells, bval]⟩
theorem bcells_splice (l : List UInt8) (a : Nat) (xs : List UInt8) : splice (bcells l) a (bcells xs) = bcells (splice l a xs) := by
  simp [splice, bcells, List.map_take, List.map_drop]
end Go.Pat
namespace Go.Proofs
open Go Go.RowKit Go.Pat

set_option maxHeartbeats 1000000 in
theorem eputI_any (w : World) (g n len cap at_ v : Nat) (l : List UInt8) (hB : Buf w g l) (hl : l.length = len) (hat : at_ + n ≤ len) (hlen : len ≤ 140737488355328) (hn : n ≤ 8) (hv : v ≤ 9223372036854775807) :
    Calls Try.prog 88 #[.slice (some ⟨g, 0, none⟩) len cap, .int .i64 at_, .int .i64 n, .int .i64 v] w fun e w' => e = .returned (.tuple #[]) ∧ Buf w' g (splice l at_ (le n v)) ∧ KeptBut (fun b => b = g) w w' := by
  go_enter Try.func88, Try.ntmps88
  go_wp2
  go_loopw [10] (fun i wr => ∃ j : Nat, j ≤ n ∧ i = .int .i64 j ∧ Buf wr g (splice l at_ (le j v)) ∧ KeptBut (fun b => b = g) w wr) (fun i _ => n - (intOf i).toNat)
  case atStart => exact ⟨0, by omega, rfl, by rw [show le 0 v = [] from rfl, splice_nil]; exact hB, .refl _ _⟩
  case round =>
    obtain ⟨j, hj, rfl, hBj, hK⟩ := hrel
    by_cases hlt : j < n
    · have hd3 : decide ((j : Int) < (n : Int)) = true := by simp; omega
      have hsl : (splice l at_ (le j v)).length = len := by rw [length_splice _ _ _ (by rw [le_length]; omega), hl]
      obtain ⟨cx, hcl⟩ : ∃ cx, wr.cell? ⟨g, at_ + j, none⟩ = some cx := ⟨_, hBj.cell (at_ + j) (by omega)⟩
      have hfz := hBj.frozen (at_ + j)
      have hv2 : (v : Int) / 2 ^ (8 * j) % 256 = ((UInt8.ofNat (v / 256 ^ j)).toNat : Int) := by rw [UInt8.toNat_ofNat', pow_256, Int.natCast_emod, Int.natCast_ediv, Int.natCast_pow]; rfl
      have hst : splice l at_ (le (j + 1) v) = (splice l at_ (le j v)).set (at_ + j) (UInt8.ofNat (v / 256 ^ j)) := by
        rw [← splice_set _ _ _ (by omega), le_succ, ← splice_splice _ _ _ _ (by rw [le_length, List.length_singleton]; omega), le_length]
      have HV := Lib.hid (And.intro hv2 hst)
      clear hv2 hst
      go_wp2
      go_roundw
      case rel =>
        refine ⟨j + 1, by omega, by go_num, ?_, ?_⟩
        · rw [HV.out.2, HV.out.1]
          exact hBj.set _ _
        · exact hK.setCell _ rfl _
      case measure => simp [intOf]; omega
    · have hd3 : decide ((j : Int) < (n : Int)) = false := by simp; omega
      obtain rfl : j = n := by omega
      go_wp2
      go_end0
      exact ⟨rfl, hBj, hK⟩

set_option maxHeartbeats 1000000 in
theorem eputU_any (w : World) (g n len cap at_ v : Nat) (l : List UInt8) (hB : Buf w g l) (hl : l.length = len) (hat : at_ + n ≤ len) (hlen : len ≤ 140737488355328) (hn : n ≤ 8) (hv : v ≤ 18446744073709551615) :
    Calls Try.prog 89 #[.slice (some ⟨g, 0, none⟩) len cap, .int .i64 at_, .int .i64 n, .int .u64 v] w fun e w' => e = .returned (.tuple #[]) ∧ Buf w' g (splice l at_ (le n v)) ∧ KeptBut (fun b => b = g) w w' := by
  go_enter Try.func89, Try.ntmps89
  go_wp2
  go_loopw [10] (fun i wr => ∃ j : Nat, j ≤ n ∧ i = .int .i64 j ∧ Buf wr g (splice l at_ (le j v)) ∧ KeptBut (fun b => b = g) w wr) (fun i _ => n - (intOf i).toNat)
  case atStart => exact ⟨0, by omega, rfl, by rw [show le 0 v = [] from rfl, splice_nil]; exact hB, .refl _ _⟩
  case round =>
    obtain ⟨j, hj, rfl, hBj, hK⟩ := hrel
    by_cases hlt : j < n
    · have hd3 : decide ((j : Int) < (n : Int)) = true := by simp; omega
      have hsl : (splice l at_ (le j v)).length = len := by rw [length_splice _ _ _ (by rw [le_length]; omega), hl]
      obtain ⟨cx, hcl⟩ : ∃ cx, wr.cell? ⟨g, at_ + j, none⟩ = some cx := ⟨_, hBj.cell (at_ + j) (by omega)⟩
      have hfz := hBj.frozen (at_ + j)
      have hv2 : (v : Int) / 2 ^ (8 * j) % 256 = ((UInt8.ofNat (v / 256 ^ j)).toNat : Int) := by rw [UInt8.toNat_ofNat', pow_256, Int.natCast_emod, Int.natCast_ediv, Int.natCast_pow]; rfl
      have hst : splice l at_ (le (j + 1) v) = (splice l at_ (le j v)).set (at_ + j) (UInt8.ofNat (v / 256 ^ j)) := by
        rw [← splice_set _ _ _ (by omega), le_succ, ← splice_splice _ _ _ _ (by rw [le_length, List.length_singleton]; omega), le_length]
      have HV := Lib.hid (And.intro hv2 hst)
      clear hv2 hst
      go_wp2
      go_roundw
      case rel =>
        refine ⟨j + 1, by omega, by go_num, ?_, ?_⟩
        · rw [HV.out.2, HV.out.1]
          exact hBj.set _ _
        · exact hK.setCell _ rfl _
      case measure => simp [intOf]; omega
    · have hd3 : decide ((j : Int) < (n : Int)) = false := by simp; omega
      obtain rfl : j = n := by omega
      go_wp2
      go_end0
      exact ⟨rfl, hBj, hK⟩

set_option maxHeartbeats 1000000 in
theorem eputH_any (w : World) (g n len cap at_ v : Nat) (l : List UInt8) (hB : Buf w g l) (hl : l.length = len) (hat : at_ + n ≤ len) (hlen : len ≤ 140737488355328) (hn : n ≤ 8) (hv : v ≤ 65535) :
    Calls Try.prog 90 #[.slice (some ⟨g, 0, none⟩) len cap, .int .i64 at_, .int .i64 n, .int .u16 v] w fun e w' => e = .returned (.tuple #[]) ∧ Buf w' g (splice l at_ (le n v)) ∧ KeptBut (fun b => b = g) w w' := by
  go_enter Try.func90, Try.ntmps90
  go_wp2
  go_loopw [10] (fun i wr => ∃ j : Nat, j ≤ n ∧ i = .int .i64 j ∧ Buf wr g (splice l at_ (le j v)) ∧ KeptBut (fun b => b = g) w wr) (fun i _ => n - (intOf i).toNat)
  case atStart => exact ⟨0, by omega, rfl, by rw [show le 0 v = [] from rfl, splice_nil]; exact hB, .refl _ _⟩
  case round =>
    obtain ⟨j, hj, rfl, hBj, hK⟩ := hrel
    by_cases hlt : j < n
    · have hd3 : decide ((j : Int) < (n : Int)) = true := by simp; omega
      have hsl : (splice l at_ (le j v)).length = len := by rw [length_splice _ _ _ (by rw [le_length]; omega), hl]
      obtain ⟨cx, hcl⟩ : ∃ cx, wr.cell? ⟨g, at_ + j, none⟩ = some cx := ⟨_, hBj.cell (at_ + j) (by omega)⟩
      have hfz := hBj.frozen (at_ + j)
      have hv2 : (v : Int) / 2 ^ (8 * j) % 256 = ((UInt8.ofNat (v / 256 ^ j)).toNat : Int) := by rw [UInt8.toNat_ofNat', pow_256, Int.natCast_emod, Int.natCast_ediv, Int.natCast_pow]; rfl
      have hst : splice l at_ (le (j + 1) v) = (splice l at_ (le j v)).set (at_ + j) (UInt8.ofNat (v / 256 ^ j)) := by
        rw [← splice_set _ _ _ (by omega), le_succ, ← splice_splice _ _ _ _ (by rw [le_length, List.length_singleton]; omega), le_length]
      have HV := Lib.hid (And.intro hv2 hst)
      clear hv2 hst
      go_wp2
      go_roundw
      case rel =>
        refine ⟨j + 1, by omega, by go_num, ?_, ?_⟩
        · rw [HV.out.2, HV.out.1]
          exact hBj.set _ _
        · exact hK.setCell _ rfl _
      case measure => simp [intOf]; omega
    · have hd3 : decide ((j : Int) < (n : Int)) = false := by simp; omega
      obtain rfl : j = n := by omega
      go_wp2
      go_end0
      exact ⟨rfl, hBj, hK⟩
end Go.Proofs
