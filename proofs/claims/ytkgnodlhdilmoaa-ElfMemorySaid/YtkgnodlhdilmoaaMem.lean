/- The memory of package mem as the model holds it: a block for the struct, a block for the map, a block for each page. -/
import Derived.Test.YtkgnodlhdilmoaaProg
import Derived.Test.YtkgnodlhdilmoaaHeap
namespace Go.Pat
open Go Go.RowKit
open Go.MapKept (IsKey)

theorem Try_und_map : Go.Proofs.Try.prog.underlying 103 = some (.map 23 102) := by kernel_rfl
theorem Try_und_u64 : Go.Proofs.Try.prog.underlying 23 = some (.int .u64) := by kernel_rfl
theorem Try_zero_frame (w : World) : (zeroValue 102).run Go.Proofs.Try.prog w = .ok (.agg #[.int .i64 0, .slice none 0 0]) w := by kernel_rfl

/-- a page as it is kept: where its bytes lie. -/
structure Fr where
  base : Nat
  perm : Int
  blk : Nat
  cap : Nat
  data : List UInt8

def Fr.val (f : Fr) : Value := .agg #[.int .i64 f.perm, .slice (some ⟨f.blk, 0, none⟩) 4096 f.cap]
def Fr.ent (f : Fr) (i : Nat) : MapEntry := { key := .int .u64 f.base, val := f.val, born := i }
def ents : Nat → List Fr → List MapEntry
  | _, [] => []
  | i, f :: fs => f.ent i :: ents (i + 1) fs

theorem ents_length (i : Nat) (fs : List Fr) : (ents i fs).length = fs.length := by
  induction fs generalizing i with
  | nil => rfl
  | cons f fs ih => simp [ents, ih]
theorem ents_append (i : Nat) (fs gs : List Fr) : ents i (fs ++ gs) = ents i fs ++ ents (i + fs.length) gs := by
  induction fs generalizing i with
  | nil => simp [ents]
  | cons f fs ih => simp [ents, ih, Nat.add_assoc, Nat.add_comm 1]

def frAt (fs : List Fr) (k : Nat) : Option Fr := fs.find? (fun f => f.base == k)

theorem findNow_ents (k : Nat) : ∀ (fs : List Fr) (j i : Nat), Instr.findNow (.int .u64) (.int .u64 k) (ents j fs) i =
    some ((fs.findIdx? (fun f => f.base == k)).bind fun n => (fs[n]?).map fun f => (i + n, f.val))
  | [], j, i => by simp [ents, Instr.findNow]
  | f :: fs, j, i => by
    have ih := findNow_ents k fs (j + 1) (i + 1)
    simp only [ents, Instr.findNow, Fr.ent, Instr.sameNow]
    by_cases h : f.base = k
    · subst h; simp [List.findIdx?_cons]
    · have h1 : ((k : Int) == (f.base : Int)) = false := by simp; omega
      have h2 : (f.base == k) = false := by simpa using h
      simp only [h1, if_true, ih, List.findIdx?_cons, h2]
      cases hc : fs.findIdx? (fun f => f.base == k) with
      | none => simp
      | some n => simp [Nat.add_assoc, Nat.add_comm 1]

theorem find_of_idx {α : Type} (p : α → Bool) (l : List α) : (l.findIdx? p).bind (fun n => l[n]?) = l.find? p := by
  induction l with
  | nil => simp
  | cons a l ih =>
    by_cases h : p a
    · simp [List.findIdx?_cons, h]
    · simp only [List.findIdx?_cons, h, List.find?_cons, ← ih]
      cases l.findIdx? p <;> simp

theorem findNow_some {fs : List Fr} {k : Nat} {f : Fr} (h : frAt fs k = some f) : ∃ n, Instr.findNow (.int .u64) (.int .u64 k) (ents 0 fs).toArray.toList 0 = some (some (n, f.val)) := by
  have hfn := findNow_ents k fs 0 0
  have hi := find_of_idx (fun f : Fr => f.base == k) fs
  rw [show fs.find? _ = some f from h] at hi
  cases hc : fs.findIdx? (fun f => f.base == k) with
  | none => rw [hc] at hi; simp at hi
  | some n =>
    rw [hc] at hi hfn
    simp only [Option.bind_some] at hi hfn
    rw [hi] at hfn
    exact ⟨0 + n, hfn⟩
theorem findNow_none {fs : List Fr} {k : Nat} (h : frAt fs k = none) : Instr.findNow (.int .u64) (.int .u64 k) (ents 0 fs).toArray.toList 0 = some none := by
  have hfn := findNow_ents k fs 0 0
  have hi : fs.findIdx? (fun f => f.base == k) = none := by
    rw [List.findIdx?_eq_none_iff]
    intro x hx
    have := List.find?_eq_none.1 h x hx
    simpa using this
  rw [hi] at hfn
  exact hfn

/-- a page's bytes lie in its block. -/
def FrIn (w : World) (f : Fr) : Prop :=
  f.data.length = 4096 ∧ 4096 ≤ f.cap ∧ f.cap ≤ maxLen ∧ ∃ cur : Array Value, w.heap[f.blk]? = some (.cells cur 5 (0, 0)) ∧ cur.size = f.cap ∧
    ∀ i, (h : i < f.data.length) → cur[i]? = some (.int .u8 (f.data[i]).toNat)

/-- the memory behind the pointer to block p, its map in block mb. -/
structure MemAt (w : World) (p mb : Nat) (fs : List Fr) : Prop where
  str : w.heap[p]? = some (.cells #[.map (some mb)] 105 (0, 0))
  map : w.heap[mb]? = some (.map (ents 0 fs).toArray fs.length)
  pages : ∀ f ∈ fs, FrIn w f
  apart : (fs.map (·.blk)).Nodup
  keys : (fs.map (·.base)).Nodup
  small : ∀ f ∈ fs, f.base < 281474976710656

/-- all its blocks lie below B. -/
def MemBelow (B p mb : Nat) (fs : List Fr) : Prop := p < B ∧ mb < B ∧ ∀ f ∈ fs, f.blk < B

theorem FrIn.keep {w w' : World} {f : Fr} (h : FrIn w f) (hk : w'.heap[f.blk]? = w.heap[f.blk]?) : FrIn w' f := by
  obtain ⟨h1, h2, h3, cur, h4, h5⟩ := h
  exact ⟨h1, h2, h3, cur, hk.trans h4, h5⟩
theorem MemAt.keep {w w' : World} {p mb : Nat} {fs : List Fr} (h : MemAt w p mb fs) (hp : w'.heap[p]? = w.heap[p]?) (hm : w'.heap[mb]? = w.heap[mb]?)
    (hf : ∀ f ∈ fs, w'.heap[f.blk]? = w.heap[f.blk]?) : MemAt w' p mb fs :=
  ⟨hp.trans h.str, hm.trans h.map, fun f hfm => (h.pages f hfm).keep (hf f hfm), h.apart, h.keys, h.small⟩
theorem MemAt.below {w w' : World} {p mb B : Nat} {fs : List Fr} (h : MemAt w p mb fs) (hB : MemBelow B p mb fs) (hb : Below B w w') : MemAt w' p mb fs :=
  h.keep (hb.block p hB.1) (hb.block mb hB.2.1) (fun f hf => hb.block f.blk (hB.2.2 f hf))
theorem MemAt.lt {w : World} {p mb : Nat} {fs : List Fr} (h : MemAt w p mb fs) : MemBelow w.heap.size p mb fs := by
  refine ⟨lt_of_block h.str, lt_of_block h.map, fun f hf => ?_⟩
  obtain ⟨_, _, _, cur, h4, _⟩ := h.pages f hf
  exact lt_of_block h4

theorem MemAt.cell {w : World} {p mb : Nat} {fs : List Fr} (h : MemAt w p mb fs) : w.cell? ⟨p, 0, none⟩ = some (.map (some mb)) := cell_of_one h.str
theorem FrIn.cell {w : World} {f : Fr} (h : FrIn w f) (i : Nat) (hi : i < f.data.length) : w.cell? ⟨f.blk, i, none⟩ = some (.int .u8 (f.data[i]).toNat) := by
  obtain ⟨_, _, _, cur, h4, _, h6⟩ := h
  rw [cell_of_row w f.blk i cur _ _ h4]
  exact h6 i hi

section
variable {w : World} {p mb : Nat} {fs : List Fr} {k : Nat}
theorem MemAt.look {f : Fr} (h : MemAt w p mb fs) (hf : frAt fs k = some f) :
    (Instr.lookup 103 (.map (some mb)) (.int .u64 k) true).run Go.Proofs.Try.prog w = .ok (.tuple #[.agg #[.int .i64 f.perm, .slice (some ⟨f.blk, 0, none⟩) 4096 f.cap], .bool true]) w := by
  obtain ⟨n, hn⟩ := findNow_some hf
  exact run_lookup_hit Try_und_map Try_und_u64 (by simp [IsKey]) h.map hn true
theorem MemAt.look_none (h : MemAt w p mb fs) (hf : frAt fs k = none) :
    (Instr.lookup 103 (.map (some mb)) (.int .u64 k) true).run Go.Proofs.Try.prog w = .ok (.tuple #[.agg #[.int .i64 0, .slice none 0 0], .bool false]) w :=
  run_lookup_miss Try_und_map Try_und_u64 (by simp [IsKey]) h.map (findNow_none hf) (Try_zero_frame w) true
end
end Go.Pat
