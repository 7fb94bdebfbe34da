/- New, allowed, there and Map of package mem. -/
import Derived.Test.YtkgnodlhdilmoaaMemS
import Derived.Test.YtkgnodlhdilmoaaApp
import Derived.WalkSpells
namespace Go.Pat
open Go Go.RowKit

def allowedB (perm : Int) : Bool := decide (0 < perm) && decide (perm ≤ 7) && (bits BinOp.and .i64 perm 3 != 3)

/-- a page of noughts, as cells. -/
def zeroPage : Array Value := madeCells #[.int .u8 0] 4096
theorem zeroPage_size : zeroPage.size = 4096 := size_madeCells _ _
theorem zeroPage_at (i : Nat) (h : i < 4096) : zeroPage[i]? = some (.int .u8 ((0 : UInt8).toNat : Int)) := by
  unfold zeroPage madeCells
  simp [h]
  rw [Nat.mod_one]
  rfl
def zeros : List UInt8 := List.replicate 4096 0
theorem zeros_length : zeros.length = 4096 := by unfold zeros; exact List.length_replicate ..

/-- a page without its place. -/
structure Pgd where
  base : Nat
  perm : Int
  data : List UInt8
def Fr.pg (f : Fr) : Pgd := ⟨f.base, f.perm, f.data⟩
def fresh (base : Nat) (perm : Int) (n : Nat) : List Pgd := (List.range n).map fun i => ⟨base + i * 4096, perm, zeros⟩
theorem fresh_succ (base : Nat) (perm : Int) (n : Nat) : fresh base perm (n + 1) = fresh base perm n ++ [⟨base + n * 4096, perm, zeros⟩] := by
  simp [fresh, List.range_succ]

theorem setObjW_heap (w : World) (r : Nat) (o : Obj) (hr : r < w.heap.size) : (setObjW w r o).heap[r]? = some o := by simp [setObjW, hr]
theorem setObjW_other (w : World) (r : Nat) (o : Obj) (k : Nat) (hk : k ≠ r) : (setObjW w r o).heap[k]? = w.heap[k]? := by simp [setObjW, Ne.symm hk]
theorem KeptBut.setObjW {S : Nat → Prop} {a b : World} (h : KeptBut S a b) (r : Nat) (hr : S r) (o : Obj) : KeptBut S a (setObjW b r o) :=
  ⟨h.os, h.tape, h.output, by simpa [Go.Pat.setObjW] using h.size, fun i hi hs => (setObjW_other b r o i (fun e => hs (e ▸ hr))).trans (h.block i hi hs)⟩

theorem MemAt.p_ne_mb {w : World} {p mb : Nat} {fs : List Fr} (h : MemAt w p mb fs) : p ≠ mb := by
  rintro rfl
  have h1 := h.str
  rw [h.map] at h1
  cases h1
theorem FrIn.ne_mb {w : World} {p mb : Nat} {fs : List Fr} (h : MemAt w p mb fs) {f : Fr} (hF : FrIn w f) : f.blk ≠ mb := by
  obtain ⟨_, _, _, cur, h4, _⟩ := hF
  rintro rfl
  rw [h.map] at h4
  cases h4

theorem MemAt.push {w : World} {p mb : Nat} {fs : List Fr} (h : MemAt w p mb fs) (f : Fr) (hF : FrIn w f) (hb : f.blk ∉ fs.map (·.blk)) (hk : f.base ∉ fs.map (·.base)) (hs : f.base < 281474976710656) :
    MemAt (Go.Pat.setObjW w mb (.map ((ents 0 fs).toArray.push { key := .int .u64 f.base, val := f.val, born := fs.length }) (fs.length + 1))) p mb (fs ++ [f]) := by
  refine ⟨(setObjW_other _ _ _ _ h.p_ne_mb).trans h.str, ?_, ?_, ?_, ?_, ?_⟩
  · rw [setObjW_heap _ _ _ h.lt.2.1, ents_append]
    simp [ents, Fr.ent]
  · intro g hg
    rcases List.mem_append.1 hg with hg | hg
    · exact (h.pages g hg).keep (setObjW_other _ _ _ _ (FrIn.ne_mb h (h.pages g hg)))
    · obtain rfl := List.mem_singleton.1 hg
      exact hF.keep (setObjW_other _ _ _ _ (FrIn.ne_mb h hF))
  · rw [List.map_append]
    exact List.nodup_append.2 ⟨h.apart, by simp, by intro a ha b hb'; simp at hb'; subst hb'; rintro rfl; exact hb ha⟩
  · rw [List.map_append]
    exact List.nodup_append.2 ⟨h.keys, by simp, by intro a ha b hb'; simp at hb'; subst hb'; rintro rfl; exact hk ha⟩
  · intro g hg
    rcases List.mem_append.1 hg with hg | hg
    · exact h.small g hg
    · obtain rfl := List.mem_singleton.1 hg
      exact hs
theorem MemAt.upd {w : World} {p mb : Nat} {fs : List Fr} (h : MemAt w p mb fs) (k : Nat) (v : Value) (hk : frAt fs k = none) :
    (Instr.mapUpdate 103 (.map (some mb)) (.int .u64 k) v).run Go.Proofs.Try.prog w = .ok () (Go.Pat.setObjW w mb (.map ((ents 0 fs).toArray.push { key := .int .u64 k, val := v, born := fs.length }) (fs.length + 1))) :=
  run_mapUpdate_new Try_und_map Try_und_u64 (by simp [Go.MapKept.IsKey]) h.map (findNow_none hk)
theorem frAt_none_of {fs : List Fr} {k : Nat} (h : k ∉ fs.map (·.base)) : frAt fs k = none := by
  unfold frAt
  rw [List.find?_eq_none]
  intro x hx
  simp
  rintro rfl
  exact h (List.mem_map.2 ⟨x, hx, rfl⟩)
theorem not_mem_of_frAt {fs : List Fr} {k : Nat} (h : frAt fs k = none) : k ∉ fs.map (·.base) := by
  intro hm
  obtain ⟨x, hx, rfl⟩ := List.mem_map.1 hm
  have := List.find?_eq_none.1 h x hx
  simp at this
end Go.Pat
namespace Go.Proofs
open Go Go.RowKit Go.Pat

theorem Try_info_u8 : (Try.prog.info? 5).map (fun i => (i.zero, i.size, i.bytes)) = some (some (.int .u8 0), 1, 1) := by kernel_rfl
theorem run_makePage (w : World) : (Instr.makeSlice 35 (.int .i64 4096) (.int .i64 4096)).run Try.prog w = .ok (.slice (some ⟨w.heap.size, 0, none⟩) 4096 4096) (w.alloc (.cells zeroPage 5)) := by
  obtain ⟨i, hi, hz0, hz1, hz2⟩ := info_parts Try_info_u8
  have h := run_make (P := Try.prog) w 35 5 i _ Try.underlying35 hi hz0 .i64 .i64 4096 4096 (by omega) (by omega) (by rw [hz2]; decide) (by omega)
  rw [hz1] at h
  exact h

theorem New_any (w : World) : Calls Try.prog 54 #[] w fun e w' => ∃ p mb, e = .returned (.pointer (some ⟨p, 0, none⟩)) ∧ MemAt w' p mb [] ∧ Below w.heap.size w w' ∧ w.heap.size ≤ p ∧ w.heap.size ≤ mb := by
  have hmm := @run_makeMap Try.prog
  go_enter Try.func54, Try.ntmps54
  go_wp2
  go_ret
  refine ⟨w.heap.size + 1, w.heap.size, rfl, ⟨?_, ?_, by simp, by simp, by simp, by simp⟩, ((Below.refl _ _).alloc (Nat.le_refl _) _).alloc (by simp) _, by omega, by omega⟩
  · have := heap_alloc_new (w.alloc (.map #[] 0)) (.cells #[.map (some w.heap.size)] 105)
    rw [World.size_alloc] at this
    exact this
  · rw [Below.heap_alloc _ _ _ (by simp)]
    exact heap_alloc_new w _

theorem allowed_all (perm : Int) (w : World) : Calls Try.prog 55 #[.int .i64 perm] w fun e w' => e = .returned (.bool (allowedB perm)) ∧ w = w' := by
  cases h1 : decide (0 < perm) with
  | false =>
    have hf : allowedB perm = false := by simp [allowedB, h1]
    go_enter Try.func55, Try.ntmps55
    go_wp2
    go_ret
    exact ⟨by rw [hf]; rfl, rfl⟩
  | true =>
    cases h2 : decide (perm ≤ 7) with
    | false =>
      have hf : allowedB perm = false := by simp [allowedB, h2]
      go_enter Try.func55, Try.ntmps55
      go_wp2
      go_ret
      exact ⟨by rw [hf]; rfl, rfl⟩
    | true =>
      cases h3 : bits BinOp.and IntKind.i64 perm 3 != 3 with
      | false =>
        have hf : allowedB perm = false := by simp [allowedB, h3]
        go_enter Try.func55, Try.ntmps55
        go_wp2
        go_ret
        exact ⟨by rw [hf]; rfl, rfl⟩
      | true =>
        have hf : allowedB perm = true := by simp [allowedB, h1, h2, h3]
        go_enter Try.func55, Try.ntmps55
        go_wp2
        go_ret
        exact ⟨by rw [hf]; rfl, rfl⟩

theorem there_any (w : World) (p mb : Nat) (fs : List Fr) (hM : MemAt w p mb fs) (at_ : Nat) (hat : at_ < 18446744073709551616) :
    Calls Try.prog 77 #[.pointer (some ⟨p, 0, none⟩), .int .u64 at_] w fun e w' => e = .returned (.bool (pageOf fs at_).isSome) ∧ Below w.heap.size w w' := by
  cases hf : pageOf fs at_ with
  | none =>
    go_enter Try.func77, Try.ntmps77
    go_wp2_with (go_at_call 76; refine (page_miss _ p mb fs hM at_ hat hf).mono ?_; rintro e w' ⟨rfl, hb⟩)
    go_ret
    exact ⟨rfl, hb.alloc hb.size _⟩
  | some f =>
    go_enter Try.func77, Try.ntmps77
    go_wp2_with (go_at_call 76; refine (page_hit _ p mb fs hM at_ hat f hf).mono ?_; rintro e w' ⟨rfl, hb⟩)
    go_ret
    exact ⟨rfl, hb.alloc hb.size _⟩
theorem there_nil (w : World) (at_ : Int) :
    Calls Try.prog 77 #[.pointer none, .int .u64 at_] w fun e w' => e = .returned (.bool false) ∧ Below w.heap.size w w' := by
  go_enter Try.func77, Try.ntmps77
  go_wp2_with (go_at_call 76; refine (page_nil _ at_).mono ?_; rintro e w' ⟨rfl, hb⟩)
  go_ret
  exact ⟨rfl, hb.alloc hb.size _⟩
end Go.Proofs
