/- The walks of package mem's small functions. -/
import Derived.Test.YtkgnodlhdilmoaaMem
namespace Go.Proofs
open Go Go.RowKit Go.Pat

set_option maxHeartbeats 400000 in
theorem page_hit (w : World) (p mb : Nat) (fs : List Fr) (hM : MemAt w p mb fs) (at_ : Nat) (hat : at_ < 18446744073709551616) (f : Fr) (hf : frAt fs (at_ / 4096 * 4096) = some f) :
    Calls Try.prog 76 #[.pointer (some ⟨p, 0, none⟩), .int .u64 at_] w fun e w' =>
      e = .returned (.tuple #[.agg #[.int .i64 f.perm, .slice (some ⟨f.blk, 0, none⟩) 4096 f.cap], .bool true]) ∧ Below w.heap.size w w' := by
  have hc := hM.cell
  have hk : ((at_ / 4096 * 4096 : Nat) : Int) = (at_ : Int) / 4096 * 4096 := by omega
  have hl := fun o : Obj => (hM.below hM.lt ((Below.refl w.heap.size w).alloc (Nat.le_refl _) o)).look hf
  rw [hk] at hl
  clear hk
  have hcl := fun o : Obj => (hM.below hM.lt ((Below.refl w.heap.size w).alloc (Nat.le_refl _) o)).cell
  go_enter Try.func76, Try.ntmps76
  go_wp2
  exact bodyPost_ret (v := .tuple #[.agg #[.int .i64 f.perm, .slice (some ⟨f.blk, 0, none⟩) 4096 f.cap], .bool true]) (by simp [results, Try.results76, go_sem]) rfl
    ⟨rfl, ((Below.refl _ _).alloc (Nat.le_refl _) _).alloc (by simp) _⟩

set_option maxHeartbeats 400000 in
theorem page_miss (w : World) (p mb : Nat) (fs : List Fr) (hM : MemAt w p mb fs) (at_ : Nat) (hat : at_ < 18446744073709551616) (hf : frAt fs (at_ / 4096 * 4096) = none) :
    Calls Try.prog 76 #[.pointer (some ⟨p, 0, none⟩), .int .u64 at_] w fun e w' =>
      e = .returned (.tuple #[.agg #[.int .i64 0, .slice none 0 0], .bool false]) ∧ Below w.heap.size w w' := by
  have hc := hM.cell
  have hk : ((at_ / 4096 * 4096 : Nat) : Int) = (at_ : Int) / 4096 * 4096 := by omega
  have hl := fun o : Obj => (hM.below hM.lt ((Below.refl w.heap.size w).alloc (Nat.le_refl _) o)).look_none hf
  rw [hk] at hl
  clear hk
  have hcl := fun o : Obj => (hM.below hM.lt ((Below.refl w.heap.size w).alloc (Nat.le_refl _) o)).cell
  go_enter Try.func76, Try.ntmps76
  go_wp2
  exact bodyPost_ret (v := .tuple #[.agg #[.int .i64 0, .slice none 0 0], .bool false]) (by simp [results, Try.results76, go_sem]) rfl
    ⟨rfl, ((Below.refl _ _).alloc (Nat.le_refl _) _).alloc (by simp) _⟩

/-- a memory that is none has no pages. -/
theorem page_nil (w : World) (at_ : Int) :
    Calls Try.prog 76 #[.pointer none, .int .u64 at_] w fun e w' =>
      e = .returned (.tuple #[.agg #[.int .i64 0, .slice none 0 0], .bool false]) ∧ Below w.heap.size w w' := by
  go_enter Try.func76, Try.ntmps76
  go_wp2
  exact bodyPost_ret (v := .tuple #[.agg #[.int .i64 0, .slice none 0 0], .bool false]) (by simp [results, Try.results76, go_sem]) rfl
    ⟨rfl, ((Below.refl _ _).alloc (Nat.le_refl _) _)⟩

/-- what a look for a page tells. -/
def pageVal : Option Fr → Value
  | some f => .tuple #[.agg #[.int .i64 f.perm, .slice (some ⟨f.blk, 0, none⟩) 4096 f.cap], .bool true]
  | none => .tuple #[.agg #[.int .i64 0, .slice none 0 0], .bool false]
end Go.Proofs
