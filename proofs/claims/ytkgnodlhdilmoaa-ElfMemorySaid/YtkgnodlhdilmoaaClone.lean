/- slices.Clone of bytes. -/
import Derived.Test.YtkgnodlhdilmoaaMem
import Derived.Test.YtkgnodlhdilmoaaApp
import Derived.WalkSpells
namespace Go.Proofs
open Go Go.RowKit Go.Pat

theorem Try_elU8 : ElT Try.prog 35 5 (.int .u8 0) 1 1 := ⟨Try.underlying35, by kernel_rfl, rfl, by decide⟩

/-- a slice of bytes of the call's own: nil just where it says so. -/
def OwnB (w : World) (base : Nat) (v : Value) (l : List UInt8) : Prop := w.ownsRow base 5 1 v l.length (bcells l)

theorem Try_bnil (n c : Nat) (A : Addr) (w : World) : (binOp .eql 35 (.slice (some A) n c) (.slice none 0 0)).run Try.prog w = .ok (.bool false) w :=
  Lib.run_eql_slice_nil w _ _ (some A) n c 0 0 Try.underlying35

set_option maxHeartbeats 1000000 in
theorem bclone_any (w : World) (A : Addr) (cap : Nat) (l : List UInt8) (hr : Bs w.heap.size w (some A) l) (hl : l.length ≤ 140737488355328) :
    Calls Try.prog 56 #[.slice (some A) l.length cap] w fun e w' => ∃ v, e = .returned v ∧ OwnB w' w.heap.size v l ∧ v ≠ .slice none 0 0 ∧ Below w.heap.size w w' := by
  have q := Try_bnil l.length cap A
  go_enter Try.func56, Try.ntmps56
  have hown : (w.alloc (.cells #[] 5)).ownsRow w.heap.size 5 1 (.slice (some ⟨w.heap.size, 0, none⟩) 0 0) 0 [] := World.ownsRow_lit w #[] 0 (Nat.le_refl _) (by simp [maxLen]) rfl
  have hr1 : Bs w.heap.size (w.alloc (.cells #[] 5)) (some A) l := hr.below ((Below.refl _ _).alloc (Nat.le_refl _) _)
  go_wp2_with (at_builtin; refine wpList_app _ rfl _ _ _ rfl Try_elU8 w.heap.size _ 0 [] (by rfl) hown w.heap.size (some A) l.length cap (bcells l) (by rfl) (by rw [bcells_length, Nat.mul_one]) hr1 (bcells_one l) (by simp only [maxLen]; omega) (by omega) (by simp) ?_)
  intro v' w1 hown' hg hnil hat
  have hB : Below w.heap.size w w1 := own_below hown ((Below.refl _ _).alloc (Nat.le_refl _) _) hg (by simp)
  have hne : v' ≠ .slice none 0 0 := by simpa using hnil
  clear hnil hg hown hr1
  go_wp2
  go_ret
  exact ⟨v', rfl, hown', hne, hB⟩
theorem bclone_n (w : World) (A : Addr) (n cap : Nat) (l : List UInt8) (hn : l.length = n) (hr : Bs w.heap.size w (some A) l) (hl : n ≤ 140737488355328) :
    Calls Try.prog 56 #[.slice (some A) n cap] w fun e w' => ∃ v, e = .returned v ∧ OwnB w' w.heap.size v l ∧ v ≠ .slice none 0 0 ∧ Below w.heap.size w w' := by
  subst hn
  exact bclone_any w A cap l hr hl
end Go.Proofs
