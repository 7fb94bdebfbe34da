/- (*Mem).Load and Fetch: the numbers that are read. -/
import Derived.Test.YtkgnodlhdilmoaaMemN
namespace Go.Pat
open Go Go.RowKit

/-- the error of asked, whatever the count. -/
def wide (n : Int) : Bool := n == 1 || n == 2 || n == 4 || n == 8

def loadM (fs : List Fr) (at_ : Nat) (n : Int) : Nat × Int :=
  if wide n then (if askedM fs at_ n.toNat 4 = 0 then (numM fs at_ n.toNat, 0) else (0, askedM fs at_ n.toNat 4)) else (0, 1)

def fetchM (fs : List Fr) (at_ : Nat) : Nat × Int :=
  if at_ % 4 ≠ 0 ∨ 281474976710656 ≤ at_ then (0, 1) else if askedM fs at_ 4 1 = 0 then (numM fs at_ 4, 0) else (0, askedM fs at_ 4 1)
end Go.Pat
namespace Go.Proofs
open Go Go.RowKit Go.Pat

theorem asked_all (w : World) (p mb : Nat) (fs : List Fr) (hM : MemAt w p mb fs) (at_ n : Nat) (perm : Int) (hat : at_ < 18446744073709551616) (hn : n < 1000000) :
    Calls Try.prog 58 #[.pointer (some ⟨p, 0, none⟩), .int .u64 at_, .int .i64 n, .int .i64 perm] w fun e w' => e = .returned (.int .i64 (askedM fs at_ n perm)) ∧ Below w.heap.size w w' := by
  by_cases h : 281474976710656 ≤ at_ ∨ 281474976710656 - at_ < n
  · refine (asked_arg w _ at_ n perm hat hn h).mono ?_
    rintro e w' ⟨rfl, rfl⟩
    exact ⟨by simp only [askedM, if_pos h], Below.refl _ _⟩
  · refine (asked_any w p mb fs hM at_ n perm hat hn h).mono ?_
    rintro e w' ⟨rfl, hb⟩
    exact ⟨by simp only [askedM, if_neg h], hb⟩

theorem asked_zero {fs : List Fr} {at_ n : Nat} {perm : Int} (h : askedM fs at_ n perm = 0) : at_ + n ≤ 281474976710656 ∧ at_ < 281474976710656 ∧ ∀ i, i < n → ∃ f, pageOf fs (at_ + i) = some f ∧ pOK f.perm perm = true := by
  unfold askedM at h
  split at h
  · cases h
  · exact ⟨by omega, by omega, asked_ok h⟩

theorem width_all (n : Int) (w : World) : Calls Try.prog 57 #[.int .i64 n] w fun e w' => e = .returned (.bool (wide n)) ∧ w = w' := by
  unfold wide
  cases h1 : n == 1 <;> cases h2 : n == 2 <;> cases h3 : n == 4 <;> cases h4 : n == 8
  all_goals
    go_enter Try.func57, Try.ntmps57
    go_wp2
    try go_ret
    first | exact ⟨rfl, rfl⟩ | (exfalso; simp at *; omega)

set_option maxHeartbeats 1000000 in
theorem Load_any (w : World) (p mb : Nat) (fs : List Fr) (hM : MemAt w p mb fs) (at_ : Nat) (n : Int) (hat : at_ < 18446744073709551616) :
    Calls Try.prog 20 #[.pointer (some ⟨p, 0, none⟩), .int .u64 at_, .int .i64 n] w fun e w' => e = .returned (.tuple #[.int .u64 (loadM fs at_ n).1, .int .i64 (loadM fs at_ n).2]) ∧ Below w.heap.size w w' := by
  cases hw : wide n with
  | false =>
    have hfin : loadM fs at_ n = (0, 1) := by simp [loadM, hw]
    have HF := Lib.hid hfin
    clear hfin
    go_enter Try.func20, Try.ntmps20
    go_wp2_with (go_at_call 57; refine (width_all _ _).mono ?_; rw [hw]; rintro e w' ⟨rfl, rfl⟩)
    go_ret2
    exact ⟨by rw [HF.out]; rfl, Below.refl _ _⟩
  | true =>
    obtain ⟨k, rfl, hk⟩ : ∃ k : Nat, n = k ∧ (k ≤ 8) := by
      simp [wide] at hw
      exact ⟨n.toNat, by omega, by omega⟩
    by_cases h0 : askedM fs at_ k 4 = 0
    · have hfin : loadM fs at_ k = (numM fs at_ k, 0) := by simp [loadM, hw, h0]
      have HF := Lib.hid hfin
      clear hfin
      obtain ⟨z1, z2, z3⟩ := asked_zero h0
      have h0' : (askedM fs at_ k 4 != 0) = false := by simp [h0]
      have H0 := Lib.hid h0
      clear h0
      go_enter Try.func20, Try.ntmps20
      go_wp2_with (first | (go_at_call 57; refine (width_all _ _).mono ?_; rw [hw]; rintro e w' ⟨rfl, rfl⟩) | (go_at_call 58; refine (asked_all _ p mb fs hM at_ k 4 hat (by omega)).mono ?_; rintro e w' ⟨rfl, hb⟩) | (go_at_call 59; refine (number_any _ p mb fs (hM.below hM.lt hb) at_ k z1 hk (fun i hi => (z3 i hi).imp fun _ h => h.1)).mono ?_; rintro e w2 ⟨rfl, hb2⟩))
      go_ret2
      exact ⟨by rw [HF.out]; rfl, hb.trans (hb2.mono hb.size)⟩
    · have hfin : loadM fs at_ k = (0, askedM fs at_ k 4) := by simp [loadM, hw, h0]
      have HF := Lib.hid hfin
      clear hfin
      have h0' : (askedM fs at_ k 4 != 0) = true := by simp [h0]
      clear h0
      go_enter Try.func20, Try.ntmps20
      go_wp2_with (first | (go_at_call 57; refine (width_all _ _).mono ?_; rw [hw]; rintro e w' ⟨rfl, rfl⟩) | (go_at_call 58; refine (asked_all _ p mb fs hM at_ k 4 hat (by omega)).mono ?_; rintro e w' ⟨rfl, hb⟩))
      go_ret2
      exact ⟨by rw [HF.out]; rfl, hb⟩
end Go.Proofs
