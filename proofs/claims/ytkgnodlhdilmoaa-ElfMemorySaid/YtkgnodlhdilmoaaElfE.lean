/- patinaref04.Check answers as elf.Check does. -/
import Derived.Test.YtkgnodlhdilmoaaElfD
namespace Go.Pat
open Go Go.RowKit

theorem chain9n : ∀ a b c d e f g h i : Bool, a = true ∨ (a = false ∧ b = true) ∨ (a = false ∧ b = false ∧ c = true) ∨ (a = false ∧ b = false ∧ c = false ∧ d = true) ∨ (a = false ∧ b = false ∧ c = false ∧ d = false ∧ e = true) ∨
  (a = false ∧ b = false ∧ c = false ∧ d = false ∧ e = false ∧ f = true) ∨ (a = false ∧ b = false ∧ c = false ∧ d = false ∧ e = false ∧ f = false ∧ g = true) ∨
  (a = false ∧ b = false ∧ c = false ∧ d = false ∧ e = false ∧ f = false ∧ g = false ∧ h = true) ∨
  (a = false ∧ b = false ∧ c = false ∧ d = false ∧ e = false ∧ f = false ∧ g = false ∧ h = false ∧ i = true) ∨
  (a = false ∧ b = false ∧ c = false ∧ d = false ∧ e = false ∧ f = false ∧ g = false ∧ h = false ∧ i = false) := by
  intro a b c d e f g h i
  cases a <;> simp <;> cases b <;> simp <;> cases c <;> simp <;> cases d <;> simp <;> cases e <;> simp <;> cases f <;> simp <;> cases g <;> simp <;> cases h <;> simp

def rsegB (addr : Nat) (perm : Int) (len size after pages : Nat) : Bool :=
  !((addr : Int) % 4096 != 0) && !decide ((281474976710656 : Int) ≤ (addr : Int)) && !decide (addr < after) && !(!allowedB perm) && !decide ((size : Int) < 1) && !decide ((16777216 : Int) < (size : Int)) && !decide (size < len) &&
    !decide (281474976710656 - addr < size) && !decide (4096 < pages + roundN size / 4096)
set_option maxRecDepth 100000 in
theorem rsegB_eq (addr : Nat) (perm : Int) (len size after pages : Nat) : rsegB addr perm len size after pages = (segB addr perm len size after && decide (pages + roundN size / 4096 ≤ 4096)) := by
  rw [Bool.eq_iff_iff]
  unfold rsegB segB
  simp only [Bool.and_eq_true, Bool.not_eq_true', decide_eq_true_eq, decide_eq_false_iff_not, bne_eq_false_iff_eq, Bool.not_eq_false', Bool.not_eq_true]
  constructor
  · rintro ⟨⟨⟨⟨⟨⟨⟨⟨x1, x2⟩, x3⟩, x4⟩, x5⟩, x6⟩, x7⟩, x8⟩, x9⟩
    refine ⟨⟨⟨⟨⟨⟨⟨⟨by omega, x4⟩, by omega⟩, by omega⟩, by omega⟩, by omega⟩, by omega⟩, by omega⟩, by omega⟩
  · rintro ⟨⟨⟨⟨⟨⟨⟨⟨x1, x4⟩, x3⟩, x5⟩, x6⟩, x7⟩, x8⟩, x9⟩, x10⟩
    refine ⟨⟨⟨⟨⟨⟨⟨⟨by omega, by omega⟩, by omega⟩, x4⟩, by omega⟩, by omega⟩, by omega⟩, by omega⟩, by omega⟩
theorem entT_mono {en : Nat} {ss : List Sgd} {k n : Nat} (h : entT en ss k = true) (hk : k ≤ n) : entT en ss n = true := by
  induction n with
  | zero => obtain rfl : k = 0 := by omega
            exact h
  | succ n ih =>
    by_cases e : k = n + 1
    · rw [← e]; exact h
    · rw [entT, ih (by omega), Bool.true_or]
theorem pagT_mono {ss : List Sgd} {k n : Nat} (hk : k ≤ n) : pagT ss k ≤ pagT ss n := by
  induction n with
  | zero => obtain rfl : k = 0 := by omega
            exact Nat.le_refl _
  | succ n ih =>
    by_cases e : k = n + 1
    · rw [← e]; exact Nat.le_refl _
    · rw [pagT]; exact Nat.le_trans (ih (by omega)) (Nat.le_add_right _ _)
end Go.Pat
namespace Go.Proofs
open Go Go.RowKit Go.Pat

set_option maxHeartbeats 4000000 in
theorem rseg4_any (w : World) (addr size after pages len cap : Nat) (perm : Int) (A : Option Addr) (h1 : addr < 18446744073709551616) (h2 : size < 18446744073709551616) (h3 : len ≤ 140737488351232) (h5 : pages ≤ 1048576) :
    Calls Try.prog 73 #[.agg #[.int .u64 addr, .int .i64 perm, .slice A len cap, .int .u64 size], .int .u64 after, .int .u64 pages] w fun e w' => e = .returned (.bool (rsegB addr perm len size after pages)) ∧ Below w.heap.size w w' := by
  have hS : rsegB addr perm len size after pages = rsegB addr perm len size after pages := rfl
  conv at hS => rhs; unfold rsegB
  rcases chain9n ((addr : Int) % 4096 != 0) (decide ((281474976710656 : Int) ≤ (addr : Int))) (decide (addr < after)) (!allowedB perm) (decide ((size : Int) < 1)) (decide ((16777216 : Int) < (size : Int))) (decide (size < len)) (decide (281474976710656 - addr < size)) (decide (4096 < pages + roundN size / 4096)) with
    a1 | ⟨a1, a2⟩ | ⟨a1, a2, a3⟩ | ⟨a1, a2, a3, a4⟩ | ⟨a1, a2, a3, a4, a5⟩ | ⟨a1, a2, a3, a4, a5, a6⟩ | ⟨a1, a2, a3, a4, a5, a6, a7⟩ | ⟨a1, a2, a3, a4, a5, a6, a7, a8⟩ | ⟨a1, a2, a3, a4, a5, a6, a7, a8, a9⟩ | ⟨a1, a2, a3, a4, a5, a6, a7, a8, a9⟩
  · simp only [a1, Bool.not_true, Bool.not_false, Bool.and_false, Bool.false_and, Bool.and_self] at hS
    have HS := Lib.hid hS
    clear hS
    go_enter Try.func73, Try.ntmps73
    go_wp2_with (go_at_call 78; refine (rPerm2_all _ _).mono ?_; rintro e w' ⟨rfl, rfl⟩)
    go_ret
    exact ⟨by rw [HS.out]; rfl, (Below.refl _ _).alloc (Nat.le_refl _) _⟩
  · simp only [a1, a2, Bool.not_true, Bool.not_false, Bool.and_false, Bool.false_and, Bool.and_self] at hS
    have HS := Lib.hid hS
    clear hS
    go_enter Try.func73, Try.ntmps73
    go_wp2_with (go_at_call 78; refine (rPerm2_all _ _).mono ?_; rintro e w' ⟨rfl, rfl⟩)
    go_ret
    exact ⟨by rw [HS.out]; rfl, (Below.refl _ _).alloc (Nat.le_refl _) _⟩
  · simp only [a1, a2, a3, Bool.not_true, Bool.not_false, Bool.and_false, Bool.false_and, Bool.and_self] at hS
    have HS := Lib.hid hS
    clear hS
    go_enter Try.func73, Try.ntmps73
    go_wp2_with (go_at_call 78; refine (rPerm2_all _ _).mono ?_; rintro e w' ⟨rfl, rfl⟩)
    go_ret
    exact ⟨by rw [HS.out]; rfl, (Below.refl _ _).alloc (Nat.le_refl _) _⟩
  · simp only [a1, a2, a3, a4, Bool.not_true, Bool.not_false, Bool.and_false, Bool.false_and, Bool.and_self] at hS
    have HS := Lib.hid hS
    clear hS
    have a4' : allowedB perm = false := by simpa using a4
    go_enter Try.func73, Try.ntmps73
    go_wp2_with (go_at_call 78; refine (rPerm2_all _ _).mono ?_; rw [a4']; rintro e w' ⟨rfl, rfl⟩)
    go_ret
    exact ⟨by rw [HS.out]; rfl, (Below.refl _ _).alloc (Nat.le_refl _) _⟩
  · simp only [a1, a2, a3, a4, a5, Bool.not_true, Bool.not_false, Bool.and_false, Bool.false_and, Bool.and_self] at hS
    have HS := Lib.hid hS
    clear hS
    have a4' : allowedB perm = true := by simpa using a4
    go_enter Try.func73, Try.ntmps73
    go_wp2_with (go_at_call 78; refine (rPerm2_all _ _).mono ?_; rw [a4']; rintro e w' ⟨rfl, rfl⟩)
    go_ret
    exact ⟨by rw [HS.out]; rfl, (Below.refl _ _).alloc (Nat.le_refl _) _⟩
  · simp only [a1, a2, a3, a4, a5, a6, Bool.not_true, Bool.not_false, Bool.and_false, Bool.false_and, Bool.and_self] at hS
    have HS := Lib.hid hS
    clear hS
    have a4' : allowedB perm = true := by simpa using a4
    go_enter Try.func73, Try.ntmps73
    go_wp2_with (go_at_call 78; refine (rPerm2_all _ _).mono ?_; rw [a4']; rintro e w' ⟨rfl, rfl⟩)
    go_ret
    exact ⟨by rw [HS.out]; rfl, (Below.refl _ _).alloc (Nat.le_refl _) _⟩
  · simp only [a1, a2, a3, a4, a5, a6, a7, Bool.not_true, Bool.not_false, Bool.and_false, Bool.false_and, Bool.and_self] at hS
    have HS := Lib.hid hS
    clear hS
    have a4' : allowedB perm = true := by simpa using a4
    go_enter Try.func73, Try.ntmps73
    go_wp2_with (go_at_call 78; refine (rPerm2_all _ _).mono ?_; rw [a4']; rintro e w' ⟨rfl, rfl⟩)
    go_ret
    exact ⟨by rw [HS.out]; rfl, (Below.refl _ _).alloc (Nat.le_refl _) _⟩
  · simp only [a1, a2, a3, a4, a5, a6, a7, a8, Bool.not_true, Bool.not_false, Bool.and_false, Bool.false_and, Bool.and_self] at hS
    have HS := Lib.hid hS
    clear hS
    have a4' : allowedB perm = true := by simpa using a4
    obtain ⟨r, hr⟩ : ∃ r, addr + r = 281474976710656 := ⟨281474976710656 - addr, Nat.add_sub_cancel' (by simp at a2; omega)⟩
    rw [show 281474976710656 - addr = r by omega] at a8
    have ew : IntKind.u64.wrap (281474976710656 - (addr : Int)) = (r : Int) := by rw [IntKind.wrap_u64]; omega
    go_enter Try.func73, Try.ntmps73
    go_wp2_with (go_at_call 78; refine (rPerm2_all _ _).mono ?_; rw [a4']; rintro e w' ⟨rfl, rfl⟩)
    go_ret
    exact ⟨by rw [HS.out]; rfl, (Below.refl _ _).alloc (Nat.le_refl _) _⟩
  · simp only [a1, a2, a3, a4, a5, a6, a7, a8, a9, Bool.not_true, Bool.not_false, Bool.and_false, Bool.false_and, Bool.and_self] at hS
    have HS := Lib.hid hS
    clear hS
    have a4' : allowedB perm = true := by simpa using a4
    obtain ⟨r, hr⟩ : ∃ r, addr + r = 281474976710656 := ⟨281474976710656 - addr, Nat.add_sub_cancel' (by simp at a2; omega)⟩
    rw [show 281474976710656 - addr = r by omega] at a8
    have ew : IntKind.u64.wrap (281474976710656 - (addr : Int)) = (r : Int) := by rw [IntKind.wrap_u64]; omega
    have a9' : decide ((pages : Int) + ((roundN size : Nat) : Int) / 4096 ≤ 4096) = false := by have := a9; simp at this ⊢; omega
    have h8 : size ≤ 16777216 := by simp at a6; omega
    have h9 : roundN size ≤ 16777216 + 4095 := by unfold roundN; omega
    clear a9
    go_enter Try.func73, Try.ntmps73
    go_wp2_with (first | (go_at_call 78; refine (rPerm2_all _ _).mono ?_; rw [a4']; rintro e w' ⟨rfl, rfl⟩) | (go_at_call 74; refine (rround4_any size (Nat.le_trans h8 (by decide)) _).mono ?_; rintro e w' ⟨rfl, rfl⟩))
    go_ret
    exact ⟨by rw [HS.out]; rfl, (Below.refl _ _).alloc (Nat.le_refl _) _⟩
  · simp only [a1, a2, a3, a4, a5, a6, a7, a8, a9, Bool.not_true, Bool.not_false, Bool.and_false, Bool.false_and, Bool.and_self] at hS
    have HS := Lib.hid hS
    clear hS
    have a4' : allowedB perm = true := by simpa using a4
    obtain ⟨r, hr⟩ : ∃ r, addr + r = 281474976710656 := ⟨281474976710656 - addr, Nat.add_sub_cancel' (by simp at a2; omega)⟩
    rw [show 281474976710656 - addr = r by omega] at a8
    have ew : IntKind.u64.wrap (281474976710656 - (addr : Int)) = (r : Int) := by rw [IntKind.wrap_u64]; omega
    have a9' : decide ((pages : Int) + ((roundN size : Nat) : Int) / 4096 ≤ 4096) = true := by have := a9; simp at this ⊢; omega
    have h8 : size ≤ 16777216 := by simp at a6; omega
    have h9 : roundN size ≤ 16777216 + 4095 := by unfold roundN; omega
    clear a9
    go_enter Try.func73, Try.ntmps73
    go_wp2_with (first | (go_at_call 78; refine (rPerm2_all _ _).mono ?_; rw [a4']; rintro e w' ⟨rfl, rfl⟩) | (go_at_call 74; refine (rround4_any size (Nat.le_trans h8 (by decide)) _).mono ?_; rintro e w' ⟨rfl, rfl⟩))
    go_ret
    exact ⟨by rw [HS.out]; rfl, (Below.refl _ _).alloc (Nat.le_refl _) _⟩
end Go.Proofs
