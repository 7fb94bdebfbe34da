/- elf.Check: whether an image is right. -/
import Derived.Test.YtkgnodlhdilmoaaMemM
import Derived.WalkSpells
namespace Go.Pat
open Go Go.RowKit

structure Sg where
  addr : Nat
  perm : Int
  A : Option Addr
  cap : Nat
  data : List UInt8
  size : Nat
/-- a segment without its place. -/
structure Sgd where
  addr : Nat
  perm : Int
  data : List UInt8
  size : Nat
def Sg.d (s : Sg) : Sgd := ⟨s.addr, s.perm, s.data, s.size⟩
def Sg.val (s : Sg) : Value := .agg #[.int .u64 (s.addr : Int), .int .i64 s.perm, .slice s.A s.data.length s.cap, .int .u64 (s.size : Int)]

/-- segments lie from A on, four cells each, below block B. -/
structure SgsAt (B : Nat) (w : World) (A : Option Addr) (ss : List Sg) : Prop where
  cells : ∀ i, (h : i < ss.length) → ∃ b o, A = some ⟨b, o, none⟩ ∧ b < B ∧ w.cell? ⟨b, o + i * 4, none⟩ = some (.int .u64 (ss[i].addr : Int)) ∧ w.cell? ⟨b, o + i * 4 + 1, none⟩ = some (.int .i64 ss[i].perm) ∧
    w.cell? ⟨b, o + i * 4 + 2, none⟩ = some (.slice ss[i].A ss[i].data.length ss[i].cap) ∧ w.cell? ⟨b, o + i * 4 + 3, none⟩ = some (.int .u64 (ss[i].size : Int))
  bytes : ∀ s ∈ ss, Bs B w s.A s.data
  small : ∀ s ∈ ss, s.addr < 18446744073709551616 ∧ s.size < 18446744073709551616 ∧ s.data.length ≤ 140737488351232
  few : ss.length ≤ 140737488351232
  caps : ∀ s ∈ ss, s.data.length ≤ s.cap
theorem SgsAt.below {B : Nat} {w w' : World} {A : Option Addr} {ss : List Sg} (h : SgsAt B w A ss) (hb : Below B w w') : SgsAt B w' A ss := by
  refine ⟨fun i hi => ?_, fun p hp => (h.bytes p hp).below hb, h.small, h.few, h.caps⟩
  obtain ⟨b, o, e, hlt, h1, h2, h3, h4⟩ := h.cells i hi
  exact ⟨b, o, e, hlt, (hb.cell (p := ⟨b, _, none⟩) hlt).trans h1, (hb.cell (p := ⟨b, _, none⟩) hlt).trans h2, (hb.cell (p := ⟨b, _, none⟩) hlt).trans h3, (hb.cell (p := ⟨b, _, none⟩) hlt).trans h4⟩
theorem SgsAt.mono {B B' : Nat} {w : World} {A : Option Addr} {ss : List Sg} (h : SgsAt B w A ss) (hB : B ≤ B') : SgsAt B' w A ss := by
  refine ⟨fun i hi => ?_, fun p hp => (h.bytes p hp).more hB, h.small, h.few, h.caps⟩
  obtain ⟨b, o, e, hlt, r⟩ := h.cells i hi
  exact ⟨b, o, e, Nat.lt_of_lt_of_le hlt hB, r⟩

def roundN (n : Nat) : Nat := (n + 4095) / 4096 * 4096
def segB (addr : Nat) (perm : Int) (len size after : Nat) : Bool :=
  decide (addr % 4096 = 0) && allowedB perm && decide (1 ≤ size) && decide (size ≤ 16777216) && decide (len ≤ size) && decide (addr ≤ 281474976710656) && decide (size ≤ 281474976710656 - addr) && decide (after ≤ addr)
def entB (en addr : Nat) (perm : Int) (len : Nat) : Bool :=
  (bits BinOp.and .i64 perm 1 != 0) && decide (addr ≤ en) && decide (4 ≤ len) && decide (en - addr ≤ len - 4)

theorem chain8 : ∀ a b c d e f g h : Bool, a = false ∨ (a = true ∧ b = false) ∨ (a = true ∧ b = true ∧ c = false) ∨ (a = true ∧ b = true ∧ c = true ∧ d = false) ∨ (a = true ∧ b = true ∧ c = true ∧ d = true ∧ e = false) ∨
  (a = true ∧ b = true ∧ c = true ∧ d = true ∧ e = true ∧ f = false) ∨ (a = true ∧ b = true ∧ c = true ∧ d = true ∧ e = true ∧ f = true ∧ g = false) ∨ (a = true ∧ b = true ∧ c = true ∧ d = true ∧ e = true ∧ f = true ∧ g = true ∧ h = false) ∨
  (a = true ∧ b = true ∧ c = true ∧ d = true ∧ e = true ∧ f = true ∧ g = true ∧ h = true) := by
  intro a b c d e f g h
  cases a <;> simp <;> cases b <;> simp <;> cases c <;> simp <;> cases d <;> simp <;> cases e <;> simp <;> cases f <;> simp <;> cases g <;> simp
theorem chain4 : ∀ a b c d : Bool, a = false ∨ (a = true ∧ b = false) ∨ (a = true ∧ b = true ∧ c = false) ∨ (a = true ∧ b = true ∧ c = true ∧ d = false) ∨ (a = true ∧ b = true ∧ c = true ∧ d = true) := by decide
end Go.Pat
namespace Go.Proofs
open Go Go.RowKit Go.Pat

theorem eallowed_all (perm : Int) (w : World) : Calls Try.prog 91 #[.int .i64 perm] w fun e w' => e = .returned (.bool (allowedB perm)) ∧ w = w' := by
  cases h1 : decide (0 < perm) <;> cases h2 : decide (perm ≤ 7) <;> cases h3 : bits BinOp.and IntKind.i64 perm 3 != 3
  all_goals
    have hf : allowedB perm = allowedB perm := rfl
    conv at hf => rhs; simp only [allowedB, h1, h2, h3, Bool.and_self, Bool.and_true, Bool.and_false, Bool.true_and, Bool.false_and]
    go_enter Try.func91, Try.ntmps91
    go_wp2
    go_ret
    exact ⟨by rw [hf]; rfl, rfl⟩
theorem rPerm2_all (perm : Int) (w : World) : Calls Try.prog 78 #[.int .i64 perm] w fun e w' => e = .returned (.bool (allowedB perm)) ∧ w = w' := by
  have e1 : decide (1 ≤ perm) = decide (0 < perm) := rfl
  cases h1 : decide (1 ≤ perm) <;> cases h2 : decide (perm ≤ 7) <;> cases h3 : bits BinOp.and IntKind.i64 perm 3 != 3
  all_goals
    have hf : allowedB perm = allowedB perm := rfl
    conv at hf => rhs; simp only [allowedB, ← e1, h1, h2, h3, Bool.and_self, Bool.and_true, Bool.and_false, Bool.true_and, Bool.false_and]
    clear e1
    go_enter Try.func78, Try.ntmps78
    go_wp2
    go_ret
    exact ⟨by rw [hf]; rfl, rfl⟩

theorem eup_any (n : Nat) (hn : n ≤ 4611686018427387904) (w : World) : Calls Try.prog 67 #[.int .u64 n] w fun e w' => e = .returned (.int .u64 (roundN n : Nat)) ∧ w = w' := by
  have e1 : IntKind.u64.wrap ((n : Int) + 4096) = ((n + 4096 : Nat) : Int) := by rw [IntKind.wrap_u64]; omega
  have e2 : IntKind.u64.wrap (((n + 4096 : Nat) : Int) - 1) = ((n + 4095 : Nat) : Int) := by rw [IntKind.wrap_u64]; omega
  go_enter Try.func67, Try.ntmps67
  go_wp2
  go_ret
  have e : (((n : Int) + 4096 - 1) / 4096 * 4096) = ((roundN n : Nat) : Int) := by unfold roundN; omega
  exact ⟨congrArg (fun z => Ending.returned (.int .u64 z)) e, rfl⟩

theorem eup_int (z : Int) (n : Nat) (hz : z = (n : Int)) (hn : n ≤ 4611686018427387904) (w : World) : Calls Try.prog 67 #[.int .u64 z] w fun e w' => e = .returned (.int .u64 (roundN n : Nat)) ∧ w = w' := by
  subst hz; exact eup_any n hn w

theorem rround4_any (n : Nat) (hn : n ≤ 4611686018427387904) (w : World) : Calls Try.prog 74 #[.int .u64 n] w fun e w' => e = .returned (.int .u64 (roundN n : Nat)) ∧ w = w' := by
  have e1 : IntKind.u64.wrap ((n : Int) + 4096) = ((n + 4096 : Nat) : Int) := by rw [IntKind.wrap_u64]; omega
  have e2 : IntKind.u64.wrap (((n + 4096 : Nat) : Int) - 1) = ((n + 4095 : Nat) : Int) := by rw [IntKind.wrap_u64]; omega
  go_enter Try.func74, Try.ntmps74
  go_wp2
  go_ret
  have e : (((n : Int) + 4096 - 1) / 4096 * 4096) = ((roundN n : Nat) : Int) := by unfold roundN; omega
  exact ⟨congrArg (fun z => Ending.returned (.int .u64 z)) e, rfl⟩

theorem rround4_int (z : Int) (n : Nat) (hz : z = (n : Int)) (hn : n ≤ 4611686018427387904) (w : World) : Calls Try.prog 74 #[.int .u64 z] w fun e w' => e = .returned (.int .u64 (roundN n : Nat)) ∧ w = w' := by
  subst hz; exact rround4_any n hn w

set_option maxHeartbeats 2000000 in
theorem eseg_any (w : World) (addr size after len cap : Nat) (perm : Int) (A : Option Addr) (h1 : addr < 18446744073709551616) (h2 : size < 18446744073709551616) (h3 : len ≤ 140737488351232) (h4 : after < 18446744073709551616) :
    Calls Try.prog 66 #[.agg #[.int .u64 addr, .int .i64 perm, .slice A len cap, .int .u64 size], .int .u64 after] w fun e w' => e = .returned (.bool (segB addr perm len size after)) ∧ Below w.heap.size w w' := by
  have t1 : decide (addr % 4096 = 0) = ((addr : Int) % 4096 == 0) := by rw [Bool.eq_iff_iff]; simp; omega
  have t3 : decide (1 ≤ size) = decide ((1 : Int) ≤ (size : Int)) := by rw [Bool.eq_iff_iff]; simp; omega
  have t4 : decide (size ≤ 16777216) = decide ((size : Int) ≤ 16777216) := by rw [Bool.eq_iff_iff]; simp; omega
  have t6 : decide (addr ≤ 281474976710656) = decide ((addr : Int) ≤ 281474976710656) := by rw [Bool.eq_iff_iff]; simp; omega
  have hS : segB addr perm len size after = segB addr perm len size after := rfl
  conv at hS => rhs; simp only [segB, t1, t3, t4, t6]
  clear t1 t3 t4 t6
  rcases chain8 ((addr : Int) % 4096 == 0) (allowedB perm) (decide ((1 : Int) ≤ (size : Int))) (decide ((size : Int) ≤ 16777216)) (decide (len ≤ size)) (decide ((addr : Int) ≤ 281474976710656)) (decide (size ≤ 281474976710656 - addr)) (decide (after ≤ addr)) with
    a1 | ⟨a1, a2⟩ | ⟨a1, a2, a3⟩ | ⟨a1, a2, a3, a4⟩ | ⟨a1, a2, a3, a4, a5⟩ | ⟨a1, a2, a3, a4, a5, a6⟩ | ⟨a1, a2, a3, a4, a5, a6, a7⟩ | ⟨a1, a2, a3, a4, a5, a6, a7, a8⟩ | ⟨a1, a2, a3, a4, a5, a6, a7, a8⟩
  · simp only [a1, Bool.and_false, Bool.false_and, Bool.and_self] at hS
    have HS := Lib.hid hS
    clear hS
    go_enter Try.func66, Try.ntmps66
    go_wp2_with (go_at_call 91; refine (eallowed_all _ _).mono ?_; rintro e w' ⟨rfl, rfl⟩)
    go_ret
    exact ⟨by rw [HS.out]; rfl, (Below.refl _ _).alloc (Nat.le_refl _) _⟩
  · simp only [a1, a2, Bool.and_false, Bool.false_and, Bool.and_self] at hS
    have HS := Lib.hid hS
    clear hS
    go_enter Try.func66, Try.ntmps66
    go_wp2_with (go_at_call 91; refine (eallowed_all _ _).mono ?_; rintro e w' ⟨rfl, rfl⟩)
    go_ret
    exact ⟨by rw [HS.out]; rfl, (Below.refl _ _).alloc (Nat.le_refl _) _⟩
  · simp only [a1, a2, a3, Bool.and_false, Bool.false_and, Bool.and_self] at hS
    have HS := Lib.hid hS
    clear hS
    go_enter Try.func66, Try.ntmps66
    go_wp2_with (go_at_call 91; refine (eallowed_all _ _).mono ?_; rintro e w' ⟨rfl, rfl⟩)
    go_ret
    exact ⟨by rw [HS.out]; rfl, (Below.refl _ _).alloc (Nat.le_refl _) _⟩
  · simp only [a1, a2, a3, a4, Bool.and_false, Bool.false_and, Bool.and_self] at hS
    have HS := Lib.hid hS
    clear hS
    go_enter Try.func66, Try.ntmps66
    go_wp2_with (go_at_call 91; refine (eallowed_all _ _).mono ?_; rintro e w' ⟨rfl, rfl⟩)
    go_ret
    exact ⟨by rw [HS.out]; rfl, (Below.refl _ _).alloc (Nat.le_refl _) _⟩
  · simp only [a1, a2, a3, a4, a5, Bool.and_false, Bool.false_and, Bool.and_self] at hS
    have HS := Lib.hid hS
    clear hS
    go_enter Try.func66, Try.ntmps66
    go_wp2_with (go_at_call 91; refine (eallowed_all _ _).mono ?_; rintro e w' ⟨rfl, rfl⟩)
    go_ret
    exact ⟨by rw [HS.out]; rfl, (Below.refl _ _).alloc (Nat.le_refl _) _⟩
  · simp only [a1, a2, a3, a4, a5, a6, Bool.and_false, Bool.false_and, Bool.and_self] at hS
    have HS := Lib.hid hS
    clear hS
    go_enter Try.func66, Try.ntmps66
    go_wp2_with (go_at_call 91; refine (eallowed_all _ _).mono ?_; rintro e w' ⟨rfl, rfl⟩)
    go_ret
    exact ⟨by rw [HS.out]; rfl, (Below.refl _ _).alloc (Nat.le_refl _) _⟩
  · simp only [a1, a2, a3, a4, a5, a6, a7, Bool.and_false, Bool.false_and, Bool.and_self] at hS
    have HS := Lib.hid hS
    clear hS
    obtain ⟨r, hr⟩ : ∃ r, addr + r = 281474976710656 := ⟨281474976710656 - addr, by simp at a6; omega⟩
    rw [show 281474976710656 - addr = r by omega] at a7
    have ew : IntKind.u64.wrap (281474976710656 - (addr : Int)) = (r : Int) := by rw [IntKind.wrap_u64]; omega
    go_enter Try.func66, Try.ntmps66
    go_wp2_with (go_at_call 91; refine (eallowed_all _ _).mono ?_; rintro e w' ⟨rfl, rfl⟩)
    go_ret
    exact ⟨by rw [HS.out]; rfl, (Below.refl _ _).alloc (Nat.le_refl _) _⟩
  · simp only [a1, a2, a3, a4, a5, a6, a7, a8, Bool.and_false, Bool.false_and, Bool.and_self] at hS
    have HS := Lib.hid hS
    clear hS
    obtain ⟨r, hr⟩ : ∃ r, addr + r = 281474976710656 := ⟨281474976710656 - addr, by simp at a6; omega⟩
    rw [show 281474976710656 - addr = r by omega] at a7
    have ew : IntKind.u64.wrap (281474976710656 - (addr : Int)) = (r : Int) := by rw [IntKind.wrap_u64]; omega
    go_enter Try.func66, Try.ntmps66
    go_wp2_with (go_at_call 91; refine (eallowed_all _ _).mono ?_; rintro e w' ⟨rfl, rfl⟩)
    go_ret
    exact ⟨by rw [HS.out]; rfl, (Below.refl _ _).alloc (Nat.le_refl _) _⟩
  · simp only [a1, a2, a3, a4, a5, a6, a7, a8, Bool.and_false, Bool.false_and, Bool.and_self] at hS
    have HS := Lib.hid hS
    clear hS
    obtain ⟨r, hr⟩ : ∃ r, addr + r = 281474976710656 := ⟨281474976710656 - addr, by simp at a6; omega⟩
    rw [show 281474976710656 - addr = r by omega] at a7
    have ew : IntKind.u64.wrap (281474976710656 - (addr : Int)) = (r : Int) := by rw [IntKind.wrap_u64]; omega
    go_enter Try.func66, Try.ntmps66
    go_wp2_with (go_at_call 91; refine (eallowed_all _ _).mono ?_; rintro e w' ⟨rfl, rfl⟩)
    go_ret
    exact ⟨by rw [HS.out]; rfl, (Below.refl _ _).alloc (Nat.le_refl _) _⟩
end Go.Proofs
