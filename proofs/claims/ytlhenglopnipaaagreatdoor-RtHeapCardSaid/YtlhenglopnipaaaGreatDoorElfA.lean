/- patinaref02.Perm. -/
import Derived.Test.YtlhenglopnipaaaGreatDoorMemTop
import Derived.WalkSpells
namespace Go.Proofs
open Go Go.RowKit Go.Pat
end Go.Proofs

/- elf.Check: whether an image is right. -/
namespace Go.Pat
open Go Go.RowKit

structure Sg where
  addr : Nat
  perm : Int
  A : Option Addr
  cap : Nat
  data : List UInt8
  size : Nat
/-- a segment without its place. -/
structure Sgd where
  addr : Nat
  perm : Int
  data : List UInt8
  size : Nat
def Sg.d (s : Sg) : Sgd := ⟨s.addr, s.perm, s.data, s.size⟩
def Sg.val (s : Sg) : Value := .agg #[.int .u64 (s.addr : Int), .int .i64 s.perm, .slice s.A s.data.length s.cap, .int .u64 (s.size : Int)]

/-- segments lie from A on, four cells each, below block B. -/
structure SgsAt (B : Nat) (w : World) (A : Option Addr) (ss : List Sg) : Prop where
  cells : ∀ i, (h : i < ss.length) → ∃ b o, A = some ⟨b, o, none⟩ ∧ b < B ∧ w.cell? ⟨b, o + i * 4, none⟩ = some (.int .u64 (ss[i].addr : Int)) ∧ w.cell? ⟨b, o + i * 4 + 1, none⟩ = some (.int .i64 ss[i].perm) ∧
    w.cell? ⟨b, o + i * 4 + 2, none⟩ = some (.slice ss[i].A ss[i].data.length ss[i].cap) ∧ w.cell? ⟨b, o + i * 4 + 3, none⟩ = some (.int .u64 (ss[i].size : Int))
  bytes : ∀ s ∈ ss, Bs B w s.A s.data
  small : ∀ s ∈ ss, s.addr < 18446744073709551616 ∧ s.size < 18446744073709551616 ∧ s.data.length ≤ 140737488351232
  few : ss.length ≤ 140737488351232
  caps : ∀ s ∈ ss, s.data.length ≤ s.cap
theorem SgsAt.below {B : Nat} {w w' : World} {A : Option Addr} {ss : List Sg} (h : SgsAt B w A ss) (hb : Below B w w') : SgsAt B w' A ss := by
  refine ⟨fun i hi => ?_, fun p hp => (h.bytes p hp).below hb, h.small, h.few, h.caps⟩
  obtain ⟨b, o, e, hlt, h1, h2, h3, h4⟩ := h.cells i hi
  exact ⟨b, o, e, hlt, (hb.cell (p := ⟨b, _, none⟩) hlt).trans h1, (hb.cell (p := ⟨b, _, none⟩) hlt).trans h2, (hb.cell (p := ⟨b, _, none⟩) hlt).trans h3, (hb.cell (p := ⟨b, _, none⟩) hlt).trans h4⟩
theorem SgsAt.mono {B B' : Nat} {w : World} {A : Option Addr} {ss : List Sg} (h : SgsAt B w A ss) (hB : B ≤ B') : SgsAt B' w A ss := by
  refine ⟨fun i hi => ?_, fun p hp => (h.bytes p hp).more hB, h.small, h.few, h.caps⟩
  obtain ⟨b, o, e, hlt, r⟩ := h.cells i hi
  exact ⟨b, o, e, Nat.lt_of_lt_of_le hlt hB, r⟩

def roundN (n : Nat) : Nat := (n + 4095) / 4096 * 4096
def segB (addr : Nat) (perm : Int) (len size after : Nat) : Bool :=
  decide (addr % 4096 = 0) && allowedB perm && decide (1 ≤ size) && decide (size ≤ 16777216) && decide (len ≤ size) && decide (addr ≤ 281474976710656) && decide (size ≤ 281474976710656 - addr) && decide (after ≤ addr)
def entB (en addr : Nat) (perm : Int) (len : Nat) : Bool :=
  (bits BinOp.and .i64 perm 1 != 0) && decide (addr ≤ en) && decide (4 ≤ len) && decide (en - addr ≤ len - 4)

theorem chain8 : ∀ a b c d e f g h : Bool, a = false ∨ (a = true ∧ b = false) ∨ (a = true ∧ b = true ∧ c = false) ∨ (a = true ∧ b = true ∧ c = true ∧ d = false) ∨ (a = true ∧ b = true ∧ c = true ∧ d = true ∧ e = false) ∨
  (a = true ∧ b = true ∧ c = true ∧ d = true ∧ e = true ∧ f = false) ∨ (a = true ∧ b = true ∧ c = true ∧ d = true ∧ e = true ∧ f = true ∧ g = false) ∨ (a = true ∧ b = true ∧ c = true ∧ d = true ∧ e = true ∧ f = true ∧ g = true ∧ h = false) ∨
  (a = true ∧ b = true ∧ c = true ∧ d = true ∧ e = true ∧ f = true ∧ g = true ∧ h = true) := by
  intro a b c d e f g h
  cases a <;> simp <;> cases b <;> simp <;> cases c <;> simp <;> cases d <;> simp <;> cases e <;> simp <;> cases f <;> simp <;> cases g <;> simp
theorem chain4 : ∀ a b c d : Bool, a = false ∨ (a = true ∧ b = false) ∨ (a = true ∧ b = true ∧ c = false) ∨ (a = true ∧ b = true ∧ c = true ∧ d = false) ∨ (a = true ∧ b = true ∧ c = true ∧ d = true) := by decide
end Go.Pat
namespace Go.Proofs
open Go Go.RowKit Go.Pat

theorem eallowed_all (perm : Int) (w : World) : Calls Tryz.prog 89 #[.int .i64 perm] w fun e w' => e = .returned (.bool (allowedB perm)) ∧ w = w' := by
  cases h1 : decide (0 < perm) <;> cases h2 : decide (perm ≤ 7) <;> cases h3 : bits BinOp.and IntKind.i64 perm 3 != 3
  all_goals
    have hf : allowedB perm = allowedB perm := rfl
    conv at hf => rhs; simp only [allowedB, h1, h2, h3, Bool.and_self, Bool.and_true, Bool.and_false, Bool.true_and, Bool.false_and]
    go_enter Tryz.func89, Tryz.ntmps89
    go_wp2
    go_ret
    exact ⟨by rw [hf]; rfl, rfl⟩
theorem eup_any (n : Nat) (hn : n ≤ 4611686018427387904) (w : World) : Calls Tryz.prog 72 #[.int .u64 n] w fun e w' => e = .returned (.int .u64 (roundN n : Nat)) ∧ w = w' := by
  have e1 : IntKind.u64.wrap ((n : Int) + 4096) = ((n + 4096 : Nat) : Int) := by rw [IntKind.wrap_u64]; omega
  have e2 : IntKind.u64.wrap (((n + 4096 : Nat) : Int) - 1) = ((n + 4095 : Nat) : Int) := by rw [IntKind.wrap_u64]; omega
  go_enter Tryz.func72, Tryz.ntmps72
  go_wp2
  go_ret
  have e : (((n : Int) + 4096 - 1) / 4096 * 4096) = ((roundN n : Nat) : Int) := by unfold roundN; omega
  exact ⟨congrArg (fun z => Ending.returned (.int .u64 z)) e, rfl⟩

theorem eup_int (z : Int) (n : Nat) (hz : z = (n : Int)) (hn : n ≤ 4611686018427387904) (w : World) : Calls Tryz.prog 72 #[.int .u64 z] w fun e w' => e = .returned (.int .u64 (roundN n : Nat)) ∧ w = w' := by
  subst hz; exact eup_any n hn w

set_option maxHeartbeats 2000000 in
theorem eseg_any (w : World) (addr size after len cap : Nat) (perm : Int) (A : Option Addr) (h1 : addr < 18446744073709551616) (h2 : size < 18446744073709551616) (h3 : len ≤ 140737488351232) (_h4 : after < 18446744073709551616) :
    Calls Tryz.prog 71 #[.agg #[.int .u64 addr, .int .i64 perm, .slice A len cap, .int .u64 size], .int .u64 after] w fun e w' => e = .returned (.bool (segB addr perm len size after)) ∧ Below w.heap.size w w' := by
  have t1 : decide (addr % 4096 = 0) = ((addr : Int) % 4096 == 0) := by rw [Bool.eq_iff_iff]; simp; omega
  have t3 : decide (1 ≤ size) = decide ((1 : Int) ≤ (size : Int)) := by rw [Bool.eq_iff_iff]; simp; omega
  have t4 : decide (size ≤ 16777216) = decide ((size : Int) ≤ 16777216) := by rw [Bool.eq_iff_iff]; simp; omega
  have t6 : decide (addr ≤ 281474976710656) = decide ((addr : Int) ≤ 281474976710656) := by rw [Bool.eq_iff_iff]; simp; omega
  have hS : segB addr perm len size after = segB addr perm len size after := rfl
  conv at hS => rhs; simp only [segB, t1, t3, t4, t6]
  clear t1 t3 t4 t6
  rcases chain8 ((addr : Int) % 4096 == 0) (allowedB perm) (decide ((1 : Int) ≤ (size : Int))) (decide ((size : Int) ≤ 16777216)) (decide (len ≤ size)) (decide ((addr : Int) ≤ 281474976710656)) (decide (size ≤ 281474976710656 - addr)) (decide (after ≤ addr)) with
    a1 | ⟨a1, a2⟩ | ⟨a1, a2, a3⟩ | ⟨a1, a2, a3, a4⟩ | ⟨a1, a2, a3, a4, a5⟩ | ⟨a1, a2, a3, a4, a5, a6⟩ | ⟨a1, a2, a3, a4, a5, a6, a7⟩ | ⟨a1, a2, a3, a4, a5, a6, a7, a8⟩ | ⟨a1, a2, a3, a4, a5, a6, a7, a8⟩
  · simp only [a1, Bool.false_and] at hS
    have HS := Lib.hid hS
    clear hS
    go_enter Tryz.func71, Tryz.ntmps71
    go_wp2_with (go_at_call 89; refine (eallowed_all _ _).mono ?_; rintro e w' ⟨rfl, rfl⟩)
    go_ret
    exact ⟨by rw [HS.out]; rfl, (Below.refl _ _).alloc (Nat.le_refl _) _⟩
  · simp only [a1, a2, Bool.and_false, Bool.false_and] at hS
    have HS := Lib.hid hS
    clear hS
    go_enter Tryz.func71, Tryz.ntmps71
    go_wp2_with (go_at_call 89; refine (eallowed_all _ _).mono ?_; rintro e w' ⟨rfl, rfl⟩)
    go_ret
    exact ⟨by rw [HS.out]; rfl, (Below.refl _ _).alloc (Nat.le_refl _) _⟩
  · simp only [a1, a2, a3, Bool.and_false, Bool.false_and, Bool.and_self] at hS
    have HS := Lib.hid hS
    clear hS
    go_enter Tryz.func71, Tryz.ntmps71
    go_wp2_with (go_at_call 89; refine (eallowed_all _ _).mono ?_; rintro e w' ⟨rfl, rfl⟩)
    go_ret
    exact ⟨by rw [HS.out]; rfl, (Below.refl _ _).alloc (Nat.le_refl _) _⟩
  · simp only [a1, a2, a3, a4, Bool.and_false, Bool.false_and, Bool.and_self] at hS
    have HS := Lib.hid hS
    clear hS
    go_enter Tryz.func71, Tryz.ntmps71
    go_wp2_with (go_at_call 89; refine (eallowed_all _ _).mono ?_; rintro e w' ⟨rfl, rfl⟩)
    go_ret
    exact ⟨by rw [HS.out]; rfl, (Below.refl _ _).alloc (Nat.le_refl _) _⟩
  · simp only [a1, a2, a3, a4, a5, Bool.and_false, Bool.false_and, Bool.and_self] at hS
    have HS := Lib.hid hS
    clear hS
    go_enter Tryz.func71, Tryz.ntmps71
    go_wp2_with (go_at_call 89; refine (eallowed_all _ _).mono ?_; rintro e w' ⟨rfl, rfl⟩)
    go_ret
    exact ⟨by rw [HS.out]; rfl, (Below.refl _ _).alloc (Nat.le_refl _) _⟩
  · simp only [a1, a2, a3, a4, a5, a6, Bool.and_false, Bool.false_and, Bool.and_self] at hS
    have HS := Lib.hid hS
    clear hS
    go_enter Tryz.func71, Tryz.ntmps71
    go_wp2_with (go_at_call 89; refine (eallowed_all _ _).mono ?_; rintro e w' ⟨rfl, rfl⟩)
    go_ret
    exact ⟨by rw [HS.out]; rfl, (Below.refl _ _).alloc (Nat.le_refl _) _⟩
  · simp only [a1, a2, a3, a4, a5, a6, a7, Bool.and_false, Bool.false_and, Bool.and_self] at hS
    have HS := Lib.hid hS
    clear hS
    obtain ⟨r, hr⟩ : ∃ r, addr + r = 281474976710656 := ⟨281474976710656 - addr, by simp at a6; omega⟩
    rw [show 281474976710656 - addr = r by omega] at a7
    have ew : IntKind.u64.wrap (281474976710656 - (addr : Int)) = (r : Int) := by rw [IntKind.wrap_u64]; omega
    go_enter Tryz.func71, Tryz.ntmps71
    go_wp2_with (go_at_call 89; refine (eallowed_all _ _).mono ?_; rintro e w' ⟨rfl, rfl⟩)
    go_ret
    exact ⟨by rw [HS.out]; rfl, (Below.refl _ _).alloc (Nat.le_refl _) _⟩
  · simp only [a1, a2, a3, a4, a5, a6, a7, a8, Bool.and_false, Bool.and_self] at hS
    have HS := Lib.hid hS
    clear hS
    obtain ⟨r, hr⟩ : ∃ r, addr + r = 281474976710656 := ⟨281474976710656 - addr, by simp at a6; omega⟩
    rw [show 281474976710656 - addr = r by omega] at a7
    have ew : IntKind.u64.wrap (281474976710656 - (addr : Int)) = (r : Int) := by rw [IntKind.wrap_u64]; omega
    go_enter Tryz.func71, Tryz.ntmps71
    go_wp2_with (go_at_call 89; refine (eallowed_all _ _).mono ?_; rintro e w' ⟨rfl, rfl⟩)
    go_ret
    exact ⟨by rw [HS.out]; rfl, (Below.refl _ _).alloc (Nat.le_refl _) _⟩
  · simp only [a1, a2, a3, a4, a5, a6, a7, a8, Bool.and_self] at hS
    have HS := Lib.hid hS
    clear hS
    obtain ⟨r, hr⟩ : ∃ r, addr + r = 281474976710656 := ⟨281474976710656 - addr, by simp at a6; omega⟩
    rw [show 281474976710656 - addr = r by omega] at a7
    have ew : IntKind.u64.wrap (281474976710656 - (addr : Int)) = (r : Int) := by rw [IntKind.wrap_u64]; omega
    go_enter Tryz.func71, Tryz.ntmps71
    go_wp2_with (go_at_call 89; refine (eallowed_all _ _).mono ?_; rintro e w' ⟨rfl, rfl⟩)
    go_ret
    exact ⟨by rw [HS.out]; rfl, (Below.refl _ _).alloc (Nat.le_refl _) _⟩
end Go.Proofs

/- elf.Check: whether an image is right. -/
namespace Go.Pat
open Go Go.RowKit

def aftT (ss : List Sgd) : Nat → Nat
  | 0 => 0
  | k + 1 => match ss[k]? with | some s => roundN (s.addr + s.size) | none => 0
def pagT (ss : List Sgd) : Nat → Nat
  | 0 => 0
  | k + 1 => pagT ss k + (match ss[k]? with | some s => roundN s.size / 4096 | none => 0)
def entT (en : Nat) (ss : List Sgd) : Nat → Bool
  | 0 => false
  | k + 1 => entT en ss k || (match ss[k]? with | some s => entB en s.addr s.perm s.data.length | none => false)
def okT (ss : List Sgd) : Nat → Bool
  | 0 => true
  | k + 1 => okT ss k && (match ss[k]? with | some s => segB s.addr s.perm s.data.length s.size (aftT ss k) | none => false)
def checkE (en : Nat) (ss : List Sgd) : Int :=
  if ss.length < 1 ∨ 8 < ss.length ∨ okT ss ss.length = false ∨ 4096 < pagT ss ss.length ∨ entT en ss ss.length = false ∨ en % 4 ≠ 0 then 40 else 0
theorem okT_mono {ss : List Sgd} {k n : Nat} (h : okT ss k = false) (hk : k ≤ n) : okT ss n = false := by
  induction n with
  | zero => obtain rfl : k = 0 := by omega
            exact h
  | succ n ih =>
    by_cases e : k = n + 1
    · rw [← e]; exact h
    · rw [okT, ih (by omega), Bool.false_and]
structure SegFacts (s : Sgd) (after : Nat) : Prop where
  page : s.addr % 4096 = 0
  perm : allowedB s.perm = true
  pos : 1 ≤ s.size
  most : s.size ≤ 16777216
  fits : s.data.length ≤ s.size
  top : s.addr + s.size ≤ 281474976710656
  after : after ≤ s.addr
theorem segB_true {s : Sgd} {after : Nat} (h : segB s.addr s.perm s.data.length s.size after = true) : SegFacts s after := by
  simp only [segB, Bool.and_eq_true, decide_eq_true_eq] at h
  obtain ⟨⟨⟨⟨⟨⟨⟨a1, a2⟩, a3⟩, a4⟩, a5⟩, a6⟩, a7⟩, a8⟩ := h
  exact ⟨a1, a2, a3, a4, a5, Nat.add_le_of_le_sub' a6 a7, a8⟩
theorem okT_at {ss : List Sgd} {n : Nat} (h : okT ss n = true) (k : Nat) (hk : k < n) (hl : k < ss.length) : SegFacts ss[k] (aftT ss k) := by
  have h1 : okT ss (k + 1) = true := by
    cases hc : okT ss (k + 1) with
    | true => rfl
    | false => rw [okT_mono hc (by omega)] at h; cases h
  rw [okT, List.getElem?_eq_getElem hl] at h1
  exact segB_true (Bool.and_eq_true _ _ ▸ h1).2
theorem aftT_le {ss : List Sgd} {k : Nat} (h : okT ss k = true) : aftT ss k ≤ 281474976710656 + 4095 := by
  cases k with
  | zero => simp [aftT]
  | succ k =>
    rw [aftT]
    cases hc : ss[k]? with
    | none => simp
    | some s =>
      obtain ⟨hl, rfl⟩ := List.getElem?_eq_some_iff.1 hc
      have := (okT_at h k (by omega) hl).top
      simp only [roundN]
      omega
set_option maxRecDepth 100000 in
theorem pagT_le {ss : List Sgd} {k : Nat} (h : okT ss k = true) : pagT ss k ≤ k * 4096 := by
  induction k with
  | zero => simp [pagT]
  | succ k ih =>
    have hk : okT ss k = true := by
      cases hc : okT ss k with
      | true => rfl
      | false => rw [okT_mono hc (by omega)] at h; cases h
    have := ih hk
    rw [pagT]
    cases hc : ss[k]? with
    | none => simp only; omega
    | some s =>
      obtain ⟨hl, rfl⟩ := List.getElem?_eq_some_iff.1 hc
      have := (okT_at h k (by omega) hl).most
      simp only [roundN]
      omega

theorem two_cells (w : World) (a b : Value) (t : Nat) {w1 : World} (hb : Below (w.alloc (.cells #[a, b] t)).heap.size (w.alloc (.cells #[a, b] t)) w1) :
    w1.cell? ⟨w.heap.size, 0, none⟩ = some a ∧ w1.cell? ⟨w.heap.size, 1, none⟩ = some b := by
  have hs : w.heap.size < (w.alloc (.cells #[a, b] t)).heap.size := by simp
  refine ⟨(hb.cell (p := ⟨w.heap.size, 0, none⟩) hs).trans ?_, (hb.cell (p := ⟨w.heap.size, 1, none⟩) hs).trans ?_⟩
  all_goals
    unfold World.cell?
    rw [show (w.alloc (.cells #[a, b] t)).heap[w.heap.size]? = some (.cells #[a, b] t) from Array.getElem?_push_size]
    rfl
theorem four_cells (w : World) (a b c d : Value) (t : Nat) {w1 : World} (hb : Below (w.alloc (.cells #[a, b, c, d] t)).heap.size (w.alloc (.cells #[a, b, c, d] t)) w1) :
    w1.cell? ⟨w.heap.size, 0, none⟩ = some a ∧ w1.cell? ⟨w.heap.size, 1, none⟩ = some b ∧ w1.cell? ⟨w.heap.size, 2, none⟩ = some c ∧ w1.cell? ⟨w.heap.size, 3, none⟩ = some d := by
  have hs : w.heap.size < (w.alloc (.cells #[a, b, c, d] t)).heap.size := by simp
  refine ⟨(hb.cell (p := ⟨w.heap.size, 0, none⟩) hs).trans ?_, (hb.cell (p := ⟨w.heap.size, 1, none⟩) hs).trans ?_, (hb.cell (p := ⟨w.heap.size, 2, none⟩) hs).trans ?_, (hb.cell (p := ⟨w.heap.size, 3, none⟩) hs).trans ?_⟩
  all_goals
    unfold World.cell?
    rw [show (w.alloc (.cells #[a, b, c, d] t)).heap[w.heap.size]? = some (.cells #[a, b, c, d] t) from Array.getElem?_push_size]
    rfl
end Go.Pat
namespace Go.Proofs
open Go Go.RowKit Go.Pat

set_option maxHeartbeats 4000000 in
theorem eCheck_few (w : World) (A : Option Addr) (cap en n : Nat) (hn : n < 1 ∨ 8 < n) (hf : n ≤ 140737488351232) :
    Calls Tryz.prog 53 #[.agg #[.int .u64 en, .slice A n cap]] w fun e w' => e = .returned (.int .i64 40) ∧ Below w.heap.size w w' := by
  rcases hn with h | h
  · have h1 : decide ((n : Int) < 1) = true := by simp; omega
    go_enter Tryz.func53, Tryz.ntmps53
    go_wp2
    go_ret
    exact ⟨rfl, (Below.refl _ _).alloc (Nat.le_refl _) _⟩
  · have h1 : decide ((n : Int) < 1) = false := by simp; omega
    have h2 : decide ((8 : Int) < (n : Int)) = true := by simp; omega
    go_enter Tryz.func53, Tryz.ntmps53
    go_wp2
    go_ret
    exact ⟨rfl, (Below.refl _ _).alloc (Nat.le_refl _) _⟩

set_option maxHeartbeats 4000000 in
theorem eCheck_any (w : World) (A : Option Addr) (cap en : Nat) (ss : List Sg) (hP : SgsAt w.heap.size w A ss) (hen : en < 18446744073709551616) :
    Calls Tryz.prog 53 #[.agg #[.int .u64 en, .slice A ss.length cap]] w fun e w' => e = .returned (.int .i64 (checkE en (ss.map Sg.d))) ∧ Below w.heap.size w w' := by
  by_cases hn : ss.length < 1 ∨ 8 < ss.length
  · refine (eCheck_few w A cap en _ hn hP.few).mono ?_
    rintro e w' ⟨rfl, hb⟩
    refine ⟨?_, hb⟩
    unfold checkE
    rw [if_pos (by simp only [List.length_map]; rcases hn with h | h; exact .inl h; exact .inr (.inl h))]
  have hn1 : 1 ≤ ss.length := by omega
  have hn8 : ss.length ≤ 8 := by omega
  have h1 : decide ((ss.length : Int) < 1) = false := by simp; omega
  have h2 : decide ((8 : Int) < (ss.length : Int)) = false := by simp; omega
  have hb0 : Below w.heap.size w (w.alloc (.cells #[.int .u64 en, .slice A ss.length cap] 59)) := (Below.refl _ _).alloc (Nat.le_refl _) _
  go_enter Tryz.func53, Tryz.ntmps53
  go_wp2
  go_loopw [3, 4, 5, 21] (fun af pg et i wr => ∃ j : Nat, j ≤ ss.length ∧ i = .int .i64 j ∧ af = .int .u64 (aftT (ss.map Sg.d) j : Nat) ∧ pg = .int .u64 (pagT (ss.map Sg.d) j : Nat) ∧ et = .bool (entT en (ss.map Sg.d) j) ∧
    okT (ss.map Sg.d) j = true ∧ Below (w.alloc (.cells #[.int .u64 en, .slice A ss.length cap] 59)).heap.size (w.alloc (.cells #[.int .u64 en, .slice A ss.length cap] 59)) wr) (fun _ _ _ i _ => ss.length - (intOf i).toNat)
  case atStart => exact ⟨0, by omega, rfl, rfl, rfl, rfl, rfl, Below.refl _ _⟩
  case round =>
    obtain ⟨j, hj, rfl, rfl, rfl, rfl, hok, hB⟩ := hrel
    obtain ⟨c0, c1⟩ := two_cells _ _ _ _ hB
    have hPj := hP.below (hb0.trans (hB.mono hb0.size))
    by_cases hlt : j < ss.length
    · have hd3 : decide ((j : Int) < (ss.length : Int)) = true := by simp; omega
      obtain ⟨b, o, rfl, hbw, q0, q1, q2, q3⟩ := hPj.cells j hlt
      have hsm := hPj.small ss[j] (List.getElem_mem hlt)
      have hget : (ss.map Sg.d)[j]? = some (ss[j].d) := by simp [hlt]
      go_wp2_with fail
      refine (eseg_any _ ss[j].addr ss[j].size (aftT (ss.map Sg.d) j) ss[j].data.length ss[j].cap ss[j].perm ss[j].A hsm.1 hsm.2.1 hsm.2.2 (by have := aftT_le hok; omega)).mono ?_
      rintro e w2 ⟨rfl, hB2⟩
      obtain ⟨d0, d1, d2, d3⟩ := four_cells _ _ _ _ _ _ hB2
      have hBw := hB.trans (((Below.refl _ _).alloc hB.size (.cells #[.int .u64 ss[j].addr, .int .i64 ss[j].perm, .slice ss[j].A ss[j].data.length ss[j].cap, .int .u64 ss[j].size] 66)).trans (hB2.mono (Nat.le_trans hB.size (by rw [World.size_alloc]; omega))))
      obtain ⟨c0, c1⟩ := two_cells _ _ _ _ hBw
      clear hB2
      cases hs : segB ss[j].addr ss[j].perm ss[j].data.length ss[j].size (aftT (ss.map Sg.d) j) with
      | false =>
        have hfin : checkE en (ss.map Sg.d) = 40 := by
          unfold checkE
          rw [if_pos]
          refine .inr (.inr (.inl (okT_mono (k := j + 1) ?_ (by simp; omega))))
          rw [okT, hget]
          simp only [Sg.d, hs, Bool.and_false]
        have HF := Lib.hid hfin
        clear hfin
        go_wp2
        go_ret
        exact ⟨by rw [HF.out]; rfl, hb0.trans (hBw.mono hb0.size)⟩
      | true =>
        have hF := segB_true (s := ss[j].d) hs
        have ha : aftT (ss.map Sg.d) (j + 1) = roundN (ss[j].addr + ss[j].size) := by rw [aftT, hget]; rfl
        have hp : pagT (ss.map Sg.d) (j + 1) = pagT (ss.map Sg.d) j + roundN ss[j].size / 4096 := by rw [pagT, hget]; rfl
        have he : entT en (ss.map Sg.d) (j + 1) = (entT en (ss.map Sg.d) j || entB en ss[j].addr ss[j].perm ss[j].data.length) := by rw [entT, hget]; rfl
        have ho : okT (ss.map Sg.d) (j + 1) = true := by rw [okT, hget, hok]; simpa [Sg.d] using hs
        have hpl := pagT_le hok
        have hT : ss[j].addr + ss[j].size ≤ 281474976710656 := hF.top
        have hM : ss[j].size ≤ 16777216 := hF.most
        have hT2 : ss[j].addr + ss[j].size ≤ 4611686018427387904 := Nat.le_trans hT (by decide)
        have hM2 : ss[j].size ≤ 4611686018427387904 := Nat.le_trans hM (by decide)
        have hr : roundN ss[j].size ≤ 16777216 + 4095 := by unfold roundN; omega
        clear hs hF
        have HJ := Lib.hid (And.intro ha (And.intro hp (And.intro he ho)))
        clear ha hp he ho
        cases hent : entT en (ss.map Sg.d) j with
        | true =>
          have he2 : (true || entB en ss[j].addr ss[j].perm ss[j].data.length) = true := rfl
          have HE := Lib.hid (show (entT en (ss.map Sg.d) j || entB en ss[j].addr ss[j].perm ss[j].data.length) = true by rw [hent]; rfl)
          clear he2
          go_wp2_with fail
          refine (eup_int _ (ss[j].addr + ss[j].size) (Int.natCast_add _ _).symm hT2 _).mono ?_
          rintro e w' ⟨rfl, rfl⟩
          go_wp2_with fail
          refine (eup_int _ ss[j].size rfl hM2 _).mono ?_
          rintro e w' ⟨rfl, rfl⟩
          go_wp2
          go_roundw
          case rel =>
            refine ⟨j + 1, by omega, by go_num, by rw [HJ.out.1], ?_, (congrArg Value.bool (HJ.out.2.2.1.trans HE.out)).symm, HJ.out.2.2.2, hBw⟩
            rw [HJ.out.2.1]
            exact congrArg (Value.int .u64) (by omega)
          case measure => simp [intOf]; omega
        | false =>
          have hB4 : entB en ss[j].addr ss[j].perm ss[j].data.length = entB en ss[j].addr ss[j].perm ss[j].data.length := rfl
          conv at hB4 => rhs; unfold entB
          have t3 : decide (4 ≤ ss[j].data.length) = decide ((4 : Int) ≤ (ss[j].data.length : Int)) := by rw [Bool.eq_iff_iff]; simp; omega
          rw [t3] at hB4
          clear t3
          rcases chain4 (bits BinOp.and .i64 ss[j].perm 1 != 0) (decide (ss[j].addr ≤ en)) (decide ((4 : Int) ≤ (ss[j].data.length : Int))) (decide (en - ss[j].addr ≤ ss[j].data.length - 4)) with x1 | ⟨x1, x2⟩ | ⟨x1, x2, x3⟩ | ⟨x1, x2, x3, x4⟩ | ⟨x1, x2, x3, x4⟩
          · have HE := Lib.hid (show (entT en (ss.map Sg.d) j || entB en ss[j].addr ss[j].perm ss[j].data.length) = false by rw [hent, hB4]; simp only [x1, Bool.false_and, Bool.false_or])
            clear hB4
            go_wp2_with fail
            refine (eup_int _ (ss[j].addr + ss[j].size) (Int.natCast_add _ _).symm hT2 _).mono ?_
            rintro e w' ⟨rfl, rfl⟩
            go_wp2_with fail
            refine (eup_int _ ss[j].size rfl hM2 _).mono ?_
            rintro e w' ⟨rfl, rfl⟩
            go_wp2
            go_roundw
            case rel =>
              refine ⟨j + 1, by omega, by go_num, by rw [HJ.out.1], ?_, (congrArg Value.bool (HJ.out.2.2.1.trans HE.out)).symm, HJ.out.2.2.2, hBw⟩
              rw [HJ.out.2.1]
              exact congrArg (Value.int .u64) (by omega)
            case measure => simp [intOf]; omega
          · have HE := Lib.hid (show (entT en (ss.map Sg.d) j || entB en ss[j].addr ss[j].perm ss[j].data.length) = false by rw [hent, hB4]; simp only [x1, x2, Bool.and_false, Bool.false_and, Bool.false_or])
            clear hB4
            go_wp2_with fail
            refine (eup_int _ (ss[j].addr + ss[j].size) (Int.natCast_add _ _).symm hT2 _).mono ?_
            rintro e w' ⟨rfl, rfl⟩
            go_wp2_with fail
            refine (eup_int _ ss[j].size rfl hM2 _).mono ?_
            rintro e w' ⟨rfl, rfl⟩
            go_wp2
            go_roundw
            case rel =>
              refine ⟨j + 1, by omega, by go_num, by rw [HJ.out.1], ?_, (congrArg Value.bool (HJ.out.2.2.1.trans HE.out)).symm, HJ.out.2.2.2, hBw⟩
              rw [HJ.out.2.1]
              exact congrArg (Value.int .u64) (by omega)
            case measure => simp [intOf]; omega
          · have HE := Lib.hid (show (entT en (ss.map Sg.d) j || entB en ss[j].addr ss[j].perm ss[j].data.length) = false by rw [hent, hB4]; simp only [x1, x2, x3, Bool.and_self, Bool.and_false, Bool.false_and, Bool.false_or])
            clear hB4
            go_wp2_with fail
            refine (eup_int _ (ss[j].addr + ss[j].size) (Int.natCast_add _ _).symm hT2 _).mono ?_
            rintro e w' ⟨rfl, rfl⟩
            go_wp2_with fail
            refine (eup_int _ ss[j].size rfl hM2 _).mono ?_
            rintro e w' ⟨rfl, rfl⟩
            go_wp2
            go_roundw
            case rel =>
              refine ⟨j + 1, by omega, by go_num, by rw [HJ.out.1], ?_, (congrArg Value.bool (HJ.out.2.2.1.trans HE.out)).symm, HJ.out.2.2.2, hBw⟩
              rw [HJ.out.2.1]
              exact congrArg (Value.int .u64) (by omega)
            case measure => simp [intOf]; omega
          · have HE := Lib.hid (show (entT en (ss.map Sg.d) j || entB en ss[j].addr ss[j].perm ss[j].data.length) = false by rw [hent, hB4]; simp only [x1, x2, x3, x4, Bool.and_self, Bool.and_false, Bool.false_or])
            clear hB4
            obtain ⟨d, hd⟩ : ∃ d, ss[j].addr + d = en := ⟨en - ss[j].addr, by simp at x2; omega⟩
            obtain ⟨r, hr2⟩ : ∃ r, r + 4 = ss[j].data.length := ⟨ss[j].data.length - 4, by simp at x3; omega⟩
            rw [show en - ss[j].addr = d by omega, show ss[j].data.length - 4 = r by omega] at x4
            have ew1 : IntKind.u64.wrap ((en : Int) - (ss[j].addr : Int)) = (d : Int) := by rw [IntKind.wrap_u64]; omega
            have ew2 : IntKind.u64.wrap ((ss[j].data.length : Int) - 4) = (r : Int) := by rw [IntKind.wrap_u64]; omega
            go_wp2_with fail
            refine (eup_int _ (ss[j].addr + ss[j].size) (Int.natCast_add _ _).symm hT2 _).mono ?_
            rintro e w' ⟨rfl, rfl⟩
            go_wp2_with fail
            refine (eup_int _ ss[j].size rfl hM2 _).mono ?_
            rintro e w' ⟨rfl, rfl⟩
            go_wp2
            go_roundw
            case rel =>
              refine ⟨j + 1, by omega, by go_num, by rw [HJ.out.1], ?_, (congrArg Value.bool (HJ.out.2.2.1.trans HE.out)).symm, HJ.out.2.2.2, hBw⟩
              rw [HJ.out.2.1]
              exact congrArg (Value.int .u64) (by omega)
            case measure => simp [intOf]; omega
          · have HE := Lib.hid (show (entT en (ss.map Sg.d) j || entB en ss[j].addr ss[j].perm ss[j].data.length) = true by rw [hent, hB4]; simp only [x1, x2, x3, x4, Bool.and_self, Bool.false_or])
            clear hB4
            obtain ⟨d, hd⟩ : ∃ d, ss[j].addr + d = en := ⟨en - ss[j].addr, by simp at x2; omega⟩
            obtain ⟨r, hr2⟩ : ∃ r, r + 4 = ss[j].data.length := ⟨ss[j].data.length - 4, by simp at x3; omega⟩
            rw [show en - ss[j].addr = d by omega, show ss[j].data.length - 4 = r by omega] at x4
            have ew1 : IntKind.u64.wrap ((en : Int) - (ss[j].addr : Int)) = (d : Int) := by rw [IntKind.wrap_u64]; omega
            have ew2 : IntKind.u64.wrap ((ss[j].data.length : Int) - 4) = (r : Int) := by rw [IntKind.wrap_u64]; omega
            go_wp2_with fail
            refine (eup_int _ (ss[j].addr + ss[j].size) (Int.natCast_add _ _).symm hT2 _).mono ?_
            rintro e w' ⟨rfl, rfl⟩
            go_wp2_with fail
            refine (eup_int _ ss[j].size rfl hM2 _).mono ?_
            rintro e w' ⟨rfl, rfl⟩
            go_wp2
            go_roundw
            case rel =>
              refine ⟨j + 1, by omega, by go_num, by rw [HJ.out.1], ?_, (congrArg Value.bool (HJ.out.2.2.1.trans HE.out)).symm, HJ.out.2.2.2, hBw⟩
              rw [HJ.out.2.1]
              exact congrArg (Value.int .u64) (by omega)
            case measure => simp [intOf]; omega
    · have hd3 : decide ((j : Int) < (ss.length : Int)) = false := by simp; omega
      obtain rfl : j = ss.length := by omega
      have hl : (ss.map Sg.d).length = ss.length := List.length_map ..
      by_cases p1 : 4096 < pagT (ss.map Sg.d) ss.length
      · have hfin : checkE en (ss.map Sg.d) = 40 := by unfold checkE; rw [hl, if_pos (.inr (.inr (.inr (.inl p1))))]
        have HF := Lib.hid hfin
        clear hfin
        have g1 : decide ((4096 : Int) < (pagT (ss.map Sg.d) ss.length : Int)) = true := by simp; omega
        go_wp2
        go_ret
        exact ⟨by rw [HF.out]; rfl, hb0.trans (hB.mono hb0.size)⟩
      · have g1 : decide ((4096 : Int) < (pagT (ss.map Sg.d) ss.length : Int)) = false := by simp; omega
        cases p2 : entT en (ss.map Sg.d) ss.length with
        | false =>
          have hfin : checkE en (ss.map Sg.d) = 40 := by unfold checkE; rw [hl, if_pos (.inr (.inr (.inr (.inr (.inl p2)))))]
          have HF := Lib.hid hfin
          clear hfin
          go_wp2
          go_ret
          exact ⟨by rw [HF.out]; rfl, hb0.trans (hB.mono hb0.size)⟩
        | true =>
          by_cases p3 : en % 4 = 0
          · have hfin : checkE en (ss.map Sg.d) = 0 := by
              unfold checkE
              rw [hl, if_neg]
              rintro (h | h | h | h | h | h)
              · omega
              · omega
              · rw [hok] at h; cases h
              · exact p1 h
              · rw [p2] at h; cases h
              · exact h p3
            have HF := Lib.hid hfin
            clear hfin
            have g2 : ((en : Int) % 4 != 0) = false := by simp; omega
            go_wp2
            go_ret
            exact ⟨by rw [HF.out]; rfl, hb0.trans (hB.mono hb0.size)⟩
          · have hfin : checkE en (ss.map Sg.d) = 40 := by unfold checkE; rw [hl, if_pos (.inr (.inr (.inr (.inr (.inr p3)))))]
            have HF := Lib.hid hfin
            clear hfin
            have g2 : ((en : Int) % 4 != 0) = true := by simp; omega
            go_wp2
            go_ret
            exact ⟨by rw [HF.out]; rfl, hb0.trans (hB.mono hb0.size)⟩
end Go.Proofs

/- patinaref04.Check answers as elf.Check does. -/
namespace Go.Pat
open Go Go.RowKit

theorem pagT_mono {ss : List Sgd} {k n : Nat} (hk : k ≤ n) : pagT ss k ≤ pagT ss n := by
  induction n with
  | zero => obtain rfl : k = 0 := by omega
            exact Nat.le_refl _
  | succ n ih =>
    by_cases e : k = n + 1
    · rw [← e]; exact Nat.le_refl _
    · rw [pagT]; exact Nat.le_trans (ih (by omega)) (Nat.le_add_right _ _)
end Go.Pat
namespace Go.Proofs
open Go Go.RowKit Go.Pat

end Go.Proofs

/- patinaref04.Check answers as elf.Check does. -/
namespace Go.Proofs
open Go Go.RowKit Go.Pat

end Go.Proofs
