/- cpu.Alu, cpu.Taken, patinaref03.Alu and patinaref03.Taken: the same values at every operation. -/
import Derived.Test.YtemngapfnkokiaaDoorAluC
namespace Go.Pat
open Go Go.RowKit
def pOf (op : Nat) : Nat :=
  match op with
  | 22 => 35
  | 23 => 38
  | 24 => 39
  | 25 => 40
  | 26 => 43
  | 27 => 44
  | 28 => 37
  | 29 => 41
  | 30 => 42
  | 31 => 35
  | 32 => 37
  | 33 => 41
  | 34 => 42
  | 45 => 35
  | 46 => 36
  | 47 => 37
  | 48 => 41
  | 49 => 42
  | 58 => 50
  | 59 => 54
  | 60 => 55
  | 61 => 56
  | 62 => 57
  | op => op
def halfOf (op : Nat) : Bool :=
  match op with
  | 31 => true
  | 32 => true
  | 33 => true
  | 34 => true
  | 45 => true
  | 46 => true
  | 47 => true
  | 48 => true
  | 49 => true
  | 58 => true
  | 59 => true
  | 60 => true
  | 61 => true
  | 62 => true
  | _ => false
theorem modN32 (a : Nat) : (a : Int) % 4294967296 = ((a % 4294967296 : Nat) : Int) := by omega
theorem ops_list (op : Nat) (h1 : 22 ≤ op) (h2 : op ≤ 62) : op = 22 ∨ op = 23 ∨ op = 24 ∨ op = 25 ∨ op = 26 ∨ op = 27 ∨ op = 28 ∨ op = 29 ∨ op = 30 ∨ op = 31 ∨ op = 32 ∨ op = 33 ∨ op = 34 ∨ op = 35 ∨ op = 36 ∨ op = 37 ∨ op = 38 ∨ op = 39 ∨ op = 40 ∨ op = 41 ∨ op = 42 ∨ op = 43 ∨ op = 44 ∨ op = 45 ∨ op = 46 ∨ op = 47 ∨ op = 48 ∨ op = 49 ∨ op = 50 ∨ op = 51 ∨ op = 52 ∨ op = 53 ∨ op = 54 ∨ op = 55 ∨ op = 56 ∨ op = 57 ∨ op = 58 ∨ op = 59 ∨ op = 60 ∨ op = 61 ∨ op = 62 := by omega
theorem pOf_half (op : Nat) (h1 : 22 ≤ op) (h2 : op ≤ 62) (hh : halfOf op = true) : ∃ p, pOf op = p ∧ (p = 35 ∨ p = 36 ∨ p = 37 ∨ p = 41 ∨ p = 42 ∨ p = 50 ∨ p = 54 ∨ p = 55 ∨ p = 56 ∨ p = 57) := by
  refine ⟨_, rfl, ?_⟩
  rcases ops_list op h1 h2 with rfl | rfl | rfl | rfl | rfl | rfl | rfl | rfl | rfl | rfl | rfl | rfl | rfl | rfl | rfl | rfl | rfl | rfl | rfl | rfl | rfl | rfl | rfl | rfl | rfl | rfl | rfl | rfl | rfl | rfl | rfl | rfl | rfl | rfl | rfl | rfl | rfl | rfl | rfl | rfl | rfl <;> first | decide | (exfalso; revert hh; decide)
theorem pOf_full (op : Nat) (h1 : 22 ≤ op) (h2 : op ≤ 62) (hh : halfOf op = false) : ∃ p, pOf op = p ∧ (p = 35 ∨ p = 36 ∨ p = 37 ∨ p = 38 ∨ p = 39 ∨ p = 40 ∨ p = 41 ∨ p = 42 ∨ p = 43 ∨ p = 44 ∨ p = 50 ∨ p = 51 ∨ p = 52 ∨ p = 53 ∨ p = 54 ∨ p = 55 ∨ p = 56 ∨ p = 57) := by
  refine ⟨_, rfl, ?_⟩
  rcases ops_list op h1 h2 with rfl | rfl | rfl | rfl | rfl | rfl | rfl | rfl | rfl | rfl | rfl | rfl | rfl | rfl | rfl | rfl | rfl | rfl | rfl | rfl | rfl | rfl | rfl | rfl | rfl | rfl | rfl | rfl | rfl | rfl | rfl | rfl | rfl | rfl | rfl | rfl | rfl | rfl | rfl | rfl | rfl <;> first | decide | (exfalso; revert hh; decide)
/-- what an operation makes of two numbers. -/
def aluV (op a b : Nat) : Int := if halfOf op then ((wordN (pOf op) (a % 4294967296) (b % 4294967296) : Nat) : Int) else fullV (pOf op) a b
/-- whether a branch is taken. -/
def takenV (op : Int) (a b : Nat) : Bool × Int :=
  if op = 5 then (decide (a = b), 0) else if op = 6 then (!decide (a = b), 0) else if op = 7 then (decide (wrap64 (a : Int) < wrap64 (b : Int)), 0)
  else if op = 8 then (decide (wrap64 (b : Int) ≤ wrap64 (a : Int)), 0) else if op = 9 then (decide (a < b), 0) else if op = 10 then (decide (b ≤ a), 0) else (false, 1)
end Go.Pat
namespace Go.Proofs
open Go Go.RowKit Go.Pat
theorem word_any (p x y : Nat) (hp : p = 35 ∨ p = 36 ∨ p = 37 ∨ p = 41 ∨ p = 42 ∨ p = 50 ∨ p = 54 ∨ p = 55 ∨ p = 56 ∨ p = 57) (hx : x < 4294967296) (hy : y < 4294967296) (w : World) :
    Calls Tryd.prog 59 #[.int .i64 (p : Int), .int .u32 x, .int .u32 y] w fun e w' => e = .returned (.int .u64 ((wordN p x y : Nat) : Int)) ∧ w' = w := by
  rcases hp with rfl | rfl | rfl | rfl | rfl | rfl | rfl | rfl | rfl | rfl
  · exact word_35 x y hx hy w
  · exact word_36 x y hx hy w
  · exact word_37 x y hx hy w
  · exact word_41 x y hx hy w
  · exact word_42 x y hx hy w
  · exact word_50 x y hx hy w
  · exact word_54 x y hx hy w
  · exact word_55 x y hx hy w
  · exact word_56 x y hx hy w
  · exact word_57 x y hx hy w
theorem narrow_any (p a b : Nat) (hp : p = 35 ∨ p = 36 ∨ p = 37 ∨ p = 41 ∨ p = 42 ∨ p = 50 ∨ p = 54 ∨ p = 55 ∨ p = 56 ∨ p = 57) (ha : a < 18446744073709551616) (hb : b < 18446744073709551616) (w : World) :
    Calls Tryd.prog 43 #[.int .i64 (p : Int), .int .u64 a, .int .u64 b] w fun e w' => e = .returned (.int .u64 ((wordN p (a % 4294967296) (b % 4294967296) : Nat) : Int)) ∧ w' = w := by
  rcases hp with rfl | rfl | rfl | rfl | rfl | rfl | rfl | rfl | rfl | rfl
  · exact narrow_35 a b ha hb w
  · exact narrow_36 a b ha hb w
  · exact narrow_37 a b ha hb w
  · exact narrow_41 a b ha hb w
  · exact narrow_42 a b ha hb w
  · exact narrow_50 a b ha hb w
  · exact narrow_54 a b ha hb w
  · exact narrow_55 a b ha hb w
  · exact narrow_56 a b ha hb w
  · exact narrow_57 a b ha hb w
theorem full_any (p a b : Nat) (hp : p = 35 ∨ p = 36 ∨ p = 37 ∨ p = 38 ∨ p = 39 ∨ p = 40 ∨ p = 41 ∨ p = 42 ∨ p = 43 ∨ p = 44 ∨ p = 50 ∨ p = 51 ∨ p = 52 ∨ p = 53 ∨ p = 54 ∨ p = 55 ∨ p = 56 ∨ p = 57) (ha : a < 18446744073709551616) (hb : b < 18446744073709551616) (w : World) :
    Calls Tryd.prog 60 #[.int .i64 (p : Int), .int .u64 a, .int .u64 b] w fun e w' => e = .returned (.int .u64 (fullV p a b)) ∧ w' = w := by
  rcases hp with rfl | rfl | rfl | rfl | rfl | rfl | rfl | rfl | rfl | rfl | rfl | rfl | rfl | rfl | rfl | rfl | rfl | rfl
  · exact full_35 a b ha hb w
  · exact full_36 a b ha hb w
  · exact full_37 a b ha hb w
  · exact full_38 a b ha hb w
  · exact full_39 a b ha hb w
  · exact full_40 a b ha hb w
  · exact full_41 a b ha hb w
  · exact full_42 a b ha hb w
  · exact full_43 a b ha hb w
  · exact full_44 a b ha hb w
  · exact full_50 a b ha hb w
  · exact full_51 a b ha hb w
  · exact full_52 a b ha hb w
  · exact full_53 a b ha hb w
  · exact full_54 a b ha hb w
  · exact full_55 a b ha hb w
  · exact full_56 a b ha hb w
  · exact full_57 a b ha hb w
theorem alu_any (p a b : Nat) (hp : p = 35 ∨ p = 36 ∨ p = 37 ∨ p = 38 ∨ p = 39 ∨ p = 40 ∨ p = 41 ∨ p = 42 ∨ p = 43 ∨ p = 44 ∨ p = 50 ∨ p = 51 ∨ p = 52 ∨ p = 53 ∨ p = 54 ∨ p = 55 ∨ p = 56 ∨ p = 57) (ha : a < 18446744073709551616) (hb : b < 18446744073709551616) (w : World) :
    Calls Tryd.prog 44 #[.int .i64 (p : Int), .int .u64 a, .int .u64 b] w fun e w' => e = .returned (.int .u64 (fullV p a b)) ∧ w' = w := by
  rcases hp with rfl | rfl | rfl | rfl | rfl | rfl | rfl | rfl | rfl | rfl | rfl | rfl | rfl | rfl | rfl | rfl | rfl | rfl
  · exact alu_35 a b ha hb w
  · exact alu_36 a b ha hb w
  · exact alu_37 a b ha hb w
  · exact alu_38 a b ha hb w
  · exact alu_39 a b ha hb w
  · exact alu_40 a b ha hb w
  · exact alu_41 a b ha hb w
  · exact alu_42 a b ha hb w
  · exact alu_43 a b ha hb w
  · exact alu_44 a b ha hb w
  · exact alu_50 a b ha hb w
  · exact alu_51 a b ha hb w
  · exact alu_52 a b ha hb w
  · exact alu_53 a b ha hb w
  · exact alu_54 a b ha hb w
  · exact alu_55 a b ha hb w
  · exact alu_56 a b ha hb w
  · exact alu_57 a b ha hb w
theorem plain_22 (w : World) : Calls Tryd.prog 58 #[.int .i64 22] w fun e w' => e = .returned (.tuple #[.int .i64 35, .bool false]) ∧ w' = w := by
  go_enter Tryd.func58, Tryd.ntmps58
  go_wp2
  go_ret2
  exact ⟨rfl, rfl⟩
theorem wide_22 (w : World) : Calls Tryd.prog 42 #[.int .i64 22] w fun e w' => e = .returned (.tuple #[.int .i64 35, .bool false]) ∧ Below w.heap.size w w' := by
  go_enter Tryd.func42, Tryd.ntmps42
  go_wp2
  go_ret2
  exact ⟨rfl, by first | exact (Below.refl _ _).alloc (Nat.le_refl _) _ | exact Below.refl _ _⟩
theorem plain_23 (w : World) : Calls Tryd.prog 58 #[.int .i64 23] w fun e w' => e = .returned (.tuple #[.int .i64 38, .bool false]) ∧ w' = w := by
  go_enter Tryd.func58, Tryd.ntmps58
  go_wp2
  go_ret2
  exact ⟨rfl, rfl⟩
theorem wide_23 (w : World) : Calls Tryd.prog 42 #[.int .i64 23] w fun e w' => e = .returned (.tuple #[.int .i64 38, .bool false]) ∧ Below w.heap.size w w' := by
  go_enter Tryd.func42, Tryd.ntmps42
  go_wp2
  go_ret2
  exact ⟨rfl, by first | exact (Below.refl _ _).alloc (Nat.le_refl _) _ | exact Below.refl _ _⟩
theorem plain_24 (w : World) : Calls Tryd.prog 58 #[.int .i64 24] w fun e w' => e = .returned (.tuple #[.int .i64 39, .bool false]) ∧ w' = w := by
  go_enter Tryd.func58, Tryd.ntmps58
  go_wp2
  go_ret2
  exact ⟨rfl, rfl⟩
theorem wide_24 (w : World) : Calls Tryd.prog 42 #[.int .i64 24] w fun e w' => e = .returned (.tuple #[.int .i64 39, .bool false]) ∧ Below w.heap.size w w' := by
  go_enter Tryd.func42, Tryd.ntmps42
  go_wp2
  go_ret2
  exact ⟨rfl, by first | exact (Below.refl _ _).alloc (Nat.le_refl _) _ | exact Below.refl _ _⟩
theorem plain_25 (w : World) : Calls Tryd.prog 58 #[.int .i64 25] w fun e w' => e = .returned (.tuple #[.int .i64 40, .bool false]) ∧ w' = w := by
  go_enter Tryd.func58, Tryd.ntmps58
  go_wp2
  go_ret2
  exact ⟨rfl, rfl⟩
theorem wide_25 (w : World) : Calls Tryd.prog 42 #[.int .i64 25] w fun e w' => e = .returned (.tuple #[.int .i64 40, .bool false]) ∧ Below w.heap.size w w' := by
  go_enter Tryd.func42, Tryd.ntmps42
  go_wp2
  go_ret2
  exact ⟨rfl, by first | exact (Below.refl _ _).alloc (Nat.le_refl _) _ | exact Below.refl _ _⟩
theorem plain_26 (w : World) : Calls Tryd.prog 58 #[.int .i64 26] w fun e w' => e = .returned (.tuple #[.int .i64 43, .bool false]) ∧ w' = w := by
  go_enter Tryd.func58, Tryd.ntmps58
  go_wp2
  go_ret2
  exact ⟨rfl, rfl⟩
theorem wide_26 (w : World) : Calls Tryd.prog 42 #[.int .i64 26] w fun e w' => e = .returned (.tuple #[.int .i64 43, .bool false]) ∧ Below w.heap.size w w' := by
  go_enter Tryd.func42, Tryd.ntmps42
  go_wp2
  go_ret2
  exact ⟨rfl, by first | exact (Below.refl _ _).alloc (Nat.le_refl _) _ | exact Below.refl _ _⟩
theorem plain_27 (w : World) : Calls Tryd.prog 58 #[.int .i64 27] w fun e w' => e = .returned (.tuple #[.int .i64 44, .bool false]) ∧ w' = w := by
  go_enter Tryd.func58, Tryd.ntmps58
  go_wp2
  go_ret2
  exact ⟨rfl, rfl⟩
theorem wide_27 (w : World) : Calls Tryd.prog 42 #[.int .i64 27] w fun e w' => e = .returned (.tuple #[.int .i64 44, .bool false]) ∧ Below w.heap.size w w' := by
  go_enter Tryd.func42, Tryd.ntmps42
  go_wp2
  go_ret2
  exact ⟨rfl, by first | exact (Below.refl _ _).alloc (Nat.le_refl _) _ | exact Below.refl _ _⟩
theorem plain_28 (w : World) : Calls Tryd.prog 58 #[.int .i64 28] w fun e w' => e = .returned (.tuple #[.int .i64 37, .bool false]) ∧ w' = w := by
  go_enter Tryd.func58, Tryd.ntmps58
  go_wp2
  go_ret2
  exact ⟨rfl, rfl⟩
theorem wide_28 (w : World) : Calls Tryd.prog 42 #[.int .i64 28] w fun e w' => e = .returned (.tuple #[.int .i64 37, .bool false]) ∧ Below w.heap.size w w' := by
  go_enter Tryd.func42, Tryd.ntmps42
  go_wp2
  go_ret2
  exact ⟨rfl, by first | exact (Below.refl _ _).alloc (Nat.le_refl _) _ | exact Below.refl _ _⟩
theorem plain_29 (w : World) : Calls Tryd.prog 58 #[.int .i64 29] w fun e w' => e = .returned (.tuple #[.int .i64 41, .bool false]) ∧ w' = w := by
  go_enter Tryd.func58, Tryd.ntmps58
  go_wp2
  go_ret2
  exact ⟨rfl, rfl⟩
theorem wide_29 (w : World) : Calls Tryd.prog 42 #[.int .i64 29] w fun e w' => e = .returned (.tuple #[.int .i64 41, .bool false]) ∧ Below w.heap.size w w' := by
  go_enter Tryd.func42, Tryd.ntmps42
  go_wp2
  go_ret2
  exact ⟨rfl, by first | exact (Below.refl _ _).alloc (Nat.le_refl _) _ | exact Below.refl _ _⟩
theorem plain_30 (w : World) : Calls Tryd.prog 58 #[.int .i64 30] w fun e w' => e = .returned (.tuple #[.int .i64 42, .bool false]) ∧ w' = w := by
  go_enter Tryd.func58, Tryd.ntmps58
  go_wp2
  go_ret2
  exact ⟨rfl, rfl⟩
theorem wide_30 (w : World) : Calls Tryd.prog 42 #[.int .i64 30] w fun e w' => e = .returned (.tuple #[.int .i64 42, .bool false]) ∧ Below w.heap.size w w' := by
  go_enter Tryd.func42, Tryd.ntmps42
  go_wp2
  go_ret2
  exact ⟨rfl, by first | exact (Below.refl _ _).alloc (Nat.le_refl _) _ | exact Below.refl _ _⟩
theorem plain_31 (w : World) : Calls Tryd.prog 58 #[.int .i64 31] w fun e w' => e = .returned (.tuple #[.int .i64 35, .bool true]) ∧ w' = w := by
  go_enter Tryd.func58, Tryd.ntmps58
  go_wp2
  go_ret2
  exact ⟨rfl, rfl⟩
theorem wide_31 (w : World) : Calls Tryd.prog 42 #[.int .i64 31] w fun e w' => e = .returned (.tuple #[.int .i64 35, .bool true]) ∧ Below w.heap.size w w' := by
  go_enter Tryd.func42, Tryd.ntmps42
  go_wp2
  go_ret2
  exact ⟨rfl, by first | exact (Below.refl _ _).alloc (Nat.le_refl _) _ | exact Below.refl _ _⟩
theorem plain_32 (w : World) : Calls Tryd.prog 58 #[.int .i64 32] w fun e w' => e = .returned (.tuple #[.int .i64 37, .bool true]) ∧ w' = w := by
  go_enter Tryd.func58, Tryd.ntmps58
  go_wp2
  go_ret2
  exact ⟨rfl, rfl⟩
theorem wide_32 (w : World) : Calls Tryd.prog 42 #[.int .i64 32] w fun e w' => e = .returned (.tuple #[.int .i64 37, .bool true]) ∧ Below w.heap.size w w' := by
  go_enter Tryd.func42, Tryd.ntmps42
  go_wp2
  go_ret2
  exact ⟨rfl, by first | exact (Below.refl _ _).alloc (Nat.le_refl _) _ | exact Below.refl _ _⟩
theorem plain_33 (w : World) : Calls Tryd.prog 58 #[.int .i64 33] w fun e w' => e = .returned (.tuple #[.int .i64 41, .bool true]) ∧ w' = w := by
  go_enter Tryd.func58, Tryd.ntmps58
  go_wp2
  go_ret2
  exact ⟨rfl, rfl⟩
theorem wide_33 (w : World) : Calls Tryd.prog 42 #[.int .i64 33] w fun e w' => e = .returned (.tuple #[.int .i64 41, .bool true]) ∧ Below w.heap.size w w' := by
  go_enter Tryd.func42, Tryd.ntmps42
  go_wp2
  go_ret2
  exact ⟨rfl, by first | exact (Below.refl _ _).alloc (Nat.le_refl _) _ | exact Below.refl _ _⟩
theorem plain_34 (w : World) : Calls Tryd.prog 58 #[.int .i64 34] w fun e w' => e = .returned (.tuple #[.int .i64 42, .bool true]) ∧ w' = w := by
  go_enter Tryd.func58, Tryd.ntmps58
  go_wp2
  go_ret2
  exact ⟨rfl, rfl⟩
theorem wide_34 (w : World) : Calls Tryd.prog 42 #[.int .i64 34] w fun e w' => e = .returned (.tuple #[.int .i64 42, .bool true]) ∧ Below w.heap.size w w' := by
  go_enter Tryd.func42, Tryd.ntmps42
  go_wp2
  go_ret2
  exact ⟨rfl, by first | exact (Below.refl _ _).alloc (Nat.le_refl _) _ | exact Below.refl _ _⟩
theorem plain_35 (w : World) : Calls Tryd.prog 58 #[.int .i64 35] w fun e w' => e = .returned (.tuple #[.int .i64 35, .bool false]) ∧ w' = w := by
  go_enter Tryd.func58, Tryd.ntmps58
  go_wp2
  go_ret2
  exact ⟨rfl, rfl⟩
theorem wide_35 (w : World) : Calls Tryd.prog 42 #[.int .i64 35] w fun e w' => e = .returned (.tuple #[.int .i64 35, .bool false]) ∧ Below w.heap.size w w' := by
  go_enter Tryd.func42, Tryd.ntmps42
  go_wp2
  go_ret2
  exact ⟨rfl, by first | exact (Below.refl _ _).alloc (Nat.le_refl _) _ | exact Below.refl _ _⟩
theorem plain_36 (w : World) : Calls Tryd.prog 58 #[.int .i64 36] w fun e w' => e = .returned (.tuple #[.int .i64 36, .bool false]) ∧ w' = w := by
  go_enter Tryd.func58, Tryd.ntmps58
  go_wp2
  go_ret2
  exact ⟨rfl, rfl⟩
theorem wide_36 (w : World) : Calls Tryd.prog 42 #[.int .i64 36] w fun e w' => e = .returned (.tuple #[.int .i64 36, .bool false]) ∧ Below w.heap.size w w' := by
  go_enter Tryd.func42, Tryd.ntmps42
  go_wp2
  go_ret2
  exact ⟨rfl, by first | exact (Below.refl _ _).alloc (Nat.le_refl _) _ | exact Below.refl _ _⟩
theorem plain_37 (w : World) : Calls Tryd.prog 58 #[.int .i64 37] w fun e w' => e = .returned (.tuple #[.int .i64 37, .bool false]) ∧ w' = w := by
  go_enter Tryd.func58, Tryd.ntmps58
  go_wp2
  go_ret2
  exact ⟨rfl, rfl⟩
theorem wide_37 (w : World) : Calls Tryd.prog 42 #[.int .i64 37] w fun e w' => e = .returned (.tuple #[.int .i64 37, .bool false]) ∧ Below w.heap.size w w' := by
  go_enter Tryd.func42, Tryd.ntmps42
  go_wp2
  go_ret2
  exact ⟨rfl, by first | exact (Below.refl _ _).alloc (Nat.le_refl _) _ | exact Below.refl _ _⟩
theorem plain_38 (w : World) : Calls Tryd.prog 58 #[.int .i64 38] w fun e w' => e = .returned (.tuple #[.int .i64 38, .bool false]) ∧ w' = w := by
  go_enter Tryd.func58, Tryd.ntmps58
  go_wp2
  go_ret2
  exact ⟨rfl, rfl⟩
theorem wide_38 (w : World) : Calls Tryd.prog 42 #[.int .i64 38] w fun e w' => e = .returned (.tuple #[.int .i64 38, .bool false]) ∧ Below w.heap.size w w' := by
  go_enter Tryd.func42, Tryd.ntmps42
  go_wp2
  go_ret2
  exact ⟨rfl, by first | exact (Below.refl _ _).alloc (Nat.le_refl _) _ | exact Below.refl _ _⟩
theorem plain_39 (w : World) : Calls Tryd.prog 58 #[.int .i64 39] w fun e w' => e = .returned (.tuple #[.int .i64 39, .bool false]) ∧ w' = w := by
  go_enter Tryd.func58, Tryd.ntmps58
  go_wp2
  go_ret2
  exact ⟨rfl, rfl⟩
theorem wide_39 (w : World) : Calls Tryd.prog 42 #[.int .i64 39] w fun e w' => e = .returned (.tuple #[.int .i64 39, .bool false]) ∧ Below w.heap.size w w' := by
  go_enter Tryd.func42, Tryd.ntmps42
  go_wp2
  go_ret2
  exact ⟨rfl, by first | exact (Below.refl _ _).alloc (Nat.le_refl _) _ | exact Below.refl _ _⟩
theorem plain_40 (w : World) : Calls Tryd.prog 58 #[.int .i64 40] w fun e w' => e = .returned (.tuple #[.int .i64 40, .bool false]) ∧ w' = w := by
  go_enter Tryd.func58, Tryd.ntmps58
  go_wp2
  go_ret2
  exact ⟨rfl, rfl⟩
theorem wide_40 (w : World) : Calls Tryd.prog 42 #[.int .i64 40] w fun e w' => e = .returned (.tuple #[.int .i64 40, .bool false]) ∧ Below w.heap.size w w' := by
  go_enter Tryd.func42, Tryd.ntmps42
  go_wp2
  go_ret2
  exact ⟨rfl, by first | exact (Below.refl _ _).alloc (Nat.le_refl _) _ | exact Below.refl _ _⟩
theorem plain_41 (w : World) : Calls Tryd.prog 58 #[.int .i64 41] w fun e w' => e = .returned (.tuple #[.int .i64 41, .bool false]) ∧ w' = w := by
  go_enter Tryd.func58, Tryd.ntmps58
  go_wp2
  go_ret2
  exact ⟨rfl, rfl⟩
theorem wide_41 (w : World) : Calls Tryd.prog 42 #[.int .i64 41] w fun e w' => e = .returned (.tuple #[.int .i64 41, .bool false]) ∧ Below w.heap.size w w' := by
  go_enter Tryd.func42, Tryd.ntmps42
  go_wp2
  go_ret2
  exact ⟨rfl, by first | exact (Below.refl _ _).alloc (Nat.le_refl _) _ | exact Below.refl _ _⟩
theorem plain_42 (w : World) : Calls Tryd.prog 58 #[.int .i64 42] w fun e w' => e = .returned (.tuple #[.int .i64 42, .bool false]) ∧ w' = w := by
  go_enter Tryd.func58, Tryd.ntmps58
  go_wp2
  go_ret2
  exact ⟨rfl, rfl⟩
theorem wide_42 (w : World) : Calls Tryd.prog 42 #[.int .i64 42] w fun e w' => e = .returned (.tuple #[.int .i64 42, .bool false]) ∧ Below w.heap.size w w' := by
  go_enter Tryd.func42, Tryd.ntmps42
  go_wp2
  go_ret2
  exact ⟨rfl, by first | exact (Below.refl _ _).alloc (Nat.le_refl _) _ | exact Below.refl _ _⟩
theorem plain_43 (w : World) : Calls Tryd.prog 58 #[.int .i64 43] w fun e w' => e = .returned (.tuple #[.int .i64 43, .bool false]) ∧ w' = w := by
  go_enter Tryd.func58, Tryd.ntmps58
  go_wp2
  go_ret2
  exact ⟨rfl, rfl⟩
theorem wide_43 (w : World) : Calls Tryd.prog 42 #[.int .i64 43] w fun e w' => e = .returned (.tuple #[.int .i64 43, .bool false]) ∧ Below w.heap.size w w' := by
  go_enter Tryd.func42, Tryd.ntmps42
  go_wp2
  go_ret2
  exact ⟨rfl, by first | exact (Below.refl _ _).alloc (Nat.le_refl _) _ | exact Below.refl _ _⟩
theorem plain_44 (w : World) : Calls Tryd.prog 58 #[.int .i64 44] w fun e w' => e = .returned (.tuple #[.int .i64 44, .bool false]) ∧ w' = w := by
  go_enter Tryd.func58, Tryd.ntmps58
  go_wp2
  go_ret2
  exact ⟨rfl, rfl⟩
theorem wide_44 (w : World) : Calls Tryd.prog 42 #[.int .i64 44] w fun e w' => e = .returned (.tuple #[.int .i64 44, .bool false]) ∧ Below w.heap.size w w' := by
  go_enter Tryd.func42, Tryd.ntmps42
  go_wp2
  go_ret2
  exact ⟨rfl, by first | exact (Below.refl _ _).alloc (Nat.le_refl _) _ | exact Below.refl _ _⟩
theorem plain_45 (w : World) : Calls Tryd.prog 58 #[.int .i64 45] w fun e w' => e = .returned (.tuple #[.int .i64 35, .bool true]) ∧ w' = w := by
  go_enter Tryd.func58, Tryd.ntmps58
  go_wp2
  go_ret2
  exact ⟨rfl, rfl⟩
theorem wide_45 (w : World) : Calls Tryd.prog 42 #[.int .i64 45] w fun e w' => e = .returned (.tuple #[.int .i64 35, .bool true]) ∧ Below w.heap.size w w' := by
  go_enter Tryd.func42, Tryd.ntmps42
  go_wp2
  go_ret2
  exact ⟨rfl, by first | exact (Below.refl _ _).alloc (Nat.le_refl _) _ | exact Below.refl _ _⟩
theorem plain_46 (w : World) : Calls Tryd.prog 58 #[.int .i64 46] w fun e w' => e = .returned (.tuple #[.int .i64 36, .bool true]) ∧ w' = w := by
  go_enter Tryd.func58, Tryd.ntmps58
  go_wp2
  go_ret2
  exact ⟨rfl, rfl⟩
theorem wide_46 (w : World) : Calls Tryd.prog 42 #[.int .i64 46] w fun e w' => e = .returned (.tuple #[.int .i64 36, .bool true]) ∧ Below w.heap.size w w' := by
  go_enter Tryd.func42, Tryd.ntmps42
  go_wp2
  go_ret2
  exact ⟨rfl, by first | exact (Below.refl _ _).alloc (Nat.le_refl _) _ | exact Below.refl _ _⟩
theorem plain_47 (w : World) : Calls Tryd.prog 58 #[.int .i64 47] w fun e w' => e = .returned (.tuple #[.int .i64 37, .bool true]) ∧ w' = w := by
  go_enter Tryd.func58, Tryd.ntmps58
  go_wp2
  go_ret2
  exact ⟨rfl, rfl⟩
theorem wide_47 (w : World) : Calls Tryd.prog 42 #[.int .i64 47] w fun e w' => e = .returned (.tuple #[.int .i64 37, .bool true]) ∧ Below w.heap.size w w' := by
  go_enter Tryd.func42, Tryd.ntmps42
  go_wp2
  go_ret2
  exact ⟨rfl, by first | exact (Below.refl _ _).alloc (Nat.le_refl _) _ | exact Below.refl _ _⟩
theorem plain_48 (w : World) : Calls Tryd.prog 58 #[.int .i64 48] w fun e w' => e = .returned (.tuple #[.int .i64 41, .bool true]) ∧ w' = w := by
  go_enter Tryd.func58, Tryd.ntmps58
  go_wp2
  go_ret2
  exact ⟨rfl, rfl⟩
theorem wide_48 (w : World) : Calls Tryd.prog 42 #[.int .i64 48] w fun e w' => e = .returned (.tuple #[.int .i64 41, .bool true]) ∧ Below w.heap.size w w' := by
  go_enter Tryd.func42, Tryd.ntmps42
  go_wp2
  go_ret2
  exact ⟨rfl, by first | exact (Below.refl _ _).alloc (Nat.le_refl _) _ | exact Below.refl _ _⟩
theorem plain_49 (w : World) : Calls Tryd.prog 58 #[.int .i64 49] w fun e w' => e = .returned (.tuple #[.int .i64 42, .bool true]) ∧ w' = w := by
  go_enter Tryd.func58, Tryd.ntmps58
  go_wp2
  go_ret2
  exact ⟨rfl, rfl⟩
theorem wide_49 (w : World) : Calls Tryd.prog 42 #[.int .i64 49] w fun e w' => e = .returned (.tuple #[.int .i64 42, .bool true]) ∧ Below w.heap.size w w' := by
  go_enter Tryd.func42, Tryd.ntmps42
  go_wp2
  go_ret2
  exact ⟨rfl, by first | exact (Below.refl _ _).alloc (Nat.le_refl _) _ | exact Below.refl _ _⟩
theorem plain_50 (w : World) : Calls Tryd.prog 58 #[.int .i64 50] w fun e w' => e = .returned (.tuple #[.int .i64 50, .bool false]) ∧ w' = w := by
  go_enter Tryd.func58, Tryd.ntmps58
  go_wp2
  go_ret2
  exact ⟨rfl, rfl⟩
theorem wide_50 (w : World) : Calls Tryd.prog 42 #[.int .i64 50] w fun e w' => e = .returned (.tuple #[.int .i64 50, .bool false]) ∧ Below w.heap.size w w' := by
  go_enter Tryd.func42, Tryd.ntmps42
  go_wp2
  go_ret2
  exact ⟨rfl, by first | exact (Below.refl _ _).alloc (Nat.le_refl _) _ | exact Below.refl _ _⟩
theorem plain_51 (w : World) : Calls Tryd.prog 58 #[.int .i64 51] w fun e w' => e = .returned (.tuple #[.int .i64 51, .bool false]) ∧ w' = w := by
  go_enter Tryd.func58, Tryd.ntmps58
  go_wp2
  go_ret2
  exact ⟨rfl, rfl⟩
theorem wide_51 (w : World) : Calls Tryd.prog 42 #[.int .i64 51] w fun e w' => e = .returned (.tuple #[.int .i64 51, .bool false]) ∧ Below w.heap.size w w' := by
  go_enter Tryd.func42, Tryd.ntmps42
  go_wp2
  go_ret2
  exact ⟨rfl, by first | exact (Below.refl _ _).alloc (Nat.le_refl _) _ | exact Below.refl _ _⟩
theorem plain_52 (w : World) : Calls Tryd.prog 58 #[.int .i64 52] w fun e w' => e = .returned (.tuple #[.int .i64 52, .bool false]) ∧ w' = w := by
  go_enter Tryd.func58, Tryd.ntmps58
  go_wp2
  go_ret2
  exact ⟨rfl, rfl⟩
theorem wide_52 (w : World) : Calls Tryd.prog 42 #[.int .i64 52] w fun e w' => e = .returned (.tuple #[.int .i64 52, .bool false]) ∧ Below w.heap.size w w' := by
  go_enter Tryd.func42, Tryd.ntmps42
  go_wp2
  go_ret2
  exact ⟨rfl, by first | exact (Below.refl _ _).alloc (Nat.le_refl _) _ | exact Below.refl _ _⟩
theorem plain_53 (w : World) : Calls Tryd.prog 58 #[.int .i64 53] w fun e w' => e = .returned (.tuple #[.int .i64 53, .bool false]) ∧ w' = w := by
  go_enter Tryd.func58, Tryd.ntmps58
  go_wp2
  go_ret2
  exact ⟨rfl, rfl⟩
theorem wide_53 (w : World) : Calls Tryd.prog 42 #[.int .i64 53] w fun e w' => e = .returned (.tuple #[.int .i64 53, .bool false]) ∧ Below w.heap.size w w' := by
  go_enter Tryd.func42, Tryd.ntmps42
  go_wp2
  go_ret2
  exact ⟨rfl, by first | exact (Below.refl _ _).alloc (Nat.le_refl _) _ | exact Below.refl _ _⟩
theorem plain_54 (w : World) : Calls Tryd.prog 58 #[.int .i64 54] w fun e w' => e = .returned (.tuple #[.int .i64 54, .bool false]) ∧ w' = w := by
  go_enter Tryd.func58, Tryd.ntmps58
  go_wp2
  go_ret2
  exact ⟨rfl, rfl⟩
theorem wide_54 (w : World) : Calls Tryd.prog 42 #[.int .i64 54] w fun e w' => e = .returned (.tuple #[.int .i64 54, .bool false]) ∧ Below w.heap.size w w' := by
  go_enter Tryd.func42, Tryd.ntmps42
  go_wp2
  go_ret2
  exact ⟨rfl, by first | exact (Below.refl _ _).alloc (Nat.le_refl _) _ | exact Below.refl _ _⟩
theorem plain_55 (w : World) : Calls Tryd.prog 58 #[.int .i64 55] w fun e w' => e = .returned (.tuple #[.int .i64 55, .bool false]) ∧ w' = w := by
  go_enter Tryd.func58, Tryd.ntmps58
  go_wp2
  go_ret2
  exact ⟨rfl, rfl⟩
theorem wide_55 (w : World) : Calls Tryd.prog 42 #[.int .i64 55] w fun e w' => e = .returned (.tuple #[.int .i64 55, .bool false]) ∧ Below w.heap.size w w' := by
  go_enter Tryd.func42, Tryd.ntmps42
  go_wp2
  go_ret2
  exact ⟨rfl, by first | exact (Below.refl _ _).alloc (Nat.le_refl _) _ | exact Below.refl _ _⟩
theorem plain_56 (w : World) : Calls Tryd.prog 58 #[.int .i64 56] w fun e w' => e = .returned (.tuple #[.int .i64 56, .bool false]) ∧ w' = w := by
  go_enter Tryd.func58, Tryd.ntmps58
  go_wp2
  go_ret2
  exact ⟨rfl, rfl⟩
theorem wide_56 (w : World) : Calls Tryd.prog 42 #[.int .i64 56] w fun e w' => e = .returned (.tuple #[.int .i64 56, .bool false]) ∧ Below w.heap.size w w' := by
  go_enter Tryd.func42, Tryd.ntmps42
  go_wp2
  go_ret2
  exact ⟨rfl, by first | exact (Below.refl _ _).alloc (Nat.le_refl _) _ | exact Below.refl _ _⟩
theorem plain_57 (w : World) : Calls Tryd.prog 58 #[.int .i64 57] w fun e w' => e = .returned (.tuple #[.int .i64 57, .bool false]) ∧ w' = w := by
  go_enter Tryd.func58, Tryd.ntmps58
  go_wp2
  go_ret2
  exact ⟨rfl, rfl⟩
theorem wide_57 (w : World) : Calls Tryd.prog 42 #[.int .i64 57] w fun e w' => e = .returned (.tuple #[.int .i64 57, .bool false]) ∧ Below w.heap.size w w' := by
  go_enter Tryd.func42, Tryd.ntmps42
  go_wp2
  go_ret2
  exact ⟨rfl, by first | exact (Below.refl _ _).alloc (Nat.le_refl _) _ | exact Below.refl _ _⟩
theorem plain_58 (w : World) : Calls Tryd.prog 58 #[.int .i64 58] w fun e w' => e = .returned (.tuple #[.int .i64 50, .bool true]) ∧ w' = w := by
  go_enter Tryd.func58, Tryd.ntmps58
  go_wp2
  go_ret2
  exact ⟨rfl, rfl⟩
theorem wide_58 (w : World) : Calls Tryd.prog 42 #[.int .i64 58] w fun e w' => e = .returned (.tuple #[.int .i64 50, .bool true]) ∧ Below w.heap.size w w' := by
  go_enter Tryd.func42, Tryd.ntmps42
  go_wp2
  go_ret2
  exact ⟨rfl, by first | exact (Below.refl _ _).alloc (Nat.le_refl _) _ | exact Below.refl _ _⟩
theorem plain_59 (w : World) : Calls Tryd.prog 58 #[.int .i64 59] w fun e w' => e = .returned (.tuple #[.int .i64 54, .bool true]) ∧ w' = w := by
  go_enter Tryd.func58, Tryd.ntmps58
  go_wp2
  go_ret2
  exact ⟨rfl, rfl⟩
theorem wide_59 (w : World) : Calls Tryd.prog 42 #[.int .i64 59] w fun e w' => e = .returned (.tuple #[.int .i64 54, .bool true]) ∧ Below w.heap.size w w' := by
  go_enter Tryd.func42, Tryd.ntmps42
  go_wp2
  go_ret2
  exact ⟨rfl, by first | exact (Below.refl _ _).alloc (Nat.le_refl _) _ | exact Below.refl _ _⟩
theorem plain_60 (w : World) : Calls Tryd.prog 58 #[.int .i64 60] w fun e w' => e = .returned (.tuple #[.int .i64 55, .bool true]) ∧ w' = w := by
  go_enter Tryd.func58, Tryd.ntmps58
  go_wp2
  go_ret2
  exact ⟨rfl, rfl⟩
theorem wide_60 (w : World) : Calls Tryd.prog 42 #[.int .i64 60] w fun e w' => e = .returned (.tuple #[.int .i64 55, .bool true]) ∧ Below w.heap.size w w' := by
  go_enter Tryd.func42, Tryd.ntmps42
  go_wp2
  go_ret2
  exact ⟨rfl, by first | exact (Below.refl _ _).alloc (Nat.le_refl _) _ | exact Below.refl _ _⟩
theorem plain_61 (w : World) : Calls Tryd.prog 58 #[.int .i64 61] w fun e w' => e = .returned (.tuple #[.int .i64 56, .bool true]) ∧ w' = w := by
  go_enter Tryd.func58, Tryd.ntmps58
  go_wp2
  go_ret2
  exact ⟨rfl, rfl⟩
theorem wide_61 (w : World) : Calls Tryd.prog 42 #[.int .i64 61] w fun e w' => e = .returned (.tuple #[.int .i64 56, .bool true]) ∧ Below w.heap.size w w' := by
  go_enter Tryd.func42, Tryd.ntmps42
  go_wp2
  go_ret2
  exact ⟨rfl, by first | exact (Below.refl _ _).alloc (Nat.le_refl _) _ | exact Below.refl _ _⟩
theorem plain_62 (w : World) : Calls Tryd.prog 58 #[.int .i64 62] w fun e w' => e = .returned (.tuple #[.int .i64 57, .bool true]) ∧ w' = w := by
  go_enter Tryd.func58, Tryd.ntmps58
  go_wp2
  go_ret2
  exact ⟨rfl, rfl⟩
theorem wide_62 (w : World) : Calls Tryd.prog 42 #[.int .i64 62] w fun e w' => e = .returned (.tuple #[.int .i64 57, .bool true]) ∧ Below w.heap.size w w' := by
  go_enter Tryd.func42, Tryd.ntmps42
  go_wp2
  go_ret2
  exact ⟨rfl, by first | exact (Below.refl _ _).alloc (Nat.le_refl _) _ | exact Below.refl _ _⟩
theorem plain_any (op : Nat) (h1 : 22 ≤ op) (h2 : op ≤ 62) (w : World) : Calls Tryd.prog 58 #[.int .i64 (op : Int)] w fun e w' => e = .returned (.tuple #[.int .i64 ((pOf op : Nat) : Int), .bool (halfOf op)]) ∧ w' = w := by
  rcases ops_list op h1 h2 with rfl | rfl | rfl | rfl | rfl | rfl | rfl | rfl | rfl | rfl | rfl | rfl | rfl | rfl | rfl | rfl | rfl | rfl | rfl | rfl | rfl | rfl | rfl | rfl | rfl | rfl | rfl | rfl | rfl | rfl | rfl | rfl | rfl | rfl | rfl | rfl | rfl | rfl | rfl | rfl | rfl
  · exact plain_22 w
  · exact plain_23 w
  · exact plain_24 w
  · exact plain_25 w
  · exact plain_26 w
  · exact plain_27 w
  · exact plain_28 w
  · exact plain_29 w
  · exact plain_30 w
  · exact plain_31 w
  · exact plain_32 w
  · exact plain_33 w
  · exact plain_34 w
  · exact plain_35 w
  · exact plain_36 w
  · exact plain_37 w
  · exact plain_38 w
  · exact plain_39 w
  · exact plain_40 w
  · exact plain_41 w
  · exact plain_42 w
  · exact plain_43 w
  · exact plain_44 w
  · exact plain_45 w
  · exact plain_46 w
  · exact plain_47 w
  · exact plain_48 w
  · exact plain_49 w
  · exact plain_50 w
  · exact plain_51 w
  · exact plain_52 w
  · exact plain_53 w
  · exact plain_54 w
  · exact plain_55 w
  · exact plain_56 w
  · exact plain_57 w
  · exact plain_58 w
  · exact plain_59 w
  · exact plain_60 w
  · exact plain_61 w
  · exact plain_62 w
theorem wide_any (op : Nat) (h1 : 22 ≤ op) (h2 : op ≤ 62) (w : World) : Calls Tryd.prog 42 #[.int .i64 (op : Int)] w fun e w' => e = .returned (.tuple #[.int .i64 ((pOf op : Nat) : Int), .bool (halfOf op)]) ∧ Below w.heap.size w w' := by
  rcases ops_list op h1 h2 with rfl | rfl | rfl | rfl | rfl | rfl | rfl | rfl | rfl | rfl | rfl | rfl | rfl | rfl | rfl | rfl | rfl | rfl | rfl | rfl | rfl | rfl | rfl | rfl | rfl | rfl | rfl | rfl | rfl | rfl | rfl | rfl | rfl | rfl | rfl | rfl | rfl | rfl | rfl | rfl | rfl
  · exact wide_22 w
  · exact wide_23 w
  · exact wide_24 w
  · exact wide_25 w
  · exact wide_26 w
  · exact wide_27 w
  · exact wide_28 w
  · exact wide_29 w
  · exact wide_30 w
  · exact wide_31 w
  · exact wide_32 w
  · exact wide_33 w
  · exact wide_34 w
  · exact wide_35 w
  · exact wide_36 w
  · exact wide_37 w
  · exact wide_38 w
  · exact wide_39 w
  · exact wide_40 w
  · exact wide_41 w
  · exact wide_42 w
  · exact wide_43 w
  · exact wide_44 w
  · exact wide_45 w
  · exact wide_46 w
  · exact wide_47 w
  · exact wide_48 w
  · exact wide_49 w
  · exact wide_50 w
  · exact wide_51 w
  · exact wide_52 w
  · exact wide_53 w
  · exact wide_54 w
  · exact wide_55 w
  · exact wide_56 w
  · exact wide_57 w
  · exact wide_58 w
  · exact wide_59 w
  · exact wide_60 w
  · exact wide_61 w
  · exact wide_62 w
set_option maxHeartbeats 1000000 in
theorem cAlu_in (op a b : Nat) (h1 : 22 ≤ op) (h2 : op ≤ 62) (ha : a < 18446744073709551616) (hb : b < 18446744073709551616) (w : World) :
    Calls Tryd.prog 24 #[.int .i64 (op : Int), .int .u64 a, .int .u64 b] w fun e w' => e = .returned (.tuple #[.int .u64 (aluV op a b), .int .i64 0]) ∧ w' = w := by
  have d1 : decide ((op : Int) < 22) = false := decide_eq_false (by omega)
  have d2 : decide ((62 : Int) < (op : Int)) = false := decide_eq_false (by omega)
  cases hh : halfOf op with
  | true =>
    obtain ⟨p, hpe, hp⟩ := pOf_half op h1 h2 hh
    have HX := Lib.hid (show aluV op a b = ((wordN p (a % 4294967296) (b % 4294967296) : Nat) : Int) by unfold aluV; rw [hh, if_pos rfl, hpe])
    have HP := Lib.hid (fun W => plain_any op h1 h2 W)
    have HE := Lib.hid (And.intro hpe hh)
    clear hh hpe
    have HQ := Lib.hid hp
    clear hp
    go_enter Tryd.func24, Tryd.ntmps24
    go_wp2_with fail
    refine Calls.mono (HP.out _) ?_
    rw [HE.out.1, HE.out.2]
    rintro e w' ⟨rfl, rfl⟩
    go_wp2_with fail
    rw [modN32 a, modN32 b]
    refine Calls.mono (word_any p (a % 4294967296) (b % 4294967296) HQ.out (by omega) (by omega) _) ?_
    rintro e w' ⟨rfl, rfl⟩
    go_wp2
    go_ret2
    refine ⟨congrArg (fun z => Ending.returned (Value.tuple #[Value.int IntKind.u64 z, Value.int IntKind.i64 0])) ?_, rfl⟩
    rw [HX.out]
  | false =>
    obtain ⟨p, hpe, hp⟩ := pOf_full op h1 h2 hh
    have HX := Lib.hid (show aluV op a b = fullV p a b by unfold aluV; rw [hh, if_neg (by decide), hpe])
    have HP := Lib.hid (fun W => plain_any op h1 h2 W)
    have HE := Lib.hid (And.intro hpe hh)
    clear hh hpe
    have HQ := Lib.hid hp
    clear hp
    go_enter Tryd.func24, Tryd.ntmps24
    go_wp2_with fail
    refine Calls.mono (HP.out _) ?_
    rw [HE.out.1, HE.out.2]
    rintro e w' ⟨rfl, rfl⟩
    go_wp2_with fail
    refine Calls.mono (full_any p a b HQ.out ha hb _) ?_
    rintro e w' ⟨rfl, rfl⟩
    go_wp2
    go_ret2
    refine ⟨congrArg (fun z => Ending.returned (Value.tuple #[Value.int IntKind.u64 z, Value.int IntKind.i64 0])) ?_, rfl⟩
    rw [HX.out]
theorem cAlu_out (z : Int) (a b : Nat) (hz : z < 22 ∨ 62 < z) (w : World) :
    Calls Tryd.prog 24 #[.int .i64 z, .int .u64 a, .int .u64 b] w fun e w' => e = .returned (.tuple #[.int .u64 0, .int .i64 1]) ∧ w' = w := by
  by_cases h : z < 22
  · have d1 : decide (z < 22) = true := decide_eq_true h
    go_enter Tryd.func24, Tryd.ntmps24
    go_wp2
    go_ret2
    exact ⟨rfl, rfl⟩
  · have d1 : decide (z < 22) = false := decide_eq_false h
    have d2 : decide ((62 : Int) < z) = true := decide_eq_true (by omega)
    go_enter Tryd.func24, Tryd.ntmps24
    go_wp2
    go_ret2
    exact ⟨rfl, rfl⟩
set_option maxHeartbeats 1000000 in
theorem rAlu3_in (op a b : Nat) (h1 : 22 ≤ op) (h2 : op ≤ 62) (ha : a < 18446744073709551616) (hb : b < 18446744073709551616) (w : World) :
    Calls Tryd.prog 15 #[.int .i64 (op : Int), .int .u64 a, .int .u64 b] w fun e w' => e = .returned (.tuple #[.int .u64 (aluV op a b), .int .i64 0]) ∧ Below w.heap.size w w' := by
  have d1 : decide ((op : Int) < 22) = false := decide_eq_false (by omega)
  have d2 : decide ((62 : Int) < (op : Int)) = false := decide_eq_false (by omega)
  cases hh : halfOf op with
  | true =>
    obtain ⟨p, hpe, hp⟩ := pOf_half op h1 h2 hh
    have HX := Lib.hid (show aluV op a b = ((wordN p (a % 4294967296) (b % 4294967296) : Nat) : Int) by unfold aluV; rw [hh, if_pos rfl, hpe])
    have HP := Lib.hid (fun W => wide_any op h1 h2 W)
    have HE := Lib.hid (And.intro hpe hh)
    clear hh hpe
    have HQ := Lib.hid hp
    clear hp
    go_enter Tryd.func15, Tryd.ntmps15
    go_wp2_with fail
    refine Calls.mono (HP.out _) ?_
    rw [HE.out.1, HE.out.2]
    rintro e w1 ⟨rfl, hB⟩
    go_wp2_with fail
    refine Calls.mono (narrow_any p a b HQ.out ha hb _) ?_
    rintro e w' ⟨rfl, rfl⟩
    go_wp2
    go_ret2
    refine ⟨congrArg (fun z => Ending.returned (Value.tuple #[Value.int IntKind.u64 z, Value.int IntKind.i64 0])) ?_, hB⟩
    rw [HX.out]
  | false =>
    obtain ⟨p, hpe, hp⟩ := pOf_full op h1 h2 hh
    have HX := Lib.hid (show aluV op a b = fullV p a b by unfold aluV; rw [hh, if_neg (by decide), hpe])
    have HP := Lib.hid (fun W => wide_any op h1 h2 W)
    have HE := Lib.hid (And.intro hpe hh)
    clear hh hpe
    have HQ := Lib.hid hp
    clear hp
    go_enter Tryd.func15, Tryd.ntmps15
    go_wp2_with fail
    refine Calls.mono (HP.out _) ?_
    rw [HE.out.1, HE.out.2]
    rintro e w1 ⟨rfl, hB⟩
    go_wp2_with fail
    refine Calls.mono (alu_any p a b HQ.out ha hb _) ?_
    rintro e w' ⟨rfl, rfl⟩
    go_wp2
    go_ret2
    refine ⟨congrArg (fun z => Ending.returned (Value.tuple #[Value.int IntKind.u64 z, Value.int IntKind.i64 0])) ?_, hB⟩
    rw [HX.out]
theorem rAlu3_out (z : Int) (a b : Nat) (hz : z < 22 ∨ 62 < z) (w : World) :
    Calls Tryd.prog 15 #[.int .i64 z, .int .u64 a, .int .u64 b] w fun e w' => e = .returned (.tuple #[.int .u64 0, .int .i64 1]) ∧ w' = w := by
  by_cases h : z < 22
  · have d1 : decide (z < 22) = true := decide_eq_true h
    go_enter Tryd.func15, Tryd.ntmps15
    go_wp2
    go_ret2
    exact ⟨rfl, rfl⟩
  · have d1 : decide (z < 22) = false := decide_eq_false h
    have d2 : decide ((62 : Int) < z) = true := decide_eq_true (by omega)
    go_enter Tryd.func15, Tryd.ntmps15
    go_wp2
    go_ret2
    exact ⟨rfl, rfl⟩
set_option maxHeartbeats 1000000 in
theorem cTaken_any (z : Int) (a b : Nat) (w : World) :
    Calls Tryd.prog 25 #[.int .i64 z, .int .u64 a, .int .u64 b] w fun e w' => e = .returned (.tuple #[.bool (takenV z a b).1, .int .i64 (takenV z a b).2]) ∧ w' = w := by
  by_cases h5 : z = 5
  · subst h5
    have HX := Lib.hid (show takenV 5 a b = (decide (a = b), 0) from rfl)
    go_enter Tryd.func25, Tryd.ntmps25
    go_wp2
    go_ret2
    refine ⟨?_, rfl⟩
    rw [HX.out]
    refine congrArg (fun x => Ending.returned (Value.tuple #[Value.bool x, Value.int IntKind.i64 0])) ?_
    exact eqI a b
  by_cases h6 : z = 6
  · subst h6
    have HX := Lib.hid (show takenV 6 a b = (!decide (a = b), 0) from rfl)
    go_enter Tryd.func25, Tryd.ntmps25
    go_wp2
    go_ret2
    refine ⟨?_, rfl⟩
    rw [HX.out]
    refine congrArg (fun x => Ending.returned (Value.tuple #[Value.bool x, Value.int IntKind.i64 0])) ?_
    exact neI a b
  by_cases h7 : z = 7
  · subst h7
    have HX := Lib.hid (show takenV 7 a b = (decide (wrap64 (a : Int) < wrap64 (b : Int)), 0) from rfl)
    go_enter Tryd.func25, Tryd.ntmps25
    go_wp2
    go_ret2
    refine ⟨?_, rfl⟩
    rw [HX.out]
    refine congrArg (fun x => Ending.returned (Value.tuple #[Value.bool x, Value.int IntKind.i64 0])) ?_
    exact rfl
  by_cases h8 : z = 8
  · subst h8
    have HX := Lib.hid (show takenV 8 a b = (decide (wrap64 (b : Int) ≤ wrap64 (a : Int)), 0) from rfl)
    go_enter Tryd.func25, Tryd.ntmps25
    go_wp2
    go_ret2
    refine ⟨?_, rfl⟩
    rw [HX.out]
    refine congrArg (fun x => Ending.returned (Value.tuple #[Value.bool x, Value.int IntKind.i64 0])) ?_
    exact rfl
  by_cases h9 : z = 9
  · subst h9
    have HX := Lib.hid (show takenV 9 a b = (decide (a < b), 0) from rfl)
    go_enter Tryd.func25, Tryd.ntmps25
    go_wp2
    go_ret2
    refine ⟨?_, rfl⟩
    rw [HX.out]
    refine congrArg (fun x => Ending.returned (Value.tuple #[Value.bool x, Value.int IntKind.i64 0])) ?_
    exact decide_eq_decide.mpr (by omega)
  by_cases h10 : z = 10
  · subst h10
    have HX := Lib.hid (show takenV 10 a b = (decide (b ≤ a), 0) from rfl)
    go_enter Tryd.func25, Tryd.ntmps25
    go_wp2
    go_ret2
    refine ⟨?_, rfl⟩
    rw [HX.out]
    refine congrArg (fun x => Ending.returned (Value.tuple #[Value.bool x, Value.int IntKind.i64 0])) ?_
    exact decide_eq_decide.mpr (by omega)
  have HX := Lib.hid (show takenV z a b = (false, 1) by unfold takenV; rw [if_neg h5, if_neg h6, if_neg h7, if_neg h8, if_neg h9, if_neg h10])
  have d5 : (z == 5) = false := by simpa using h5
  have d6 : (z == 6) = false := by simpa using h6
  have d7 : (z == 7) = false := by simpa using h7
  have d8 : (z == 8) = false := by simpa using h8
  have d9 : (z == 9) = false := by simpa using h9
  have d10 : (z == 10) = false := by simpa using h10
  clear h5 h6 h7 h8 h9 h10
  go_enter Tryd.func25, Tryd.ntmps25
  go_wp2
  go_ret2
  refine ⟨?_, rfl⟩
  rw [HX.out]
  rfl
set_option maxHeartbeats 1000000 in
theorem rTaken3_any (z : Int) (a b : Nat) (w : World) :
    Calls Tryd.prog 26 #[.int .i64 z, .int .u64 a, .int .u64 b] w fun e w' => e = .returned (.tuple #[.bool (takenV z a b).1, .int .i64 (takenV z a b).2]) ∧ w' = w := by
  by_cases h5 : z = 5
  · subst h5
    have HX := Lib.hid (show takenV 5 a b = (decide (a = b), 0) from rfl)
    go_enter Tryd.func26, Tryd.ntmps26
    go_wp2
    go_ret2
    refine ⟨?_, rfl⟩
    rw [HX.out]
    refine congrArg (fun x => Ending.returned (Value.tuple #[Value.bool x, Value.int IntKind.i64 0])) ?_
    exact eqI a b
  by_cases h6 : z = 6
  · subst h6
    have HX := Lib.hid (show takenV 6 a b = (!decide (a = b), 0) from rfl)
    go_enter Tryd.func26, Tryd.ntmps26
    go_wp2
    go_ret2
    refine ⟨?_, rfl⟩
    rw [HX.out]
    refine congrArg (fun x => Ending.returned (Value.tuple #[Value.bool x, Value.int IntKind.i64 0])) ?_
    exact neI a b
  by_cases h7 : z = 7
  · subst h7
    have HX := Lib.hid (show takenV 7 a b = (decide (wrap64 (a : Int) < wrap64 (b : Int)), 0) from rfl)
    go_enter Tryd.func26, Tryd.ntmps26
    go_wp2
    go_ret2
    refine ⟨?_, rfl⟩
    rw [HX.out]
    refine congrArg (fun x => Ending.returned (Value.tuple #[Value.bool x, Value.int IntKind.i64 0])) ?_
    exact rfl
  by_cases h8 : z = 8
  · subst h8
    have HX := Lib.hid (show takenV 8 a b = (decide (wrap64 (b : Int) ≤ wrap64 (a : Int)), 0) from rfl)
    go_enter Tryd.func26, Tryd.ntmps26
    go_wp2
    go_ret2
    refine ⟨?_, rfl⟩
    rw [HX.out]
    refine congrArg (fun x => Ending.returned (Value.tuple #[Value.bool x, Value.int IntKind.i64 0])) ?_
    exact rfl
  by_cases h9 : z = 9
  · subst h9
    have HX := Lib.hid (show takenV 9 a b = (decide (a < b), 0) from rfl)
    go_enter Tryd.func26, Tryd.ntmps26
    go_wp2
    go_ret2
    refine ⟨?_, rfl⟩
    rw [HX.out]
    refine congrArg (fun x => Ending.returned (Value.tuple #[Value.bool x, Value.int IntKind.i64 0])) ?_
    exact decide_eq_decide.mpr (by omega)
  by_cases h10 : z = 10
  · subst h10
    have HX := Lib.hid (show takenV 10 a b = (decide (b ≤ a), 0) from rfl)
    go_enter Tryd.func26, Tryd.ntmps26
    go_wp2
    go_ret2
    refine ⟨?_, rfl⟩
    rw [HX.out]
    refine congrArg (fun x => Ending.returned (Value.tuple #[Value.bool x, Value.int IntKind.i64 0])) ?_
    exact decide_eq_decide.mpr (by omega)
  have HX := Lib.hid (show takenV z a b = (false, 1) by unfold takenV; rw [if_neg h5, if_neg h6, if_neg h7, if_neg h8, if_neg h9, if_neg h10])
  have d5 : (z == 5) = false := by simpa using h5
  have d6 : (z == 6) = false := by simpa using h6
  have d7 : (z == 7) = false := by simpa using h7
  have d8 : (z == 8) = false := by simpa using h8
  have d9 : (z == 9) = false := by simpa using h9
  have d10 : (z == 10) = false := by simpa using h10
  clear h5 h6 h7 h8 h9 h10
  go_enter Tryd.func26, Tryd.ntmps26
  go_wp2
  go_ret2
  refine ⟨?_, rfl⟩
  rw [HX.out]
  rfl
end Go.Proofs
