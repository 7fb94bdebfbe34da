/- cpu.divide, cpu.full and patinaref03.divide, alu: the same values, operation by operation. -/
import Derived.Test.YtemngapfnkokiaaDoorAluA
namespace Go.Pat
open Go Go.RowKit
def divV (op a b : Nat) : Int :=
  match op with
  | 54 => if b = 0 then 18446744073709551615 else if wrap64 (b : Int) = -1 then IntKind.u64.wrap (-(a : Int)) else IntKind.u64.wrap (wrap64 ((wrap64 (a : Int)).tdiv (wrap64 (b : Int))))
  | 55 => if b = 0 then 18446744073709551615 else IntKind.u64.wrap ((a : Int) / (b : Int))
  | 56 => if b = 0 then (a : Int) else if wrap64 (b : Int) = -1 then 0 else IntKind.u64.wrap ((wrap64 (a : Int)).tmod (wrap64 (b : Int)))
  | _ => if b = 0 then (a : Int) else (a : Int) % (b : Int)
def fullV (op a b : Nat) : Int :=
  if op = 35 then IntKind.u64.wrap ((a : Int) + (b : Int)) else
  if op = 36 then IntKind.u64.wrap ((a : Int) - (b : Int)) else
  if op = 37 then IntKind.u64.wrap ((a : Int) * 2 ^ (b % 64)) else
  if op = 38 then tr (decide (wrap64 (a : Int) < wrap64 (b : Int))) else
  if op = 39 then tr (decide (a < b)) else
  if op = 40 then bits .xor .u64 (a : Int) (b : Int) else
  if op = 41 then ((a / 2 ^ (b % 64) : Nat) : Int) else
  if op = 42 then IntKind.u64.wrap ((wrap64 (a : Int)).fdiv (2 ^ (b % 64))) else
  if op = 43 then bits .or .u64 (a : Int) (b : Int) else
  if op = 44 then bits .and .u64 (a : Int) (b : Int) else
  if op = 50 then ((a * b % 18446744073709551616 : Nat) : Int) else
  if op = 51 then IntKind.u64.wrap (IntKind.u64.wrap (((a * b / 18446744073709551616 : Nat) : Int) - IntKind.u64.wrap (tr (decide (wrap64 (a : Int) < 0)) * (b : Int))) - IntKind.u64.wrap (tr (decide (wrap64 (b : Int) < 0)) * (a : Int))) else
  if op = 52 then IntKind.u64.wrap (((a * b / 18446744073709551616 : Nat) : Int) - IntKind.u64.wrap (tr (decide (wrap64 (a : Int) < 0)) * (b : Int))) else
  if op = 53 then ((a * b / 18446744073709551616 : Nat) : Int) else
  divV op a b
theorem fullV_35 (a b : Nat) : fullV 35 a b = IntKind.u64.wrap ((a : Int) + (b : Int)) := by
  unfold fullV; rw [if_pos rfl]
theorem fullV_36 (a b : Nat) : fullV 36 a b = IntKind.u64.wrap ((a : Int) - (b : Int)) := by
  unfold fullV; rw [if_neg (show ¬ 36 = 35 by decide), if_pos rfl]
theorem fullV_37 (a b : Nat) : fullV 37 a b = IntKind.u64.wrap ((a : Int) * 2 ^ (b % 64)) := by
  unfold fullV; rw [if_neg (show ¬ 37 = 35 by decide), if_neg (show ¬ 37 = 36 by decide), if_pos rfl]
theorem fullV_38 (a b : Nat) : fullV 38 a b = tr (decide (wrap64 (a : Int) < wrap64 (b : Int))) := by
  unfold fullV; rw [if_neg (show ¬ 38 = 35 by decide), if_neg (show ¬ 38 = 36 by decide), if_neg (show ¬ 38 = 37 by decide), if_pos rfl]
theorem fullV_39 (a b : Nat) : fullV 39 a b = tr (decide (a < b)) := by
  unfold fullV; rw [if_neg (show ¬ 39 = 35 by decide), if_neg (show ¬ 39 = 36 by decide), if_neg (show ¬ 39 = 37 by decide), if_neg (show ¬ 39 = 38 by decide), if_pos rfl]
theorem fullV_40 (a b : Nat) : fullV 40 a b = bits .xor .u64 (a : Int) (b : Int) := by
  unfold fullV; rw [if_neg (show ¬ 40 = 35 by decide), if_neg (show ¬ 40 = 36 by decide), if_neg (show ¬ 40 = 37 by decide), if_neg (show ¬ 40 = 38 by decide), if_neg (show ¬ 40 = 39 by decide), if_pos rfl]
theorem fullV_41 (a b : Nat) : fullV 41 a b = ((a / 2 ^ (b % 64) : Nat) : Int) := by
  unfold fullV; rw [if_neg (show ¬ 41 = 35 by decide), if_neg (show ¬ 41 = 36 by decide), if_neg (show ¬ 41 = 37 by decide), if_neg (show ¬ 41 = 38 by decide), if_neg (show ¬ 41 = 39 by decide), if_neg (show ¬ 41 = 40 by decide), if_pos rfl]
theorem fullV_42 (a b : Nat) : fullV 42 a b = IntKind.u64.wrap ((wrap64 (a : Int)).fdiv (2 ^ (b % 64))) := by
  unfold fullV; rw [if_neg (show ¬ 42 = 35 by decide), if_neg (show ¬ 42 = 36 by decide), if_neg (show ¬ 42 = 37 by decide), if_neg (show ¬ 42 = 38 by decide), if_neg (show ¬ 42 = 39 by decide), if_neg (show ¬ 42 = 40 by decide), if_neg (show ¬ 42 = 41 by decide), if_pos rfl]
theorem fullV_43 (a b : Nat) : fullV 43 a b = bits .or .u64 (a : Int) (b : Int) := by
  unfold fullV; rw [if_neg (show ¬ 43 = 35 by decide), if_neg (show ¬ 43 = 36 by decide), if_neg (show ¬ 43 = 37 by decide), if_neg (show ¬ 43 = 38 by decide), if_neg (show ¬ 43 = 39 by decide), if_neg (show ¬ 43 = 40 by decide), if_neg (show ¬ 43 = 41 by decide), if_neg (show ¬ 43 = 42 by decide), if_pos rfl]
theorem fullV_44 (a b : Nat) : fullV 44 a b = bits .and .u64 (a : Int) (b : Int) := by
  unfold fullV; rw [if_neg (show ¬ 44 = 35 by decide), if_neg (show ¬ 44 = 36 by decide), if_neg (show ¬ 44 = 37 by decide), if_neg (show ¬ 44 = 38 by decide), if_neg (show ¬ 44 = 39 by decide), if_neg (show ¬ 44 = 40 by decide), if_neg (show ¬ 44 = 41 by decide), if_neg (show ¬ 44 = 42 by decide), if_neg (show ¬ 44 = 43 by decide), if_pos rfl]
theorem fullV_50 (a b : Nat) : fullV 50 a b = ((a * b % 18446744073709551616 : Nat) : Int) := by
  unfold fullV; rw [if_neg (show ¬ 50 = 35 by decide), if_neg (show ¬ 50 = 36 by decide), if_neg (show ¬ 50 = 37 by decide), if_neg (show ¬ 50 = 38 by decide), if_neg (show ¬ 50 = 39 by decide), if_neg (show ¬ 50 = 40 by decide), if_neg (show ¬ 50 = 41 by decide), if_neg (show ¬ 50 = 42 by decide), if_neg (show ¬ 50 = 43 by decide), if_neg (show ¬ 50 = 44 by decide), if_pos rfl]
theorem fullV_51 (a b : Nat) : fullV 51 a b = IntKind.u64.wrap (IntKind.u64.wrap (((a * b / 18446744073709551616 : Nat) : Int) - IntKind.u64.wrap (tr (decide (wrap64 (a : Int) < 0)) * (b : Int))) - IntKind.u64.wrap (tr (decide (wrap64 (b : Int) < 0)) * (a : Int))) := by
  unfold fullV; rw [if_neg (show ¬ 51 = 35 by decide), if_neg (show ¬ 51 = 36 by decide), if_neg (show ¬ 51 = 37 by decide), if_neg (show ¬ 51 = 38 by decide), if_neg (show ¬ 51 = 39 by decide), if_neg (show ¬ 51 = 40 by decide), if_neg (show ¬ 51 = 41 by decide), if_neg (show ¬ 51 = 42 by decide), if_neg (show ¬ 51 = 43 by decide), if_neg (show ¬ 51 = 44 by decide), if_neg (show ¬ 51 = 50 by decide), if_pos rfl]
theorem fullV_52 (a b : Nat) : fullV 52 a b = IntKind.u64.wrap (((a * b / 18446744073709551616 : Nat) : Int) - IntKind.u64.wrap (tr (decide (wrap64 (a : Int) < 0)) * (b : Int))) := by
  unfold fullV; rw [if_neg (show ¬ 52 = 35 by decide), if_neg (show ¬ 52 = 36 by decide), if_neg (show ¬ 52 = 37 by decide), if_neg (show ¬ 52 = 38 by decide), if_neg (show ¬ 52 = 39 by decide), if_neg (show ¬ 52 = 40 by decide), if_neg (show ¬ 52 = 41 by decide), if_neg (show ¬ 52 = 42 by decide), if_neg (show ¬ 52 = 43 by decide), if_neg (show ¬ 52 = 44 by decide), if_neg (show ¬ 52 = 50 by decide), if_neg (show ¬ 52 = 51 by decide), if_pos rfl]
theorem fullV_53 (a b : Nat) : fullV 53 a b = ((a * b / 18446744073709551616 : Nat) : Int) := by
  unfold fullV; rw [if_neg (show ¬ 53 = 35 by decide), if_neg (show ¬ 53 = 36 by decide), if_neg (show ¬ 53 = 37 by decide), if_neg (show ¬ 53 = 38 by decide), if_neg (show ¬ 53 = 39 by decide), if_neg (show ¬ 53 = 40 by decide), if_neg (show ¬ 53 = 41 by decide), if_neg (show ¬ 53 = 42 by decide), if_neg (show ¬ 53 = 43 by decide), if_neg (show ¬ 53 = 44 by decide), if_neg (show ¬ 53 = 50 by decide), if_neg (show ¬ 53 = 51 by decide), if_neg (show ¬ 53 = 52 by decide), if_pos rfl]
theorem fullV_54 (a b : Nat) : fullV 54 a b = divV 54 a b := by
  unfold fullV; rw [if_neg (show ¬ 54 = 35 by decide), if_neg (show ¬ 54 = 36 by decide), if_neg (show ¬ 54 = 37 by decide), if_neg (show ¬ 54 = 38 by decide), if_neg (show ¬ 54 = 39 by decide), if_neg (show ¬ 54 = 40 by decide), if_neg (show ¬ 54 = 41 by decide), if_neg (show ¬ 54 = 42 by decide), if_neg (show ¬ 54 = 43 by decide), if_neg (show ¬ 54 = 44 by decide), if_neg (show ¬ 54 = 50 by decide), if_neg (show ¬ 54 = 51 by decide), if_neg (show ¬ 54 = 52 by decide), if_neg (show ¬ 54 = 53 by decide)]
theorem fullV_55 (a b : Nat) : fullV 55 a b = divV 55 a b := by
  unfold fullV; rw [if_neg (show ¬ 55 = 35 by decide), if_neg (show ¬ 55 = 36 by decide), if_neg (show ¬ 55 = 37 by decide), if_neg (show ¬ 55 = 38 by decide), if_neg (show ¬ 55 = 39 by decide), if_neg (show ¬ 55 = 40 by decide), if_neg (show ¬ 55 = 41 by decide), if_neg (show ¬ 55 = 42 by decide), if_neg (show ¬ 55 = 43 by decide), if_neg (show ¬ 55 = 44 by decide), if_neg (show ¬ 55 = 50 by decide), if_neg (show ¬ 55 = 51 by decide), if_neg (show ¬ 55 = 52 by decide), if_neg (show ¬ 55 = 53 by decide)]
theorem fullV_56 (a b : Nat) : fullV 56 a b = divV 56 a b := by
  unfold fullV; rw [if_neg (show ¬ 56 = 35 by decide), if_neg (show ¬ 56 = 36 by decide), if_neg (show ¬ 56 = 37 by decide), if_neg (show ¬ 56 = 38 by decide), if_neg (show ¬ 56 = 39 by decide), if_neg (show ¬ 56 = 40 by decide), if_neg (show ¬ 56 = 41 by decide), if_neg (show ¬ 56 = 42 by decide), if_neg (show ¬ 56 = 43 by decide), if_neg (show ¬ 56 = 44 by decide), if_neg (show ¬ 56 = 50 by decide), if_neg (show ¬ 56 = 51 by decide), if_neg (show ¬ 56 = 52 by decide), if_neg (show ¬ 56 = 53 by decide)]
theorem fullV_57 (a b : Nat) : fullV 57 a b = divV 57 a b := by
  unfold fullV; rw [if_neg (show ¬ 57 = 35 by decide), if_neg (show ¬ 57 = 36 by decide), if_neg (show ¬ 57 = 37 by decide), if_neg (show ¬ 57 = 38 by decide), if_neg (show ¬ 57 = 39 by decide), if_neg (show ¬ 57 = 40 by decide), if_neg (show ¬ 57 = 41 by decide), if_neg (show ¬ 57 = 42 by decide), if_neg (show ¬ 57 = 43 by decide), if_neg (show ¬ 57 = 44 by decide), if_neg (show ¬ 57 = 50 by decide), if_neg (show ¬ 57 = 51 by decide), if_neg (show ¬ 57 = 52 by decide), if_neg (show ¬ 57 = 53 by decide)]
theorem wrap64_zero (b : Nat) (hb : b < 18446744073709551616) (h : b ≠ 0) : ¬ wrap64 (b : Int) = 0 := by
  simp only [wrap64]
  omega
theorem castM (a b : Nat) : ((a * b % 18446744073709551616 : Nat) : Int) = (a : Int) * (b : Int) % 18446744073709551616 := by omega
theorem castD (a b : Nat) : ((a * b / 18446744073709551616 : Nat) : Int) = (a : Int) * (b : Int) / 18446744073709551616 := by omega
theorem fdiv_nat (a s : Nat) : (a : Int).fdiv (2 ^ s) = ((a / 2 ^ s : Nat) : Int) := by
  rw [Int.fdiv_eq_ediv_of_nonneg _ (Int.le_of_lt (Int.pow_pos (by decide))), Int.natCast_ediv, Int.natCast_pow]
  rfl
end Go.Pat
namespace Go.Proofs
open Go Go.RowKit Go.Pat
set_option maxHeartbeats 1000000 in
theorem cdiv_54 (a b : Nat) (_ha : a < 18446744073709551616) (hb : b < 18446744073709551616) (w : World) :
    Calls Tryd.prog 91 #[.int .i64 54, .int .u64 a, .int .u64 b] w fun e w' => e = .returned (.int .u64 (divV 54 a b)) ∧ w' = w := by
  by_cases hb0 : b = 0
  · subst hb0
    have HV : divV 54 a 0 = 18446744073709551615 := rfl
    have HH := Lib.hid HV
    clear HV
    go_enter Tryd.func91, Tryd.ntmps91
    go_wp2
    go_ret
    exact ⟨by rw [HH.out]; rfl, rfl⟩
  · have d0 := wrap64_zero b hb hb0
    have d1 : ((b : Int) == 0) = false := by simpa using hb0
    have d3 : (wrap64 (b : Int) == 0) = false := by simpa using d0
    by_cases h : wrap64 (b : Int) = -1
    · have d2 : (wrap64 (b : Int) == -1) = true := by simpa using h
      have HH := Lib.hid (show divV 54 a b = IntKind.u64.wrap (-(a : Int)) by simp only [divV, if_neg hb0, if_pos h])
      clear h
      go_enter Tryd.func91, Tryd.ntmps91
      go_wp2
      go_ret
      exact ⟨by rw [HH.out]; rfl, rfl⟩
    · have d2 : (wrap64 (b : Int) == -1) = false := by simpa using h
      have HH := Lib.hid (show divV 54 a b = IntKind.u64.wrap (wrap64 ((wrap64 (a : Int)).tdiv (wrap64 (b : Int)))) by simp only [divV, if_neg hb0, if_neg h])
      clear h
      go_enter Tryd.func91, Tryd.ntmps91
      go_wp2
      go_ret
      exact ⟨by rw [HH.out]; rfl, rfl⟩
set_option maxHeartbeats 1000000 in
theorem cdiv_55 (a b : Nat) (_ha : a < 18446744073709551616) (hb : b < 18446744073709551616) (w : World) :
    Calls Tryd.prog 91 #[.int .i64 55, .int .u64 a, .int .u64 b] w fun e w' => e = .returned (.int .u64 (divV 55 a b)) ∧ w' = w := by
  by_cases hb0 : b = 0
  · subst hb0
    have HV : divV 55 a 0 = 18446744073709551615 := rfl
    have HH := Lib.hid HV
    clear HV
    go_enter Tryd.func91, Tryd.ntmps91
    go_wp2
    go_ret
    exact ⟨by rw [HH.out]; rfl, rfl⟩
  · have d0 := wrap64_zero b hb hb0
    have d1 : ((b : Int) == 0) = false := by simpa using hb0
    have d3 : (wrap64 (b : Int) == 0) = false := by simpa using d0
    by_cases h : wrap64 (b : Int) = -1
    · have d2 : (wrap64 (b : Int) == -1) = true := by simpa using h
      have HH := Lib.hid (show divV 55 a b = IntKind.u64.wrap ((a : Int) / (b : Int)) by simp only [divV, if_neg hb0])
      clear h
      go_enter Tryd.func91, Tryd.ntmps91
      go_wp2
      go_ret
      exact ⟨by rw [HH.out]; rfl, rfl⟩
    · have d2 : (wrap64 (b : Int) == -1) = false := by simpa using h
      have HH := Lib.hid (show divV 55 a b = IntKind.u64.wrap ((a : Int) / (b : Int)) by simp only [divV, if_neg hb0])
      clear h
      go_enter Tryd.func91, Tryd.ntmps91
      go_wp2
      go_ret
      exact ⟨by rw [HH.out]; rfl, rfl⟩
set_option maxHeartbeats 1000000 in
theorem cdiv_56 (a b : Nat) (_ha : a < 18446744073709551616) (hb : b < 18446744073709551616) (w : World) :
    Calls Tryd.prog 91 #[.int .i64 56, .int .u64 a, .int .u64 b] w fun e w' => e = .returned (.int .u64 (divV 56 a b)) ∧ w' = w := by
  by_cases hb0 : b = 0
  · subst hb0
    have HV : divV 56 a 0 = (a : Int) := rfl
    have HH := Lib.hid HV
    clear HV
    go_enter Tryd.func91, Tryd.ntmps91
    go_wp2
    go_ret
    exact ⟨by rw [HH.out]; rfl, rfl⟩
  · have d0 := wrap64_zero b hb hb0
    have d1 : ((b : Int) == 0) = false := by simpa using hb0
    have d3 : (wrap64 (b : Int) == 0) = false := by simpa using d0
    by_cases h : wrap64 (b : Int) = -1
    · have d2 : (wrap64 (b : Int) == -1) = true := by simpa using h
      have HH := Lib.hid (show divV 56 a b = 0 by simp only [divV, if_neg hb0, if_pos h])
      clear h
      go_enter Tryd.func91, Tryd.ntmps91
      go_wp2
      go_ret
      exact ⟨by rw [HH.out]; rfl, rfl⟩
    · have d2 : (wrap64 (b : Int) == -1) = false := by simpa using h
      have HH := Lib.hid (show divV 56 a b = IntKind.u64.wrap ((wrap64 (a : Int)).tmod (wrap64 (b : Int))) by simp only [divV, if_neg hb0, if_neg h])
      clear h
      go_enter Tryd.func91, Tryd.ntmps91
      go_wp2
      go_ret
      exact ⟨by rw [HH.out]; rfl, rfl⟩
set_option maxHeartbeats 1000000 in
theorem cdiv_57 (a b : Nat) (ha : a < 18446744073709551616) (hb : b < 18446744073709551616) (w : World) :
    Calls Tryd.prog 91 #[.int .i64 57, .int .u64 a, .int .u64 b] w fun e w' => e = .returned (.int .u64 (divV 57 a b)) ∧ w' = w := by
  by_cases hb0 : b = 0
  · subst hb0
    have HV : divV 57 a 0 = (a : Int) := rfl
    have HH := Lib.hid HV
    clear HV
    go_enter Tryd.func91, Tryd.ntmps91
    go_wp2
    go_ret
    exact ⟨by rw [HH.out]; rfl, rfl⟩
  · have d0 := wrap64_zero b hb hb0
    have d1 : ((b : Int) == 0) = false := by simpa using hb0
    have d3 : (wrap64 (b : Int) == 0) = false := by simpa using d0
    by_cases h : wrap64 (b : Int) = -1
    · have d2 : (wrap64 (b : Int) == -1) = true := by simpa using h
      have HH := Lib.hid (show divV 57 a b = (a : Int) % (b : Int) by simp only [divV, if_neg hb0])
      clear h
      go_enter Tryd.func91, Tryd.ntmps91
      go_wp2
      go_ret
      exact ⟨by rw [HH.out]; rfl, rfl⟩
    · have d2 : (wrap64 (b : Int) == -1) = false := by simpa using h
      have HH := Lib.hid (show divV 57 a b = (a : Int) % (b : Int) by simp only [divV, if_neg hb0])
      clear h
      go_enter Tryd.func91, Tryd.ntmps91
      go_wp2
      go_ret
      exact ⟨by rw [HH.out]; rfl, rfl⟩
set_option maxHeartbeats 1000000 in
theorem rdiv_54 (a b : Nat) (_ha : a < 18446744073709551616) (hb : b < 18446744073709551616) (w : World) :
    Calls Tryd.prog 72 #[.int .i64 54, .int .u64 a, .int .u64 b] w fun e w' => e = .returned (.int .u64 (divV 54 a b)) ∧ w' = w := by
  by_cases hb0 : b = 0
  · subst hb0
    have HV : divV 54 a 0 = 18446744073709551615 := rfl
    have HH := Lib.hid HV
    clear HV
    go_enter Tryd.func72, Tryd.ntmps72
    go_wp2
    go_ret
    exact ⟨by rw [HH.out]; rfl, rfl⟩
  · have d0 := wrap64_zero b hb hb0
    have d1 : ((b : Int) == 0) = false := by simpa using hb0
    have d3 : (wrap64 (b : Int) == 0) = false := by simpa using d0
    by_cases h : wrap64 (b : Int) = -1
    · have d2 : (wrap64 (b : Int) == -1) = true := by simpa using h
      have HH := Lib.hid (show divV 54 a b = IntKind.u64.wrap (-(a : Int)) by simp only [divV, if_neg hb0, if_pos h])
      clear h
      go_enter Tryd.func72, Tryd.ntmps72
      go_wp2
      go_ret
      exact ⟨by rw [HH.out]; rfl, rfl⟩
    · have d2 : (wrap64 (b : Int) == -1) = false := by simpa using h
      have HH := Lib.hid (show divV 54 a b = IntKind.u64.wrap (wrap64 ((wrap64 (a : Int)).tdiv (wrap64 (b : Int)))) by simp only [divV, if_neg hb0, if_neg h])
      clear h
      go_enter Tryd.func72, Tryd.ntmps72
      go_wp2
      go_ret
      exact ⟨by rw [HH.out]; rfl, rfl⟩
set_option maxHeartbeats 1000000 in
theorem rdiv_55 (a b : Nat) (_ha : a < 18446744073709551616) (hb : b < 18446744073709551616) (w : World) :
    Calls Tryd.prog 72 #[.int .i64 55, .int .u64 a, .int .u64 b] w fun e w' => e = .returned (.int .u64 (divV 55 a b)) ∧ w' = w := by
  by_cases hb0 : b = 0
  · subst hb0
    have HV : divV 55 a 0 = 18446744073709551615 := rfl
    have HH := Lib.hid HV
    clear HV
    go_enter Tryd.func72, Tryd.ntmps72
    go_wp2
    go_ret
    exact ⟨by rw [HH.out]; rfl, rfl⟩
  · have d0 := wrap64_zero b hb hb0
    have d1 : ((b : Int) == 0) = false := by simpa using hb0
    have d3 : (wrap64 (b : Int) == 0) = false := by simpa using d0
    by_cases h : wrap64 (b : Int) = -1
    · have d2 : (wrap64 (b : Int) == -1) = true := by simpa using h
      have HH := Lib.hid (show divV 55 a b = IntKind.u64.wrap ((a : Int) / (b : Int)) by simp only [divV, if_neg hb0])
      clear h
      go_enter Tryd.func72, Tryd.ntmps72
      go_wp2
      go_ret
      exact ⟨by rw [HH.out]; rfl, rfl⟩
    · have d2 : (wrap64 (b : Int) == -1) = false := by simpa using h
      have HH := Lib.hid (show divV 55 a b = IntKind.u64.wrap ((a : Int) / (b : Int)) by simp only [divV, if_neg hb0])
      clear h
      go_enter Tryd.func72, Tryd.ntmps72
      go_wp2
      go_ret
      exact ⟨by rw [HH.out]; rfl, rfl⟩
set_option maxHeartbeats 1000000 in
theorem rdiv_56 (a b : Nat) (_ha : a < 18446744073709551616) (hb : b < 18446744073709551616) (w : World) :
    Calls Tryd.prog 72 #[.int .i64 56, .int .u64 a, .int .u64 b] w fun e w' => e = .returned (.int .u64 (divV 56 a b)) ∧ w' = w := by
  by_cases hb0 : b = 0
  · subst hb0
    have HV : divV 56 a 0 = (a : Int) := rfl
    have HH := Lib.hid HV
    clear HV
    go_enter Tryd.func72, Tryd.ntmps72
    go_wp2
    go_ret
    exact ⟨by rw [HH.out]; rfl, rfl⟩
  · have d0 := wrap64_zero b hb hb0
    have d1 : ((b : Int) == 0) = false := by simpa using hb0
    have d3 : (wrap64 (b : Int) == 0) = false := by simpa using d0
    by_cases h : wrap64 (b : Int) = -1
    · have d2 : (wrap64 (b : Int) == -1) = true := by simpa using h
      have HH := Lib.hid (show divV 56 a b = 0 by simp only [divV, if_neg hb0, if_pos h])
      clear h
      go_enter Tryd.func72, Tryd.ntmps72
      go_wp2
      go_ret
      exact ⟨by rw [HH.out]; rfl, rfl⟩
    · have d2 : (wrap64 (b : Int) == -1) = false := by simpa using h
      have HH := Lib.hid (show divV 56 a b = IntKind.u64.wrap ((wrap64 (a : Int)).tmod (wrap64 (b : Int))) by simp only [divV, if_neg hb0, if_neg h])
      clear h
      go_enter Tryd.func72, Tryd.ntmps72
      go_wp2
      go_ret
      exact ⟨by rw [HH.out]; rfl, rfl⟩
set_option maxHeartbeats 1000000 in
theorem rdiv_57 (a b : Nat) (ha : a < 18446744073709551616) (hb : b < 18446744073709551616) (w : World) :
    Calls Tryd.prog 72 #[.int .i64 57, .int .u64 a, .int .u64 b] w fun e w' => e = .returned (.int .u64 (divV 57 a b)) ∧ w' = w := by
  by_cases hb0 : b = 0
  · subst hb0
    have HV : divV 57 a 0 = (a : Int) := rfl
    have HH := Lib.hid HV
    clear HV
    go_enter Tryd.func72, Tryd.ntmps72
    go_wp2
    go_ret
    exact ⟨by rw [HH.out]; rfl, rfl⟩
  · have d0 := wrap64_zero b hb hb0
    have d1 : ((b : Int) == 0) = false := by simpa using hb0
    have d3 : (wrap64 (b : Int) == 0) = false := by simpa using d0
    by_cases h : wrap64 (b : Int) = -1
    · have d2 : (wrap64 (b : Int) == -1) = true := by simpa using h
      have HH := Lib.hid (show divV 57 a b = (a : Int) % (b : Int) by simp only [divV, if_neg hb0])
      clear h
      go_enter Tryd.func72, Tryd.ntmps72
      go_wp2
      go_ret
      exact ⟨by rw [HH.out]; rfl, rfl⟩
    · have d2 : (wrap64 (b : Int) == -1) = false := by simpa using h
      have HH := Lib.hid (show divV 57 a b = (a : Int) % (b : Int) by simp only [divV, if_neg hb0])
      clear h
      go_enter Tryd.func72, Tryd.ntmps72
      go_wp2
      go_ret
      exact ⟨by rw [HH.out]; rfl, rfl⟩
set_option maxHeartbeats 1000000 in
theorem full_35 (a b : Nat) (ha : a < 18446744073709551616) (hb : b < 18446744073709551616) (w : World) :
    Calls Tryd.prog 60 #[.int .i64 35, .int .u64 a, .int .u64 b] w fun e w' => e = .returned (.int .u64 (fullV 35 a b)) ∧ w' = w := by
  obtain ⟨X, hX⟩ : ∃ X : Int, X = fullV 35 a b := ⟨_, rfl⟩
  rw [← hX]
  have hX2 := hX
  rw [fullV_35] at hX2
  have HX := Lib.hid hX2
  clear hX hX2
  go_enter Tryd.func60, Tryd.ntmps60
  go_wp2_with (first | (go_at_call 92; refine (Mul64_any a b ha hb _).mono ?_; rintro e w' ⟨rfl, rfl⟩) | (go_at_call 93; refine (truth_any _ _).mono ?_; rintro e w' ⟨rfl, rfl⟩))
  go_ret
  refine ⟨congrArg (fun x => Ending.returned (Value.int IntKind.u64 x)) ?_, rfl⟩
  rw [HX.out]
set_option maxHeartbeats 1000000 in
theorem full_36 (a b : Nat) (ha : a < 18446744073709551616) (hb : b < 18446744073709551616) (w : World) :
    Calls Tryd.prog 60 #[.int .i64 36, .int .u64 a, .int .u64 b] w fun e w' => e = .returned (.int .u64 (fullV 36 a b)) ∧ w' = w := by
  obtain ⟨X, hX⟩ : ∃ X : Int, X = fullV 36 a b := ⟨_, rfl⟩
  rw [← hX]
  have hX2 := hX
  rw [fullV_36] at hX2
  have HX := Lib.hid hX2
  clear hX hX2
  go_enter Tryd.func60, Tryd.ntmps60
  go_wp2_with (first | (go_at_call 92; refine (Mul64_any a b ha hb _).mono ?_; rintro e w' ⟨rfl, rfl⟩) | (go_at_call 93; refine (truth_any _ _).mono ?_; rintro e w' ⟨rfl, rfl⟩))
  go_ret
  refine ⟨congrArg (fun x => Ending.returned (Value.int IntKind.u64 x)) ?_, rfl⟩
  rw [HX.out]
set_option maxHeartbeats 1000000 in
theorem full_37 (a b : Nat) (ha : a < 18446744073709551616) (hb : b < 18446744073709551616) (w : World) :
    Calls Tryd.prog 60 #[.int .i64 37, .int .u64 a, .int .u64 b] w fun e w' => e = .returned (.int .u64 (fullV 37 a b)) ∧ w' = w := by
  have hsh := fun (W : World) => run_shl (P := Tryd.prog) .u64 .u64 (a : Int) _ (b % 64) (and63 b hb) (Nat.mod_lt _ (by decide)) W
  obtain ⟨X, hX⟩ : ∃ X : Int, X = fullV 37 a b := ⟨_, rfl⟩
  rw [← hX]
  have hX2 := hX
  rw [fullV_37] at hX2
  have HX := Lib.hid hX2
  clear hX hX2
  go_enter Tryd.func60, Tryd.ntmps60
  go_wp2_with (first | (go_at_call 92; refine (Mul64_any a b ha hb _).mono ?_; rintro e w' ⟨rfl, rfl⟩) | (go_at_call 93; refine (truth_any _ _).mono ?_; rintro e w' ⟨rfl, rfl⟩))
  go_ret
  refine ⟨congrArg (fun x => Ending.returned (Value.int IntKind.u64 x)) ?_, rfl⟩
  rw [HX.out]
set_option maxHeartbeats 1000000 in
theorem full_38 (a b : Nat) (ha : a < 18446744073709551616) (hb : b < 18446744073709551616) (w : World) :
    Calls Tryd.prog 60 #[.int .i64 38, .int .u64 a, .int .u64 b] w fun e w' => e = .returned (.int .u64 (fullV 38 a b)) ∧ w' = w := by
  obtain ⟨X, hX⟩ : ∃ X : Int, X = fullV 38 a b := ⟨_, rfl⟩
  rw [← hX]
  have hX2 := hX
  rw [fullV_38] at hX2
  have HX := Lib.hid hX2
  clear hX hX2
  go_enter Tryd.func60, Tryd.ntmps60
  go_wp2_with (first | (go_at_call 92; refine (Mul64_any a b ha hb _).mono ?_; rintro e w' ⟨rfl, rfl⟩) | (go_at_call 93; refine (truth_any _ _).mono ?_; rintro e w' ⟨rfl, rfl⟩))
  go_ret
  refine ⟨congrArg (fun x => Ending.returned (Value.int IntKind.u64 x)) ?_, rfl⟩
  rw [HX.out]
set_option maxHeartbeats 1000000 in
theorem full_39 (a b : Nat) (ha : a < 18446744073709551616) (hb : b < 18446744073709551616) (w : World) :
    Calls Tryd.prog 60 #[.int .i64 39, .int .u64 a, .int .u64 b] w fun e w' => e = .returned (.int .u64 (fullV 39 a b)) ∧ w' = w := by
  obtain ⟨X, hX⟩ : ∃ X : Int, X = fullV 39 a b := ⟨_, rfl⟩
  rw [← hX]
  have hX2 := hX
  rw [fullV_39] at hX2
  have HX := Lib.hid hX2
  clear hX hX2
  go_enter Tryd.func60, Tryd.ntmps60
  go_wp2_with (first | (go_at_call 92; refine (Mul64_any a b ha hb _).mono ?_; rintro e w' ⟨rfl, rfl⟩) | (go_at_call 93; refine (truth_any _ _).mono ?_; rintro e w' ⟨rfl, rfl⟩))
  go_ret
  refine ⟨congrArg (fun x => Ending.returned (Value.int IntKind.u64 x)) ?_, rfl⟩
  rw [HX.out]
set_option maxHeartbeats 1000000 in
theorem full_40 (a b : Nat) (ha : a < 18446744073709551616) (hb : b < 18446744073709551616) (w : World) :
    Calls Tryd.prog 60 #[.int .i64 40, .int .u64 a, .int .u64 b] w fun e w' => e = .returned (.int .u64 (fullV 40 a b)) ∧ w' = w := by
  obtain ⟨X, hX⟩ : ∃ X : Int, X = fullV 40 a b := ⟨_, rfl⟩
  rw [← hX]
  have hX2 := hX
  rw [fullV_40] at hX2
  have HX := Lib.hid hX2
  clear hX hX2
  go_enter Tryd.func60, Tryd.ntmps60
  go_wp2_with (first | (go_at_call 92; refine (Mul64_any a b ha hb _).mono ?_; rintro e w' ⟨rfl, rfl⟩) | (go_at_call 93; refine (truth_any _ _).mono ?_; rintro e w' ⟨rfl, rfl⟩))
  go_ret
  refine ⟨congrArg (fun x => Ending.returned (Value.int IntKind.u64 x)) ?_, rfl⟩
  rw [HX.out]
set_option maxHeartbeats 1000000 in
theorem full_41 (a b : Nat) (ha : a < 18446744073709551616) (hb : b < 18446744073709551616) (w : World) :
    Calls Tryd.prog 60 #[.int .i64 41, .int .u64 a, .int .u64 b] w fun e w' => e = .returned (.int .u64 (fullV 41 a b)) ∧ w' = w := by
  have hsh := fun (W : World) => run_shr (P := Tryd.prog) .u64 .u64 (a : Int) _ (b % 64) (and63 b hb) (Nat.mod_lt _ (by decide)) W
  obtain ⟨X, hX⟩ : ∃ X : Int, X = fullV 41 a b := ⟨_, rfl⟩
  rw [← hX]
  have hX2 := hX
  rw [fullV_41] at hX2
  have HX := Lib.hid hX2
  clear hX hX2
  go_enter Tryd.func60, Tryd.ntmps60
  go_wp2_with (first | (go_at_call 92; refine (Mul64_any a b ha hb _).mono ?_; rintro e w' ⟨rfl, rfl⟩) | (go_at_call 93; refine (truth_any _ _).mono ?_; rintro e w' ⟨rfl, rfl⟩))
  go_ret
  refine ⟨congrArg (fun x => Ending.returned (Value.int IntKind.u64 x)) ?_, rfl⟩
  rw [HX.out, fdiv_nat]
set_option maxHeartbeats 1000000 in
theorem full_42 (a b : Nat) (ha : a < 18446744073709551616) (hb : b < 18446744073709551616) (w : World) :
    Calls Tryd.prog 60 #[.int .i64 42, .int .u64 a, .int .u64 b] w fun e w' => e = .returned (.int .u64 (fullV 42 a b)) ∧ w' = w := by
  have hsh := fun (W : World) => run_shr (P := Tryd.prog) .i64 .u64 (wrap64 (a : Int)) _ (b % 64) (and63 b hb) (Nat.mod_lt _ (by decide)) W
  obtain ⟨X, hX⟩ : ∃ X : Int, X = fullV 42 a b := ⟨_, rfl⟩
  rw [← hX]
  have hX2 := hX
  rw [fullV_42] at hX2
  have HX := Lib.hid hX2
  clear hX hX2
  go_enter Tryd.func60, Tryd.ntmps60
  go_wp2_with (first | (go_at_call 92; refine (Mul64_any a b ha hb _).mono ?_; rintro e w' ⟨rfl, rfl⟩) | (go_at_call 93; refine (truth_any _ _).mono ?_; rintro e w' ⟨rfl, rfl⟩))
  go_ret
  refine ⟨congrArg (fun x => Ending.returned (Value.int IntKind.u64 x)) ?_, rfl⟩
  rw [HX.out]
set_option maxHeartbeats 1000000 in
theorem full_43 (a b : Nat) (ha : a < 18446744073709551616) (hb : b < 18446744073709551616) (w : World) :
    Calls Tryd.prog 60 #[.int .i64 43, .int .u64 a, .int .u64 b] w fun e w' => e = .returned (.int .u64 (fullV 43 a b)) ∧ w' = w := by
  obtain ⟨X, hX⟩ : ∃ X : Int, X = fullV 43 a b := ⟨_, rfl⟩
  rw [← hX]
  have hX2 := hX
  rw [fullV_43] at hX2
  have HX := Lib.hid hX2
  clear hX hX2
  go_enter Tryd.func60, Tryd.ntmps60
  go_wp2_with (first | (go_at_call 92; refine (Mul64_any a b ha hb _).mono ?_; rintro e w' ⟨rfl, rfl⟩) | (go_at_call 93; refine (truth_any _ _).mono ?_; rintro e w' ⟨rfl, rfl⟩))
  go_ret
  refine ⟨congrArg (fun x => Ending.returned (Value.int IntKind.u64 x)) ?_, rfl⟩
  rw [HX.out]
set_option maxHeartbeats 1000000 in
theorem full_44 (a b : Nat) (ha : a < 18446744073709551616) (hb : b < 18446744073709551616) (w : World) :
    Calls Tryd.prog 60 #[.int .i64 44, .int .u64 a, .int .u64 b] w fun e w' => e = .returned (.int .u64 (fullV 44 a b)) ∧ w' = w := by
  obtain ⟨X, hX⟩ : ∃ X : Int, X = fullV 44 a b := ⟨_, rfl⟩
  rw [← hX]
  have hX2 := hX
  rw [fullV_44] at hX2
  have HX := Lib.hid hX2
  clear hX hX2
  go_enter Tryd.func60, Tryd.ntmps60
  go_wp2_with (first | (go_at_call 92; refine (Mul64_any a b ha hb _).mono ?_; rintro e w' ⟨rfl, rfl⟩) | (go_at_call 93; refine (truth_any _ _).mono ?_; rintro e w' ⟨rfl, rfl⟩))
  go_ret
  refine ⟨congrArg (fun x => Ending.returned (Value.int IntKind.u64 x)) ?_, rfl⟩
  rw [HX.out]
set_option maxHeartbeats 1000000 in
theorem full_50 (a b : Nat) (ha : a < 18446744073709551616) (hb : b < 18446744073709551616) (w : World) :
    Calls Tryd.prog 60 #[.int .i64 50, .int .u64 a, .int .u64 b] w fun e w' => e = .returned (.int .u64 (fullV 50 a b)) ∧ w' = w := by
  obtain ⟨X, hX⟩ : ∃ X : Int, X = fullV 50 a b := ⟨_, rfl⟩
  rw [← hX]
  have hX2 := hX
  rw [fullV_50, castM] at hX2
  have HX := Lib.hid hX2
  clear hX hX2
  go_enter Tryd.func60, Tryd.ntmps60
  go_wp2_with (first | (go_at_call 92; refine (Mul64_any a b ha hb _).mono ?_; rintro e w' ⟨rfl, rfl⟩) | (go_at_call 93; refine (truth_any _ _).mono ?_; rintro e w' ⟨rfl, rfl⟩))
  go_ret
  refine ⟨congrArg (fun x => Ending.returned (Value.int IntKind.u64 x)) ?_, rfl⟩
  rw [HX.out]
set_option maxHeartbeats 1000000 in
theorem full_51 (a b : Nat) (ha : a < 18446744073709551616) (hb : b < 18446744073709551616) (w : World) :
    Calls Tryd.prog 60 #[.int .i64 51, .int .u64 a, .int .u64 b] w fun e w' => e = .returned (.int .u64 (fullV 51 a b)) ∧ w' = w := by
  obtain ⟨X, hX⟩ : ∃ X : Int, X = fullV 51 a b := ⟨_, rfl⟩
  rw [← hX]
  have hX2 := hX
  rw [fullV_51, castD] at hX2
  have HX := Lib.hid hX2
  clear hX hX2
  go_enter Tryd.func60, Tryd.ntmps60
  go_wp2_with (first | (go_at_call 92; refine (Mul64_any a b ha hb _).mono ?_; rintro e w' ⟨rfl, rfl⟩) | (go_at_call 93; refine (truth_any _ _).mono ?_; rintro e w' ⟨rfl, rfl⟩))
  go_ret
  refine ⟨congrArg (fun x => Ending.returned (Value.int IntKind.u64 x)) ?_, rfl⟩
  rw [HX.out]
set_option maxHeartbeats 1000000 in
theorem full_52 (a b : Nat) (ha : a < 18446744073709551616) (hb : b < 18446744073709551616) (w : World) :
    Calls Tryd.prog 60 #[.int .i64 52, .int .u64 a, .int .u64 b] w fun e w' => e = .returned (.int .u64 (fullV 52 a b)) ∧ w' = w := by
  obtain ⟨X, hX⟩ : ∃ X : Int, X = fullV 52 a b := ⟨_, rfl⟩
  rw [← hX]
  have hX2 := hX
  rw [fullV_52, castD] at hX2
  have HX := Lib.hid hX2
  clear hX hX2
  go_enter Tryd.func60, Tryd.ntmps60
  go_wp2_with (first | (go_at_call 92; refine (Mul64_any a b ha hb _).mono ?_; rintro e w' ⟨rfl, rfl⟩) | (go_at_call 93; refine (truth_any _ _).mono ?_; rintro e w' ⟨rfl, rfl⟩))
  go_ret
  refine ⟨congrArg (fun x => Ending.returned (Value.int IntKind.u64 x)) ?_, rfl⟩
  rw [HX.out]
set_option maxHeartbeats 1000000 in
theorem full_53 (a b : Nat) (ha : a < 18446744073709551616) (hb : b < 18446744073709551616) (w : World) :
    Calls Tryd.prog 60 #[.int .i64 53, .int .u64 a, .int .u64 b] w fun e w' => e = .returned (.int .u64 (fullV 53 a b)) ∧ w' = w := by
  obtain ⟨X, hX⟩ : ∃ X : Int, X = fullV 53 a b := ⟨_, rfl⟩
  rw [← hX]
  have hX2 := hX
  rw [fullV_53, castD] at hX2
  have HX := Lib.hid hX2
  clear hX hX2
  go_enter Tryd.func60, Tryd.ntmps60
  go_wp2_with (first | (go_at_call 92; refine (Mul64_any a b ha hb _).mono ?_; rintro e w' ⟨rfl, rfl⟩) | (go_at_call 93; refine (truth_any _ _).mono ?_; rintro e w' ⟨rfl, rfl⟩))
  go_ret
  refine ⟨congrArg (fun x => Ending.returned (Value.int IntKind.u64 x)) ?_, rfl⟩
  rw [HX.out]
set_option maxHeartbeats 1000000 in
theorem full_54 (a b : Nat) (ha : a < 18446744073709551616) (hb : b < 18446744073709551616) (w : World) :
    Calls Tryd.prog 60 #[.int .i64 54, .int .u64 a, .int .u64 b] w fun e w' => e = .returned (.int .u64 (fullV 54 a b)) ∧ w' = w := by
  obtain ⟨X, hX⟩ : ∃ X : Int, X = fullV 54 a b := ⟨_, rfl⟩
  rw [← hX]
  have hX2 := hX
  rw [fullV_54] at hX2
  have HX := Lib.hid hX2
  clear hX hX2
  go_enter Tryd.func60, Tryd.ntmps60
  go_wp2_with (first | (go_at_call 92; refine (Mul64_any a b ha hb _).mono ?_; rintro e w' ⟨rfl, rfl⟩) | (go_at_call 93; refine (truth_any _ _).mono ?_; rintro e w' ⟨rfl, rfl⟩) | (go_at_call 91; refine (cdiv_54 a b ha hb _).mono ?_; rintro e w' ⟨rfl, rfl⟩))
  go_ret
  refine ⟨congrArg (fun x => Ending.returned (Value.int IntKind.u64 x)) ?_, rfl⟩
  rw [HX.out]
set_option maxHeartbeats 1000000 in
theorem full_55 (a b : Nat) (ha : a < 18446744073709551616) (hb : b < 18446744073709551616) (w : World) :
    Calls Tryd.prog 60 #[.int .i64 55, .int .u64 a, .int .u64 b] w fun e w' => e = .returned (.int .u64 (fullV 55 a b)) ∧ w' = w := by
  obtain ⟨X, hX⟩ : ∃ X : Int, X = fullV 55 a b := ⟨_, rfl⟩
  rw [← hX]
  have hX2 := hX
  rw [fullV_55] at hX2
  have HX := Lib.hid hX2
  clear hX hX2
  go_enter Tryd.func60, Tryd.ntmps60
  go_wp2_with (first | (go_at_call 92; refine (Mul64_any a b ha hb _).mono ?_; rintro e w' ⟨rfl, rfl⟩) | (go_at_call 93; refine (truth_any _ _).mono ?_; rintro e w' ⟨rfl, rfl⟩) | (go_at_call 91; refine (cdiv_55 a b ha hb _).mono ?_; rintro e w' ⟨rfl, rfl⟩))
  go_ret
  refine ⟨congrArg (fun x => Ending.returned (Value.int IntKind.u64 x)) ?_, rfl⟩
  rw [HX.out]
set_option maxHeartbeats 1000000 in
theorem full_56 (a b : Nat) (ha : a < 18446744073709551616) (hb : b < 18446744073709551616) (w : World) :
    Calls Tryd.prog 60 #[.int .i64 56, .int .u64 a, .int .u64 b] w fun e w' => e = .returned (.int .u64 (fullV 56 a b)) ∧ w' = w := by
  obtain ⟨X, hX⟩ : ∃ X : Int, X = fullV 56 a b := ⟨_, rfl⟩
  rw [← hX]
  have hX2 := hX
  rw [fullV_56] at hX2
  have HX := Lib.hid hX2
  clear hX hX2
  go_enter Tryd.func60, Tryd.ntmps60
  go_wp2_with (first | (go_at_call 92; refine (Mul64_any a b ha hb _).mono ?_; rintro e w' ⟨rfl, rfl⟩) | (go_at_call 93; refine (truth_any _ _).mono ?_; rintro e w' ⟨rfl, rfl⟩) | (go_at_call 91; refine (cdiv_56 a b ha hb _).mono ?_; rintro e w' ⟨rfl, rfl⟩))
  go_ret
  refine ⟨congrArg (fun x => Ending.returned (Value.int IntKind.u64 x)) ?_, rfl⟩
  rw [HX.out]
set_option maxHeartbeats 1000000 in
theorem full_57 (a b : Nat) (ha : a < 18446744073709551616) (hb : b < 18446744073709551616) (w : World) :
    Calls Tryd.prog 60 #[.int .i64 57, .int .u64 a, .int .u64 b] w fun e w' => e = .returned (.int .u64 (fullV 57 a b)) ∧ w' = w := by
  obtain ⟨X, hX⟩ : ∃ X : Int, X = fullV 57 a b := ⟨_, rfl⟩
  rw [← hX]
  have hX2 := hX
  rw [fullV_57] at hX2
  have HX := Lib.hid hX2
  clear hX hX2
  go_enter Tryd.func60, Tryd.ntmps60
  go_wp2_with (first | (go_at_call 92; refine (Mul64_any a b ha hb _).mono ?_; rintro e w' ⟨rfl, rfl⟩) | (go_at_call 93; refine (truth_any _ _).mono ?_; rintro e w' ⟨rfl, rfl⟩) | (go_at_call 91; refine (cdiv_57 a b ha hb _).mono ?_; rintro e w' ⟨rfl, rfl⟩))
  go_ret
  refine ⟨congrArg (fun x => Ending.returned (Value.int IntKind.u64 x)) ?_, rfl⟩
  rw [HX.out]
set_option maxHeartbeats 1000000 in
theorem alu_35 (a b : Nat) (_ha : a < 18446744073709551616) (_hb : b < 18446744073709551616) (w : World) :
    Calls Tryd.prog 44 #[.int .i64 35, .int .u64 a, .int .u64 b] w fun e w' => e = .returned (.int .u64 (fullV 35 a b)) ∧ w' = w := by
  obtain ⟨X, hX⟩ : ∃ X : Int, X = fullV 35 a b := ⟨_, rfl⟩
  rw [← hX]
  have hX2 := hX
  rw [fullV_35] at hX2
  have HX := Lib.hid hX2
  clear hX hX2
  go_enter Tryd.func44, Tryd.ntmps44
  go_wp2_with (first | (go_at_call 71; refine (high3_any a b ha hb _).mono ?_; rintro e w' ⟨rfl, rfl⟩) | (go_at_call 70; refine (truth3_any _ _).mono ?_; rintro e w' ⟨rfl, rfl⟩))
  go_ret
  refine ⟨congrArg (fun x => Ending.returned (Value.int IntKind.u64 x)) ?_, rfl⟩
  rw [HX.out]
set_option maxHeartbeats 1000000 in
theorem alu_36 (a b : Nat) (_ha : a < 18446744073709551616) (_hb : b < 18446744073709551616) (w : World) :
    Calls Tryd.prog 44 #[.int .i64 36, .int .u64 a, .int .u64 b] w fun e w' => e = .returned (.int .u64 (fullV 36 a b)) ∧ w' = w := by
  obtain ⟨X, hX⟩ : ∃ X : Int, X = fullV 36 a b := ⟨_, rfl⟩
  rw [← hX]
  have hX2 := hX
  rw [fullV_36] at hX2
  have HX := Lib.hid hX2
  clear hX hX2
  go_enter Tryd.func44, Tryd.ntmps44
  go_wp2_with (first | (go_at_call 71; refine (high3_any a b ha hb _).mono ?_; rintro e w' ⟨rfl, rfl⟩) | (go_at_call 70; refine (truth3_any _ _).mono ?_; rintro e w' ⟨rfl, rfl⟩))
  go_ret
  refine ⟨congrArg (fun x => Ending.returned (Value.int IntKind.u64 x)) ?_, rfl⟩
  rw [HX.out]
set_option maxHeartbeats 1000000 in
theorem alu_37 (a b : Nat) (_ha : a < 18446744073709551616) (hb : b < 18446744073709551616) (w : World) :
    Calls Tryd.prog 44 #[.int .i64 37, .int .u64 a, .int .u64 b] w fun e w' => e = .returned (.int .u64 (fullV 37 a b)) ∧ w' = w := by
  have hsh := fun (W : World) => run_shl (P := Tryd.prog) .u64 .u64 (a : Int) _ (b % 64) (and63 b hb) (Nat.mod_lt _ (by decide)) W
  obtain ⟨X, hX⟩ : ∃ X : Int, X = fullV 37 a b := ⟨_, rfl⟩
  rw [← hX]
  have hX2 := hX
  rw [fullV_37] at hX2
  have HX := Lib.hid hX2
  clear hX hX2
  go_enter Tryd.func44, Tryd.ntmps44
  go_wp2_with (first | (go_at_call 71; refine (high3_any a b ha hb _).mono ?_; rintro e w' ⟨rfl, rfl⟩) | (go_at_call 70; refine (truth3_any _ _).mono ?_; rintro e w' ⟨rfl, rfl⟩))
  go_ret
  refine ⟨congrArg (fun x => Ending.returned (Value.int IntKind.u64 x)) ?_, rfl⟩
  rw [HX.out]
set_option maxHeartbeats 1000000 in
theorem alu_38 (a b : Nat) (_ha : a < 18446744073709551616) (_hb : b < 18446744073709551616) (w : World) :
    Calls Tryd.prog 44 #[.int .i64 38, .int .u64 a, .int .u64 b] w fun e w' => e = .returned (.int .u64 (fullV 38 a b)) ∧ w' = w := by
  obtain ⟨X, hX⟩ : ∃ X : Int, X = fullV 38 a b := ⟨_, rfl⟩
  rw [← hX]
  have hX2 := hX
  rw [fullV_38] at hX2
  have HX := Lib.hid hX2
  clear hX hX2
  go_enter Tryd.func44, Tryd.ntmps44
  go_wp2_with (first | (go_at_call 71; refine (high3_any a b ha hb _).mono ?_; rintro e w' ⟨rfl, rfl⟩) | (go_at_call 70; refine (truth3_any _ _).mono ?_; rintro e w' ⟨rfl, rfl⟩))
  go_ret
  refine ⟨congrArg (fun x => Ending.returned (Value.int IntKind.u64 x)) ?_, rfl⟩
  rw [HX.out]
set_option maxHeartbeats 1000000 in
theorem alu_39 (a b : Nat) (_ha : a < 18446744073709551616) (_hb : b < 18446744073709551616) (w : World) :
    Calls Tryd.prog 44 #[.int .i64 39, .int .u64 a, .int .u64 b] w fun e w' => e = .returned (.int .u64 (fullV 39 a b)) ∧ w' = w := by
  obtain ⟨X, hX⟩ : ∃ X : Int, X = fullV 39 a b := ⟨_, rfl⟩
  rw [← hX]
  have hX2 := hX
  rw [fullV_39] at hX2
  have HX := Lib.hid hX2
  clear hX hX2
  go_enter Tryd.func44, Tryd.ntmps44
  go_wp2_with (first | (go_at_call 71; refine (high3_any a b ha hb _).mono ?_; rintro e w' ⟨rfl, rfl⟩) | (go_at_call 70; refine (truth3_any _ _).mono ?_; rintro e w' ⟨rfl, rfl⟩))
  go_ret
  refine ⟨congrArg (fun x => Ending.returned (Value.int IntKind.u64 x)) ?_, rfl⟩
  rw [HX.out]
set_option maxHeartbeats 1000000 in
theorem alu_40 (a b : Nat) (_ha : a < 18446744073709551616) (_hb : b < 18446744073709551616) (w : World) :
    Calls Tryd.prog 44 #[.int .i64 40, .int .u64 a, .int .u64 b] w fun e w' => e = .returned (.int .u64 (fullV 40 a b)) ∧ w' = w := by
  obtain ⟨X, hX⟩ : ∃ X : Int, X = fullV 40 a b := ⟨_, rfl⟩
  rw [← hX]
  have hX2 := hX
  rw [fullV_40] at hX2
  have HX := Lib.hid hX2
  clear hX hX2
  go_enter Tryd.func44, Tryd.ntmps44
  go_wp2_with (first | (go_at_call 71; refine (high3_any a b ha hb _).mono ?_; rintro e w' ⟨rfl, rfl⟩) | (go_at_call 70; refine (truth3_any _ _).mono ?_; rintro e w' ⟨rfl, rfl⟩))
  go_ret
  refine ⟨congrArg (fun x => Ending.returned (Value.int IntKind.u64 x)) ?_, rfl⟩
  rw [HX.out]
set_option maxHeartbeats 1000000 in
theorem alu_41 (a b : Nat) (_ha : a < 18446744073709551616) (hb : b < 18446744073709551616) (w : World) :
    Calls Tryd.prog 44 #[.int .i64 41, .int .u64 a, .int .u64 b] w fun e w' => e = .returned (.int .u64 (fullV 41 a b)) ∧ w' = w := by
  have hsh := fun (W : World) => run_shr (P := Tryd.prog) .u64 .u64 (a : Int) _ (b % 64) (and63 b hb) (Nat.mod_lt _ (by decide)) W
  obtain ⟨X, hX⟩ : ∃ X : Int, X = fullV 41 a b := ⟨_, rfl⟩
  rw [← hX]
  have hX2 := hX
  rw [fullV_41] at hX2
  have HX := Lib.hid hX2
  clear hX hX2
  go_enter Tryd.func44, Tryd.ntmps44
  go_wp2_with (first | (go_at_call 71; refine (high3_any a b ha hb _).mono ?_; rintro e w' ⟨rfl, rfl⟩) | (go_at_call 70; refine (truth3_any _ _).mono ?_; rintro e w' ⟨rfl, rfl⟩))
  go_ret
  refine ⟨congrArg (fun x => Ending.returned (Value.int IntKind.u64 x)) ?_, rfl⟩
  rw [HX.out, fdiv_nat]
set_option maxHeartbeats 1000000 in
theorem alu_42 (a b : Nat) (_ha : a < 18446744073709551616) (hb : b < 18446744073709551616) (w : World) :
    Calls Tryd.prog 44 #[.int .i64 42, .int .u64 a, .int .u64 b] w fun e w' => e = .returned (.int .u64 (fullV 42 a b)) ∧ w' = w := by
  have hsh := fun (W : World) => run_shr (P := Tryd.prog) .i64 .u64 (wrap64 (a : Int)) _ (b % 64) (and63 b hb) (Nat.mod_lt _ (by decide)) W
  obtain ⟨X, hX⟩ : ∃ X : Int, X = fullV 42 a b := ⟨_, rfl⟩
  rw [← hX]
  have hX2 := hX
  rw [fullV_42] at hX2
  have HX := Lib.hid hX2
  clear hX hX2
  go_enter Tryd.func44, Tryd.ntmps44
  go_wp2_with (first | (go_at_call 71; refine (high3_any a b ha hb _).mono ?_; rintro e w' ⟨rfl, rfl⟩) | (go_at_call 70; refine (truth3_any _ _).mono ?_; rintro e w' ⟨rfl, rfl⟩))
  go_ret
  refine ⟨congrArg (fun x => Ending.returned (Value.int IntKind.u64 x)) ?_, rfl⟩
  rw [HX.out]
set_option maxHeartbeats 1000000 in
theorem alu_43 (a b : Nat) (_ha : a < 18446744073709551616) (_hb : b < 18446744073709551616) (w : World) :
    Calls Tryd.prog 44 #[.int .i64 43, .int .u64 a, .int .u64 b] w fun e w' => e = .returned (.int .u64 (fullV 43 a b)) ∧ w' = w := by
  obtain ⟨X, hX⟩ : ∃ X : Int, X = fullV 43 a b := ⟨_, rfl⟩
  rw [← hX]
  have hX2 := hX
  rw [fullV_43] at hX2
  have HX := Lib.hid hX2
  clear hX hX2
  go_enter Tryd.func44, Tryd.ntmps44
  go_wp2_with (first | (go_at_call 71; refine (high3_any a b ha hb _).mono ?_; rintro e w' ⟨rfl, rfl⟩) | (go_at_call 70; refine (truth3_any _ _).mono ?_; rintro e w' ⟨rfl, rfl⟩))
  go_ret
  refine ⟨congrArg (fun x => Ending.returned (Value.int IntKind.u64 x)) ?_, rfl⟩
  rw [HX.out]
set_option maxHeartbeats 1000000 in
theorem alu_44 (a b : Nat) (_ha : a < 18446744073709551616) (_hb : b < 18446744073709551616) (w : World) :
    Calls Tryd.prog 44 #[.int .i64 44, .int .u64 a, .int .u64 b] w fun e w' => e = .returned (.int .u64 (fullV 44 a b)) ∧ w' = w := by
  obtain ⟨X, hX⟩ : ∃ X : Int, X = fullV 44 a b := ⟨_, rfl⟩
  rw [← hX]
  have hX2 := hX
  rw [fullV_44] at hX2
  have HX := Lib.hid hX2
  clear hX hX2
  go_enter Tryd.func44, Tryd.ntmps44
  go_wp2_with (first | (go_at_call 71; refine (high3_any a b ha hb _).mono ?_; rintro e w' ⟨rfl, rfl⟩) | (go_at_call 70; refine (truth3_any _ _).mono ?_; rintro e w' ⟨rfl, rfl⟩))
  go_ret
  refine ⟨congrArg (fun x => Ending.returned (Value.int IntKind.u64 x)) ?_, rfl⟩
  rw [HX.out]
set_option maxHeartbeats 1000000 in
theorem alu_50 (a b : Nat) (_ha : a < 18446744073709551616) (_hb : b < 18446744073709551616) (w : World) :
    Calls Tryd.prog 44 #[.int .i64 50, .int .u64 a, .int .u64 b] w fun e w' => e = .returned (.int .u64 (fullV 50 a b)) ∧ w' = w := by
  obtain ⟨X, hX⟩ : ∃ X : Int, X = fullV 50 a b := ⟨_, rfl⟩
  rw [← hX]
  have hX2 := hX
  rw [fullV_50] at hX2
  have HX := Lib.hid hX2
  clear hX hX2
  go_enter Tryd.func44, Tryd.ntmps44
  go_wp2_with (first | (go_at_call 71; refine (high3_any a b ha hb _).mono ?_; rintro e w' ⟨rfl, rfl⟩) | (go_at_call 70; refine (truth3_any _ _).mono ?_; rintro e w' ⟨rfl, rfl⟩))
  go_ret
  refine ⟨congrArg (fun x => Ending.returned (Value.int IntKind.u64 x)) ?_, rfl⟩
  rw [HX.out, mulN, wrapM]
set_option maxHeartbeats 1000000 in
theorem alu_51 (a b : Nat) (ha : a < 18446744073709551616) (hb : b < 18446744073709551616) (w : World) :
    Calls Tryd.prog 44 #[.int .i64 51, .int .u64 a, .int .u64 b] w fun e w' => e = .returned (.int .u64 (fullV 51 a b)) ∧ w' = w := by
  obtain ⟨X, hX⟩ : ∃ X : Int, X = fullV 51 a b := ⟨_, rfl⟩
  have hpq : a * b / 18446744073709551616 < 18446744073709551616 := by
    have h2 : a * b < 18446744073709551616 * 18446744073709551616 := Nat.mul_lt_mul'' ha hb
    omega
  have hp0 : 0 ≤ a * b / 18446744073709551616 := Nat.zero_le _
  rw [← hX]
  rw [fullV_51] at hX
  simp only [tr] at hX
  have HP := Lib.hid (And.intro hpq hp0)
  clear hpq hp0
  by_cases h1 : wrap64 (a : Int) < 0
  · have d1 : decide (wrap64 (a : Int) < 0) = true := by simpa using h1
    by_cases h2 : wrap64 (b : Int) < 0
    · have d2 : decide (wrap64 (b : Int) < 0) = true := by simpa using h2
      have HX := Lib.hid hX
      clear hX
      go_enter Tryd.func44, Tryd.ntmps44
      go_wp2_with (first | (go_at_call 71; refine (high3_any a b ha hb _).mono ?_; rintro e w' ⟨rfl, rfl⟩) | (go_at_call 70; refine (truth3_any _ _).mono ?_; rintro e w' ⟨rfl, rfl⟩))
      go_ret
      refine ⟨congrArg (fun x => Ending.returned (Value.int IntKind.u64 x)) ?_, rfl⟩
      have hX := HX.out
      have hP := HP.out
      rw [d1, d2] at hX
      simp only [IntKind.wrap_u64, if_true] at hX ⊢
      omega
    · have d2 : decide (wrap64 (b : Int) < 0) = false := by simpa using h2
      have HX := Lib.hid hX
      clear hX
      go_enter Tryd.func44, Tryd.ntmps44
      go_wp2_with (first | (go_at_call 71; refine (high3_any a b ha hb _).mono ?_; rintro e w' ⟨rfl, rfl⟩) | (go_at_call 70; refine (truth3_any _ _).mono ?_; rintro e w' ⟨rfl, rfl⟩))
      go_ret
      refine ⟨congrArg (fun x => Ending.returned (Value.int IntKind.u64 x)) ?_, rfl⟩
      have hX := HX.out
      have hP := HP.out
      rw [d1, d2] at hX
      simp only [IntKind.wrap_u64, if_true, Bool.false_eq_true, if_false] at hX ⊢
      omega
  · have d1 : decide (wrap64 (a : Int) < 0) = false := by simpa using h1
    by_cases h2 : wrap64 (b : Int) < 0
    · have d2 : decide (wrap64 (b : Int) < 0) = true := by simpa using h2
      have HX := Lib.hid hX
      clear hX
      go_enter Tryd.func44, Tryd.ntmps44
      go_wp2_with (first | (go_at_call 71; refine (high3_any a b ha hb _).mono ?_; rintro e w' ⟨rfl, rfl⟩) | (go_at_call 70; refine (truth3_any _ _).mono ?_; rintro e w' ⟨rfl, rfl⟩))
      go_ret
      refine ⟨congrArg (fun x => Ending.returned (Value.int IntKind.u64 x)) ?_, rfl⟩
      have hX := HX.out
      have hP := HP.out
      rw [d1, d2] at hX
      simp only [IntKind.wrap_u64, if_true, Bool.false_eq_true, if_false] at hX ⊢
      omega
    · have d2 : decide (wrap64 (b : Int) < 0) = false := by simpa using h2
      have HX := Lib.hid hX
      clear hX
      go_enter Tryd.func44, Tryd.ntmps44
      go_wp2_with (first | (go_at_call 71; refine (high3_any a b ha hb _).mono ?_; rintro e w' ⟨rfl, rfl⟩) | (go_at_call 70; refine (truth3_any _ _).mono ?_; rintro e w' ⟨rfl, rfl⟩))
      go_ret
      refine ⟨congrArg (fun x => Ending.returned (Value.int IntKind.u64 x)) ?_, rfl⟩
      have hX := HX.out
      have hP := HP.out
      rw [d1, d2] at hX
      simp only [IntKind.wrap_u64, Bool.false_eq_true, if_false] at hX ⊢
      omega
set_option maxHeartbeats 1000000 in
theorem alu_52 (a b : Nat) (ha : a < 18446744073709551616) (hb : b < 18446744073709551616) (w : World) :
    Calls Tryd.prog 44 #[.int .i64 52, .int .u64 a, .int .u64 b] w fun e w' => e = .returned (.int .u64 (fullV 52 a b)) ∧ w' = w := by
  obtain ⟨X, hX⟩ : ∃ X : Int, X = fullV 52 a b := ⟨_, rfl⟩
  have hpq : a * b / 18446744073709551616 < 18446744073709551616 := by
    have h2 : a * b < 18446744073709551616 * 18446744073709551616 := Nat.mul_lt_mul'' ha hb
    omega
  have hp0 : 0 ≤ a * b / 18446744073709551616 := Nat.zero_le _
  rw [← hX]
  rw [fullV_52] at hX
  simp only [tr] at hX
  have HP := Lib.hid (And.intro hpq hp0)
  clear hpq hp0
  by_cases h1 : wrap64 (a : Int) < 0
  · have d1 : decide (wrap64 (a : Int) < 0) = true := by simpa using h1
    have HX := Lib.hid hX
    clear hX
    go_enter Tryd.func44, Tryd.ntmps44
    go_wp2_with (first | (go_at_call 71; refine (high3_any a b ha hb _).mono ?_; rintro e w' ⟨rfl, rfl⟩) | (go_at_call 70; refine (truth3_any _ _).mono ?_; rintro e w' ⟨rfl, rfl⟩))
    go_ret
    refine ⟨congrArg (fun x => Ending.returned (Value.int IntKind.u64 x)) ?_, rfl⟩
    have hX := HX.out
    have hP := HP.out
    rw [d1] at hX
    simp only [IntKind.wrap_u64, if_true] at hX ⊢
    omega
  · have d1 : decide (wrap64 (a : Int) < 0) = false := by simpa using h1
    have HX := Lib.hid hX
    clear hX
    go_enter Tryd.func44, Tryd.ntmps44
    go_wp2_with (first | (go_at_call 71; refine (high3_any a b ha hb _).mono ?_; rintro e w' ⟨rfl, rfl⟩) | (go_at_call 70; refine (truth3_any _ _).mono ?_; rintro e w' ⟨rfl, rfl⟩))
    go_ret
    refine ⟨congrArg (fun x => Ending.returned (Value.int IntKind.u64 x)) ?_, rfl⟩
    have hX := HX.out
    have hP := HP.out
    rw [d1] at hX
    simp only [IntKind.wrap_u64, Bool.false_eq_true, if_false] at hX ⊢
    omega
set_option maxHeartbeats 1000000 in
theorem alu_53 (a b : Nat) (ha : a < 18446744073709551616) (hb : b < 18446744073709551616) (w : World) :
    Calls Tryd.prog 44 #[.int .i64 53, .int .u64 a, .int .u64 b] w fun e w' => e = .returned (.int .u64 (fullV 53 a b)) ∧ w' = w := by
  obtain ⟨X, hX⟩ : ∃ X : Int, X = fullV 53 a b := ⟨_, rfl⟩
  rw [← hX]
  have hX2 := hX
  rw [fullV_53, castD] at hX2
  have HX := Lib.hid hX2
  clear hX hX2
  go_enter Tryd.func44, Tryd.ntmps44
  go_wp2_with (first | (go_at_call 71; refine (high3_any a b ha hb _).mono ?_; rintro e w' ⟨rfl, rfl⟩) | (go_at_call 70; refine (truth3_any _ _).mono ?_; rintro e w' ⟨rfl, rfl⟩))
  go_ret
  refine ⟨congrArg (fun x => Ending.returned (Value.int IntKind.u64 x)) ?_, rfl⟩
  rw [HX.out]
set_option maxHeartbeats 1000000 in
theorem alu_54 (a b : Nat) (ha : a < 18446744073709551616) (hb : b < 18446744073709551616) (w : World) :
    Calls Tryd.prog 44 #[.int .i64 54, .int .u64 a, .int .u64 b] w fun e w' => e = .returned (.int .u64 (fullV 54 a b)) ∧ w' = w := by
  obtain ⟨X, hX⟩ : ∃ X : Int, X = fullV 54 a b := ⟨_, rfl⟩
  rw [← hX]
  have hX2 := hX
  rw [fullV_54] at hX2
  have HX := Lib.hid hX2
  clear hX hX2
  go_enter Tryd.func44, Tryd.ntmps44
  go_wp2_with (first | (go_at_call 71; refine (high3_any a b ha hb _).mono ?_; rintro e w' ⟨rfl, rfl⟩) | (go_at_call 70; refine (truth3_any _ _).mono ?_; rintro e w' ⟨rfl, rfl⟩) | (go_at_call 72; refine (rdiv_54 a b ha hb _).mono ?_; rintro e w' ⟨rfl, rfl⟩))
  go_ret
  refine ⟨congrArg (fun x => Ending.returned (Value.int IntKind.u64 x)) ?_, rfl⟩
  rw [HX.out]
set_option maxHeartbeats 1000000 in
theorem alu_55 (a b : Nat) (ha : a < 18446744073709551616) (hb : b < 18446744073709551616) (w : World) :
    Calls Tryd.prog 44 #[.int .i64 55, .int .u64 a, .int .u64 b] w fun e w' => e = .returned (.int .u64 (fullV 55 a b)) ∧ w' = w := by
  obtain ⟨X, hX⟩ : ∃ X : Int, X = fullV 55 a b := ⟨_, rfl⟩
  rw [← hX]
  have hX2 := hX
  rw [fullV_55] at hX2
  have HX := Lib.hid hX2
  clear hX hX2
  go_enter Tryd.func44, Tryd.ntmps44
  go_wp2_with (first | (go_at_call 71; refine (high3_any a b ha hb _).mono ?_; rintro e w' ⟨rfl, rfl⟩) | (go_at_call 70; refine (truth3_any _ _).mono ?_; rintro e w' ⟨rfl, rfl⟩) | (go_at_call 72; refine (rdiv_55 a b ha hb _).mono ?_; rintro e w' ⟨rfl, rfl⟩))
  go_ret
  refine ⟨congrArg (fun x => Ending.returned (Value.int IntKind.u64 x)) ?_, rfl⟩
  rw [HX.out]
set_option maxHeartbeats 1000000 in
theorem alu_56 (a b : Nat) (ha : a < 18446744073709551616) (hb : b < 18446744073709551616) (w : World) :
    Calls Tryd.prog 44 #[.int .i64 56, .int .u64 a, .int .u64 b] w fun e w' => e = .returned (.int .u64 (fullV 56 a b)) ∧ w' = w := by
  obtain ⟨X, hX⟩ : ∃ X : Int, X = fullV 56 a b := ⟨_, rfl⟩
  rw [← hX]
  have hX2 := hX
  rw [fullV_56] at hX2
  have HX := Lib.hid hX2
  clear hX hX2
  go_enter Tryd.func44, Tryd.ntmps44
  go_wp2_with (first | (go_at_call 71; refine (high3_any a b ha hb _).mono ?_; rintro e w' ⟨rfl, rfl⟩) | (go_at_call 70; refine (truth3_any _ _).mono ?_; rintro e w' ⟨rfl, rfl⟩) | (go_at_call 72; refine (rdiv_56 a b ha hb _).mono ?_; rintro e w' ⟨rfl, rfl⟩))
  go_ret
  refine ⟨congrArg (fun x => Ending.returned (Value.int IntKind.u64 x)) ?_, rfl⟩
  rw [HX.out]
set_option maxHeartbeats 1000000 in
theorem alu_57 (a b : Nat) (ha : a < 18446744073709551616) (hb : b < 18446744073709551616) (w : World) :
    Calls Tryd.prog 44 #[.int .i64 57, .int .u64 a, .int .u64 b] w fun e w' => e = .returned (.int .u64 (fullV 57 a b)) ∧ w' = w := by
  obtain ⟨X, hX⟩ : ∃ X : Int, X = fullV 57 a b := ⟨_, rfl⟩
  rw [← hX]
  have hX2 := hX
  rw [fullV_57] at hX2
  have HX := Lib.hid hX2
  clear hX hX2
  go_enter Tryd.func44, Tryd.ntmps44
  go_wp2_with (first | (go_at_call 71; refine (high3_any a b ha hb _).mono ?_; rintro e w' ⟨rfl, rfl⟩) | (go_at_call 70; refine (truth3_any _ _).mono ?_; rintro e w' ⟨rfl, rfl⟩) | (go_at_call 72; refine (rdiv_57 a b ha hb _).mono ?_; rintro e w' ⟨rfl, rfl⟩))
  go_ret
  refine ⟨congrArg (fun x => Ending.returned (Value.int IntKind.u64 x)) ?_, rfl⟩
  rw [HX.out]
end Go.Proofs
