/- cpu.word and patinaref03.narrow: the operations of 32 bits, operation by operation. -/
import Derived.Test.YtemngapfnkokiaaDoorAluB
namespace Go.Pat
open Go Go.RowKit
def sxZ (z : Int) : Int := IntKind.u64.wrap (wrap64 (wrap32 z))
theorem wrap_u32' (z : Int) : IntKind.u32.wrap z = z % 4294967296 := by simp [IntKind.wrap, IntKind.bits, IntKind.signed]
theorem wrap_i32' (z : Int) : wrap32 z = (z + 2147483648) % 4294967296 - 2147483648 := by rw [wrap32]
theorem wrap64' (z : Int) : wrap64 z = (z + 9223372036854775808) % 18446744073709551616 - 9223372036854775808 := by rw [wrap64]
theorem sxZ_nat (n : Nat) (h : n < 4294967296) : sxZ (n : Int) = ((sx32 n : Nat) : Int) := by
  simp only [sxZ, wrap_i32', wrap64', IntKind.wrap_u64, sx32]
  split <;> omega
theorem sxZ_wrap (n : Nat) : sxZ (IntKind.u32.wrap (n : Int)) = ((sx32 (n % 4294967296) : Nat) : Int) := by
  rw [wrap_u32', show ((n : Int) % 4294967296) = ((n % 4294967296 : Nat) : Int) by omega, sxZ_nat _ (by omega)]
theorem sx32_lt (n : Nat) (h : n < 4294967296) : sx32 n < 18446744073709551616 := by
  simp only [sx32]; split <;> omega
theorem sx32_mod (n : Nat) (h : n < 4294967296) : sx32 n % 4294967296 = n := by
  simp only [sx32]; split <;> omega
theorem wrap64_sx (n : Nat) (h : n < 4294967296) : wrap64 ((sx32 n : Nat) : Int) = wrap32 (n : Int) := by
  simp only [wrap64', wrap_i32', sx32]
  split <;> omega
theorem wrapU32 (a : Nat) : IntKind.u32.wrap (a : Int) = ((a % 4294967296 : Nat) : Int) := by rw [wrap_u32']; omega
def fullN (op a b : Nat) : Nat := (fullV op a b).toNat
theorem fullN_is (op a b : Nat) (h : op = 35 ∨ op = 36 ∨ op = 37 ∨ op = 41 ∨ op = 42 ∨ op = 50 ∨ op = 54 ∨ op = 55 ∨ op = 56 ∨ op = 57) (ha : a < 18446744073709551616) : fullV op a b = ((fullN op a b : Nat) : Int) ∧ fullN op a b < 18446744073709551616 := by
  have key : 0 ≤ fullV op a b ∧ fullV op a b < 18446744073709551616 := by
    rcases h with rfl | rfl | rfl | rfl | rfl | rfl | rfl | rfl | rfl | rfl
    · rw [fullV_35, IntKind.wrap_u64]; omega
    · rw [fullV_36, IntKind.wrap_u64]; omega
    · rw [fullV_37, IntKind.wrap_u64]; generalize (a : Int) * 2 ^ (b % 64) = z; omega
    · rw [fullV_41]
      have := Nat.div_le_self a (2 ^ (b % 64))
      generalize a / 2 ^ (b % 64) = z at *
      omega
    · rw [fullV_42, IntKind.wrap_u64]; generalize (wrap64 (a : Int)).fdiv (2 ^ (b % 64)) = z; omega
    · rw [fullV_50]; generalize a * b = z; omega
    · rw [fullV_54]; simp only [divV, IntKind.wrap_u64]
      generalize wrap64 ((wrap64 (a : Int)).tdiv (wrap64 (b : Int))) = z
      split
      · omega
      · split <;> omega
    · rw [fullV_55]; simp only [divV, IntKind.wrap_u64]; generalize (a : Int) / (b : Int) = z; split <;> omega
    · rw [fullV_56]; simp only [divV, IntKind.wrap_u64]
      generalize (wrap64 (a : Int)).tmod (wrap64 (b : Int)) = z
      split
      · omega
      · split <;> omega
    · rw [fullV_57]; simp only [divV]
      split
      · omega
      · have h1 : (a : Int) % (b : Int) = ((a % b : Nat) : Int) := (Int.natCast_emod a b).symm
        have h2 := Nat.mod_le a b
        rw [h1]; generalize a % b = z at *; omega
  unfold fullN
  omega
def wordN (op x y : Nat) : Nat :=
  if op = 37 then sx32 (x * 2 ^ (y % 32) % 4294967296) else
  if op = 41 then sx32 (x / 2 ^ (y % 32)) else
  if op = 42 then sx32 (((wrap32 (x : Int)).fdiv (2 ^ (y % 32))) % 4294967296).toNat else
  if op = 54 then sx32 (fullN 54 (sx32 x) (sx32 y) % 4294967296) else
  if op = 56 then sx32 (fullN 56 (sx32 x) (sx32 y) % 4294967296) else
  sx32 (fullN op x y % 4294967296)
theorem wordN_37 (x y : Nat) : wordN 37 x y = sx32 (x * 2 ^ (y % 32) % 4294967296) := by
  unfold wordN; rw [if_pos rfl]
theorem wordN_41 (x y : Nat) : wordN 41 x y = sx32 (x / 2 ^ (y % 32)) := by
  unfold wordN; rw [if_neg (show ¬ 41 = 37 by decide), if_pos rfl]
theorem wordN_42 (x y : Nat) : wordN 42 x y = sx32 (((wrap32 (x : Int)).fdiv (2 ^ (y % 32))) % 4294967296).toNat := by
  unfold wordN; rw [if_neg (show ¬ 42 = 37 by decide), if_neg (show ¬ 42 = 41 by decide), if_pos rfl]
theorem wordN_54 (x y : Nat) : wordN 54 x y = sx32 (fullN 54 (sx32 x) (sx32 y) % 4294967296) := by
  unfold wordN; rw [if_neg (show ¬ 54 = 37 by decide), if_neg (show ¬ 54 = 41 by decide), if_neg (show ¬ 54 = 42 by decide), if_pos rfl]
theorem wordN_56 (x y : Nat) : wordN 56 x y = sx32 (fullN 56 (sx32 x) (sx32 y) % 4294967296) := by
  unfold wordN; rw [if_neg (show ¬ 56 = 37 by decide), if_neg (show ¬ 56 = 41 by decide), if_neg (show ¬ 56 = 42 by decide), if_neg (show ¬ 56 = 54 by decide), if_pos rfl]
theorem wordN_35 (x y : Nat) : wordN 35 x y = sx32 (fullN 35 x y % 4294967296) := by
  unfold wordN; rw [if_neg (show ¬ 35 = 37 by decide), if_neg (show ¬ 35 = 41 by decide), if_neg (show ¬ 35 = 42 by decide), if_neg (show ¬ 35 = 54 by decide), if_neg (show ¬ 35 = 56 by decide)]
theorem wordN_36 (x y : Nat) : wordN 36 x y = sx32 (fullN 36 x y % 4294967296) := by
  unfold wordN; rw [if_neg (show ¬ 36 = 37 by decide), if_neg (show ¬ 36 = 41 by decide), if_neg (show ¬ 36 = 42 by decide), if_neg (show ¬ 36 = 54 by decide), if_neg (show ¬ 36 = 56 by decide)]
theorem wordN_50 (x y : Nat) : wordN 50 x y = sx32 (fullN 50 x y % 4294967296) := by
  unfold wordN; rw [if_neg (show ¬ 50 = 37 by decide), if_neg (show ¬ 50 = 41 by decide), if_neg (show ¬ 50 = 42 by decide), if_neg (show ¬ 50 = 54 by decide), if_neg (show ¬ 50 = 56 by decide)]
theorem wordN_55 (x y : Nat) : wordN 55 x y = sx32 (fullN 55 x y % 4294967296) := by
  unfold wordN; rw [if_neg (show ¬ 55 = 37 by decide), if_neg (show ¬ 55 = 41 by decide), if_neg (show ¬ 55 = 42 by decide), if_neg (show ¬ 55 = 54 by decide), if_neg (show ¬ 55 = 56 by decide)]
theorem wordN_57 (x y : Nat) : wordN 57 x y = sx32 (fullN 57 x y % 4294967296) := by
  unfold wordN; rw [if_neg (show ¬ 57 = 37 by decide), if_neg (show ¬ 57 = 41 by decide), if_neg (show ¬ 57 = 42 by decide), if_neg (show ¬ 57 = 54 by decide), if_neg (show ¬ 57 = 56 by decide)]
theorem full_mod_35 (x y : Nat) (hx : x < 4294967296) (hy : y < 4294967296) : fullN 35 x y % 4294967296 = fullN 35 (sx32 x) (sx32 y) % 4294967296 := by
  unfold fullN; rw [fullV_35, fullV_35, IntKind.wrap_u64, IntKind.wrap_u64]; unfold sx32; split <;> split <;> omega
theorem full_mod_36 (x y : Nat) (hx : x < 4294967296) (hy : y < 4294967296) : fullN 36 x y % 4294967296 = fullN 36 (sx32 x) (sx32 y) % 4294967296 := by
  unfold fullN; rw [fullV_36, fullV_36, IntKind.wrap_u64, IntKind.wrap_u64]; unfold sx32; split <;> split <;> omega
theorem full_mod_50 (x y : Nat) (hx : x < 4294967296) (hy : y < 4294967296) : fullN 50 x y % 4294967296 = fullN 50 (sx32 x) (sx32 y) % 4294967296 := by
  have h1 : ∀ u v : Nat, fullN 50 u v = u * v % 18446744073709551616 := fun u v => by unfold fullN; rw [fullV_50, Int.toNat_natCast]
  have h2 : ∀ n : Nat, n % 18446744073709551616 % 4294967296 = n % 4294967296 := fun n => by omega
  rw [h1, h1, h2, h2, Nat.mul_mod (sx32 x), sx32_mod x hx, sx32_mod y hy]
theorem full_mod_37 (x _y s : Nat) (hx : x < 4294967296) (hs : s < 32) : x * 2 ^ s % 4294967296 = fullN 37 (sx32 x) s % 4294967296 := by
  have h1 : ∀ u : Nat, fullN 37 u s = u * 2 ^ s % 18446744073709551616 := fun u => by
    unfold fullN
    rw [fullV_37, IntKind.wrap_u64, Nat.mod_eq_of_lt (show s < 64 by omega), show ((u : Int) * 2 ^ s) = ((u * 2 ^ s : Nat) : Int) by rw [Int.natCast_mul, Int.natCast_pow]; rfl]
    omega
  have h2 : ∀ n : Nat, n % 18446744073709551616 % 4294967296 = n % 4294967296 := fun n => by omega
  rw [h1, h2, Nat.mul_mod (sx32 x), sx32_mod x hx, Nat.mul_mod x, Nat.mod_eq_of_lt hx]
theorem full_mod_42 (x s : Nat) (hx : x < 4294967296) (hs : s < 32) : ((((wrap32 (x : Int)).fdiv (2 ^ s)) % 4294967296).toNat) % 4294967296 = fullN 42 (sx32 x) s % 4294967296 := by
  unfold fullN
  rw [fullV_42, IntKind.wrap_u64, Nat.mod_eq_of_lt (show s < 64 by omega), wrap64_sx x hx]
  generalize (wrap32 (x : Int)).fdiv (2 ^ s) = z
  omega
theorem fullN_41 (x s : Nat) (_hx : x < 4294967296) (hs : s < 32) : fullN 41 x s = x / 2 ^ s := by
  unfold fullN; rw [fullV_41, Nat.mod_eq_of_lt (show s < 64 by omega), Int.toNat_natCast]
theorem eqI (a b : Nat) : ((a : Int) == (b : Int)) = decide (a = b) := by
  by_cases h : a = b
  · subst h; simp
  · rw [decide_eq_false h, beq_eq_false_iff_ne]; omega
theorem neI (a b : Nat) : ((a : Int) != (b : Int)) = !decide (a = b) := by rw [bne, eqI]
theorem toNat_mod_lt (z : Int) : (z % 4294967296).toNat < 4294967296 := by omega
theorem orHigh (v : Nat) (hv : v < 4294967296) : bits .or .u64 (v : Int) 18446744069414584320 = ((v + 18446744069414584320 : Nat) : Int) := by
  have h := bits_or_u64_nat v 18446744069414584320 (by omega) (by omega)
  have e : v ||| 18446744069414584320 = v + 18446744069414584320 := by
    have h1 := Nat.shiftLeft_add_eq_or_of_lt (a := 4294967295) (b := v) (i := 32) (by omega)
    rw [Nat.or_comm, show (18446744069414584320 : Nat) = 4294967295 <<< 32 by decide, ← h1]
    omega
  rw [e] at h
  exact h
end Go.Pat
namespace Go.Proofs
open Go Go.RowKit Go.Pat
theorem sign1_any (z : Int) (w : World) : Calls Tryd.prog 90 #[.int .u32 z] w fun e w' => e = .returned (.int .u64 (sxZ z)) ∧ w' = w := by
  go_enter Tryd.func90, Tryd.ntmps90
  go_wp2
  go_ret
  refine ⟨congrArg (fun z => Ending.returned (Value.int IntKind.u64 z)) ?_, rfl⟩
  rw [sxZ]
theorem sign1_nat (n : Nat) (h : n < 4294967296) (w : World) : Calls Tryd.prog 90 #[.int .u32 n] w fun e w' => e = .returned (.int .u64 ((sx32 n : Nat) : Int)) ∧ w' = w := by
  rw [← sxZ_nat n h]; exact sign1_any _ _
theorem sign1_wrap (n : Nat) (w : World) : Calls Tryd.prog 90 #[.int .u32 (IntKind.u32.wrap (n : Int))] w fun e w' => e = .returned (.int .u64 ((sx32 (n % 4294967296) : Nat) : Int)) ∧ w' = w := by
  rw [← sxZ_wrap n]; exact sign1_any _ _
theorem sign3_32 (v : Nat) (hv : v < 4294967296) (w : World) : Calls Tryd.prog 69 #[.int .u64 v, .int .u64 32] w fun e w' => e = .returned (.int .u64 ((sx32 v : Nat) : Int)) ∧ w' = w := by
  have hsh := fun (W : World) => run_shr (P := Tryd.prog) .u64 .u64 (v : Int) 31 31 rfl (by decide) W
  have HV := Lib.hid (show sx32 v = if v < 2147483648 then v else v + 18446744069414584320 from rfl)
  have hk : IntKind.u64.wrap 79228162514264337589248983040 = 18446744069414584320 := by rw [IntKind.wrap_u64]; decide
  have hO := orHigh v hv
  have HK := Lib.hid (And.intro hk hO)
  clear hk hO
  by_cases h : v < 2147483648
  · have e0 : (v : Int) / 2147483648 = 0 := by omega
    have hb : (bits BinOp.and IntKind.u64 ((v : Int) / 2147483648) 1 == 1) = false := by rw [e0]; decide
    clear e0
    go_enter Tryd.func69, Tryd.ntmps69
    go_wp2
    go_ret
    refine ⟨congrArg (fun z => Ending.returned (Value.int IntKind.u64 z)) ?_, rfl⟩
    rw [HV.out, if_pos h]
  · have e0 : (v : Int) / 2147483648 = 1 := by omega
    have hb : (bits BinOp.and IntKind.u64 ((v : Int) / 2147483648) 1 == 1) = true := by rw [e0]; decide
    clear e0
    go_enter Tryd.func69, Tryd.ntmps69
    go_wp2
    go_ret
    refine ⟨congrArg (fun z => Ending.returned (Value.int IntKind.u64 z)) ?_, rfl⟩
    rw [HV.out, if_neg h, HK.out.1, HK.out.2]
set_option maxHeartbeats 1000000 in
theorem word_35 (x y : Nat) (hx : x < 4294967296) (hy : y < 4294967296) (w : World) :
    Calls Tryd.prog 59 #[.int .i64 35, .int .u32 x, .int .u32 y] w fun e w' => e = .returned (.int .u64 ((wordN 35 x y : Nat) : Int)) ∧ w' = w := by
  obtain ⟨hq, hql⟩ := fullN_is 35 x y (by omega) (by omega)
  obtain ⟨q, hqe⟩ : ∃ q, q = fullN 35 x y := ⟨_, rfl⟩
  rw [← hqe] at hq hql
  have hw : wordN 35 x y = sx32 (q % 4294967296) := by rw [hqe, wordN_35]
  have HX := Lib.hid hw
  have hc : ∀ W : World, Calls Tryd.prog 60 #[.int .i64 35, .int .u64 (x : Nat), .int .u64 (y : Nat)] W fun e w' => e = .returned (.int .u64 (q : Int)) ∧ w' = W := fun W => by rw [← hq]; exact full_35 x y (by omega) (by omega) W
  have HC := Lib.hid hc
  clear hq hw hqe hc
  go_enter Tryd.func59, Tryd.ntmps59
  go_wp2_with fail
  refine Calls.mono (HC.out _) ?_
  rintro e w' ⟨rfl, rfl⟩
  go_wp2_with fail
  refine Calls.mono (sign1_wrap q _) ?_
  rintro e w' ⟨rfl, rfl⟩
  go_wp2
  go_ret
  refine ⟨congrArg (fun z => Ending.returned (Value.int IntKind.u64 z)) ?_, rfl⟩
  rw [HX.out]
set_option maxHeartbeats 1000000 in
theorem word_36 (x y : Nat) (hx : x < 4294967296) (hy : y < 4294967296) (w : World) :
    Calls Tryd.prog 59 #[.int .i64 36, .int .u32 x, .int .u32 y] w fun e w' => e = .returned (.int .u64 ((wordN 36 x y : Nat) : Int)) ∧ w' = w := by
  obtain ⟨hq, hql⟩ := fullN_is 36 x y (by omega) (by omega)
  obtain ⟨q, hqe⟩ : ∃ q, q = fullN 36 x y := ⟨_, rfl⟩
  rw [← hqe] at hq hql
  have hw : wordN 36 x y = sx32 (q % 4294967296) := by rw [hqe, wordN_36]
  have HX := Lib.hid hw
  have hc : ∀ W : World, Calls Tryd.prog 60 #[.int .i64 36, .int .u64 (x : Nat), .int .u64 (y : Nat)] W fun e w' => e = .returned (.int .u64 (q : Int)) ∧ w' = W := fun W => by rw [← hq]; exact full_36 x y (by omega) (by omega) W
  have HC := Lib.hid hc
  clear hq hw hqe hc
  go_enter Tryd.func59, Tryd.ntmps59
  go_wp2_with fail
  refine Calls.mono (HC.out _) ?_
  rintro e w' ⟨rfl, rfl⟩
  go_wp2_with fail
  refine Calls.mono (sign1_wrap q _) ?_
  rintro e w' ⟨rfl, rfl⟩
  go_wp2
  go_ret
  refine ⟨congrArg (fun z => Ending.returned (Value.int IntKind.u64 z)) ?_, rfl⟩
  rw [HX.out]
set_option maxHeartbeats 1000000 in
theorem word_37 (x y : Nat) (_hx : x < 4294967296) (hy : y < 4294967296) (w : World) :
    Calls Tryd.prog 59 #[.int .i64 37, .int .u32 x, .int .u32 y] w fun e w' => e = .returned (.int .u64 ((wordN 37 x y : Nat) : Int)) ∧ w' = w := by
  have hsh := fun (W : World) => run_shl (P := Tryd.prog) .u32 .u32 (x : Int) _ (y % 32) (and31' y hy) (Nat.mod_lt _ (by decide)) W
  have hv : sxZ (IntKind.u32.wrap ((x : Int) * 2 ^ (y % 32))) = ((wordN 37 x y : Nat) : Int) := by rw [show ((x : Int) * 2 ^ (y % 32)) = ((x * 2 ^ (y % 32) : Nat) : Int) by rw [Int.natCast_mul, Int.natCast_pow]; rfl, sxZ_wrap, wordN_37]
  have HX := Lib.hid hv
  clear hv
  go_enter Tryd.func59, Tryd.ntmps59
  go_wp2_with fail
  refine Calls.mono (sign1_any _ _) ?_
  rintro e w' ⟨rfl, rfl⟩
  go_wp2
  go_ret
  refine ⟨congrArg (fun z => Ending.returned (Value.int IntKind.u64 z)) ?_, rfl⟩
  rw [← wrap_u32', HX.out]
set_option maxHeartbeats 1000000 in
theorem word_41 (x y : Nat) (hx : x < 4294967296) (hy : y < 4294967296) (w : World) :
    Calls Tryd.prog 59 #[.int .i64 41, .int .u32 x, .int .u32 y] w fun e w' => e = .returned (.int .u64 ((wordN 41 x y : Nat) : Int)) ∧ w' = w := by
  have hsh := fun (W : World) => run_shr (P := Tryd.prog) .u32 .u32 (x : Int) _ (y % 32) (and31' y hy) (Nat.mod_lt _ (by decide)) W
  have hv : sxZ ((x : Int).fdiv (2 ^ (y % 32))) = ((wordN 41 x y : Nat) : Int) := by rw [fdiv_nat, sxZ_nat _ (Nat.lt_of_le_of_lt (Nat.div_le_self _ _) hx), wordN_41]
  have HX := Lib.hid hv
  clear hv
  go_enter Tryd.func59, Tryd.ntmps59
  go_wp2_with fail
  refine Calls.mono (sign1_any _ _) ?_
  rintro e w' ⟨rfl, rfl⟩
  go_wp2
  go_ret
  refine ⟨congrArg (fun z => Ending.returned (Value.int IntKind.u64 z)) ?_, rfl⟩
  rw [HX.out]
set_option maxHeartbeats 1000000 in
theorem word_42 (x y : Nat) (_hx : x < 4294967296) (hy : y < 4294967296) (w : World) :
    Calls Tryd.prog 59 #[.int .i64 42, .int .u32 x, .int .u32 y] w fun e w' => e = .returned (.int .u64 ((wordN 42 x y : Nat) : Int)) ∧ w' = w := by
  have hsh := fun (W : World) => run_shr (P := Tryd.prog) .i32 .u32 (wrap32 (x : Int)) _ (y % 32) (and31' y hy) (Nat.mod_lt _ (by decide)) W
  have hv : sxZ (IntKind.u32.wrap ((wrap32 (x : Int)).fdiv (2 ^ (y % 32)))) = ((wordN 42 x y : Nat) : Int) := by rw [wordN_42, wrap_u32', ← sxZ_nat _ (by omega), Int.toNat_of_nonneg (by omega)]
  have HX := Lib.hid hv
  clear hv
  go_enter Tryd.func59, Tryd.ntmps59
  go_wp2_with fail
  refine Calls.mono (sign1_any _ _) ?_
  rintro e w' ⟨rfl, rfl⟩
  go_wp2
  go_ret
  refine ⟨congrArg (fun z => Ending.returned (Value.int IntKind.u64 z)) ?_, rfl⟩
  rw [← wrap_u32', HX.out]
set_option maxHeartbeats 1000000 in
theorem word_50 (x y : Nat) (hx : x < 4294967296) (hy : y < 4294967296) (w : World) :
    Calls Tryd.prog 59 #[.int .i64 50, .int .u32 x, .int .u32 y] w fun e w' => e = .returned (.int .u64 ((wordN 50 x y : Nat) : Int)) ∧ w' = w := by
  obtain ⟨hq, hql⟩ := fullN_is 50 x y (by omega) (by omega)
  obtain ⟨q, hqe⟩ : ∃ q, q = fullN 50 x y := ⟨_, rfl⟩
  rw [← hqe] at hq hql
  have hw : wordN 50 x y = sx32 (q % 4294967296) := by rw [hqe, wordN_50]
  have HX := Lib.hid hw
  have hc : ∀ W : World, Calls Tryd.prog 60 #[.int .i64 50, .int .u64 (x : Nat), .int .u64 (y : Nat)] W fun e w' => e = .returned (.int .u64 (q : Int)) ∧ w' = W := fun W => by rw [← hq]; exact full_50 x y (by omega) (by omega) W
  have HC := Lib.hid hc
  clear hq hw hqe hc
  go_enter Tryd.func59, Tryd.ntmps59
  go_wp2_with fail
  refine Calls.mono (HC.out _) ?_
  rintro e w' ⟨rfl, rfl⟩
  go_wp2_with fail
  refine Calls.mono (sign1_wrap q _) ?_
  rintro e w' ⟨rfl, rfl⟩
  go_wp2
  go_ret
  refine ⟨congrArg (fun z => Ending.returned (Value.int IntKind.u64 z)) ?_, rfl⟩
  rw [HX.out]
set_option maxHeartbeats 1000000 in
theorem word_54 (x y : Nat) (hx : x < 4294967296) (hy : y < 4294967296) (w : World) :
    Calls Tryd.prog 59 #[.int .i64 54, .int .u32 x, .int .u32 y] w fun e w' => e = .returned (.int .u64 ((wordN 54 x y : Nat) : Int)) ∧ w' = w := by
  obtain ⟨hq, hql⟩ := fullN_is 54 (sx32 x) (sx32 y) (by omega) (sx32_lt x hx)
  obtain ⟨q, hqe⟩ : ∃ q, q = fullN 54 (sx32 x) (sx32 y) := ⟨_, rfl⟩
  rw [← hqe] at hq hql
  have hw : wordN 54 x y = sx32 (q % 4294967296) := by rw [hqe, wordN_54]
  have HX := Lib.hid hw
  have hc : ∀ W : World, Calls Tryd.prog 91 #[.int .i64 54, .int .u64 ((sx32 x) : Nat), .int .u64 ((sx32 y) : Nat)] W fun e w' => e = .returned (.int .u64 (q : Int)) ∧ w' = W := fun W => by rw [← hq, fullV_54]; exact cdiv_54 (sx32 x) (sx32 y) (sx32_lt x hx) (sx32_lt y hy) W
  have HC := Lib.hid hc
  clear hq hw hqe hc
  go_enter Tryd.func59, Tryd.ntmps59
  go_wp2_with fail
  refine Calls.mono (sign1_nat x hx _) ?_
  rintro e w' ⟨rfl, rfl⟩
  go_wp2_with fail
  refine Calls.mono (sign1_nat y hy _) ?_
  rintro e w' ⟨rfl, rfl⟩
  go_wp2_with fail
  refine Calls.mono (HC.out _) ?_
  rintro e w' ⟨rfl, rfl⟩
  go_wp2_with fail
  refine Calls.mono (sign1_wrap q _) ?_
  rintro e w' ⟨rfl, rfl⟩
  go_wp2
  go_ret
  refine ⟨congrArg (fun z => Ending.returned (Value.int IntKind.u64 z)) ?_, rfl⟩
  rw [HX.out]
set_option maxHeartbeats 1000000 in
theorem word_55 (x y : Nat) (hx : x < 4294967296) (hy : y < 4294967296) (w : World) :
    Calls Tryd.prog 59 #[.int .i64 55, .int .u32 x, .int .u32 y] w fun e w' => e = .returned (.int .u64 ((wordN 55 x y : Nat) : Int)) ∧ w' = w := by
  obtain ⟨hq, hql⟩ := fullN_is 55 x y (by omega) (by omega)
  obtain ⟨q, hqe⟩ : ∃ q, q = fullN 55 x y := ⟨_, rfl⟩
  rw [← hqe] at hq hql
  have hw : wordN 55 x y = sx32 (q % 4294967296) := by rw [hqe, wordN_55]
  have HX := Lib.hid hw
  have hc : ∀ W : World, Calls Tryd.prog 91 #[.int .i64 55, .int .u64 (x : Nat), .int .u64 (y : Nat)] W fun e w' => e = .returned (.int .u64 (q : Int)) ∧ w' = W := fun W => by rw [← hq, fullV_55]; exact cdiv_55 x y (by omega) (by omega) W
  have HC := Lib.hid hc
  clear hq hw hqe hc
  go_enter Tryd.func59, Tryd.ntmps59
  go_wp2_with fail
  refine Calls.mono (HC.out _) ?_
  rintro e w' ⟨rfl, rfl⟩
  go_wp2_with fail
  refine Calls.mono (sign1_wrap q _) ?_
  rintro e w' ⟨rfl, rfl⟩
  go_wp2
  go_ret
  refine ⟨congrArg (fun z => Ending.returned (Value.int IntKind.u64 z)) ?_, rfl⟩
  rw [HX.out]
set_option maxHeartbeats 1000000 in
theorem word_56 (x y : Nat) (hx : x < 4294967296) (hy : y < 4294967296) (w : World) :
    Calls Tryd.prog 59 #[.int .i64 56, .int .u32 x, .int .u32 y] w fun e w' => e = .returned (.int .u64 ((wordN 56 x y : Nat) : Int)) ∧ w' = w := by
  obtain ⟨hq, hql⟩ := fullN_is 56 (sx32 x) (sx32 y) (by omega) (sx32_lt x hx)
  obtain ⟨q, hqe⟩ : ∃ q, q = fullN 56 (sx32 x) (sx32 y) := ⟨_, rfl⟩
  rw [← hqe] at hq hql
  have hw : wordN 56 x y = sx32 (q % 4294967296) := by rw [hqe, wordN_56]
  have HX := Lib.hid hw
  have hc : ∀ W : World, Calls Tryd.prog 91 #[.int .i64 56, .int .u64 ((sx32 x) : Nat), .int .u64 ((sx32 y) : Nat)] W fun e w' => e = .returned (.int .u64 (q : Int)) ∧ w' = W := fun W => by rw [← hq, fullV_56]; exact cdiv_56 (sx32 x) (sx32 y) (sx32_lt x hx) (sx32_lt y hy) W
  have HC := Lib.hid hc
  clear hq hw hqe hc
  go_enter Tryd.func59, Tryd.ntmps59
  go_wp2_with fail
  refine Calls.mono (sign1_nat x hx _) ?_
  rintro e w' ⟨rfl, rfl⟩
  go_wp2_with fail
  refine Calls.mono (sign1_nat y hy _) ?_
  rintro e w' ⟨rfl, rfl⟩
  go_wp2_with fail
  refine Calls.mono (HC.out _) ?_
  rintro e w' ⟨rfl, rfl⟩
  go_wp2_with fail
  refine Calls.mono (sign1_wrap q _) ?_
  rintro e w' ⟨rfl, rfl⟩
  go_wp2
  go_ret
  refine ⟨congrArg (fun z => Ending.returned (Value.int IntKind.u64 z)) ?_, rfl⟩
  rw [HX.out]
set_option maxHeartbeats 1000000 in
theorem word_57 (x y : Nat) (hx : x < 4294967296) (hy : y < 4294967296) (w : World) :
    Calls Tryd.prog 59 #[.int .i64 57, .int .u32 x, .int .u32 y] w fun e w' => e = .returned (.int .u64 ((wordN 57 x y : Nat) : Int)) ∧ w' = w := by
  obtain ⟨hq, hql⟩ := fullN_is 57 x y (by omega) (by omega)
  obtain ⟨q, hqe⟩ : ∃ q, q = fullN 57 x y := ⟨_, rfl⟩
  rw [← hqe] at hq hql
  have hw : wordN 57 x y = sx32 (q % 4294967296) := by rw [hqe, wordN_57]
  have HX := Lib.hid hw
  have hc : ∀ W : World, Calls Tryd.prog 91 #[.int .i64 57, .int .u64 (x : Nat), .int .u64 (y : Nat)] W fun e w' => e = .returned (.int .u64 (q : Int)) ∧ w' = W := fun W => by rw [← hq, fullV_57]; exact cdiv_57 x y (by omega) (by omega) W
  have HC := Lib.hid hc
  clear hq hw hqe hc
  go_enter Tryd.func59, Tryd.ntmps59
  go_wp2_with fail
  refine Calls.mono (HC.out _) ?_
  rintro e w' ⟨rfl, rfl⟩
  go_wp2_with fail
  refine Calls.mono (sign1_wrap q _) ?_
  rintro e w' ⟨rfl, rfl⟩
  go_wp2
  go_ret
  refine ⟨congrArg (fun z => Ending.returned (Value.int IntKind.u64 z)) ?_, rfl⟩
  rw [HX.out]
set_option maxHeartbeats 1000000 in
theorem narrow_35 (a b : Nat) (ha : a < 18446744073709551616) (hb : b < 18446744073709551616) (w : World) :
    Calls Tryd.prog 43 #[.int .i64 35, .int .u64 a, .int .u64 b] w fun e w' => e = .returned (.int .u64 ((wordN 35 (a % 4294967296) (b % 4294967296) : Nat) : Int)) ∧ w' = w := by
  obtain ⟨x, hx⟩ : ∃ x, x = a % 4294967296 := ⟨_, rfl⟩
  obtain ⟨y, hy⟩ : ∃ y, y = b % 4294967296 := ⟨_, rfl⟩
  have hxl : x < 4294967296 := by omega
  have hyl : y < 4294967296 := by omega
  obtain ⟨hq, hql⟩ := fullN_is 35 (sx32 x) (sx32 y) (by omega) (sx32_lt x hxl)
  have hw : wordN 35 x y = sx32 (fullN 35 (sx32 x) (sx32 y) % 4294967296) := by rw [wordN_35, full_mod_35 x y hxl hyl]
  obtain ⟨q, hqe⟩ : ∃ q, q = fullN 35 (sx32 x) (sx32 y) := ⟨_, rfl⟩
  rw [← hqe] at hq hql hw
  have hc : ∀ W : World, Calls Tryd.prog 44 #[.int .i64 35, .int .u64 ((sx32 x) : Nat), .int .u64 ((sx32 y) : Nat)] W fun e w' => e = .returned (.int .u64 (q : Int)) ∧ w' = W := fun W => by rw [← hq]; exact alu_35 (sx32 x) (sx32 y) (sx32_lt x hxl) (sx32_lt y hyl) W
  rw [← hx, ← hy, hw]
  have mx := maskN a ha
  have my := maskN b hb
  rw [← hx] at mx
  rw [← hy] at my
  have HC := Lib.hid hc
  have HM := Lib.hid (And.intro mx my)
  clear hq hw hqe hc mx my hx hy
  go_enter Tryd.func43, Tryd.ntmps43
  go_wp2_with fail
  rw [HM.out.1]
  refine Calls.mono (sign3_32 x hxl _) ?_
  rintro e w' ⟨rfl, rfl⟩
  go_wp2_with fail
  rw [HM.out.2]
  refine Calls.mono (sign3_32 y hyl _) ?_
  rintro e w' ⟨rfl, rfl⟩
  go_wp2_with fail
  refine Calls.mono (HC.out _) ?_
  rintro e w' ⟨rfl, rfl⟩
  go_wp2_with fail
  rw [maskN q hql]
  refine Calls.mono (sign3_32 (q % 4294967296) (by omega) _) ?_
  rintro e w' ⟨rfl, rfl⟩
  go_wp2
  go_ret
  exact ⟨rfl, rfl⟩
set_option maxHeartbeats 1000000 in
theorem narrow_36 (a b : Nat) (ha : a < 18446744073709551616) (hb : b < 18446744073709551616) (w : World) :
    Calls Tryd.prog 43 #[.int .i64 36, .int .u64 a, .int .u64 b] w fun e w' => e = .returned (.int .u64 ((wordN 36 (a % 4294967296) (b % 4294967296) : Nat) : Int)) ∧ w' = w := by
  obtain ⟨x, hx⟩ : ∃ x, x = a % 4294967296 := ⟨_, rfl⟩
  obtain ⟨y, hy⟩ : ∃ y, y = b % 4294967296 := ⟨_, rfl⟩
  have hxl : x < 4294967296 := by omega
  have hyl : y < 4294967296 := by omega
  obtain ⟨hq, hql⟩ := fullN_is 36 (sx32 x) (sx32 y) (by omega) (sx32_lt x hxl)
  have hw : wordN 36 x y = sx32 (fullN 36 (sx32 x) (sx32 y) % 4294967296) := by rw [wordN_36, full_mod_36 x y hxl hyl]
  obtain ⟨q, hqe⟩ : ∃ q, q = fullN 36 (sx32 x) (sx32 y) := ⟨_, rfl⟩
  rw [← hqe] at hq hql hw
  have hc : ∀ W : World, Calls Tryd.prog 44 #[.int .i64 36, .int .u64 ((sx32 x) : Nat), .int .u64 ((sx32 y) : Nat)] W fun e w' => e = .returned (.int .u64 (q : Int)) ∧ w' = W := fun W => by rw [← hq]; exact alu_36 (sx32 x) (sx32 y) (sx32_lt x hxl) (sx32_lt y hyl) W
  rw [← hx, ← hy, hw]
  have mx := maskN a ha
  have my := maskN b hb
  rw [← hx] at mx
  rw [← hy] at my
  have HC := Lib.hid hc
  have HM := Lib.hid (And.intro mx my)
  clear hq hw hqe hc mx my hx hy
  go_enter Tryd.func43, Tryd.ntmps43
  go_wp2_with fail
  rw [HM.out.1]
  refine Calls.mono (sign3_32 x hxl _) ?_
  rintro e w' ⟨rfl, rfl⟩
  go_wp2_with fail
  rw [HM.out.2]
  refine Calls.mono (sign3_32 y hyl _) ?_
  rintro e w' ⟨rfl, rfl⟩
  go_wp2_with fail
  refine Calls.mono (HC.out _) ?_
  rintro e w' ⟨rfl, rfl⟩
  go_wp2_with fail
  rw [maskN q hql]
  refine Calls.mono (sign3_32 (q % 4294967296) (by omega) _) ?_
  rintro e w' ⟨rfl, rfl⟩
  go_wp2
  go_ret
  exact ⟨rfl, rfl⟩
set_option maxHeartbeats 1000000 in
theorem narrow_37 (a b : Nat) (ha : a < 18446744073709551616) (hb : b < 18446744073709551616) (w : World) :
    Calls Tryd.prog 43 #[.int .i64 37, .int .u64 a, .int .u64 b] w fun e w' => e = .returned (.int .u64 ((wordN 37 (a % 4294967296) (b % 4294967296) : Nat) : Int)) ∧ w' = w := by
  obtain ⟨x, hx⟩ : ∃ x, x = a % 4294967296 := ⟨_, rfl⟩
  obtain ⟨y, hy⟩ : ∃ y, y = b % 4294967296 := ⟨_, rfl⟩
  have hxl : x < 4294967296 := by omega
  have hyl : y < 4294967296 := by omega
  have hy32 : y % 32 = b % 32 := by omega
  obtain ⟨hq, hql⟩ := fullN_is 37 (sx32 x) (b % 32) (by omega) (sx32_lt x hxl)
  have hw : wordN 37 x y = sx32 (fullN 37 (sx32 x) (b % 32) % 4294967296) := by rw [wordN_37, hy32, full_mod_37 x y (b % 32) hxl (by omega)]
  obtain ⟨q, hqe⟩ : ∃ q, q = fullN 37 (sx32 x) (b % 32) := ⟨_, rfl⟩
  rw [← hqe] at hq hql hw
  have hc : ∀ W : World, Calls Tryd.prog 44 #[.int .i64 37, .int .u64 ((sx32 x) : Nat), .int .u64 ((b % 32) : Nat)] W fun e w' => e = .returned (.int .u64 (q : Int)) ∧ w' = W := fun W => by rw [← hq]; exact alu_37 (sx32 x) (b % 32) (sx32_lt x hxl) (by omega) W
  rw [← hx, ← hy, hw]
  have mx := maskN a ha
  have my := maskN b hb
  rw [← hx] at mx
  rw [← hy] at my
  have HC := Lib.hid hc
  have HM := Lib.hid (And.intro mx my)
  clear hq hw hqe hc mx my hx hy
  go_enter Tryd.func43, Tryd.ntmps43
  go_wp2_with fail
  rw [HM.out.1]
  refine Calls.mono (sign3_32 x hxl _) ?_
  rintro e w' ⟨rfl, rfl⟩
  go_wp2_with fail
  rw [HM.out.2]
  refine Calls.mono (sign3_32 y hyl _) ?_
  rintro e w' ⟨rfl, rfl⟩
  go_wp2_with fail
  rw [and31 b hb]
  refine Calls.mono (HC.out _) ?_
  rintro e w' ⟨rfl, rfl⟩
  go_wp2_with fail
  rw [maskN q hql]
  refine Calls.mono (sign3_32 (q % 4294967296) (by omega) _) ?_
  rintro e w' ⟨rfl, rfl⟩
  go_wp2
  go_ret
  exact ⟨rfl, rfl⟩
set_option maxHeartbeats 1000000 in
theorem narrow_41 (a b : Nat) (ha : a < 18446744073709551616) (hb : b < 18446744073709551616) (w : World) :
    Calls Tryd.prog 43 #[.int .i64 41, .int .u64 a, .int .u64 b] w fun e w' => e = .returned (.int .u64 ((wordN 41 (a % 4294967296) (b % 4294967296) : Nat) : Int)) ∧ w' = w := by
  obtain ⟨x, hx⟩ : ∃ x, x = a % 4294967296 := ⟨_, rfl⟩
  obtain ⟨y, hy⟩ : ∃ y, y = b % 4294967296 := ⟨_, rfl⟩
  have hxl : x < 4294967296 := by omega
  have hyl : y < 4294967296 := by omega
  have hy32 : y % 32 = b % 32 := by omega
  obtain ⟨hq, hql⟩ := fullN_is 41 x (b % 32) (by omega) (by omega)
  have hw : wordN 41 x y = sx32 (fullN 41 x (b % 32)) := by rw [wordN_41, hy32, fullN_41 x (b % 32) hxl (by omega)]
  have hql2 : fullN 41 x (b % 32) < 4294967296 := by rw [fullN_41 x (b % 32) hxl (by omega)]; exact Nat.lt_of_le_of_lt (Nat.div_le_self _ _) hxl
  obtain ⟨q, hqe⟩ : ∃ q, q = fullN 41 x (b % 32) := ⟨_, rfl⟩
  rw [← hqe] at hq hql hw hql2
  have hc : ∀ W : World, Calls Tryd.prog 44 #[.int .i64 41, .int .u64 (x : Nat), .int .u64 ((b % 32) : Nat)] W fun e w' => e = .returned (.int .u64 (q : Int)) ∧ w' = W := fun W => by rw [← hq]; exact alu_41 x (b % 32) (by omega) (by omega) W
  rw [← hx, ← hy, hw]
  have mx := maskN a ha
  have my := maskN b hb
  rw [← hx] at mx
  rw [← hy] at my
  have HC := Lib.hid hc
  have HM := Lib.hid (And.intro mx my)
  clear hq hw hqe hc mx my hx hy
  go_enter Tryd.func43, Tryd.ntmps43
  go_wp2_with fail
  rw [HM.out.1]
  refine Calls.mono (sign3_32 x hxl _) ?_
  rintro e w' ⟨rfl, rfl⟩
  go_wp2_with fail
  rw [HM.out.2]
  refine Calls.mono (sign3_32 y hyl _) ?_
  rintro e w' ⟨rfl, rfl⟩
  go_wp2_with fail
  rw [and31 b hb, HM.out.1]
  refine Calls.mono (HC.out _) ?_
  rintro e w' ⟨rfl, rfl⟩
  go_wp2_with fail
  refine Calls.mono (sign3_32 q hql2 _) ?_
  rintro e w' ⟨rfl, rfl⟩
  go_wp2
  go_ret
  exact ⟨rfl, rfl⟩
set_option maxHeartbeats 1000000 in
theorem narrow_42 (a b : Nat) (ha : a < 18446744073709551616) (hb : b < 18446744073709551616) (w : World) :
    Calls Tryd.prog 43 #[.int .i64 42, .int .u64 a, .int .u64 b] w fun e w' => e = .returned (.int .u64 ((wordN 42 (a % 4294967296) (b % 4294967296) : Nat) : Int)) ∧ w' = w := by
  obtain ⟨x, hx⟩ : ∃ x, x = a % 4294967296 := ⟨_, rfl⟩
  obtain ⟨y, hy⟩ : ∃ y, y = b % 4294967296 := ⟨_, rfl⟩
  have hxl : x < 4294967296 := by omega
  have hyl : y < 4294967296 := by omega
  have hy32 : y % 32 = b % 32 := by omega
  obtain ⟨hq, hql⟩ := fullN_is 42 (sx32 x) (b % 32) (by omega) (sx32_lt x hxl)
  have hw : wordN 42 x y = sx32 (fullN 42 (sx32 x) (b % 32) % 4294967296) := by rw [wordN_42, hy32, ← full_mod_42 x (b % 32) hxl (by omega), Nat.mod_eq_of_lt (toNat_mod_lt _)]
  obtain ⟨q, hqe⟩ : ∃ q, q = fullN 42 (sx32 x) (b % 32) := ⟨_, rfl⟩
  rw [← hqe] at hq hql hw
  have hc : ∀ W : World, Calls Tryd.prog 44 #[.int .i64 42, .int .u64 ((sx32 x) : Nat), .int .u64 ((b % 32) : Nat)] W fun e w' => e = .returned (.int .u64 (q : Int)) ∧ w' = W := fun W => by rw [← hq]; exact alu_42 (sx32 x) (b % 32) (sx32_lt x hxl) (by omega) W
  rw [← hx, ← hy, hw]
  have mx := maskN a ha
  have my := maskN b hb
  rw [← hx] at mx
  rw [← hy] at my
  have HC := Lib.hid hc
  have HM := Lib.hid (And.intro mx my)
  clear hq hw hqe hc mx my hx hy
  go_enter Tryd.func43, Tryd.ntmps43
  go_wp2_with fail
  rw [HM.out.1]
  refine Calls.mono (sign3_32 x hxl _) ?_
  rintro e w' ⟨rfl, rfl⟩
  go_wp2_with fail
  rw [HM.out.2]
  refine Calls.mono (sign3_32 y hyl _) ?_
  rintro e w' ⟨rfl, rfl⟩
  go_wp2_with fail
  rw [and31 b hb]
  refine Calls.mono (HC.out _) ?_
  rintro e w' ⟨rfl, rfl⟩
  go_wp2_with fail
  rw [maskN q hql]
  refine Calls.mono (sign3_32 (q % 4294967296) (by omega) _) ?_
  rintro e w' ⟨rfl, rfl⟩
  go_wp2
  go_ret
  exact ⟨rfl, rfl⟩
set_option maxHeartbeats 1000000 in
theorem narrow_50 (a b : Nat) (ha : a < 18446744073709551616) (hb : b < 18446744073709551616) (w : World) :
    Calls Tryd.prog 43 #[.int .i64 50, .int .u64 a, .int .u64 b] w fun e w' => e = .returned (.int .u64 ((wordN 50 (a % 4294967296) (b % 4294967296) : Nat) : Int)) ∧ w' = w := by
  obtain ⟨x, hx⟩ : ∃ x, x = a % 4294967296 := ⟨_, rfl⟩
  obtain ⟨y, hy⟩ : ∃ y, y = b % 4294967296 := ⟨_, rfl⟩
  have hxl : x < 4294967296 := by omega
  have hyl : y < 4294967296 := by omega
  obtain ⟨hq, hql⟩ := fullN_is 50 (sx32 x) (sx32 y) (by omega) (sx32_lt x hxl)
  have hw : wordN 50 x y = sx32 (fullN 50 (sx32 x) (sx32 y) % 4294967296) := by rw [wordN_50, full_mod_50 x y hxl hyl]
  obtain ⟨q, hqe⟩ : ∃ q, q = fullN 50 (sx32 x) (sx32 y) := ⟨_, rfl⟩
  rw [← hqe] at hq hql hw
  have hc : ∀ W : World, Calls Tryd.prog 44 #[.int .i64 50, .int .u64 ((sx32 x) : Nat), .int .u64 ((sx32 y) : Nat)] W fun e w' => e = .returned (.int .u64 (q : Int)) ∧ w' = W := fun W => by rw [← hq]; exact alu_50 (sx32 x) (sx32 y) (sx32_lt x hxl) (sx32_lt y hyl) W
  rw [← hx, ← hy, hw]
  have mx := maskN a ha
  have my := maskN b hb
  rw [← hx] at mx
  rw [← hy] at my
  have HC := Lib.hid hc
  have HM := Lib.hid (And.intro mx my)
  clear hq hw hqe hc mx my hx hy
  go_enter Tryd.func43, Tryd.ntmps43
  go_wp2_with fail
  rw [HM.out.1]
  refine Calls.mono (sign3_32 x hxl _) ?_
  rintro e w' ⟨rfl, rfl⟩
  go_wp2_with fail
  rw [HM.out.2]
  refine Calls.mono (sign3_32 y hyl _) ?_
  rintro e w' ⟨rfl, rfl⟩
  go_wp2_with fail
  refine Calls.mono (HC.out _) ?_
  rintro e w' ⟨rfl, rfl⟩
  go_wp2_with fail
  rw [maskN q hql]
  refine Calls.mono (sign3_32 (q % 4294967296) (by omega) _) ?_
  rintro e w' ⟨rfl, rfl⟩
  go_wp2
  go_ret
  exact ⟨rfl, rfl⟩
set_option maxHeartbeats 1000000 in
theorem narrow_54 (a b : Nat) (ha : a < 18446744073709551616) (hb : b < 18446744073709551616) (w : World) :
    Calls Tryd.prog 43 #[.int .i64 54, .int .u64 a, .int .u64 b] w fun e w' => e = .returned (.int .u64 ((wordN 54 (a % 4294967296) (b % 4294967296) : Nat) : Int)) ∧ w' = w := by
  obtain ⟨x, hx⟩ : ∃ x, x = a % 4294967296 := ⟨_, rfl⟩
  obtain ⟨y, hy⟩ : ∃ y, y = b % 4294967296 := ⟨_, rfl⟩
  have hxl : x < 4294967296 := by omega
  have hyl : y < 4294967296 := by omega
  obtain ⟨hq, hql⟩ := fullN_is 54 (sx32 x) (sx32 y) (by omega) (sx32_lt x hxl)
  have hw : wordN 54 x y = sx32 (fullN 54 (sx32 x) (sx32 y) % 4294967296) := by rw [wordN_54]
  obtain ⟨q, hqe⟩ : ∃ q, q = fullN 54 (sx32 x) (sx32 y) := ⟨_, rfl⟩
  rw [← hqe] at hq hql hw
  have hc : ∀ W : World, Calls Tryd.prog 44 #[.int .i64 54, .int .u64 ((sx32 x) : Nat), .int .u64 ((sx32 y) : Nat)] W fun e w' => e = .returned (.int .u64 (q : Int)) ∧ w' = W := fun W => by rw [← hq]; exact alu_54 (sx32 x) (sx32 y) (sx32_lt x hxl) (sx32_lt y hyl) W
  rw [← hx, ← hy, hw]
  have mx := maskN a ha
  have my := maskN b hb
  rw [← hx] at mx
  rw [← hy] at my
  have HC := Lib.hid hc
  have HM := Lib.hid (And.intro mx my)
  clear hq hw hqe hc mx my hx hy
  go_enter Tryd.func43, Tryd.ntmps43
  go_wp2_with fail
  rw [HM.out.1]
  refine Calls.mono (sign3_32 x hxl _) ?_
  rintro e w' ⟨rfl, rfl⟩
  go_wp2_with fail
  rw [HM.out.2]
  refine Calls.mono (sign3_32 y hyl _) ?_
  rintro e w' ⟨rfl, rfl⟩
  go_wp2_with fail
  refine Calls.mono (HC.out _) ?_
  rintro e w' ⟨rfl, rfl⟩
  go_wp2_with fail
  rw [maskN q hql]
  refine Calls.mono (sign3_32 (q % 4294967296) (by omega) _) ?_
  rintro e w' ⟨rfl, rfl⟩
  go_wp2
  go_ret
  exact ⟨rfl, rfl⟩
set_option maxHeartbeats 1000000 in
theorem narrow_55 (a b : Nat) (ha : a < 18446744073709551616) (hb : b < 18446744073709551616) (w : World) :
    Calls Tryd.prog 43 #[.int .i64 55, .int .u64 a, .int .u64 b] w fun e w' => e = .returned (.int .u64 ((wordN 55 (a % 4294967296) (b % 4294967296) : Nat) : Int)) ∧ w' = w := by
  obtain ⟨x, hx⟩ : ∃ x, x = a % 4294967296 := ⟨_, rfl⟩
  obtain ⟨y, hy⟩ : ∃ y, y = b % 4294967296 := ⟨_, rfl⟩
  have hxl : x < 4294967296 := by omega
  have hyl : y < 4294967296 := by omega
  obtain ⟨hq, hql⟩ := fullN_is 55 x y (by omega) (by omega)
  have hw : wordN 55 x y = sx32 (fullN 55 x y % 4294967296) := by rw [wordN_55]
  obtain ⟨q, hqe⟩ : ∃ q, q = fullN 55 x y := ⟨_, rfl⟩
  rw [← hqe] at hq hql hw
  have hc : ∀ W : World, Calls Tryd.prog 44 #[.int .i64 55, .int .u64 (x : Nat), .int .u64 (y : Nat)] W fun e w' => e = .returned (.int .u64 (q : Int)) ∧ w' = W := fun W => by rw [← hq]; exact alu_55 x y (by omega) (by omega) W
  rw [← hx, ← hy, hw]
  have mx := maskN a ha
  have my := maskN b hb
  rw [← hx] at mx
  rw [← hy] at my
  have HC := Lib.hid hc
  have HM := Lib.hid (And.intro mx my)
  clear hq hw hqe hc mx my hx hy
  go_enter Tryd.func43, Tryd.ntmps43
  go_wp2_with fail
  rw [HM.out.1]
  refine Calls.mono (sign3_32 x hxl _) ?_
  rintro e w' ⟨rfl, rfl⟩
  go_wp2_with fail
  rw [HM.out.2]
  refine Calls.mono (sign3_32 y hyl _) ?_
  rintro e w' ⟨rfl, rfl⟩
  go_wp2_with fail
  rw [HM.out.1, HM.out.2]
  refine Calls.mono (HC.out _) ?_
  rintro e w' ⟨rfl, rfl⟩
  go_wp2_with fail
  rw [maskN q hql]
  refine Calls.mono (sign3_32 (q % 4294967296) (by omega) _) ?_
  rintro e w' ⟨rfl, rfl⟩
  go_wp2
  go_ret
  exact ⟨rfl, rfl⟩
set_option maxHeartbeats 1000000 in
theorem narrow_56 (a b : Nat) (ha : a < 18446744073709551616) (hb : b < 18446744073709551616) (w : World) :
    Calls Tryd.prog 43 #[.int .i64 56, .int .u64 a, .int .u64 b] w fun e w' => e = .returned (.int .u64 ((wordN 56 (a % 4294967296) (b % 4294967296) : Nat) : Int)) ∧ w' = w := by
  obtain ⟨x, hx⟩ : ∃ x, x = a % 4294967296 := ⟨_, rfl⟩
  obtain ⟨y, hy⟩ : ∃ y, y = b % 4294967296 := ⟨_, rfl⟩
  have hxl : x < 4294967296 := by omega
  have hyl : y < 4294967296 := by omega
  obtain ⟨hq, hql⟩ := fullN_is 56 (sx32 x) (sx32 y) (by omega) (sx32_lt x hxl)
  have hw : wordN 56 x y = sx32 (fullN 56 (sx32 x) (sx32 y) % 4294967296) := by rw [wordN_56]
  obtain ⟨q, hqe⟩ : ∃ q, q = fullN 56 (sx32 x) (sx32 y) := ⟨_, rfl⟩
  rw [← hqe] at hq hql hw
  have hc : ∀ W : World, Calls Tryd.prog 44 #[.int .i64 56, .int .u64 ((sx32 x) : Nat), .int .u64 ((sx32 y) : Nat)] W fun e w' => e = .returned (.int .u64 (q : Int)) ∧ w' = W := fun W => by rw [← hq]; exact alu_56 (sx32 x) (sx32 y) (sx32_lt x hxl) (sx32_lt y hyl) W
  rw [← hx, ← hy, hw]
  have mx := maskN a ha
  have my := maskN b hb
  rw [← hx] at mx
  rw [← hy] at my
  have HC := Lib.hid hc
  have HM := Lib.hid (And.intro mx my)
  clear hq hw hqe hc mx my hx hy
  go_enter Tryd.func43, Tryd.ntmps43
  go_wp2_with fail
  rw [HM.out.1]
  refine Calls.mono (sign3_32 x hxl _) ?_
  rintro e w' ⟨rfl, rfl⟩
  go_wp2_with fail
  rw [HM.out.2]
  refine Calls.mono (sign3_32 y hyl _) ?_
  rintro e w' ⟨rfl, rfl⟩
  go_wp2_with fail
  refine Calls.mono (HC.out _) ?_
  rintro e w' ⟨rfl, rfl⟩
  go_wp2_with fail
  rw [maskN q hql]
  refine Calls.mono (sign3_32 (q % 4294967296) (by omega) _) ?_
  rintro e w' ⟨rfl, rfl⟩
  go_wp2
  go_ret
  exact ⟨rfl, rfl⟩
set_option maxHeartbeats 1000000 in
theorem narrow_57 (a b : Nat) (ha : a < 18446744073709551616) (hb : b < 18446744073709551616) (w : World) :
    Calls Tryd.prog 43 #[.int .i64 57, .int .u64 a, .int .u64 b] w fun e w' => e = .returned (.int .u64 ((wordN 57 (a % 4294967296) (b % 4294967296) : Nat) : Int)) ∧ w' = w := by
  obtain ⟨x, hx⟩ : ∃ x, x = a % 4294967296 := ⟨_, rfl⟩
  obtain ⟨y, hy⟩ : ∃ y, y = b % 4294967296 := ⟨_, rfl⟩
  have hxl : x < 4294967296 := by omega
  have hyl : y < 4294967296 := by omega
  obtain ⟨hq, hql⟩ := fullN_is 57 x y (by omega) (by omega)
  have hw : wordN 57 x y = sx32 (fullN 57 x y % 4294967296) := by rw [wordN_57]
  obtain ⟨q, hqe⟩ : ∃ q, q = fullN 57 x y := ⟨_, rfl⟩
  rw [← hqe] at hq hql hw
  have hc : ∀ W : World, Calls Tryd.prog 44 #[.int .i64 57, .int .u64 (x : Nat), .int .u64 (y : Nat)] W fun e w' => e = .returned (.int .u64 (q : Int)) ∧ w' = W := fun W => by rw [← hq]; exact alu_57 x y (by omega) (by omega) W
  rw [← hx, ← hy, hw]
  have mx := maskN a ha
  have my := maskN b hb
  rw [← hx] at mx
  rw [← hy] at my
  have HC := Lib.hid hc
  have HM := Lib.hid (And.intro mx my)
  clear hq hw hqe hc mx my hx hy
  go_enter Tryd.func43, Tryd.ntmps43
  go_wp2_with fail
  rw [HM.out.1]
  refine Calls.mono (sign3_32 x hxl _) ?_
  rintro e w' ⟨rfl, rfl⟩
  go_wp2_with fail
  rw [HM.out.2]
  refine Calls.mono (sign3_32 y hyl _) ?_
  rintro e w' ⟨rfl, rfl⟩
  go_wp2_with fail
  rw [HM.out.1, HM.out.2]
  refine Calls.mono (HC.out _) ?_
  rintro e w' ⟨rfl, rfl⟩
  go_wp2_with fail
  rw [maskN q hql]
  refine Calls.mono (sign3_32 (q % 4294967296) (by omega) _) ?_
  rintro e w' ⟨rfl, rfl⟩
  go_wp2
  go_ret
  exact ⟨rfl, rfl⟩
end Go.Proofs
