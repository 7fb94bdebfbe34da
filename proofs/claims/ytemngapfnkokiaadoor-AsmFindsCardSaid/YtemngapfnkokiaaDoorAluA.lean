/- math/bits.Mul64, patinaref03.high: the upper half of a product; patinaref03.sign. (Mul64's walk began as lines of the kit's Derived/Shelf/Bits/Mul64.) -/
import Derived.Test.YtemngapfnkokiaaDoorMemBase
import Derived.Lib.Mul64
import Derived.Laws.Bits64b
namespace Go.Pat
open Go Go.RowKit
/-- 1 or 0. -/
def tr (b : Bool) : Int := if b then 1 else 0
def sx32 (n : Nat) : Nat := if n < 2147483648 then n else n + 18446744069414584320
theorem run_shl {P : Program} (k yk : IntKind) (x y : Int) (s : Nat) (hy : y = (s : Int)) (hs : s < k.bits) (w : World) : (Op.shift .shl k x yk y).run P w = .ok (.int k (k.wrap (x * 2 ^ s))) w := by
  subst hy
  have e : min s k.bits = s := by omega
  have h0 : ¬ ((s : Int) < 0) := by omega
  simp [Op.shift, e, h0, Sem.run_pure]
theorem run_shr {P : Program} (k yk : IntKind) (x y : Int) (s : Nat) (hy : y = (s : Int)) (hs : s < k.bits) (w : World) : (Op.shift .shr k x yk y).run P w = .ok (.int k (x.fdiv (2 ^ s))) w := by
  subst hy
  have e : min s k.bits = s := by omega
  have h0 : ¬ ((s : Int) < 0) := by omega
  simp [Op.shift, e, h0, Sem.run_pure]
theorem and63 (b : Nat) (hb : b < 18446744073709551616) : bits .and .u64 (b : Int) 63 = ((b % 64 : Nat) : Int) := by
  have h := bits_and_u64_nat b 63 hb (by omega)
  have e : b &&& 63 = b % 64 := Nat.and_two_pow_sub_one_eq_mod b 6
  rw [e] at h
  exact h
theorem and31 (b : Nat) (hb : b < 18446744073709551616) : bits .and .u64 (b : Int) 31 = ((b % 32 : Nat) : Int) := by
  have h := bits_and_u64_nat b 31 hb (by omega)
  have e : b &&& 31 = b % 32 := Nat.and_two_pow_sub_one_eq_mod b 5
  rw [e] at h
  exact h
theorem and31' (b : Nat) (hb : b < 4294967296) : bits .and .u32 (b : Int) 31 = ((b % 32 : Nat) : Int) := by
  have h : (b &&& 31) = b % 32 := Nat.and_two_pow_sub_one_eq_mod b 5
  have e1 : (BitVec.ofInt 32 (b : Int)).toNat = b := by rw [BitVec.toNat_ofInt]; omega
  show IntKind.u32.wrap ((((BitVec.ofInt 32 (b : Int)) &&& (BitVec.ofInt 32 31) : BitVec 32).toNat : Nat) : Int) = _
  rw [BitVec.toNat_and, e1, show (BitVec.ofInt 32 31).toNat = 31 from by decide, h]
  simp only [IntKind.wrap, IntKind.signed, IntKind.bits, Bool.false_and]
  simp only [Bool.false_eq_true, if_false]
  omega
theorem maskN (a : Nat) (ha : a < 18446744073709551616) : bits .and .u64 (a : Int) 4294967295 = ((a % 4294967296 : Nat) : Int) := by
  have h := bits_and_u64_nat a 4294967295 ha (by omega)
  have e : a &&& 4294967295 = a % 4294967296 := Nat.and_two_pow_sub_one_eq_mod a 32
  rw [e] at h
  exact h
theorem divN (a : Nat) : (a : Int) / 4294967296 = ((a / 4294967296 : Nat) : Int) := by omega
theorem mulN (a b : Nat) : (a : Int) * (b : Int) = ((a * b : Nat) : Int) := (Int.natCast_mul a b).symm
theorem addN (a b : Nat) : (a : Int) + (b : Int) = ((a + b : Nat) : Int) := (Int.natCast_add a b).symm
theorem wrapN (a : Nat) (ha : a < 18446744073709551616) : IntKind.u64.wrap (a : Int) = (a : Int) := by rw [IntKind.wrap_u64]; omega
theorem wrapM (a : Nat) : IntKind.u64.wrap (a : Int) = ((a % 18446744073709551616 : Nat) : Int) := by rw [IntKind.wrap_u64]; omega
end Go.Pat
namespace Go.Proofs
open Go Go.RowKit Go.Pat

set_option maxHeartbeats 1000000 in
theorem Mul64_any (x y : Nat) (hx : x < 18446744073709551616) (hy : y < 18446744073709551616) (w : World) :
    Calls Tryd.prog 92 #[.int .u64 x, .int .u64 y] w fun e w' => e = .returned (.tuple #[.int .u64 ((x * y / 18446744073709551616 : Nat) : Int), .int .u64 ((x * y % 18446744073709551616 : Nat) : Int)]) ∧ w' = w := by
  obtain ⟨bd, bt, bw, hhi⟩ := Lib.mul64_hi x y hx hy
  have ba := Lib.half_mul_le (a := x / 4294967296) (b := y / 4294967296) (by omega) (by omega)
  have bb := Lib.half_mul_le (a := x / 4294967296) (b := y % 4294967296) (by omega) (by omega)
  have bc := Lib.half_mul_le (a := x % 4294967296) (b := y / 4294967296) (by omega) (by omega)
  have ba' : x / 4294967296 * (y / 4294967296) < 18446744073709551616 := by omega
  have bb' : x / 4294967296 * (y % 4294967296) < 18446744073709551616 := by omega
  have bc' : x % 4294967296 * (y / 4294967296) < 18446744073709551616 := by omega
  have bh1 : x / 4294967296 * (y / 4294967296) + (x / 4294967296 * (y % 4294967296) + x % 4294967296 * (y % 4294967296) / 4294967296) / 4294967296 < 18446744073709551616 := by omega
  have bh : x / 4294967296 * (y / 4294967296) + (x / 4294967296 * (y % 4294967296) + x % 4294967296 * (y % 4294967296) / 4294967296) / 4294967296 + ((x / 4294967296 * (y % 4294967296) + x % 4294967296 * (y % 4294967296) / 4294967296) % 4294967296 + x % 4294967296 * (y / 4294967296)) / 4294967296 < 18446744073709551616 := by omega
  go_enter Tryd.func92, Tryd.ntmps92
  go_wp2
  simp only [maskN x hx, maskN y hy, divN, mulN, addN, wrapN _ bd, wrapN _ bb', wrapN _ bt, maskN _ bt, wrapN _ bc', wrapN _ bw, wrapN _ ba', wrapN _ bh1, wrapN _ bh, wrapM (x * y)]
  rw [hhi]
  go_ret2
  exact ⟨rfl, rfl⟩

set_option maxHeartbeats 1000000 in
theorem high3_any (x y : Nat) (hx : x < 18446744073709551616) (hy : y < 18446744073709551616) (w : World) :
    Calls Tryd.prog 71 #[.int .u64 x, .int .u64 y] w fun e w' => e = .returned (.int .u64 ((x * y / 18446744073709551616 : Nat) : Int)) ∧ w' = w := by
  obtain ⟨bd, bt, bw, hhi⟩ := Lib.mul64_hi x y hx hy
  have ba := Lib.half_mul_le (a := x / 4294967296) (b := y / 4294967296) (by omega) (by omega)
  have bb := Lib.half_mul_le (a := x / 4294967296) (b := y % 4294967296) (by omega) (by omega)
  have bc := Lib.half_mul_le (a := x % 4294967296) (b := y / 4294967296) (by omega) (by omega)
  have ba' : x / 4294967296 * (y / 4294967296) < 18446744073709551616 := by omega
  have bb' : x / 4294967296 * (y % 4294967296) < 18446744073709551616 := by omega
  have bc' : x % 4294967296 * (y / 4294967296) < 18446744073709551616 := by omega
  have bh1 : x / 4294967296 * (y / 4294967296) + (x / 4294967296 * (y % 4294967296) + x % 4294967296 * (y % 4294967296) / 4294967296) / 4294967296 < 18446744073709551616 := by omega
  have bh : x / 4294967296 * (y / 4294967296) + (x / 4294967296 * (y % 4294967296) + x % 4294967296 * (y % 4294967296) / 4294967296) / 4294967296 + ((x / 4294967296 * (y % 4294967296) + x % 4294967296 * (y % 4294967296) / 4294967296) % 4294967296 + x % 4294967296 * (y / 4294967296)) / 4294967296 < 18446744073709551616 := by omega
  go_enter Tryd.func71, Tryd.ntmps71
  go_wp2
  simp only [maskN x hx, maskN y hy, divN, mulN, addN, wrapN _ bd, wrapN _ bb', wrapN _ bt, maskN _ bt, wrapN _ bc', wrapN _ bw, wrapN _ ba', wrapN _ bh1, wrapN _ bh]
  rw [hhi]
  go_ret
  exact ⟨rfl, rfl⟩

theorem truth_any (b : Bool) (w : World) : Calls Tryd.prog 93 #[.bool b] w fun e w' => e = .returned (.int .u64 (tr b)) ∧ w' = w := by
  cases b <;> (go_enter Tryd.func93, Tryd.ntmps93; go_wp2; go_ret; exact ⟨rfl, rfl⟩)
theorem truth3_any (b : Bool) (w : World) : Calls Tryd.prog 70 #[.bool b] w fun e w' => e = .returned (.int .u64 (tr b)) ∧ w' = w := by
  cases b <;> (go_enter Tryd.func70, Tryd.ntmps70; go_wp2; go_ret; exact ⟨rfl, rfl⟩)
end Go.Proofs
