/- A machine's state: what its cells say. -/
import Derived.Test.YtlhenglopnipaaaGreatDoorMemTop
import Derived.Test.YtlhenglopnipaaaGreatDoorMemBase
import Derived.Lib.Mul64
import Derived.Laws.Bits64b
namespace Go.Pat
open Go Go.RowKit
/-- a machine's state. -/
structure Mc where
  pc : Nat
  regs : List Nat
  steps : Int
  halted : Bool
  code : Int
  fault : Int
  out : List UInt8
  inn : Int
def rV (n : Nat) : Value := .int .u64 (n : Int)
/-- the cells of an api.Cpu; and those of a machine. -/
def Mc.tail (c : Mc) (ov : Value) : List Value := [.int .i64 c.steps, .bool c.halted, .int .i64 c.code, .int .i64 c.fault, ov, .int .i64 c.inn]
def Mc.cells (c : Mc) (ov : Value) : List Value := rV c.pc :: (c.regs.map rV ++ c.tail ov)
def mcells (c : Mc) (ov pv iv : Value) : List Value := rV c.pc :: (c.regs.map rV ++ (c.tail ov ++ [pv, iv]))
section
variable {c : Mc} {ov pv iv : Value}
theorem mcells_app : mcells c ov pv iv = c.cells ov ++ [pv, iv] := by simp [mcells, Mc.cells, List.append_assoc]
theorem mcells_len (h : c.regs.length = 32) : (mcells c ov pv iv).length = 41 := by simp [mcells, Mc.tail, h]
theorem ccells_len (h : c.regs.length = 32) : (c.cells ov).length = 39 := by simp [Mc.cells, Mc.tail, h]
theorem mget_reg (h : c.regs.length = 32) (i : Nat) (hi : i < 32) : (mcells c ov pv iv)[1 + i]? = some (rV (c.regs.getD i 0)) := by
  rw [Nat.add_comm, mcells, List.getElem?_cons_succ, List.getElem?_append_left (by simp [h]; exact hi), List.getElem?_map, List.getElem?_eq_getElem (by omega)]
  simp [List.getD_eq_getElem?_getD, List.getElem?_eq_getElem (show i < c.regs.length by omega)]
theorem mget_tail (h : c.regs.length = 32) (i : Nat) : (mcells c ov pv iv)[33 + i]? = (c.tail ov ++ [pv, iv])[i]? := by
  rw [show 33 + i = (32 + i) + 1 by omega, mcells, List.getElem?_cons_succ, List.getElem?_append_right (by simp [h]), List.length_map, h]
  congr 1; omega
theorem mset_pc (n : Nat) : (mcells c ov pv iv).set 0 (.int .u64 (n : Int)) = mcells { c with pc := n } ov pv iv := rfl
theorem mset_reg (h : c.regs.length = 32) (i : Nat) (hi : i < 32) (n : Nat) : (mcells c ov pv iv).set (1 + i) (.int .u64 (n : Int)) = mcells { c with regs := c.regs.set i n } ov pv iv := by
  rw [Nat.add_comm, mcells, mcells, List.set_cons_succ, List.set_append_left _ _ (by simp [h]; exact hi), List.map_set]
  rfl
theorem mset_tail (h : c.regs.length = 32) (i : Nat) (v : Value) : (mcells c ov pv iv).set (33 + i) v = rV c.pc :: (c.regs.map rV ++ ((c.tail ov ++ [pv, iv]).set i v)) := by
  rw [show 33 + i = (32 + i) + 1 by omega, mcells, List.set_cons_succ, List.set_append_right _ _ (by simp [h]), List.length_map, h]
  congr 3; omega
theorem mset_steps (h : c.regs.length = 32) (n : Int) : (mcells c ov pv iv).set 33 (.int .i64 n) = mcells { c with steps := n } ov pv iv := mset_tail h 0 _
theorem mset_halted (h : c.regs.length = 32) (b : Bool) : (mcells c ov pv iv).set 34 (.bool b) = mcells { c with halted := b } ov pv iv := mset_tail h 1 _
theorem mset_code (h : c.regs.length = 32) (n : Int) : (mcells c ov pv iv).set 35 (.int .i64 n) = mcells { c with code := n } ov pv iv := mset_tail h 2 _
theorem mset_fault (h : c.regs.length = 32) (n : Int) : (mcells c ov pv iv).set 36 (.int .i64 n) = mcells { c with fault := n } ov pv iv := mset_tail h 3 _
theorem mset_out (h : c.regs.length = 32) (v : Value) (l : List UInt8) : (mcells c ov pv iv).set 37 v = mcells { c with out := l } v pv iv := mset_tail h 4 _
theorem mset_in (h : c.regs.length = 32) (n : Int) : (mcells c ov pv iv).set 38 (.int .i64 n) = mcells { c with inn := n } ov pv iv := mset_tail h 5 _
end
end Go.Pat

/- math/bits.Mul64, patinaref03.high: the upper half of a product; patinaref03.sign. (Mul64's walk began as lines of the kit's Derived/Shelf/Bits/Mul64.) -/
namespace Go.Pat
open Go Go.RowKit
/-- 1 or 0. -/
def tr (b : Bool) : Int := if b then 1 else 0
def sx32 (n : Nat) : Nat := if n < 2147483648 then n else n + 18446744069414584320
theorem run_shl {P : Program} (k yk : IntKind) (x y : Int) (s : Nat) (hy : y = (s : Int)) (hs : s < k.bits) (w : World) : (Op.shift .shl k x yk y).run P w = .ok (.int k (k.wrap (x * 2 ^ s))) w := by
  subst hy
  have e : min s k.bits = s := by omega
  have h0 : ¬ ((s : Int) < 0) := by omega
  simp [Op.shift, e, h0, Sem.run_pure]
theorem run_shr {P : Program} (k yk : IntKind) (x y : Int) (s : Nat) (hy : y = (s : Int)) (hs : s < k.bits) (w : World) : (Op.shift .shr k x yk y).run P w = .ok (.int k (x.fdiv (2 ^ s))) w := by
  subst hy
  have e : min s k.bits = s := by omega
  have h0 : ¬ ((s : Int) < 0) := by omega
  simp [Op.shift, e, h0, Sem.run_pure]
theorem and63 (b : Nat) (hb : b < 18446744073709551616) : bits .and .u64 (b : Int) 63 = ((b % 64 : Nat) : Int) := by
  have h := bits_and_u64_nat b 63 hb (by omega)
  have e : b &&& 63 = b % 64 := Nat.and_two_pow_sub_one_eq_mod b 6
  rw [e] at h
  exact h
theorem and31 (b : Nat) (hb : b < 18446744073709551616) : bits .and .u64 (b : Int) 31 = ((b % 32 : Nat) : Int) := by
  have h := bits_and_u64_nat b 31 hb (by omega)
  have e : b &&& 31 = b % 32 := Nat.and_two_pow_sub_one_eq_mod b 5
  rw [e] at h
  exact h
theorem and31' (b : Nat) (hb : b < 4294967296) : bits .and .u32 (b : Int) 31 = ((b % 32 : Nat) : Int) := by
  have h : (b &&& 31) = b % 32 := Nat.and_two_pow_sub_one_eq_mod b 5
  have e1 : (BitVec.ofInt 32 (b : Int)).toNat = b := by rw [BitVec.toNat_ofInt]; omega
  show IntKind.u32.wrap ((((BitVec.ofInt 32 (b : Int)) &&& (BitVec.ofInt 32 31) : BitVec 32).toNat : Nat) : Int) = _
  rw [BitVec.toNat_and, e1, show (BitVec.ofInt 32 31).toNat = 31 from by decide, h]
  simp only [IntKind.wrap, IntKind.signed, IntKind.bits, Bool.false_and]
  simp only [Bool.false_eq_true, if_false]
  omega
theorem maskN (a : Nat) (ha : a < 18446744073709551616) : bits .and .u64 (a : Int) 4294967295 = ((a % 4294967296 : Nat) : Int) := by
  have h := bits_and_u64_nat a 4294967295 ha (by omega)
  have e : a &&& 4294967295 = a % 4294967296 := Nat.and_two_pow_sub_one_eq_mod a 32
  rw [e] at h
  exact h
theorem divN (a : Nat) : (a : Int) / 4294967296 = ((a / 4294967296 : Nat) : Int) := by omega
theorem mulN (a b : Nat) : (a : Int) * (b : Int) = ((a * b : Nat) : Int) := (Int.natCast_mul a b).symm
theorem addN (a b : Nat) : (a : Int) + (b : Int) = ((a + b : Nat) : Int) := (Int.natCast_add a b).symm
theorem wrapN (a : Nat) (ha : a < 18446744073709551616) : IntKind.u64.wrap (a : Int) = (a : Int) := by rw [IntKind.wrap_u64]; omega
theorem wrapM (a : Nat) : IntKind.u64.wrap (a : Int) = ((a % 18446744073709551616 : Nat) : Int) := by rw [IntKind.wrap_u64]; omega
end Go.Pat
namespace Go.Proofs
open Go Go.RowKit Go.Pat

set_option maxHeartbeats 1000000 in
theorem Mul64_any (x y : Nat) (hx : x < 18446744073709551616) (hy : y < 18446744073709551616) (w : World) :
    Calls Tryz.prog 118 #[.int .u64 x, .int .u64 y] w fun e w' => e = .returned (.tuple #[.int .u64 ((x * y / 18446744073709551616 : Nat) : Int), .int .u64 ((x * y % 18446744073709551616 : Nat) : Int)]) ∧ w' = w := by
  obtain ⟨bd, bt, bw, hhi⟩ := Lib.mul64_hi x y hx hy
  have ba := Lib.half_mul_le (a := x / 4294967296) (b := y / 4294967296) (by omega) (by omega)
  have bb := Lib.half_mul_le (a := x / 4294967296) (b := y % 4294967296) (by omega) (by omega)
  have bc := Lib.half_mul_le (a := x % 4294967296) (b := y / 4294967296) (by omega) (by omega)
  have ba' : x / 4294967296 * (y / 4294967296) < 18446744073709551616 := by omega
  have bb' : x / 4294967296 * (y % 4294967296) < 18446744073709551616 := by omega
  have bc' : x % 4294967296 * (y / 4294967296) < 18446744073709551616 := by omega
  have bh1 : x / 4294967296 * (y / 4294967296) + (x / 4294967296 * (y % 4294967296) + x % 4294967296 * (y % 4294967296) / 4294967296) / 4294967296 < 18446744073709551616 := by omega
  have bh : x / 4294967296 * (y / 4294967296) + (x / 4294967296 * (y % 4294967296) + x % 4294967296 * (y % 4294967296) / 4294967296) / 4294967296 + ((x / 4294967296 * (y % 4294967296) + x % 4294967296 * (y % 4294967296) / 4294967296) % 4294967296 + x % 4294967296 * (y / 4294967296)) / 4294967296 < 18446744073709551616 := by omega
  go_enter Tryz.func118, Tryz.ntmps118
  go_wp2
  simp only [maskN x hx, maskN y hy, divN, mulN, addN, wrapN _ bd, wrapN _ bb', wrapN _ bt, maskN _ bt, wrapN _ bc', wrapN _ bw, wrapN _ ba', wrapN _ bh1, wrapN _ bh, wrapM (x * y)]
  rw [hhi]
  go_ret2
  exact ⟨rfl, rfl⟩

theorem truth_any (b : Bool) (w : World) : Calls Tryz.prog 119 #[.bool b] w fun e w' => e = .returned (.int .u64 (tr b)) ∧ w' = w := by
  cases b <;> (go_enter Tryz.func119, Tryz.ntmps119; go_wp2; go_ret; exact ⟨rfl, rfl⟩)
end Go.Proofs

/- cpu.divide, cpu.full and patinaref03.divide, alu: the same values, operation by operation. -/
namespace Go.Pat
open Go Go.RowKit
def divV (op a b : Nat) : Int :=
  match op with
  | 54 => if b = 0 then 18446744073709551615 else if wrap64 (b : Int) = -1 then IntKind.u64.wrap (-(a : Int)) else IntKind.u64.wrap (wrap64 ((wrap64 (a : Int)).tdiv (wrap64 (b : Int))))
  | 55 => if b = 0 then 18446744073709551615 else IntKind.u64.wrap ((a : Int) / (b : Int))
  | 56 => if b = 0 then (a : Int) else if wrap64 (b : Int) = -1 then 0 else IntKind.u64.wrap ((wrap64 (a : Int)).tmod (wrap64 (b : Int)))
  | _ => if b = 0 then (a : Int) else (a : Int) % (b : Int)
def fullV (op a b : Nat) : Int :=
  if op = 35 then IntKind.u64.wrap ((a : Int) + (b : Int)) else
  if op = 36 then IntKind.u64.wrap ((a : Int) - (b : Int)) else
  if op = 37 then IntKind.u64.wrap ((a : Int) * 2 ^ (b % 64)) else
  if op = 38 then tr (decide (wrap64 (a : Int) < wrap64 (b : Int))) else
  if op = 39 then tr (decide (a < b)) else
  if op = 40 then bits .xor .u64 (a : Int) (b : Int) else
  if op = 41 then ((a / 2 ^ (b % 64) : Nat) : Int) else
  if op = 42 then IntKind.u64.wrap ((wrap64 (a : Int)).fdiv (2 ^ (b % 64))) else
  if op = 43 then bits .or .u64 (a : Int) (b : Int) else
  if op = 44 then bits .and .u64 (a : Int) (b : Int) else
  if op = 50 then ((a * b % 18446744073709551616 : Nat) : Int) else
  if op = 51 then IntKind.u64.wrap (IntKind.u64.wrap (((a * b / 18446744073709551616 : Nat) : Int) - IntKind.u64.wrap (tr (decide (wrap64 (a : Int) < 0)) * (b : Int))) - IntKind.u64.wrap (tr (decide (wrap64 (b : Int) < 0)) * (a : Int))) else
  if op = 52 then IntKind.u64.wrap (((a * b / 18446744073709551616 : Nat) : Int) - IntKind.u64.wrap (tr (decide (wrap64 (a : Int) < 0)) * (b : Int))) else
  if op = 53 then ((a * b / 18446744073709551616 : Nat) : Int) else
  divV op a b
theorem fullV_35 (a b : Nat) : fullV 35 a b = IntKind.u64.wrap ((a : Int) + (b : Int)) := by
  unfold fullV; rw [if_pos rfl]
theorem fullV_36 (a b : Nat) : fullV 36 a b = IntKind.u64.wrap ((a : Int) - (b : Int)) := by
  unfold fullV; rw [if_neg (show ¬ 36 = 35 by decide), if_pos rfl]
theorem fullV_37 (a b : Nat) : fullV 37 a b = IntKind.u64.wrap ((a : Int) * 2 ^ (b % 64)) := by
  unfold fullV; rw [if_neg (show ¬ 37 = 35 by decide), if_neg (show ¬ 37 = 36 by decide), if_pos rfl]
theorem fullV_38 (a b : Nat) : fullV 38 a b = tr (decide (wrap64 (a : Int) < wrap64 (b : Int))) := by
  unfold fullV; rw [if_neg (show ¬ 38 = 35 by decide), if_neg (show ¬ 38 = 36 by decide), if_neg (show ¬ 38 = 37 by decide), if_pos rfl]
theorem fullV_39 (a b : Nat) : fullV 39 a b = tr (decide (a < b)) := by
  unfold fullV; rw [if_neg (show ¬ 39 = 35 by decide), if_neg (show ¬ 39 = 36 by decide), if_neg (show ¬ 39 = 37 by decide), if_neg (show ¬ 39 = 38 by decide), if_pos rfl]
theorem fullV_40 (a b : Nat) : fullV 40 a b = bits .xor .u64 (a : Int) (b : Int) := by
  unfold fullV; rw [if_neg (show ¬ 40 = 35 by decide), if_neg (show ¬ 40 = 36 by decide), if_neg (show ¬ 40 = 37 by decide), if_neg (show ¬ 40 = 38 by decide), if_neg (show ¬ 40 = 39 by decide), if_pos rfl]
theorem fullV_41 (a b : Nat) : fullV 41 a b = ((a / 2 ^ (b % 64) : Nat) : Int) := by
  unfold fullV; rw [if_neg (show ¬ 41 = 35 by decide), if_neg (show ¬ 41 = 36 by decide), if_neg (show ¬ 41 = 37 by decide), if_neg (show ¬ 41 = 38 by decide), if_neg (show ¬ 41 = 39 by decide), if_neg (show ¬ 41 = 40 by decide), if_pos rfl]
theorem fullV_42 (a b : Nat) : fullV 42 a b = IntKind.u64.wrap ((wrap64 (a : Int)).fdiv (2 ^ (b % 64))) := by
  unfold fullV; rw [if_neg (show ¬ 42 = 35 by decide), if_neg (show ¬ 42 = 36 by decide), if_neg (show ¬ 42 = 37 by decide), if_neg (show ¬ 42 = 38 by decide), if_neg (show ¬ 42 = 39 by decide), if_neg (show ¬ 42 = 40 by decide), if_neg (show ¬ 42 = 41 by decide), if_pos rfl]
theorem fullV_43 (a b : Nat) : fullV 43 a b = bits .or .u64 (a : Int) (b : Int) := by
  unfold fullV; rw [if_neg (show ¬ 43 = 35 by decide), if_neg (show ¬ 43 = 36 by decide), if_neg (show ¬ 43 = 37 by decide), if_neg (show ¬ 43 = 38 by decide), if_neg (show ¬ 43 = 39 by decide), if_neg (show ¬ 43 = 40 by decide), if_neg (show ¬ 43 = 41 by decide), if_neg (show ¬ 43 = 42 by decide), if_pos rfl]
theorem fullV_44 (a b : Nat) : fullV 44 a b = bits .and .u64 (a : Int) (b : Int) := by
  unfold fullV; rw [if_neg (show ¬ 44 = 35 by decide), if_neg (show ¬ 44 = 36 by decide), if_neg (show ¬ 44 = 37 by decide), if_neg (show ¬ 44 = 38 by decide), if_neg (show ¬ 44 = 39 by decide), if_neg (show ¬ 44 = 40 by decide), if_neg (show ¬ 44 = 41 by decide), if_neg (show ¬ 44 = 42 by decide), if_neg (show ¬ 44 = 43 by decide), if_pos rfl]
theorem fullV_50 (a b : Nat) : fullV 50 a b = ((a * b % 18446744073709551616 : Nat) : Int) := by
  unfold fullV; rw [if_neg (show ¬ 50 = 35 by decide), if_neg (show ¬ 50 = 36 by decide), if_neg (show ¬ 50 = 37 by decide), if_neg (show ¬ 50 = 38 by decide), if_neg (show ¬ 50 = 39 by decide), if_neg (show ¬ 50 = 40 by decide), if_neg (show ¬ 50 = 41 by decide), if_neg (show ¬ 50 = 42 by decide), if_neg (show ¬ 50 = 43 by decide), if_neg (show ¬ 50 = 44 by decide), if_pos rfl]
theorem fullV_51 (a b : Nat) : fullV 51 a b = IntKind.u64.wrap (IntKind.u64.wrap (((a * b / 18446744073709551616 : Nat) : Int) - IntKind.u64.wrap (tr (decide (wrap64 (a : Int) < 0)) * (b : Int))) - IntKind.u64.wrap (tr (decide (wrap64 (b : Int) < 0)) * (a : Int))) := by
  unfold fullV; rw [if_neg (show ¬ 51 = 35 by decide), if_neg (show ¬ 51 = 36 by decide), if_neg (show ¬ 51 = 37 by decide), if_neg (show ¬ 51 = 38 by decide), if_neg (show ¬ 51 = 39 by decide), if_neg (show ¬ 51 = 40 by decide), if_neg (show ¬ 51 = 41 by decide), if_neg (show ¬ 51 = 42 by decide), if_neg (show ¬ 51 = 43 by decide), if_neg (show ¬ 51 = 44 by decide), if_neg (show ¬ 51 = 50 by decide), if_pos rfl]
theorem fullV_52 (a b : Nat) : fullV 52 a b = IntKind.u64.wrap (((a * b / 18446744073709551616 : Nat) : Int) - IntKind.u64.wrap (tr (decide (wrap64 (a : Int) < 0)) * (b : Int))) := by
  unfold fullV; rw [if_neg (show ¬ 52 = 35 by decide), if_neg (show ¬ 52 = 36 by decide), if_neg (show ¬ 52 = 37 by decide), if_neg (show ¬ 52 = 38 by decide), if_neg (show ¬ 52 = 39 by decide), if_neg (show ¬ 52 = 40 by decide), if_neg (show ¬ 52 = 41 by decide), if_neg (show ¬ 52 = 42 by decide), if_neg (show ¬ 52 = 43 by decide), if_neg (show ¬ 52 = 44 by decide), if_neg (show ¬ 52 = 50 by decide), if_neg (show ¬ 52 = 51 by decide), if_pos rfl]
theorem fullV_53 (a b : Nat) : fullV 53 a b = ((a * b / 18446744073709551616 : Nat) : Int) := by
  unfold fullV; rw [if_neg (show ¬ 53 = 35 by decide), if_neg (show ¬ 53 = 36 by decide), if_neg (show ¬ 53 = 37 by decide), if_neg (show ¬ 53 = 38 by decide), if_neg (show ¬ 53 = 39 by decide), if_neg (show ¬ 53 = 40 by decide), if_neg (show ¬ 53 = 41 by decide), if_neg (show ¬ 53 = 42 by decide), if_neg (show ¬ 53 = 43 by decide), if_neg (show ¬ 53 = 44 by decide), if_neg (show ¬ 53 = 50 by decide), if_neg (show ¬ 53 = 51 by decide), if_neg (show ¬ 53 = 52 by decide), if_pos rfl]
theorem fullV_54 (a b : Nat) : fullV 54 a b = divV 54 a b := by
  unfold fullV; rw [if_neg (show ¬ 54 = 35 by decide), if_neg (show ¬ 54 = 36 by decide), if_neg (show ¬ 54 = 37 by decide), if_neg (show ¬ 54 = 38 by decide), if_neg (show ¬ 54 = 39 by decide), if_neg (show ¬ 54 = 40 by decide), if_neg (show ¬ 54 = 41 by decide), if_neg (show ¬ 54 = 42 by decide), if_neg (show ¬ 54 = 43 by decide), if_neg (show ¬ 54 = 44 by decide), if_neg (show ¬ 54 = 50 by decide), if_neg (show ¬ 54 = 51 by decide), if_neg (show ¬ 54 = 52 by decide), if_neg (show ¬ 54 = 53 by decide)]
theorem fullV_55 (a b : Nat) : fullV 55 a b = divV 55 a b := by
  unfold fullV; rw [if_neg (show ¬ 55 = 35 by decide), if_neg (show ¬ 55 = 36 by decide), if_neg (show ¬ 55 = 37 by decide), if_neg (show ¬ 55 = 38 by decide), if_neg (show ¬ 55 = 39 by decide), if_neg (show ¬ 55 = 40 by decide), if_neg (show ¬ 55 = 41 by decide), if_neg (show ¬ 55 = 42 by decide), if_neg (show ¬ 55 = 43 by decide), if_neg (show ¬ 55 = 44 by decide), if_neg (show ¬ 55 = 50 by decide), if_neg (show ¬ 55 = 51 by decide), if_neg (show ¬ 55 = 52 by decide), if_neg (show ¬ 55 = 53 by decide)]
theorem fullV_56 (a b : Nat) : fullV 56 a b = divV 56 a b := by
  unfold fullV; rw [if_neg (show ¬ 56 = 35 by decide), if_neg (show ¬ 56 = 36 by decide), if_neg (show ¬ 56 = 37 by decide), if_neg (show ¬ 56 = 38 by decide), if_neg (show ¬ 56 = 39 by decide), if_neg (show ¬ 56 = 40 by decide), if_neg (show ¬ 56 = 41 by decide), if_neg (show ¬ 56 = 42 by decide), if_neg (show ¬ 56 = 43 by decide), if_neg (show ¬ 56 = 44 by decide), if_neg (show ¬ 56 = 50 by decide), if_neg (show ¬ 56 = 51 by decide), if_neg (show ¬ 56 = 52 by decide), if_neg (show ¬ 56 = 53 by decide)]
theorem fullV_57 (a b : Nat) : fullV 57 a b = divV 57 a b := by
  unfold fullV; rw [if_neg (show ¬ 57 = 35 by decide), if_neg (show ¬ 57 = 36 by decide), if_neg (show ¬ 57 = 37 by decide), if_neg (show ¬ 57 = 38 by decide), if_neg (show ¬ 57 = 39 by decide), if_neg (show ¬ 57 = 40 by decide), if_neg (show ¬ 57 = 41 by decide), if_neg (show ¬ 57 = 42 by decide), if_neg (show ¬ 57 = 43 by decide), if_neg (show ¬ 57 = 44 by decide), if_neg (show ¬ 57 = 50 by decide), if_neg (show ¬ 57 = 51 by decide), if_neg (show ¬ 57 = 52 by decide), if_neg (show ¬ 57 = 53 by decide)]
theorem wrap64_zero (b : Nat) (hb : b < 18446744073709551616) (h : b ≠ 0) : ¬ wrap64 (b : Int) = 0 := by
  simp only [wrap64]
  omega
theorem castM (a b : Nat) : ((a * b % 18446744073709551616 : Nat) : Int) = (a : Int) * (b : Int) % 18446744073709551616 := by omega
theorem castD (a b : Nat) : ((a * b / 18446744073709551616 : Nat) : Int) = (a : Int) * (b : Int) / 18446744073709551616 := by omega
theorem fdiv_nat (a s : Nat) : (a : Int).fdiv (2 ^ s) = ((a / 2 ^ s : Nat) : Int) := by
  rw [Int.fdiv_eq_ediv_of_nonneg _ (Int.le_of_lt (Int.pow_pos (by decide))), Int.natCast_ediv, Int.natCast_pow]
  rfl
end Go.Pat
namespace Go.Proofs
open Go Go.RowKit Go.Pat
set_option maxHeartbeats 1000000 in
theorem cdiv_54 (a b : Nat) (_ha : a < 18446744073709551616) (hb : b < 18446744073709551616) (w : World) :
    Calls Tryz.prog 117 #[.int .i64 54, .int .u64 a, .int .u64 b] w fun e w' => e = .returned (.int .u64 (divV 54 a b)) ∧ w' = w := by
  by_cases hb0 : b = 0
  · subst hb0
    have HV : divV 54 a 0 = 18446744073709551615 := rfl
    have HH := Lib.hid HV
    clear HV
    go_enter Tryz.func117, Tryz.ntmps117
    go_wp2
    go_ret
    exact ⟨by rw [HH.out]; rfl, rfl⟩
  · have d0 := wrap64_zero b hb hb0
    have d1 : ((b : Int) == 0) = false := by simpa using hb0
    have d3 : (wrap64 (b : Int) == 0) = false := by simpa using d0
    by_cases h : wrap64 (b : Int) = -1
    · have d2 : (wrap64 (b : Int) == -1) = true := by simpa using h
      have HH := Lib.hid (show divV 54 a b = IntKind.u64.wrap (-(a : Int)) by simp only [divV, if_neg hb0, if_pos h])
      clear h
      go_enter Tryz.func117, Tryz.ntmps117
      go_wp2
      go_ret
      exact ⟨by rw [HH.out]; rfl, rfl⟩
    · have d2 : (wrap64 (b : Int) == -1) = false := by simpa using h
      have HH := Lib.hid (show divV 54 a b = IntKind.u64.wrap (wrap64 ((wrap64 (a : Int)).tdiv (wrap64 (b : Int)))) by simp only [divV, if_neg hb0, if_neg h])
      clear h
      go_enter Tryz.func117, Tryz.ntmps117
      go_wp2
      go_ret
      exact ⟨by rw [HH.out]; rfl, rfl⟩
set_option maxHeartbeats 1000000 in
theorem cdiv_55 (a b : Nat) (_ha : a < 18446744073709551616) (hb : b < 18446744073709551616) (w : World) :
    Calls Tryz.prog 117 #[.int .i64 55, .int .u64 a, .int .u64 b] w fun e w' => e = .returned (.int .u64 (divV 55 a b)) ∧ w' = w := by
  by_cases hb0 : b = 0
  · subst hb0
    have HV : divV 55 a 0 = 18446744073709551615 := rfl
    have HH := Lib.hid HV
    clear HV
    go_enter Tryz.func117, Tryz.ntmps117
    go_wp2
    go_ret
    exact ⟨by rw [HH.out]; rfl, rfl⟩
  · have d0 := wrap64_zero b hb hb0
    have d1 : ((b : Int) == 0) = false := by simpa using hb0
    have d3 : (wrap64 (b : Int) == 0) = false := by simpa using d0
    by_cases h : wrap64 (b : Int) = -1
    · have d2 : (wrap64 (b : Int) == -1) = true := by simpa using h
      have HH := Lib.hid (show divV 55 a b = IntKind.u64.wrap ((a : Int) / (b : Int)) by simp only [divV, if_neg hb0])
      clear h
      go_enter Tryz.func117, Tryz.ntmps117
      go_wp2
      go_ret
      exact ⟨by rw [HH.out]; rfl, rfl⟩
    · have d2 : (wrap64 (b : Int) == -1) = false := by simpa using h
      have HH := Lib.hid (show divV 55 a b = IntKind.u64.wrap ((a : Int) / (b : Int)) by simp only [divV, if_neg hb0])
      clear h
      go_enter Tryz.func117, Tryz.ntmps117
      go_wp2
      go_ret
      exact ⟨by rw [HH.out]; rfl, rfl⟩
set_option maxHeartbeats 1000000 in
theorem cdiv_56 (a b : Nat) (_ha : a < 18446744073709551616) (hb : b < 18446744073709551616) (w : World) :
    Calls Tryz.prog 117 #[.int .i64 56, .int .u64 a, .int .u64 b] w fun e w' => e = .returned (.int .u64 (divV 56 a b)) ∧ w' = w := by
  by_cases hb0 : b = 0
  · subst hb0
    have HV : divV 56 a 0 = (a : Int) := rfl
    have HH := Lib.hid HV
    clear HV
    go_enter Tryz.func117, Tryz.ntmps117
    go_wp2
    go_ret
    exact ⟨by rw [HH.out]; rfl, rfl⟩
  · have d0 := wrap64_zero b hb hb0
    have d1 : ((b : Int) == 0) = false := by simpa using hb0
    have d3 : (wrap64 (b : Int) == 0) = false := by simpa using d0
    by_cases h : wrap64 (b : Int) = -1
    · have d2 : (wrap64 (b : Int) == -1) = true := by simpa using h
      have HH := Lib.hid (show divV 56 a b = 0 by simp only [divV, if_neg hb0, if_pos h])
      clear h
      go_enter Tryz.func117, Tryz.ntmps117
      go_wp2
      go_ret
      exact ⟨by rw [HH.out]; rfl, rfl⟩
    · have d2 : (wrap64 (b : Int) == -1) = false := by simpa using h
      have HH := Lib.hid (show divV 56 a b = IntKind.u64.wrap ((wrap64 (a : Int)).tmod (wrap64 (b : Int))) by simp only [divV, if_neg hb0, if_neg h])
      clear h
      go_enter Tryz.func117, Tryz.ntmps117
      go_wp2
      go_ret
      exact ⟨by rw [HH.out]; rfl, rfl⟩
set_option maxHeartbeats 1000000 in
theorem cdiv_57 (a b : Nat) (ha : a < 18446744073709551616) (hb : b < 18446744073709551616) (w : World) :
    Calls Tryz.prog 117 #[.int .i64 57, .int .u64 a, .int .u64 b] w fun e w' => e = .returned (.int .u64 (divV 57 a b)) ∧ w' = w := by
  by_cases hb0 : b = 0
  · subst hb0
    have HV : divV 57 a 0 = (a : Int) := rfl
    have HH := Lib.hid HV
    clear HV
    go_enter Tryz.func117, Tryz.ntmps117
    go_wp2
    go_ret
    exact ⟨by rw [HH.out]; rfl, rfl⟩
  · have d0 := wrap64_zero b hb hb0
    have d1 : ((b : Int) == 0) = false := by simpa using hb0
    have d3 : (wrap64 (b : Int) == 0) = false := by simpa using d0
    by_cases h : wrap64 (b : Int) = -1
    · have d2 : (wrap64 (b : Int) == -1) = true := by simpa using h
      have HH := Lib.hid (show divV 57 a b = (a : Int) % (b : Int) by simp only [divV, if_neg hb0])
      clear h
      go_enter Tryz.func117, Tryz.ntmps117
      go_wp2
      go_ret
      exact ⟨by rw [HH.out]; rfl, rfl⟩
    · have d2 : (wrap64 (b : Int) == -1) = false := by simpa using h
      have HH := Lib.hid (show divV 57 a b = (a : Int) % (b : Int) by simp only [divV, if_neg hb0])
      clear h
      go_enter Tryz.func117, Tryz.ntmps117
      go_wp2
      go_ret
      exact ⟨by rw [HH.out]; rfl, rfl⟩
set_option maxHeartbeats 1000000 in
theorem full_35 (a b : Nat) (ha : a < 18446744073709551616) (hb : b < 18446744073709551616) (w : World) :
    Calls Tryz.prog 113 #[.int .i64 35, .int .u64 a, .int .u64 b] w fun e w' => e = .returned (.int .u64 (fullV 35 a b)) ∧ w' = w := by
  obtain ⟨X, hX⟩ : ∃ X : Int, X = fullV 35 a b := ⟨_, rfl⟩
  rw [← hX]
  have hX2 := hX
  rw [fullV_35] at hX2
  have HX := Lib.hid hX2
  clear hX hX2
  go_enter Tryz.func113, Tryz.ntmps113
  go_wp2_with (first | (go_at_call 118; refine (Mul64_any a b ha hb _).mono ?_; rintro e w' ⟨rfl, rfl⟩) | (go_at_call 119; refine (truth_any _ _).mono ?_; rintro e w' ⟨rfl, rfl⟩))
  go_ret
  refine ⟨congrArg (fun x => Ending.returned (Value.int IntKind.u64 x)) ?_, rfl⟩
  rw [HX.out]
set_option maxHeartbeats 1000000 in
theorem full_36 (a b : Nat) (ha : a < 18446744073709551616) (hb : b < 18446744073709551616) (w : World) :
    Calls Tryz.prog 113 #[.int .i64 36, .int .u64 a, .int .u64 b] w fun e w' => e = .returned (.int .u64 (fullV 36 a b)) ∧ w' = w := by
  obtain ⟨X, hX⟩ : ∃ X : Int, X = fullV 36 a b := ⟨_, rfl⟩
  rw [← hX]
  have hX2 := hX
  rw [fullV_36] at hX2
  have HX := Lib.hid hX2
  clear hX hX2
  go_enter Tryz.func113, Tryz.ntmps113
  go_wp2_with (first | (go_at_call 118; refine (Mul64_any a b ha hb _).mono ?_; rintro e w' ⟨rfl, rfl⟩) | (go_at_call 119; refine (truth_any _ _).mono ?_; rintro e w' ⟨rfl, rfl⟩))
  go_ret
  refine ⟨congrArg (fun x => Ending.returned (Value.int IntKind.u64 x)) ?_, rfl⟩
  rw [HX.out]
set_option maxHeartbeats 1000000 in
theorem full_37 (a b : Nat) (ha : a < 18446744073709551616) (hb : b < 18446744073709551616) (w : World) :
    Calls Tryz.prog 113 #[.int .i64 37, .int .u64 a, .int .u64 b] w fun e w' => e = .returned (.int .u64 (fullV 37 a b)) ∧ w' = w := by
  have hsh := fun (W : World) => run_shl (P := Tryz.prog) .u64 .u64 (a : Int) _ (b % 64) (and63 b hb) (Nat.mod_lt _ (by decide)) W
  obtain ⟨X, hX⟩ : ∃ X : Int, X = fullV 37 a b := ⟨_, rfl⟩
  rw [← hX]
  have hX2 := hX
  rw [fullV_37] at hX2
  have HX := Lib.hid hX2
  clear hX hX2
  go_enter Tryz.func113, Tryz.ntmps113
  go_wp2_with (first | (go_at_call 118; refine (Mul64_any a b ha hb _).mono ?_; rintro e w' ⟨rfl, rfl⟩) | (go_at_call 119; refine (truth_any _ _).mono ?_; rintro e w' ⟨rfl, rfl⟩))
  go_ret
  refine ⟨congrArg (fun x => Ending.returned (Value.int IntKind.u64 x)) ?_, rfl⟩
  rw [HX.out]
set_option maxHeartbeats 1000000 in
theorem full_38 (a b : Nat) (ha : a < 18446744073709551616) (hb : b < 18446744073709551616) (w : World) :
    Calls Tryz.prog 113 #[.int .i64 38, .int .u64 a, .int .u64 b] w fun e w' => e = .returned (.int .u64 (fullV 38 a b)) ∧ w' = w := by
  obtain ⟨X, hX⟩ : ∃ X : Int, X = fullV 38 a b := ⟨_, rfl⟩
  rw [← hX]
  have hX2 := hX
  rw [fullV_38] at hX2
  have HX := Lib.hid hX2
  clear hX hX2
  go_enter Tryz.func113, Tryz.ntmps113
  go_wp2_with (first | (go_at_call 118; refine (Mul64_any a b ha hb _).mono ?_; rintro e w' ⟨rfl, rfl⟩) | (go_at_call 119; refine (truth_any _ _).mono ?_; rintro e w' ⟨rfl, rfl⟩))
  go_ret
  refine ⟨congrArg (fun x => Ending.returned (Value.int IntKind.u64 x)) ?_, rfl⟩
  rw [HX.out]
set_option maxHeartbeats 1000000 in
theorem full_39 (a b : Nat) (ha : a < 18446744073709551616) (hb : b < 18446744073709551616) (w : World) :
    Calls Tryz.prog 113 #[.int .i64 39, .int .u64 a, .int .u64 b] w fun e w' => e = .returned (.int .u64 (fullV 39 a b)) ∧ w' = w := by
  obtain ⟨X, hX⟩ : ∃ X : Int, X = fullV 39 a b := ⟨_, rfl⟩
  rw [← hX]
  have hX2 := hX
  rw [fullV_39] at hX2
  have HX := Lib.hid hX2
  clear hX hX2
  go_enter Tryz.func113, Tryz.ntmps113
  go_wp2_with (first | (go_at_call 118; refine (Mul64_any a b ha hb _).mono ?_; rintro e w' ⟨rfl, rfl⟩) | (go_at_call 119; refine (truth_any _ _).mono ?_; rintro e w' ⟨rfl, rfl⟩))
  go_ret
  refine ⟨congrArg (fun x => Ending.returned (Value.int IntKind.u64 x)) ?_, rfl⟩
  rw [HX.out]
set_option maxHeartbeats 1000000 in
theorem full_40 (a b : Nat) (ha : a < 18446744073709551616) (hb : b < 18446744073709551616) (w : World) :
    Calls Tryz.prog 113 #[.int .i64 40, .int .u64 a, .int .u64 b] w fun e w' => e = .returned (.int .u64 (fullV 40 a b)) ∧ w' = w := by
  obtain ⟨X, hX⟩ : ∃ X : Int, X = fullV 40 a b := ⟨_, rfl⟩
  rw [← hX]
  have hX2 := hX
  rw [fullV_40] at hX2
  have HX := Lib.hid hX2
  clear hX hX2
  go_enter Tryz.func113, Tryz.ntmps113
  go_wp2_with (first | (go_at_call 118; refine (Mul64_any a b ha hb _).mono ?_; rintro e w' ⟨rfl, rfl⟩) | (go_at_call 119; refine (truth_any _ _).mono ?_; rintro e w' ⟨rfl, rfl⟩))
  go_ret
  refine ⟨congrArg (fun x => Ending.returned (Value.int IntKind.u64 x)) ?_, rfl⟩
  rw [HX.out]
set_option maxHeartbeats 1000000 in
theorem full_41 (a b : Nat) (ha : a < 18446744073709551616) (hb : b < 18446744073709551616) (w : World) :
    Calls Tryz.prog 113 #[.int .i64 41, .int .u64 a, .int .u64 b] w fun e w' => e = .returned (.int .u64 (fullV 41 a b)) ∧ w' = w := by
  have hsh := fun (W : World) => run_shr (P := Tryz.prog) .u64 .u64 (a : Int) _ (b % 64) (and63 b hb) (Nat.mod_lt _ (by decide)) W
  obtain ⟨X, hX⟩ : ∃ X : Int, X = fullV 41 a b := ⟨_, rfl⟩
  rw [← hX]
  have hX2 := hX
  rw [fullV_41] at hX2
  have HX := Lib.hid hX2
  clear hX hX2
  go_enter Tryz.func113, Tryz.ntmps113
  go_wp2_with (first | (go_at_call 118; refine (Mul64_any a b ha hb _).mono ?_; rintro e w' ⟨rfl, rfl⟩) | (go_at_call 119; refine (truth_any _ _).mono ?_; rintro e w' ⟨rfl, rfl⟩))
  go_ret
  refine ⟨congrArg (fun x => Ending.returned (Value.int IntKind.u64 x)) ?_, rfl⟩
  rw [HX.out, fdiv_nat]
set_option maxHeartbeats 1000000 in
theorem full_42 (a b : Nat) (ha : a < 18446744073709551616) (hb : b < 18446744073709551616) (w : World) :
    Calls Tryz.prog 113 #[.int .i64 42, .int .u64 a, .int .u64 b] w fun e w' => e = .returned (.int .u64 (fullV 42 a b)) ∧ w' = w := by
  have hsh := fun (W : World) => run_shr (P := Tryz.prog) .i64 .u64 (wrap64 (a : Int)) _ (b % 64) (and63 b hb) (Nat.mod_lt _ (by decide)) W
  obtain ⟨X, hX⟩ : ∃ X : Int, X = fullV 42 a b := ⟨_, rfl⟩
  rw [← hX]
  have hX2 := hX
  rw [fullV_42] at hX2
  have HX := Lib.hid hX2
  clear hX hX2
  go_enter Tryz.func113, Tryz.ntmps113
  go_wp2_with (first | (go_at_call 118; refine (Mul64_any a b ha hb _).mono ?_; rintro e w' ⟨rfl, rfl⟩) | (go_at_call 119; refine (truth_any _ _).mono ?_; rintro e w' ⟨rfl, rfl⟩))
  go_ret
  refine ⟨congrArg (fun x => Ending.returned (Value.int IntKind.u64 x)) ?_, rfl⟩
  rw [HX.out]
set_option maxHeartbeats 1000000 in
theorem full_43 (a b : Nat) (ha : a < 18446744073709551616) (hb : b < 18446744073709551616) (w : World) :
    Calls Tryz.prog 113 #[.int .i64 43, .int .u64 a, .int .u64 b] w fun e w' => e = .returned (.int .u64 (fullV 43 a b)) ∧ w' = w := by
  obtain ⟨X, hX⟩ : ∃ X : Int, X = fullV 43 a b := ⟨_, rfl⟩
  rw [← hX]
  have hX2 := hX
  rw [fullV_43] at hX2
  have HX := Lib.hid hX2
  clear hX hX2
  go_enter Tryz.func113, Tryz.ntmps113
  go_wp2_with (first | (go_at_call 118; refine (Mul64_any a b ha hb _).mono ?_; rintro e w' ⟨rfl, rfl⟩) | (go_at_call 119; refine (truth_any _ _).mono ?_; rintro e w' ⟨rfl, rfl⟩))
  go_ret
  refine ⟨congrArg (fun x => Ending.returned (Value.int IntKind.u64 x)) ?_, rfl⟩
  rw [HX.out]
set_option maxHeartbeats 1000000 in
theorem full_44 (a b : Nat) (ha : a < 18446744073709551616) (hb : b < 18446744073709551616) (w : World) :
    Calls Tryz.prog 113 #[.int .i64 44, .int .u64 a, .int .u64 b] w fun e w' => e = .returned (.int .u64 (fullV 44 a b)) ∧ w' = w := by
  obtain ⟨X, hX⟩ : ∃ X : Int, X = fullV 44 a b := ⟨_, rfl⟩
  rw [← hX]
  have hX2 := hX
  rw [fullV_44] at hX2
  have HX := Lib.hid hX2
  clear hX hX2
  go_enter Tryz.func113, Tryz.ntmps113
  go_wp2_with (first | (go_at_call 118; refine (Mul64_any a b ha hb _).mono ?_; rintro e w' ⟨rfl, rfl⟩) | (go_at_call 119; refine (truth_any _ _).mono ?_; rintro e w' ⟨rfl, rfl⟩))
  go_ret
  refine ⟨congrArg (fun x => Ending.returned (Value.int IntKind.u64 x)) ?_, rfl⟩
  rw [HX.out]
set_option maxHeartbeats 1000000 in
theorem full_50 (a b : Nat) (ha : a < 18446744073709551616) (hb : b < 18446744073709551616) (w : World) :
    Calls Tryz.prog 113 #[.int .i64 50, .int .u64 a, .int .u64 b] w fun e w' => e = .returned (.int .u64 (fullV 50 a b)) ∧ w' = w := by
  obtain ⟨X, hX⟩ : ∃ X : Int, X = fullV 50 a b := ⟨_, rfl⟩
  rw [← hX]
  have hX2 := hX
  rw [fullV_50, castM] at hX2
  have HX := Lib.hid hX2
  clear hX hX2
  go_enter Tryz.func113, Tryz.ntmps113
  go_wp2_with (first | (go_at_call 118; refine (Mul64_any a b ha hb _).mono ?_; rintro e w' ⟨rfl, rfl⟩) | (go_at_call 119; refine (truth_any _ _).mono ?_; rintro e w' ⟨rfl, rfl⟩))
  go_ret
  refine ⟨congrArg (fun x => Ending.returned (Value.int IntKind.u64 x)) ?_, rfl⟩
  rw [HX.out]
set_option maxHeartbeats 1000000 in
theorem full_51 (a b : Nat) (ha : a < 18446744073709551616) (hb : b < 18446744073709551616) (w : World) :
    Calls Tryz.prog 113 #[.int .i64 51, .int .u64 a, .int .u64 b] w fun e w' => e = .returned (.int .u64 (fullV 51 a b)) ∧ w' = w := by
  obtain ⟨X, hX⟩ : ∃ X : Int, X = fullV 51 a b := ⟨_, rfl⟩
  rw [← hX]
  have hX2 := hX
  rw [fullV_51, castD] at hX2
  have HX := Lib.hid hX2
  clear hX hX2
  go_enter Tryz.func113, Tryz.ntmps113
  go_wp2_with (first | (go_at_call 118; refine (Mul64_any a b ha hb _).mono ?_; rintro e w' ⟨rfl, rfl⟩) | (go_at_call 119; refine (truth_any _ _).mono ?_; rintro e w' ⟨rfl, rfl⟩))
  go_ret
  refine ⟨congrArg (fun x => Ending.returned (Value.int IntKind.u64 x)) ?_, rfl⟩
  rw [HX.out]
set_option maxHeartbeats 1000000 in
theorem full_52 (a b : Nat) (ha : a < 18446744073709551616) (hb : b < 18446744073709551616) (w : World) :
    Calls Tryz.prog 113 #[.int .i64 52, .int .u64 a, .int .u64 b] w fun e w' => e = .returned (.int .u64 (fullV 52 a b)) ∧ w' = w := by
  obtain ⟨X, hX⟩ : ∃ X : Int, X = fullV 52 a b := ⟨_, rfl⟩
  rw [← hX]
  have hX2 := hX
  rw [fullV_52, castD] at hX2
  have HX := Lib.hid hX2
  clear hX hX2
  go_enter Tryz.func113, Tryz.ntmps113
  go_wp2_with (first | (go_at_call 118; refine (Mul64_any a b ha hb _).mono ?_; rintro e w' ⟨rfl, rfl⟩) | (go_at_call 119; refine (truth_any _ _).mono ?_; rintro e w' ⟨rfl, rfl⟩))
  go_ret
  refine ⟨congrArg (fun x => Ending.returned (Value.int IntKind.u64 x)) ?_, rfl⟩
  rw [HX.out]
set_option maxHeartbeats 1000000 in
theorem full_53 (a b : Nat) (ha : a < 18446744073709551616) (hb : b < 18446744073709551616) (w : World) :
    Calls Tryz.prog 113 #[.int .i64 53, .int .u64 a, .int .u64 b] w fun e w' => e = .returned (.int .u64 (fullV 53 a b)) ∧ w' = w := by
  obtain ⟨X, hX⟩ : ∃ X : Int, X = fullV 53 a b := ⟨_, rfl⟩
  rw [← hX]
  have hX2 := hX
  rw [fullV_53, castD] at hX2
  have HX := Lib.hid hX2
  clear hX hX2
  go_enter Tryz.func113, Tryz.ntmps113
  go_wp2_with (first | (go_at_call 118; refine (Mul64_any a b ha hb _).mono ?_; rintro e w' ⟨rfl, rfl⟩) | (go_at_call 119; refine (truth_any _ _).mono ?_; rintro e w' ⟨rfl, rfl⟩))
  go_ret
  refine ⟨congrArg (fun x => Ending.returned (Value.int IntKind.u64 x)) ?_, rfl⟩
  rw [HX.out]
set_option maxHeartbeats 1000000 in
theorem full_54 (a b : Nat) (ha : a < 18446744073709551616) (hb : b < 18446744073709551616) (w : World) :
    Calls Tryz.prog 113 #[.int .i64 54, .int .u64 a, .int .u64 b] w fun e w' => e = .returned (.int .u64 (fullV 54 a b)) ∧ w' = w := by
  obtain ⟨X, hX⟩ : ∃ X : Int, X = fullV 54 a b := ⟨_, rfl⟩
  rw [← hX]
  have hX2 := hX
  rw [fullV_54] at hX2
  have HX := Lib.hid hX2
  clear hX hX2
  go_enter Tryz.func113, Tryz.ntmps113
  go_wp2_with (first | (go_at_call 118; refine (Mul64_any a b ha hb _).mono ?_; rintro e w' ⟨rfl, rfl⟩) | (go_at_call 119; refine (truth_any _ _).mono ?_; rintro e w' ⟨rfl, rfl⟩) | (go_at_call 117; refine (cdiv_54 a b ha hb _).mono ?_; rintro e w' ⟨rfl, rfl⟩))
  go_ret
  refine ⟨congrArg (fun x => Ending.returned (Value.int IntKind.u64 x)) ?_, rfl⟩
  rw [HX.out]
set_option maxHeartbeats 1000000 in
theorem full_55 (a b : Nat) (ha : a < 18446744073709551616) (hb : b < 18446744073709551616) (w : World) :
    Calls Tryz.prog 113 #[.int .i64 55, .int .u64 a, .int .u64 b] w fun e w' => e = .returned (.int .u64 (fullV 55 a b)) ∧ w' = w := by
  obtain ⟨X, hX⟩ : ∃ X : Int, X = fullV 55 a b := ⟨_, rfl⟩
  rw [← hX]
  have hX2 := hX
  rw [fullV_55] at hX2
  have HX := Lib.hid hX2
  clear hX hX2
  go_enter Tryz.func113, Tryz.ntmps113
  go_wp2_with (first | (go_at_call 118; refine (Mul64_any a b ha hb _).mono ?_; rintro e w' ⟨rfl, rfl⟩) | (go_at_call 119; refine (truth_any _ _).mono ?_; rintro e w' ⟨rfl, rfl⟩) | (go_at_call 117; refine (cdiv_55 a b ha hb _).mono ?_; rintro e w' ⟨rfl, rfl⟩))
  go_ret
  refine ⟨congrArg (fun x => Ending.returned (Value.int IntKind.u64 x)) ?_, rfl⟩
  rw [HX.out]
set_option maxHeartbeats 1000000 in
theorem full_56 (a b : Nat) (ha : a < 18446744073709551616) (hb : b < 18446744073709551616) (w : World) :
    Calls Tryz.prog 113 #[.int .i64 56, .int .u64 a, .int .u64 b] w fun e w' => e = .returned (.int .u64 (fullV 56 a b)) ∧ w' = w := by
  obtain ⟨X, hX⟩ : ∃ X : Int, X = fullV 56 a b := ⟨_, rfl⟩
  rw [← hX]
  have hX2 := hX
  rw [fullV_56] at hX2
  have HX := Lib.hid hX2
  clear hX hX2
  go_enter Tryz.func113, Tryz.ntmps113
  go_wp2_with (first | (go_at_call 118; refine (Mul64_any a b ha hb _).mono ?_; rintro e w' ⟨rfl, rfl⟩) | (go_at_call 119; refine (truth_any _ _).mono ?_; rintro e w' ⟨rfl, rfl⟩) | (go_at_call 117; refine (cdiv_56 a b ha hb _).mono ?_; rintro e w' ⟨rfl, rfl⟩))
  go_ret
  refine ⟨congrArg (fun x => Ending.returned (Value.int IntKind.u64 x)) ?_, rfl⟩
  rw [HX.out]
set_option maxHeartbeats 1000000 in
theorem full_57 (a b : Nat) (ha : a < 18446744073709551616) (hb : b < 18446744073709551616) (w : World) :
    Calls Tryz.prog 113 #[.int .i64 57, .int .u64 a, .int .u64 b] w fun e w' => e = .returned (.int .u64 (fullV 57 a b)) ∧ w' = w := by
  obtain ⟨X, hX⟩ : ∃ X : Int, X = fullV 57 a b := ⟨_, rfl⟩
  rw [← hX]
  have hX2 := hX
  rw [fullV_57] at hX2
  have HX := Lib.hid hX2
  clear hX hX2
  go_enter Tryz.func113, Tryz.ntmps113
  go_wp2_with (first | (go_at_call 118; refine (Mul64_any a b ha hb _).mono ?_; rintro e w' ⟨rfl, rfl⟩) | (go_at_call 119; refine (truth_any _ _).mono ?_; rintro e w' ⟨rfl, rfl⟩) | (go_at_call 117; refine (cdiv_57 a b ha hb _).mono ?_; rintro e w' ⟨rfl, rfl⟩))
  go_ret
  refine ⟨congrArg (fun x => Ending.returned (Value.int IntKind.u64 x)) ?_, rfl⟩
  rw [HX.out]
end Go.Proofs

/- cpu.word and patinaref03.narrow: the operations of 32 bits, operation by operation. -/
namespace Go.Pat
open Go Go.RowKit
def sxZ (z : Int) : Int := IntKind.u64.wrap (wrap64 (wrap32 z))
theorem wrap_u32' (z : Int) : IntKind.u32.wrap z = z % 4294967296 := by simp [IntKind.wrap, IntKind.bits, IntKind.signed]
theorem wrap_i32' (z : Int) : wrap32 z = (z + 2147483648) % 4294967296 - 2147483648 := by rw [wrap32]
theorem wrap64' (z : Int) : wrap64 z = (z + 9223372036854775808) % 18446744073709551616 - 9223372036854775808 := by rw [wrap64]
theorem sxZ_nat (n : Nat) (h : n < 4294967296) : sxZ (n : Int) = ((sx32 n : Nat) : Int) := by
  simp only [sxZ, wrap_i32', wrap64', IntKind.wrap_u64, sx32]
  split <;> omega
theorem sxZ_wrap (n : Nat) : sxZ (IntKind.u32.wrap (n : Int)) = ((sx32 (n % 4294967296) : Nat) : Int) := by
  rw [wrap_u32', show ((n : Int) % 4294967296) = ((n % 4294967296 : Nat) : Int) by omega, sxZ_nat _ (by omega)]
theorem sx32_lt (n : Nat) (h : n < 4294967296) : sx32 n < 18446744073709551616 := by
  simp only [sx32]; split <;> omega
theorem sx32_mod (n : Nat) (h : n < 4294967296) : sx32 n % 4294967296 = n := by
  simp only [sx32]; split <;> omega
theorem wrap64_sx (n : Nat) (h : n < 4294967296) : wrap64 ((sx32 n : Nat) : Int) = wrap32 (n : Int) := by
  simp only [wrap64', wrap_i32', sx32]
  split <;> omega
theorem wrapU32 (a : Nat) : IntKind.u32.wrap (a : Int) = ((a % 4294967296 : Nat) : Int) := by rw [wrap_u32']; omega
def fullN (op a b : Nat) : Nat := (fullV op a b).toNat
theorem fullN_is (op a b : Nat) (h : op = 35 ∨ op = 36 ∨ op = 37 ∨ op = 41 ∨ op = 42 ∨ op = 50 ∨ op = 54 ∨ op = 55 ∨ op = 56 ∨ op = 57) (ha : a < 18446744073709551616) : fullV op a b = ((fullN op a b : Nat) : Int) ∧ fullN op a b < 18446744073709551616 := by
  have key : 0 ≤ fullV op a b ∧ fullV op a b < 18446744073709551616 := by
    rcases h with rfl | rfl | rfl | rfl | rfl | rfl | rfl | rfl | rfl | rfl
    · rw [fullV_35, IntKind.wrap_u64]; omega
    · rw [fullV_36, IntKind.wrap_u64]; omega
    · rw [fullV_37, IntKind.wrap_u64]; generalize (a : Int) * 2 ^ (b % 64) = z; omega
    · rw [fullV_41]
      have := Nat.div_le_self a (2 ^ (b % 64))
      generalize a / 2 ^ (b % 64) = z at *
      omega
    · rw [fullV_42, IntKind.wrap_u64]; generalize (wrap64 (a : Int)).fdiv (2 ^ (b % 64)) = z; omega
    · rw [fullV_50]; generalize a * b = z; omega
    · rw [fullV_54]; simp only [divV, IntKind.wrap_u64]
      generalize wrap64 ((wrap64 (a : Int)).tdiv (wrap64 (b : Int))) = z
      split
      · omega
      · split <;> omega
    · rw [fullV_55]; simp only [divV, IntKind.wrap_u64]; generalize (a : Int) / (b : Int) = z; split <;> omega
    · rw [fullV_56]; simp only [divV, IntKind.wrap_u64]
      generalize (wrap64 (a : Int)).tmod (wrap64 (b : Int)) = z
      split
      · omega
      · split <;> omega
    · rw [fullV_57]; simp only [divV]
      split
      · omega
      · have h1 : (a : Int) % (b : Int) = ((a % b : Nat) : Int) := (Int.natCast_emod a b).symm
        have h2 := Nat.mod_le a b
        rw [h1]; generalize a % b = z at *; omega
  unfold fullN
  omega
def wordN (op x y : Nat) : Nat :=
  if op = 37 then sx32 (x * 2 ^ (y % 32) % 4294967296) else
  if op = 41 then sx32 (x / 2 ^ (y % 32)) else
  if op = 42 then sx32 (((wrap32 (x : Int)).fdiv (2 ^ (y % 32))) % 4294967296).toNat else
  if op = 54 then sx32 (fullN 54 (sx32 x) (sx32 y) % 4294967296) else
  if op = 56 then sx32 (fullN 56 (sx32 x) (sx32 y) % 4294967296) else
  sx32 (fullN op x y % 4294967296)
theorem wordN_37 (x y : Nat) : wordN 37 x y = sx32 (x * 2 ^ (y % 32) % 4294967296) := by
  unfold wordN; rw [if_pos rfl]
theorem wordN_41 (x y : Nat) : wordN 41 x y = sx32 (x / 2 ^ (y % 32)) := by
  unfold wordN; rw [if_neg (show ¬ 41 = 37 by decide), if_pos rfl]
theorem wordN_42 (x y : Nat) : wordN 42 x y = sx32 (((wrap32 (x : Int)).fdiv (2 ^ (y % 32))) % 4294967296).toNat := by
  unfold wordN; rw [if_neg (show ¬ 42 = 37 by decide), if_neg (show ¬ 42 = 41 by decide), if_pos rfl]
theorem wordN_54 (x y : Nat) : wordN 54 x y = sx32 (fullN 54 (sx32 x) (sx32 y) % 4294967296) := by
  unfold wordN; rw [if_neg (show ¬ 54 = 37 by decide), if_neg (show ¬ 54 = 41 by decide), if_neg (show ¬ 54 = 42 by decide), if_pos rfl]
theorem wordN_56 (x y : Nat) : wordN 56 x y = sx32 (fullN 56 (sx32 x) (sx32 y) % 4294967296) := by
  unfold wordN; rw [if_neg (show ¬ 56 = 37 by decide), if_neg (show ¬ 56 = 41 by decide), if_neg (show ¬ 56 = 42 by decide), if_neg (show ¬ 56 = 54 by decide), if_pos rfl]
theorem wordN_35 (x y : Nat) : wordN 35 x y = sx32 (fullN 35 x y % 4294967296) := by
  unfold wordN; rw [if_neg (show ¬ 35 = 37 by decide), if_neg (show ¬ 35 = 41 by decide), if_neg (show ¬ 35 = 42 by decide), if_neg (show ¬ 35 = 54 by decide), if_neg (show ¬ 35 = 56 by decide)]
theorem wordN_36 (x y : Nat) : wordN 36 x y = sx32 (fullN 36 x y % 4294967296) := by
  unfold wordN; rw [if_neg (show ¬ 36 = 37 by decide), if_neg (show ¬ 36 = 41 by decide), if_neg (show ¬ 36 = 42 by decide), if_neg (show ¬ 36 = 54 by decide), if_neg (show ¬ 36 = 56 by decide)]
theorem wordN_50 (x y : Nat) : wordN 50 x y = sx32 (fullN 50 x y % 4294967296) := by
  unfold wordN; rw [if_neg (show ¬ 50 = 37 by decide), if_neg (show ¬ 50 = 41 by decide), if_neg (show ¬ 50 = 42 by decide), if_neg (show ¬ 50 = 54 by decide), if_neg (show ¬ 50 = 56 by decide)]
theorem wordN_55 (x y : Nat) : wordN 55 x y = sx32 (fullN 55 x y % 4294967296) := by
  unfold wordN; rw [if_neg (show ¬ 55 = 37 by decide), if_neg (show ¬ 55 = 41 by decide), if_neg (show ¬ 55 = 42 by decide), if_neg (show ¬ 55 = 54 by decide), if_neg (show ¬ 55 = 56 by decide)]
theorem wordN_57 (x y : Nat) : wordN 57 x y = sx32 (fullN 57 x y % 4294967296) := by
  unfold wordN; rw [if_neg (show ¬ 57 = 37 by decide), if_neg (show ¬ 57 = 41 by decide), if_neg (show ¬ 57 = 42 by decide), if_neg (show ¬ 57 = 54 by decide), if_neg (show ¬ 57 = 56 by decide)]
theorem full_mod_35 (x y : Nat) (hx : x < 4294967296) (hy : y < 4294967296) : fullN 35 x y % 4294967296 = fullN 35 (sx32 x) (sx32 y) % 4294967296 := by
  unfold fullN; rw [fullV_35, fullV_35, IntKind.wrap_u64, IntKind.wrap_u64]; unfold sx32; split <;> split <;> omega
theorem full_mod_36 (x y : Nat) (hx : x < 4294967296) (hy : y < 4294967296) : fullN 36 x y % 4294967296 = fullN 36 (sx32 x) (sx32 y) % 4294967296 := by
  unfold fullN; rw [fullV_36, fullV_36, IntKind.wrap_u64, IntKind.wrap_u64]; unfold sx32; split <;> split <;> omega
theorem full_mod_50 (x y : Nat) (hx : x < 4294967296) (hy : y < 4294967296) : fullN 50 x y % 4294967296 = fullN 50 (sx32 x) (sx32 y) % 4294967296 := by
  have h1 : ∀ u v : Nat, fullN 50 u v = u * v % 18446744073709551616 := fun u v => by unfold fullN; rw [fullV_50, Int.toNat_natCast]
  have h2 : ∀ n : Nat, n % 18446744073709551616 % 4294967296 = n % 4294967296 := fun n => by omega
  rw [h1, h1, h2, h2, Nat.mul_mod (sx32 x), sx32_mod x hx, sx32_mod y hy]
theorem full_mod_37 (x _y s : Nat) (hx : x < 4294967296) (hs : s < 32) : x * 2 ^ s % 4294967296 = fullN 37 (sx32 x) s % 4294967296 := by
  have h1 : ∀ u : Nat, fullN 37 u s = u * 2 ^ s % 18446744073709551616 := fun u => by
    unfold fullN
    rw [fullV_37, IntKind.wrap_u64, Nat.mod_eq_of_lt (show s < 64 by omega), show ((u : Int) * 2 ^ s) = ((u * 2 ^ s : Nat) : Int) by rw [Int.natCast_mul, Int.natCast_pow]; rfl]
    omega
  have h2 : ∀ n : Nat, n % 18446744073709551616 % 4294967296 = n % 4294967296 := fun n => by omega
  rw [h1, h2, Nat.mul_mod (sx32 x), sx32_mod x hx, Nat.mul_mod x, Nat.mod_eq_of_lt hx]
theorem full_mod_42 (x s : Nat) (hx : x < 4294967296) (hs : s < 32) : ((((wrap32 (x : Int)).fdiv (2 ^ s)) % 4294967296).toNat) % 4294967296 = fullN 42 (sx32 x) s % 4294967296 := by
  unfold fullN
  rw [fullV_42, IntKind.wrap_u64, Nat.mod_eq_of_lt (show s < 64 by omega), wrap64_sx x hx]
  generalize (wrap32 (x : Int)).fdiv (2 ^ s) = z
  omega
theorem fullN_41 (x s : Nat) (_hx : x < 4294967296) (hs : s < 32) : fullN 41 x s = x / 2 ^ s := by
  unfold fullN; rw [fullV_41, Nat.mod_eq_of_lt (show s < 64 by omega), Int.toNat_natCast]
theorem eqI (a b : Nat) : ((a : Int) == (b : Int)) = decide (a = b) := by
  by_cases h : a = b
  · subst h; simp
  · rw [decide_eq_false h, beq_eq_false_iff_ne]; omega
theorem neI (a b : Nat) : ((a : Int) != (b : Int)) = !decide (a = b) := by rw [bne, eqI]
theorem toNat_mod_lt (z : Int) : (z % 4294967296).toNat < 4294967296 := by omega
theorem orHigh (v : Nat) (hv : v < 4294967296) : bits .or .u64 (v : Int) 18446744069414584320 = ((v + 18446744069414584320 : Nat) : Int) := by
  have h := bits_or_u64_nat v 18446744069414584320 (by omega) (by omega)
  have e : v ||| 18446744069414584320 = v + 18446744069414584320 := by
    have h1 := Nat.shiftLeft_add_eq_or_of_lt (a := 4294967295) (b := v) (i := 32) (by omega)
    rw [Nat.or_comm, show (18446744069414584320 : Nat) = 4294967295 <<< 32 by decide, ← h1]
    omega
  rw [e] at h
  exact h
end Go.Pat
namespace Go.Proofs
open Go Go.RowKit Go.Pat
theorem sign1_any (z : Int) (w : World) : Calls Tryz.prog 116 #[.int .u32 z] w fun e w' => e = .returned (.int .u64 (sxZ z)) ∧ w' = w := by
  go_enter Tryz.func116, Tryz.ntmps116
  go_wp2
  go_ret
  refine ⟨congrArg (fun z => Ending.returned (Value.int IntKind.u64 z)) ?_, rfl⟩
  rw [sxZ]
theorem sign1_nat (n : Nat) (h : n < 4294967296) (w : World) : Calls Tryz.prog 116 #[.int .u32 n] w fun e w' => e = .returned (.int .u64 ((sx32 n : Nat) : Int)) ∧ w' = w := by
  rw [← sxZ_nat n h]; exact sign1_any _ _
theorem sign1_wrap (n : Nat) (w : World) : Calls Tryz.prog 116 #[.int .u32 (IntKind.u32.wrap (n : Int))] w fun e w' => e = .returned (.int .u64 ((sx32 (n % 4294967296) : Nat) : Int)) ∧ w' = w := by
  rw [← sxZ_wrap n]; exact sign1_any _ _
set_option maxHeartbeats 1000000 in
theorem word_35 (x y : Nat) (hx : x < 4294967296) (hy : y < 4294967296) (w : World) :
    Calls Tryz.prog 112 #[.int .i64 35, .int .u32 x, .int .u32 y] w fun e w' => e = .returned (.int .u64 ((wordN 35 x y : Nat) : Int)) ∧ w' = w := by
  obtain ⟨hq, hql⟩ := fullN_is 35 x y (by omega) (by omega)
  obtain ⟨q, hqe⟩ : ∃ q, q = fullN 35 x y := ⟨_, rfl⟩
  rw [← hqe] at hq hql
  have hw : wordN 35 x y = sx32 (q % 4294967296) := by rw [hqe, wordN_35]
  have HX := Lib.hid hw
  have hc : ∀ W : World, Calls Tryz.prog 113 #[.int .i64 35, .int .u64 (x : Nat), .int .u64 (y : Nat)] W fun e w' => e = .returned (.int .u64 (q : Int)) ∧ w' = W := fun W => by rw [← hq]; exact full_35 x y (by omega) (by omega) W
  have HC := Lib.hid hc
  clear hq hw hqe hc
  go_enter Tryz.func112, Tryz.ntmps112
  go_wp2_with fail
  refine Calls.mono (HC.out _) ?_
  rintro e w' ⟨rfl, rfl⟩
  go_wp2_with fail
  refine Calls.mono (sign1_wrap q _) ?_
  rintro e w' ⟨rfl, rfl⟩
  go_wp2
  go_ret
  refine ⟨congrArg (fun z => Ending.returned (Value.int IntKind.u64 z)) ?_, rfl⟩
  rw [HX.out]
set_option maxHeartbeats 1000000 in
theorem word_36 (x y : Nat) (hx : x < 4294967296) (hy : y < 4294967296) (w : World) :
    Calls Tryz.prog 112 #[.int .i64 36, .int .u32 x, .int .u32 y] w fun e w' => e = .returned (.int .u64 ((wordN 36 x y : Nat) : Int)) ∧ w' = w := by
  obtain ⟨hq, hql⟩ := fullN_is 36 x y (by omega) (by omega)
  obtain ⟨q, hqe⟩ : ∃ q, q = fullN 36 x y := ⟨_, rfl⟩
  rw [← hqe] at hq hql
  have hw : wordN 36 x y = sx32 (q % 4294967296) := by rw [hqe, wordN_36]
  have HX := Lib.hid hw
  have hc : ∀ W : World, Calls Tryz.prog 113 #[.int .i64 36, .int .u64 (x : Nat), .int .u64 (y : Nat)] W fun e w' => e = .returned (.int .u64 (q : Int)) ∧ w' = W := fun W => by rw [← hq]; exact full_36 x y (by omega) (by omega) W
  have HC := Lib.hid hc
  clear hq hw hqe hc
  go_enter Tryz.func112, Tryz.ntmps112
  go_wp2_with fail
  refine Calls.mono (HC.out _) ?_
  rintro e w' ⟨rfl, rfl⟩
  go_wp2_with fail
  refine Calls.mono (sign1_wrap q _) ?_
  rintro e w' ⟨rfl, rfl⟩
  go_wp2
  go_ret
  refine ⟨congrArg (fun z => Ending.returned (Value.int IntKind.u64 z)) ?_, rfl⟩
  rw [HX.out]
set_option maxHeartbeats 1000000 in
theorem word_37 (x y : Nat) (_hx : x < 4294967296) (hy : y < 4294967296) (w : World) :
    Calls Tryz.prog 112 #[.int .i64 37, .int .u32 x, .int .u32 y] w fun e w' => e = .returned (.int .u64 ((wordN 37 x y : Nat) : Int)) ∧ w' = w := by
  have hsh := fun (W : World) => run_shl (P := Tryz.prog) .u32 .u32 (x : Int) _ (y % 32) (and31' y hy) (Nat.mod_lt _ (by decide)) W
  have hv : sxZ (IntKind.u32.wrap ((x : Int) * 2 ^ (y % 32))) = ((wordN 37 x y : Nat) : Int) := by rw [show ((x : Int) * 2 ^ (y % 32)) = ((x * 2 ^ (y % 32) : Nat) : Int) by rw [Int.natCast_mul, Int.natCast_pow]; rfl, sxZ_wrap, wordN_37]
  have HX := Lib.hid hv
  clear hv
  go_enter Tryz.func112, Tryz.ntmps112
  go_wp2_with fail
  refine Calls.mono (sign1_any _ _) ?_
  rintro e w' ⟨rfl, rfl⟩
  go_wp2
  go_ret
  refine ⟨congrArg (fun z => Ending.returned (Value.int IntKind.u64 z)) ?_, rfl⟩
  rw [← wrap_u32', HX.out]
set_option maxHeartbeats 1000000 in
theorem word_41 (x y : Nat) (hx : x < 4294967296) (hy : y < 4294967296) (w : World) :
    Calls Tryz.prog 112 #[.int .i64 41, .int .u32 x, .int .u32 y] w fun e w' => e = .returned (.int .u64 ((wordN 41 x y : Nat) : Int)) ∧ w' = w := by
  have hsh := fun (W : World) => run_shr (P := Tryz.prog) .u32 .u32 (x : Int) _ (y % 32) (and31' y hy) (Nat.mod_lt _ (by decide)) W
  have hv : sxZ ((x : Int).fdiv (2 ^ (y % 32))) = ((wordN 41 x y : Nat) : Int) := by rw [fdiv_nat, sxZ_nat _ (Nat.lt_of_le_of_lt (Nat.div_le_self _ _) hx), wordN_41]
  have HX := Lib.hid hv
  clear hv
  go_enter Tryz.func112, Tryz.ntmps112
  go_wp2_with fail
  refine Calls.mono (sign1_any _ _) ?_
  rintro e w' ⟨rfl, rfl⟩
  go_wp2
  go_ret
  refine ⟨congrArg (fun z => Ending.returned (Value.int IntKind.u64 z)) ?_, rfl⟩
  rw [HX.out]
set_option maxHeartbeats 1000000 in
theorem word_42 (x y : Nat) (_hx : x < 4294967296) (hy : y < 4294967296) (w : World) :
    Calls Tryz.prog 112 #[.int .i64 42, .int .u32 x, .int .u32 y] w fun e w' => e = .returned (.int .u64 ((wordN 42 x y : Nat) : Int)) ∧ w' = w := by
  have hsh := fun (W : World) => run_shr (P := Tryz.prog) .i32 .u32 (wrap32 (x : Int)) _ (y % 32) (and31' y hy) (Nat.mod_lt _ (by decide)) W
  have hv : sxZ (IntKind.u32.wrap ((wrap32 (x : Int)).fdiv (2 ^ (y % 32)))) = ((wordN 42 x y : Nat) : Int) := by rw [wordN_42, wrap_u32', ← sxZ_nat _ (by omega), Int.toNat_of_nonneg (by omega)]
  have HX := Lib.hid hv
  clear hv
  go_enter Tryz.func112, Tryz.ntmps112
  go_wp2_with fail
  refine Calls.mono (sign1_any _ _) ?_
  rintro e w' ⟨rfl, rfl⟩
  go_wp2
  go_ret
  refine ⟨congrArg (fun z => Ending.returned (Value.int IntKind.u64 z)) ?_, rfl⟩
  rw [← wrap_u32', HX.out]
set_option maxHeartbeats 1000000 in
theorem word_50 (x y : Nat) (hx : x < 4294967296) (hy : y < 4294967296) (w : World) :
    Calls Tryz.prog 112 #[.int .i64 50, .int .u32 x, .int .u32 y] w fun e w' => e = .returned (.int .u64 ((wordN 50 x y : Nat) : Int)) ∧ w' = w := by
  obtain ⟨hq, hql⟩ := fullN_is 50 x y (by omega) (by omega)
  obtain ⟨q, hqe⟩ : ∃ q, q = fullN 50 x y := ⟨_, rfl⟩
  rw [← hqe] at hq hql
  have hw : wordN 50 x y = sx32 (q % 4294967296) := by rw [hqe, wordN_50]
  have HX := Lib.hid hw
  have hc : ∀ W : World, Calls Tryz.prog 113 #[.int .i64 50, .int .u64 (x : Nat), .int .u64 (y : Nat)] W fun e w' => e = .returned (.int .u64 (q : Int)) ∧ w' = W := fun W => by rw [← hq]; exact full_50 x y (by omega) (by omega) W
  have HC := Lib.hid hc
  clear hq hw hqe hc
  go_enter Tryz.func112, Tryz.ntmps112
  go_wp2_with fail
  refine Calls.mono (HC.out _) ?_
  rintro e w' ⟨rfl, rfl⟩
  go_wp2_with fail
  refine Calls.mono (sign1_wrap q _) ?_
  rintro e w' ⟨rfl, rfl⟩
  go_wp2
  go_ret
  refine ⟨congrArg (fun z => Ending.returned (Value.int IntKind.u64 z)) ?_, rfl⟩
  rw [HX.out]
set_option maxHeartbeats 1000000 in
theorem word_54 (x y : Nat) (hx : x < 4294967296) (hy : y < 4294967296) (w : World) :
    Calls Tryz.prog 112 #[.int .i64 54, .int .u32 x, .int .u32 y] w fun e w' => e = .returned (.int .u64 ((wordN 54 x y : Nat) : Int)) ∧ w' = w := by
  obtain ⟨hq, hql⟩ := fullN_is 54 (sx32 x) (sx32 y) (by omega) (sx32_lt x hx)
  obtain ⟨q, hqe⟩ : ∃ q, q = fullN 54 (sx32 x) (sx32 y) := ⟨_, rfl⟩
  rw [← hqe] at hq hql
  have hw : wordN 54 x y = sx32 (q % 4294967296) := by rw [hqe, wordN_54]
  have HX := Lib.hid hw
  have hc : ∀ W : World, Calls Tryz.prog 117 #[.int .i64 54, .int .u64 ((sx32 x) : Nat), .int .u64 ((sx32 y) : Nat)] W fun e w' => e = .returned (.int .u64 (q : Int)) ∧ w' = W := fun W => by rw [← hq, fullV_54]; exact cdiv_54 (sx32 x) (sx32 y) (sx32_lt x hx) (sx32_lt y hy) W
  have HC := Lib.hid hc
  clear hq hw hqe hc
  go_enter Tryz.func112, Tryz.ntmps112
  go_wp2_with fail
  refine Calls.mono (sign1_nat x hx _) ?_
  rintro e w' ⟨rfl, rfl⟩
  go_wp2_with fail
  refine Calls.mono (sign1_nat y hy _) ?_
  rintro e w' ⟨rfl, rfl⟩
  go_wp2_with fail
  refine Calls.mono (HC.out _) ?_
  rintro e w' ⟨rfl, rfl⟩
  go_wp2_with fail
  refine Calls.mono (sign1_wrap q _) ?_
  rintro e w' ⟨rfl, rfl⟩
  go_wp2
  go_ret
  refine ⟨congrArg (fun z => Ending.returned (Value.int IntKind.u64 z)) ?_, rfl⟩
  rw [HX.out]
set_option maxHeartbeats 1000000 in
theorem word_55 (x y : Nat) (hx : x < 4294967296) (hy : y < 4294967296) (w : World) :
    Calls Tryz.prog 112 #[.int .i64 55, .int .u32 x, .int .u32 y] w fun e w' => e = .returned (.int .u64 ((wordN 55 x y : Nat) : Int)) ∧ w' = w := by
  obtain ⟨hq, hql⟩ := fullN_is 55 x y (by omega) (by omega)
  obtain ⟨q, hqe⟩ : ∃ q, q = fullN 55 x y := ⟨_, rfl⟩
  rw [← hqe] at hq hql
  have hw : wordN 55 x y = sx32 (q % 4294967296) := by rw [hqe, wordN_55]
  have HX := Lib.hid hw
  have hc : ∀ W : World, Calls Tryz.prog 117 #[.int .i64 55, .int .u64 (x : Nat), .int .u64 (y : Nat)] W fun e w' => e = .returned (.int .u64 (q : Int)) ∧ w' = W := fun W => by rw [← hq, fullV_55]; exact cdiv_55 x y (by omega) (by omega) W
  have HC := Lib.hid hc
  clear hq hw hqe hc
  go_enter Tryz.func112, Tryz.ntmps112
  go_wp2_with fail
  refine Calls.mono (HC.out _) ?_
  rintro e w' ⟨rfl, rfl⟩
  go_wp2_with fail
  refine Calls.mono (sign1_wrap q _) ?_
  rintro e w' ⟨rfl, rfl⟩
  go_wp2
  go_ret
  refine ⟨congrArg (fun z => Ending.returned (Value.int IntKind.u64 z)) ?_, rfl⟩
  rw [HX.out]
set_option maxHeartbeats 1000000 in
theorem word_56 (x y : Nat) (hx : x < 4294967296) (hy : y < 4294967296) (w : World) :
    Calls Tryz.prog 112 #[.int .i64 56, .int .u32 x, .int .u32 y] w fun e w' => e = .returned (.int .u64 ((wordN 56 x y : Nat) : Int)) ∧ w' = w := by
  obtain ⟨hq, hql⟩ := fullN_is 56 (sx32 x) (sx32 y) (by omega) (sx32_lt x hx)
  obtain ⟨q, hqe⟩ : ∃ q, q = fullN 56 (sx32 x) (sx32 y) := ⟨_, rfl⟩
  rw [← hqe] at hq hql
  have hw : wordN 56 x y = sx32 (q % 4294967296) := by rw [hqe, wordN_56]
  have HX := Lib.hid hw
  have hc : ∀ W : World, Calls Tryz.prog 117 #[.int .i64 56, .int .u64 ((sx32 x) : Nat), .int .u64 ((sx32 y) : Nat)] W fun e w' => e = .returned (.int .u64 (q : Int)) ∧ w' = W := fun W => by rw [← hq, fullV_56]; exact cdiv_56 (sx32 x) (sx32 y) (sx32_lt x hx) (sx32_lt y hy) W
  have HC := Lib.hid hc
  clear hq hw hqe hc
  go_enter Tryz.func112, Tryz.ntmps112
  go_wp2_with fail
  refine Calls.mono (sign1_nat x hx _) ?_
  rintro e w' ⟨rfl, rfl⟩
  go_wp2_with fail
  refine Calls.mono (sign1_nat y hy _) ?_
  rintro e w' ⟨rfl, rfl⟩
  go_wp2_with fail
  refine Calls.mono (HC.out _) ?_
  rintro e w' ⟨rfl, rfl⟩
  go_wp2_with fail
  refine Calls.mono (sign1_wrap q _) ?_
  rintro e w' ⟨rfl, rfl⟩
  go_wp2
  go_ret
  refine ⟨congrArg (fun z => Ending.returned (Value.int IntKind.u64 z)) ?_, rfl⟩
  rw [HX.out]
set_option maxHeartbeats 1000000 in
theorem word_57 (x y : Nat) (hx : x < 4294967296) (hy : y < 4294967296) (w : World) :
    Calls Tryz.prog 112 #[.int .i64 57, .int .u32 x, .int .u32 y] w fun e w' => e = .returned (.int .u64 ((wordN 57 x y : Nat) : Int)) ∧ w' = w := by
  obtain ⟨hq, hql⟩ := fullN_is 57 x y (by omega) (by omega)
  obtain ⟨q, hqe⟩ : ∃ q, q = fullN 57 x y := ⟨_, rfl⟩
  rw [← hqe] at hq hql
  have hw : wordN 57 x y = sx32 (q % 4294967296) := by rw [hqe, wordN_57]
  have HX := Lib.hid hw
  have hc : ∀ W : World, Calls Tryz.prog 117 #[.int .i64 57, .int .u64 (x : Nat), .int .u64 (y : Nat)] W fun e w' => e = .returned (.int .u64 (q : Int)) ∧ w' = W := fun W => by rw [← hq, fullV_57]; exact cdiv_57 x y (by omega) (by omega) W
  have HC := Lib.hid hc
  clear hq hw hqe hc
  go_enter Tryz.func112, Tryz.ntmps112
  go_wp2_with fail
  refine Calls.mono (HC.out _) ?_
  rintro e w' ⟨rfl, rfl⟩
  go_wp2_with fail
  refine Calls.mono (sign1_wrap q _) ?_
  rintro e w' ⟨rfl, rfl⟩
  go_wp2
  go_ret
  refine ⟨congrArg (fun z => Ending.returned (Value.int IntKind.u64 z)) ?_, rfl⟩
  rw [HX.out]
end Go.Proofs

/- What a word says: patina/rv.Decode as a function of the word; and what an instruction does: a step of a machine. Plain: no program in sight. -/
namespace Go.Pat
open Go Go.RowKit
/-- the operations' rows: form, opcode, the two fixed fields. -/
def rowsT : List (Nat × Nat × Nat × Nat) := [(0, 0, 0, 0), (85, 55, 0, 0), (85, 23, 0, 0), (74, 111, 0, 0), (73, 103, 0, 0), (66, 99, 0, 0), (66, 99, 1, 0), (66, 99, 4, 0), (66, 99, 5, 0), (66, 99, 6, 0), (66, 99, 7, 0), (73, 3, 0, 0), (73, 3, 1, 0), (73, 3, 2, 0), (73, 3, 3, 0), (73, 3, 4, 0), (73, 3, 5, 0), (73, 3, 6, 0), (83, 35, 0, 0), (83, 35, 1, 0), (83, 35, 2, 0), (83, 35, 3, 0), (73, 19, 0, 0), (73, 19, 2, 0), (73, 19, 3, 0), (73, 19, 4, 0), (73, 19, 6, 0), (73, 19, 7, 0), (72, 19, 1, 0), (72, 19, 5, 0), (72, 19, 5, 32), (73, 27, 0, 0), (72, 27, 1, 0), (72, 27, 5, 0), (72, 27, 5, 32), (82, 51, 0, 0), (82, 51, 0, 32), (82, 51, 1, 0), (82, 51, 2, 0), (82, 51, 3, 0), (82, 51, 4, 0), (82, 51, 5, 0), (82, 51, 5, 32), (82, 51, 6, 0), (82, 51, 7, 0), (82, 59, 0, 0), (82, 59, 0, 32), (82, 59, 1, 0), (82, 59, 5, 0), (82, 59, 5, 32), (82, 51, 0, 1), (82, 51, 1, 1), (82, 51, 2, 1), (82, 51, 3, 1), (82, 51, 4, 1), (82, 51, 5, 1), (82, 51, 6, 1), (82, 51, 7, 1), (82, 59, 0, 1), (82, 59, 4, 1), (82, 59, 5, 1), (82, 59, 6, 1), (82, 59, 7, 1), (78, 15, 0, 0), (78, 115, 0, 0), (78, 1048691, 0, 0)]
def rvRow (op : Nat) : Nat × Nat × Nat × Nat := rowsT.getD op (0, 0, 0, 0)
def fitsE (f oc f3 w : Nat) : Bool := decide (w % 128 = oc) && ((decide (f = 85) || decide (f = 74)) || decide (w / 4096 % 8 = f3))
/-- does a word have the fixed bits of a row? -/
def fitsB (f oc f3 f7 w : Nat) : Bool :=
  if f = 78 then decide (w = oc)
  else if f = 72 then (if oc = 27 then decide (w / 33554432 = f7) else decide (w / 67108864 * 2 = f7)) && fitsE f oc f3 w
  else if f = 82 then decide (w / 33554432 = f7) && fitsE f oc f3 w
  else fitsE f oc f3 w
def fitsR (op w : Nat) : Bool := fitsB (rvRow op).1 (rvRow op).2.1 (rvRow op).2.2.1 (rvRow op).2.2.2 w
def decGo (w : Nat) : Nat → Nat → Option Nat
  | 0, _ => none
  | k + 1, op => if fitsR op w then some op else decGo w k (op + 1)
def bitsN (n frm count at_ : Nat) : Nat := n / 2 ^ frm % 2 ^ count * 2 ^ at_ % 4294967296
/-- a number of so many bits with its sign. -/
def sgn (n count : Nat) : Int := if n % 2 ^ count < 2 ^ (count - 1) then (n % 2 ^ count : Nat) else ((n % 2 ^ count : Nat) : Int) - 2 ^ count
def immV (f w : Nat) : Int :=
  if f = 73 then sgn (w / 1048576) 12
  else if f = 72 then ((w / 1048576 % 64 : Nat) : Int)
  else if f = 83 then sgn (bitsN w 7 5 0 ||| bitsN w 25 7 5) 12
  else if f = 66 then sgn (bitsN w 7 1 11 ||| bitsN w 8 4 1 ||| bitsN w 25 6 5 ||| bitsN w 31 1 12) 13
  else if f = 85 then sgn (w / 4096) 20
  else if f = 74 then sgn (bitsN w 12 8 12 ||| bitsN w 20 1 11 ||| bitsN w 21 10 1 ||| bitsN w 31 1 20) 21
  else 0
def hasD (f : Nat) : Bool := decide (f = 82) || decide (f = 73) || decide (f = 72) || decide (f = 85) || decide (f = 74)
def has1 (f : Nat) : Bool := decide (f = 82) || decide (f = 73) || decide (f = 72) || decide (f = 66) || decide (f = 83)
def has2 (f : Nat) : Bool := decide (f = 82) || decide (f = 66) || decide (f = 83)
structure Ins where
  op : Nat
  rd : Nat
  rs1 : Nat
  rs2 : Nat
  imm : Int
def insOf (op w : Nat) : Ins :=
  ⟨op, if hasD (rvRow op).1 then w / 128 % 32 else 0, if has1 (rvRow op).1 then w / 32768 % 32 else 0, if has2 (rvRow op).1 then w / 1048576 % 32 else 0, immV (rvRow op).1 w⟩
/-- a word's instruction, if it has one. -/
def decR (w : Nat) : Option Ins := (decGo w 65 1).map fun op => insOf op w
theorem decGo_some {w : Nat} : ∀ (k o op : Nat), decGo w k o = some op → o ≤ op ∧ op < o + k
  | 0, _, _, h => by simp [decGo] at h
  | k + 1, o, op, h => by
    unfold decGo at h
    split at h
    · obtain rfl := Option.some.inj h; omega
    · have := decGo_some k (o + 1) op h; omega
theorem decR_some {w : Nat} {i : Ins} (h : decR w = some i) : 1 ≤ i.op ∧ i.op ≤ 65 ∧ i.rd < 32 ∧ i.rs1 < 32 ∧ i.rs2 < 32 := by
  unfold decR at h
  obtain ⟨op, h1, rfl⟩ := Option.map_eq_some_iff.1 h
  have := decGo_some 65 1 op h1
  simp only [insOf]
  refine ⟨this.1, by omega, ?_, ?_, ?_⟩ <;> split <;> omega
end Go.Pat

/- cpu.Alu, cpu.Taken, patinaref03.Alu and patinaref03.Taken: the same values at every operation. -/
namespace Go.Pat
open Go Go.RowKit
def pOf (op : Nat) : Nat :=
  match op with
  | 22 => 35
  | 23 => 38
  | 24 => 39
  | 25 => 40
  | 26 => 43
  | 27 => 44
  | 28 => 37
  | 29 => 41
  | 30 => 42
  | 31 => 35
  | 32 => 37
  | 33 => 41
  | 34 => 42
  | 45 => 35
  | 46 => 36
  | 47 => 37
  | 48 => 41
  | 49 => 42
  | 58 => 50
  | 59 => 54
  | 60 => 55
  | 61 => 56
  | 62 => 57
  | op => op
def halfOf (op : Nat) : Bool :=
  match op with
  | 31 => true
  | 32 => true
  | 33 => true
  | 34 => true
  | 45 => true
  | 46 => true
  | 47 => true
  | 48 => true
  | 49 => true
  | 58 => true
  | 59 => true
  | 60 => true
  | 61 => true
  | 62 => true
  | _ => false
theorem modN32 (a : Nat) : (a : Int) % 4294967296 = ((a % 4294967296 : Nat) : Int) := by omega
theorem ops_list (op : Nat) (h1 : 22 ≤ op) (h2 : op ≤ 62) : op = 22 ∨ op = 23 ∨ op = 24 ∨ op = 25 ∨ op = 26 ∨ op = 27 ∨ op = 28 ∨ op = 29 ∨ op = 30 ∨ op = 31 ∨ op = 32 ∨ op = 33 ∨ op = 34 ∨ op = 35 ∨ op = 36 ∨ op = 37 ∨ op = 38 ∨ op = 39 ∨ op = 40 ∨ op = 41 ∨ op = 42 ∨ op = 43 ∨ op = 44 ∨ op = 45 ∨ op = 46 ∨ op = 47 ∨ op = 48 ∨ op = 49 ∨ op = 50 ∨ op = 51 ∨ op = 52 ∨ op = 53 ∨ op = 54 ∨ op = 55 ∨ op = 56 ∨ op = 57 ∨ op = 58 ∨ op = 59 ∨ op = 60 ∨ op = 61 ∨ op = 62 := by omega
theorem pOf_half (op : Nat) (h1 : 22 ≤ op) (h2 : op ≤ 62) (hh : halfOf op = true) : ∃ p, pOf op = p ∧ (p = 35 ∨ p = 36 ∨ p = 37 ∨ p = 41 ∨ p = 42 ∨ p = 50 ∨ p = 54 ∨ p = 55 ∨ p = 56 ∨ p = 57) := by
  refine ⟨_, rfl, ?_⟩
  rcases ops_list op h1 h2 with rfl | rfl | rfl | rfl | rfl | rfl | rfl | rfl | rfl | rfl | rfl | rfl | rfl | rfl | rfl | rfl | rfl | rfl | rfl | rfl | rfl | rfl | rfl | rfl | rfl | rfl | rfl | rfl | rfl | rfl | rfl | rfl | rfl | rfl | rfl | rfl | rfl | rfl | rfl | rfl | rfl <;> first | decide | (exfalso; revert hh; decide)
theorem pOf_full (op : Nat) (h1 : 22 ≤ op) (h2 : op ≤ 62) (hh : halfOf op = false) : ∃ p, pOf op = p ∧ (p = 35 ∨ p = 36 ∨ p = 37 ∨ p = 38 ∨ p = 39 ∨ p = 40 ∨ p = 41 ∨ p = 42 ∨ p = 43 ∨ p = 44 ∨ p = 50 ∨ p = 51 ∨ p = 52 ∨ p = 53 ∨ p = 54 ∨ p = 55 ∨ p = 56 ∨ p = 57) := by
  refine ⟨_, rfl, ?_⟩
  rcases ops_list op h1 h2 with rfl | rfl | rfl | rfl | rfl | rfl | rfl | rfl | rfl | rfl | rfl | rfl | rfl | rfl | rfl | rfl | rfl | rfl | rfl | rfl | rfl | rfl | rfl | rfl | rfl | rfl | rfl | rfl | rfl | rfl | rfl | rfl | rfl | rfl | rfl | rfl | rfl | rfl | rfl | rfl | rfl <;> first | decide | (exfalso; revert hh; decide)
/-- what an operation makes of two numbers. -/
def aluV (op a b : Nat) : Int := if halfOf op then ((wordN (pOf op) (a % 4294967296) (b % 4294967296) : Nat) : Int) else fullV (pOf op) a b
/-- whether a branch is taken. -/
def takenV (op : Int) (a b : Nat) : Bool × Int :=
  if op = 5 then (decide (a = b), 0) else if op = 6 then (!decide (a = b), 0) else if op = 7 then (decide (wrap64 (a : Int) < wrap64 (b : Int)), 0)
  else if op = 8 then (decide (wrap64 (b : Int) ≤ wrap64 (a : Int)), 0) else if op = 9 then (decide (a < b), 0) else if op = 10 then (decide (b ≤ a), 0) else (false, 1)
end Go.Pat
namespace Go.Proofs
open Go Go.RowKit Go.Pat
theorem word_any (p x y : Nat) (hp : p = 35 ∨ p = 36 ∨ p = 37 ∨ p = 41 ∨ p = 42 ∨ p = 50 ∨ p = 54 ∨ p = 55 ∨ p = 56 ∨ p = 57) (hx : x < 4294967296) (hy : y < 4294967296) (w : World) :
    Calls Tryz.prog 112 #[.int .i64 (p : Int), .int .u32 x, .int .u32 y] w fun e w' => e = .returned (.int .u64 ((wordN p x y : Nat) : Int)) ∧ w' = w := by
  rcases hp with rfl | rfl | rfl | rfl | rfl | rfl | rfl | rfl | rfl | rfl
  · exact word_35 x y hx hy w
  · exact word_36 x y hx hy w
  · exact word_37 x y hx hy w
  · exact word_41 x y hx hy w
  · exact word_42 x y hx hy w
  · exact word_50 x y hx hy w
  · exact word_54 x y hx hy w
  · exact word_55 x y hx hy w
  · exact word_56 x y hx hy w
  · exact word_57 x y hx hy w
theorem full_any (p a b : Nat) (hp : p = 35 ∨ p = 36 ∨ p = 37 ∨ p = 38 ∨ p = 39 ∨ p = 40 ∨ p = 41 ∨ p = 42 ∨ p = 43 ∨ p = 44 ∨ p = 50 ∨ p = 51 ∨ p = 52 ∨ p = 53 ∨ p = 54 ∨ p = 55 ∨ p = 56 ∨ p = 57) (ha : a < 18446744073709551616) (hb : b < 18446744073709551616) (w : World) :
    Calls Tryz.prog 113 #[.int .i64 (p : Int), .int .u64 a, .int .u64 b] w fun e w' => e = .returned (.int .u64 (fullV p a b)) ∧ w' = w := by
  rcases hp with rfl | rfl | rfl | rfl | rfl | rfl | rfl | rfl | rfl | rfl | rfl | rfl | rfl | rfl | rfl | rfl | rfl | rfl
  · exact full_35 a b ha hb w
  · exact full_36 a b ha hb w
  · exact full_37 a b ha hb w
  · exact full_38 a b ha hb w
  · exact full_39 a b ha hb w
  · exact full_40 a b ha hb w
  · exact full_41 a b ha hb w
  · exact full_42 a b ha hb w
  · exact full_43 a b ha hb w
  · exact full_44 a b ha hb w
  · exact full_50 a b ha hb w
  · exact full_51 a b ha hb w
  · exact full_52 a b ha hb w
  · exact full_53 a b ha hb w
  · exact full_54 a b ha hb w
  · exact full_55 a b ha hb w
  · exact full_56 a b ha hb w
  · exact full_57 a b ha hb w
theorem plain_22 (w : World) : Calls Tryz.prog 111 #[.int .i64 22] w fun e w' => e = .returned (.tuple #[.int .i64 35, .bool false]) ∧ w' = w := by
  go_enter Tryz.func111, Tryz.ntmps111
  go_wp2
  go_ret2
  exact ⟨rfl, rfl⟩
theorem plain_23 (w : World) : Calls Tryz.prog 111 #[.int .i64 23] w fun e w' => e = .returned (.tuple #[.int .i64 38, .bool false]) ∧ w' = w := by
  go_enter Tryz.func111, Tryz.ntmps111
  go_wp2
  go_ret2
  exact ⟨rfl, rfl⟩
theorem plain_24 (w : World) : Calls Tryz.prog 111 #[.int .i64 24] w fun e w' => e = .returned (.tuple #[.int .i64 39, .bool false]) ∧ w' = w := by
  go_enter Tryz.func111, Tryz.ntmps111
  go_wp2
  go_ret2
  exact ⟨rfl, rfl⟩
theorem plain_25 (w : World) : Calls Tryz.prog 111 #[.int .i64 25] w fun e w' => e = .returned (.tuple #[.int .i64 40, .bool false]) ∧ w' = w := by
  go_enter Tryz.func111, Tryz.ntmps111
  go_wp2
  go_ret2
  exact ⟨rfl, rfl⟩
theorem plain_26 (w : World) : Calls Tryz.prog 111 #[.int .i64 26] w fun e w' => e = .returned (.tuple #[.int .i64 43, .bool false]) ∧ w' = w := by
  go_enter Tryz.func111, Tryz.ntmps111
  go_wp2
  go_ret2
  exact ⟨rfl, rfl⟩
theorem plain_27 (w : World) : Calls Tryz.prog 111 #[.int .i64 27] w fun e w' => e = .returned (.tuple #[.int .i64 44, .bool false]) ∧ w' = w := by
  go_enter Tryz.func111, Tryz.ntmps111
  go_wp2
  go_ret2
  exact ⟨rfl, rfl⟩
theorem plain_28 (w : World) : Calls Tryz.prog 111 #[.int .i64 28] w fun e w' => e = .returned (.tuple #[.int .i64 37, .bool false]) ∧ w' = w := by
  go_enter Tryz.func111, Tryz.ntmps111
  go_wp2
  go_ret2
  exact ⟨rfl, rfl⟩
theorem plain_29 (w : World) : Calls Tryz.prog 111 #[.int .i64 29] w fun e w' => e = .returned (.tuple #[.int .i64 41, .bool false]) ∧ w' = w := by
  go_enter Tryz.func111, Tryz.ntmps111
  go_wp2
  go_ret2
  exact ⟨rfl, rfl⟩
theorem plain_30 (w : World) : Calls Tryz.prog 111 #[.int .i64 30] w fun e w' => e = .returned (.tuple #[.int .i64 42, .bool false]) ∧ w' = w := by
  go_enter Tryz.func111, Tryz.ntmps111
  go_wp2
  go_ret2
  exact ⟨rfl, rfl⟩
theorem plain_31 (w : World) : Calls Tryz.prog 111 #[.int .i64 31] w fun e w' => e = .returned (.tuple #[.int .i64 35, .bool true]) ∧ w' = w := by
  go_enter Tryz.func111, Tryz.ntmps111
  go_wp2
  go_ret2
  exact ⟨rfl, rfl⟩
theorem plain_32 (w : World) : Calls Tryz.prog 111 #[.int .i64 32] w fun e w' => e = .returned (.tuple #[.int .i64 37, .bool true]) ∧ w' = w := by
  go_enter Tryz.func111, Tryz.ntmps111
  go_wp2
  go_ret2
  exact ⟨rfl, rfl⟩
theorem plain_33 (w : World) : Calls Tryz.prog 111 #[.int .i64 33] w fun e w' => e = .returned (.tuple #[.int .i64 41, .bool true]) ∧ w' = w := by
  go_enter Tryz.func111, Tryz.ntmps111
  go_wp2
  go_ret2
  exact ⟨rfl, rfl⟩
theorem plain_34 (w : World) : Calls Tryz.prog 111 #[.int .i64 34] w fun e w' => e = .returned (.tuple #[.int .i64 42, .bool true]) ∧ w' = w := by
  go_enter Tryz.func111, Tryz.ntmps111
  go_wp2
  go_ret2
  exact ⟨rfl, rfl⟩
theorem plain_35 (w : World) : Calls Tryz.prog 111 #[.int .i64 35] w fun e w' => e = .returned (.tuple #[.int .i64 35, .bool false]) ∧ w' = w := by
  go_enter Tryz.func111, Tryz.ntmps111
  go_wp2
  go_ret2
  exact ⟨rfl, rfl⟩
theorem plain_36 (w : World) : Calls Tryz.prog 111 #[.int .i64 36] w fun e w' => e = .returned (.tuple #[.int .i64 36, .bool false]) ∧ w' = w := by
  go_enter Tryz.func111, Tryz.ntmps111
  go_wp2
  go_ret2
  exact ⟨rfl, rfl⟩
theorem plain_37 (w : World) : Calls Tryz.prog 111 #[.int .i64 37] w fun e w' => e = .returned (.tuple #[.int .i64 37, .bool false]) ∧ w' = w := by
  go_enter Tryz.func111, Tryz.ntmps111
  go_wp2
  go_ret2
  exact ⟨rfl, rfl⟩
theorem plain_38 (w : World) : Calls Tryz.prog 111 #[.int .i64 38] w fun e w' => e = .returned (.tuple #[.int .i64 38, .bool false]) ∧ w' = w := by
  go_enter Tryz.func111, Tryz.ntmps111
  go_wp2
  go_ret2
  exact ⟨rfl, rfl⟩
theorem plain_39 (w : World) : Calls Tryz.prog 111 #[.int .i64 39] w fun e w' => e = .returned (.tuple #[.int .i64 39, .bool false]) ∧ w' = w := by
  go_enter Tryz.func111, Tryz.ntmps111
  go_wp2
  go_ret2
  exact ⟨rfl, rfl⟩
theorem plain_40 (w : World) : Calls Tryz.prog 111 #[.int .i64 40] w fun e w' => e = .returned (.tuple #[.int .i64 40, .bool false]) ∧ w' = w := by
  go_enter Tryz.func111, Tryz.ntmps111
  go_wp2
  go_ret2
  exact ⟨rfl, rfl⟩
theorem plain_41 (w : World) : Calls Tryz.prog 111 #[.int .i64 41] w fun e w' => e = .returned (.tuple #[.int .i64 41, .bool false]) ∧ w' = w := by
  go_enter Tryz.func111, Tryz.ntmps111
  go_wp2
  go_ret2
  exact ⟨rfl, rfl⟩
theorem plain_42 (w : World) : Calls Tryz.prog 111 #[.int .i64 42] w fun e w' => e = .returned (.tuple #[.int .i64 42, .bool false]) ∧ w' = w := by
  go_enter Tryz.func111, Tryz.ntmps111
  go_wp2
  go_ret2
  exact ⟨rfl, rfl⟩
theorem plain_43 (w : World) : Calls Tryz.prog 111 #[.int .i64 43] w fun e w' => e = .returned (.tuple #[.int .i64 43, .bool false]) ∧ w' = w := by
  go_enter Tryz.func111, Tryz.ntmps111
  go_wp2
  go_ret2
  exact ⟨rfl, rfl⟩
theorem plain_44 (w : World) : Calls Tryz.prog 111 #[.int .i64 44] w fun e w' => e = .returned (.tuple #[.int .i64 44, .bool false]) ∧ w' = w := by
  go_enter Tryz.func111, Tryz.ntmps111
  go_wp2
  go_ret2
  exact ⟨rfl, rfl⟩
theorem plain_45 (w : World) : Calls Tryz.prog 111 #[.int .i64 45] w fun e w' => e = .returned (.tuple #[.int .i64 35, .bool true]) ∧ w' = w := by
  go_enter Tryz.func111, Tryz.ntmps111
  go_wp2
  go_ret2
  exact ⟨rfl, rfl⟩
theorem plain_46 (w : World) : Calls Tryz.prog 111 #[.int .i64 46] w fun e w' => e = .returned (.tuple #[.int .i64 36, .bool true]) ∧ w' = w := by
  go_enter Tryz.func111, Tryz.ntmps111
  go_wp2
  go_ret2
  exact ⟨rfl, rfl⟩
theorem plain_47 (w : World) : Calls Tryz.prog 111 #[.int .i64 47] w fun e w' => e = .returned (.tuple #[.int .i64 37, .bool true]) ∧ w' = w := by
  go_enter Tryz.func111, Tryz.ntmps111
  go_wp2
  go_ret2
  exact ⟨rfl, rfl⟩
theorem plain_48 (w : World) : Calls Tryz.prog 111 #[.int .i64 48] w fun e w' => e = .returned (.tuple #[.int .i64 41, .bool true]) ∧ w' = w := by
  go_enter Tryz.func111, Tryz.ntmps111
  go_wp2
  go_ret2
  exact ⟨rfl, rfl⟩
theorem plain_49 (w : World) : Calls Tryz.prog 111 #[.int .i64 49] w fun e w' => e = .returned (.tuple #[.int .i64 42, .bool true]) ∧ w' = w := by
  go_enter Tryz.func111, Tryz.ntmps111
  go_wp2
  go_ret2
  exact ⟨rfl, rfl⟩
theorem plain_50 (w : World) : Calls Tryz.prog 111 #[.int .i64 50] w fun e w' => e = .returned (.tuple #[.int .i64 50, .bool false]) ∧ w' = w := by
  go_enter Tryz.func111, Tryz.ntmps111
  go_wp2
  go_ret2
  exact ⟨rfl, rfl⟩
theorem plain_51 (w : World) : Calls Tryz.prog 111 #[.int .i64 51] w fun e w' => e = .returned (.tuple #[.int .i64 51, .bool false]) ∧ w' = w := by
  go_enter Tryz.func111, Tryz.ntmps111
  go_wp2
  go_ret2
  exact ⟨rfl, rfl⟩
theorem plain_52 (w : World) : Calls Tryz.prog 111 #[.int .i64 52] w fun e w' => e = .returned (.tuple #[.int .i64 52, .bool false]) ∧ w' = w := by
  go_enter Tryz.func111, Tryz.ntmps111
  go_wp2
  go_ret2
  exact ⟨rfl, rfl⟩
theorem plain_53 (w : World) : Calls Tryz.prog 111 #[.int .i64 53] w fun e w' => e = .returned (.tuple #[.int .i64 53, .bool false]) ∧ w' = w := by
  go_enter Tryz.func111, Tryz.ntmps111
  go_wp2
  go_ret2
  exact ⟨rfl, rfl⟩
theorem plain_54 (w : World) : Calls Tryz.prog 111 #[.int .i64 54] w fun e w' => e = .returned (.tuple #[.int .i64 54, .bool false]) ∧ w' = w := by
  go_enter Tryz.func111, Tryz.ntmps111
  go_wp2
  go_ret2
  exact ⟨rfl, rfl⟩
theorem plain_55 (w : World) : Calls Tryz.prog 111 #[.int .i64 55] w fun e w' => e = .returned (.tuple #[.int .i64 55, .bool false]) ∧ w' = w := by
  go_enter Tryz.func111, Tryz.ntmps111
  go_wp2
  go_ret2
  exact ⟨rfl, rfl⟩
theorem plain_56 (w : World) : Calls Tryz.prog 111 #[.int .i64 56] w fun e w' => e = .returned (.tuple #[.int .i64 56, .bool false]) ∧ w' = w := by
  go_enter Tryz.func111, Tryz.ntmps111
  go_wp2
  go_ret2
  exact ⟨rfl, rfl⟩
theorem plain_57 (w : World) : Calls Tryz.prog 111 #[.int .i64 57] w fun e w' => e = .returned (.tuple #[.int .i64 57, .bool false]) ∧ w' = w := by
  go_enter Tryz.func111, Tryz.ntmps111
  go_wp2
  go_ret2
  exact ⟨rfl, rfl⟩
theorem plain_58 (w : World) : Calls Tryz.prog 111 #[.int .i64 58] w fun e w' => e = .returned (.tuple #[.int .i64 50, .bool true]) ∧ w' = w := by
  go_enter Tryz.func111, Tryz.ntmps111
  go_wp2
  go_ret2
  exact ⟨rfl, rfl⟩
theorem plain_59 (w : World) : Calls Tryz.prog 111 #[.int .i64 59] w fun e w' => e = .returned (.tuple #[.int .i64 54, .bool true]) ∧ w' = w := by
  go_enter Tryz.func111, Tryz.ntmps111
  go_wp2
  go_ret2
  exact ⟨rfl, rfl⟩
theorem plain_60 (w : World) : Calls Tryz.prog 111 #[.int .i64 60] w fun e w' => e = .returned (.tuple #[.int .i64 55, .bool true]) ∧ w' = w := by
  go_enter Tryz.func111, Tryz.ntmps111
  go_wp2
  go_ret2
  exact ⟨rfl, rfl⟩
theorem plain_61 (w : World) : Calls Tryz.prog 111 #[.int .i64 61] w fun e w' => e = .returned (.tuple #[.int .i64 56, .bool true]) ∧ w' = w := by
  go_enter Tryz.func111, Tryz.ntmps111
  go_wp2
  go_ret2
  exact ⟨rfl, rfl⟩
theorem plain_62 (w : World) : Calls Tryz.prog 111 #[.int .i64 62] w fun e w' => e = .returned (.tuple #[.int .i64 57, .bool true]) ∧ w' = w := by
  go_enter Tryz.func111, Tryz.ntmps111
  go_wp2
  go_ret2
  exact ⟨rfl, rfl⟩
theorem plain_any (op : Nat) (h1 : 22 ≤ op) (h2 : op ≤ 62) (w : World) : Calls Tryz.prog 111 #[.int .i64 (op : Int)] w fun e w' => e = .returned (.tuple #[.int .i64 ((pOf op : Nat) : Int), .bool (halfOf op)]) ∧ w' = w := by
  rcases ops_list op h1 h2 with rfl | rfl | rfl | rfl | rfl | rfl | rfl | rfl | rfl | rfl | rfl | rfl | rfl | rfl | rfl | rfl | rfl | rfl | rfl | rfl | rfl | rfl | rfl | rfl | rfl | rfl | rfl | rfl | rfl | rfl | rfl | rfl | rfl | rfl | rfl | rfl | rfl | rfl | rfl | rfl | rfl
  · exact plain_22 w
  · exact plain_23 w
  · exact plain_24 w
  · exact plain_25 w
  · exact plain_26 w
  · exact plain_27 w
  · exact plain_28 w
  · exact plain_29 w
  · exact plain_30 w
  · exact plain_31 w
  · exact plain_32 w
  · exact plain_33 w
  · exact plain_34 w
  · exact plain_35 w
  · exact plain_36 w
  · exact plain_37 w
  · exact plain_38 w
  · exact plain_39 w
  · exact plain_40 w
  · exact plain_41 w
  · exact plain_42 w
  · exact plain_43 w
  · exact plain_44 w
  · exact plain_45 w
  · exact plain_46 w
  · exact plain_47 w
  · exact plain_48 w
  · exact plain_49 w
  · exact plain_50 w
  · exact plain_51 w
  · exact plain_52 w
  · exact plain_53 w
  · exact plain_54 w
  · exact plain_55 w
  · exact plain_56 w
  · exact plain_57 w
  · exact plain_58 w
  · exact plain_59 w
  · exact plain_60 w
  · exact plain_61 w
  · exact plain_62 w
set_option maxHeartbeats 1000000 in
theorem cAlu_in (op a b : Nat) (h1 : 22 ≤ op) (h2 : op ≤ 62) (ha : a < 18446744073709551616) (hb : b < 18446744073709551616) (w : World) :
    Calls Tryz.prog 95 #[.int .i64 (op : Int), .int .u64 a, .int .u64 b] w fun e w' => e = .returned (.tuple #[.int .u64 (aluV op a b), .int .i64 0]) ∧ w' = w := by
  have d1 : decide ((op : Int) < 22) = false := decide_eq_false (by omega)
  have d2 : decide ((62 : Int) < (op : Int)) = false := decide_eq_false (by omega)
  cases hh : halfOf op with
  | true =>
    obtain ⟨p, hpe, hp⟩ := pOf_half op h1 h2 hh
    have HX := Lib.hid (show aluV op a b = ((wordN p (a % 4294967296) (b % 4294967296) : Nat) : Int) by unfold aluV; rw [hh, if_pos rfl, hpe])
    have HP := Lib.hid (fun W => plain_any op h1 h2 W)
    have HE := Lib.hid (And.intro hpe hh)
    clear hh hpe
    have HQ := Lib.hid hp
    clear hp
    go_enter Tryz.func95, Tryz.ntmps95
    go_wp2_with fail
    refine Calls.mono (HP.out _) ?_
    rw [HE.out.1, HE.out.2]
    rintro e w' ⟨rfl, rfl⟩
    go_wp2_with fail
    rw [modN32 a, modN32 b]
    refine Calls.mono (word_any p (a % 4294967296) (b % 4294967296) HQ.out (by omega) (by omega) _) ?_
    rintro e w' ⟨rfl, rfl⟩
    go_wp2
    go_ret2
    refine ⟨congrArg (fun z => Ending.returned (Value.tuple #[Value.int IntKind.u64 z, Value.int IntKind.i64 0])) ?_, rfl⟩
    rw [HX.out]
  | false =>
    obtain ⟨p, hpe, hp⟩ := pOf_full op h1 h2 hh
    have HX := Lib.hid (show aluV op a b = fullV p a b by unfold aluV; rw [hh, if_neg (by decide), hpe])
    have HP := Lib.hid (fun W => plain_any op h1 h2 W)
    have HE := Lib.hid (And.intro hpe hh)
    clear hh hpe
    have HQ := Lib.hid hp
    clear hp
    go_enter Tryz.func95, Tryz.ntmps95
    go_wp2_with fail
    refine Calls.mono (HP.out _) ?_
    rw [HE.out.1, HE.out.2]
    rintro e w' ⟨rfl, rfl⟩
    go_wp2_with fail
    refine Calls.mono (full_any p a b HQ.out ha hb _) ?_
    rintro e w' ⟨rfl, rfl⟩
    go_wp2
    go_ret2
    refine ⟨congrArg (fun z => Ending.returned (Value.tuple #[Value.int IntKind.u64 z, Value.int IntKind.i64 0])) ?_, rfl⟩
    rw [HX.out]
theorem cAlu_out (z : Int) (a b : Nat) (hz : z < 22 ∨ 62 < z) (w : World) :
    Calls Tryz.prog 95 #[.int .i64 z, .int .u64 a, .int .u64 b] w fun e w' => e = .returned (.tuple #[.int .u64 0, .int .i64 1]) ∧ w' = w := by
  by_cases h : z < 22
  · have d1 : decide (z < 22) = true := decide_eq_true h
    go_enter Tryz.func95, Tryz.ntmps95
    go_wp2
    go_ret2
    exact ⟨rfl, rfl⟩
  · have d1 : decide (z < 22) = false := decide_eq_false h
    have d2 : decide ((62 : Int) < z) = true := decide_eq_true (by omega)
    go_enter Tryz.func95, Tryz.ntmps95
    go_wp2
    go_ret2
    exact ⟨rfl, rfl⟩
set_option maxHeartbeats 1000000 in
theorem cTaken_any (z : Int) (a b : Nat) (w : World) :
    Calls Tryz.prog 92 #[.int .i64 z, .int .u64 a, .int .u64 b] w fun e w' => e = .returned (.tuple #[.bool (takenV z a b).1, .int .i64 (takenV z a b).2]) ∧ w' = w := by
  by_cases h5 : z = 5
  · subst h5
    have HX := Lib.hid (show takenV 5 a b = (decide (a = b), 0) from rfl)
    go_enter Tryz.func92, Tryz.ntmps92
    go_wp2
    go_ret2
    refine ⟨?_, rfl⟩
    rw [HX.out]
    refine congrArg (fun x => Ending.returned (Value.tuple #[Value.bool x, Value.int IntKind.i64 0])) ?_
    exact eqI a b
  by_cases h6 : z = 6
  · subst h6
    have HX := Lib.hid (show takenV 6 a b = (!decide (a = b), 0) from rfl)
    go_enter Tryz.func92, Tryz.ntmps92
    go_wp2
    go_ret2
    refine ⟨?_, rfl⟩
    rw [HX.out]
    refine congrArg (fun x => Ending.returned (Value.tuple #[Value.bool x, Value.int IntKind.i64 0])) ?_
    exact neI a b
  by_cases h7 : z = 7
  · subst h7
    have HX := Lib.hid (show takenV 7 a b = (decide (wrap64 (a : Int) < wrap64 (b : Int)), 0) from rfl)
    go_enter Tryz.func92, Tryz.ntmps92
    go_wp2
    go_ret2
    refine ⟨?_, rfl⟩
    rw [HX.out]
    refine congrArg (fun x => Ending.returned (Value.tuple #[Value.bool x, Value.int IntKind.i64 0])) ?_
    exact rfl
  by_cases h8 : z = 8
  · subst h8
    have HX := Lib.hid (show takenV 8 a b = (decide (wrap64 (b : Int) ≤ wrap64 (a : Int)), 0) from rfl)
    go_enter Tryz.func92, Tryz.ntmps92
    go_wp2
    go_ret2
    refine ⟨?_, rfl⟩
    rw [HX.out]
    refine congrArg (fun x => Ending.returned (Value.tuple #[Value.bool x, Value.int IntKind.i64 0])) ?_
    exact rfl
  by_cases h9 : z = 9
  · subst h9
    have HX := Lib.hid (show takenV 9 a b = (decide (a < b), 0) from rfl)
    go_enter Tryz.func92, Tryz.ntmps92
    go_wp2
    go_ret2
    refine ⟨?_, rfl⟩
    rw [HX.out]
    refine congrArg (fun x => Ending.returned (Value.tuple #[Value.bool x, Value.int IntKind.i64 0])) ?_
    exact decide_eq_decide.mpr (by omega)
  by_cases h10 : z = 10
  · subst h10
    have HX := Lib.hid (show takenV 10 a b = (decide (b ≤ a), 0) from rfl)
    go_enter Tryz.func92, Tryz.ntmps92
    go_wp2
    go_ret2
    refine ⟨?_, rfl⟩
    rw [HX.out]
    refine congrArg (fun x => Ending.returned (Value.tuple #[Value.bool x, Value.int IntKind.i64 0])) ?_
    exact decide_eq_decide.mpr (by omega)
  have HX := Lib.hid (show takenV z a b = (false, 1) by unfold takenV; rw [if_neg h5, if_neg h6, if_neg h7, if_neg h8, if_neg h9, if_neg h10])
  have d5 : (z == 5) = false := by simpa using h5
  have d6 : (z == 6) = false := by simpa using h6
  have d7 : (z == 7) = false := by simpa using h7
  have d8 : (z == 8) = false := by simpa using h8
  have d9 : (z == 9) = false := by simpa using h9
  have d10 : (z == 10) = false := by simpa using h10
  clear h5 h6 h7 h8 h9 h10
  go_enter Tryz.func92, Tryz.ntmps92
  go_wp2
  go_ret2
  refine ⟨?_, rfl⟩
  rw [HX.out]
  rfl
end Go.Proofs

/- What an operation makes is a number of 64 bits. -/
namespace Go.Pat
open Go Go.RowKit
theorem wrapu_rng (z : Int) : 0 ≤ IntKind.u64.wrap z ∧ IntKind.u64.wrap z < 18446744073709551616 := by rw [IntKind.wrap_u64]; omega
theorem bits_rng (o : BinOp) (x y : Int) (h : ∃ z, bits o .u64 x y = IntKind.u64.wrap z) : 0 ≤ bits o .u64 x y ∧ bits o .u64 x y < 18446744073709551616 := by
  obtain ⟨z, hz⟩ := h
  rw [hz, IntKind.wrap_u64]
  omega
theorem tr_rng (b : Bool) : 0 ≤ tr b ∧ tr b < 18446744073709551616 := by cases b <;> exact ⟨by decide, by decide⟩
theorem fullV_rng (p a b : Nat) (hp : p = 35 ∨ p = 36 ∨ p = 37 ∨ p = 38 ∨ p = 39 ∨ p = 40 ∨ p = 41 ∨ p = 42 ∨ p = 43 ∨ p = 44 ∨ p = 50 ∨ p = 51 ∨ p = 52 ∨ p = 53 ∨ p = 54 ∨ p = 55 ∨ p = 56 ∨ p = 57) (ha : a < 18446744073709551616) (hb : b < 18446744073709551616) : 0 ≤ fullV p a b ∧ fullV p a b < 18446744073709551616 := by
  have key : (p = 35 ∨ p = 36 ∨ p = 37 ∨ p = 41 ∨ p = 42 ∨ p = 50 ∨ p = 54 ∨ p = 55 ∨ p = 56 ∨ p = 57) → 0 ≤ fullV p a b ∧ fullV p a b < 18446744073709551616 := fun h => by
    obtain ⟨h1, h2⟩ := fullN_is p a b h ha
    rw [h1]; omega
  rcases hp with h | h | h | h | h | h | h | h | h | h | h | h | h | h | h | h | h | h
  · exact key (by omega)
  · exact key (by omega)
  · exact key (by omega)
  · rw [h, fullV_38]; exact tr_rng _
  · rw [h, fullV_39]; exact tr_rng _
  · rw [h, fullV_40]; exact bits_rng _ _ _ ⟨_, rfl⟩
  · exact key (by omega)
  · exact key (by omega)
  · rw [h, fullV_43]; exact bits_rng _ _ _ ⟨_, rfl⟩
  · rw [h, fullV_44]; exact bits_rng _ _ _ ⟨_, rfl⟩
  · exact key (by omega)
  · rw [h, fullV_51]; exact wrapu_rng _
  · rw [h, fullV_52]; exact wrapu_rng _
  · rw [h, fullV_53]
    have : a * b < 18446744073709551616 * 18446744073709551616 := Nat.mul_lt_mul'' ha hb
    omega
  · exact key (by omega)
  · exact key (by omega)
  · exact key (by omega)
  · exact key (by omega)
theorem wordN_lt (p x y : Nat) (hp : p = 35 ∨ p = 36 ∨ p = 37 ∨ p = 41 ∨ p = 42 ∨ p = 50 ∨ p = 54 ∨ p = 55 ∨ p = 56 ∨ p = 57) (hx : x < 4294967296) : wordN p x y < 18446744073709551616 := by
  rcases hp with h | h | h | h | h | h | h | h | h | h <;> rw [h]
  · rw [wordN_35]; exact sx32_lt _ (Nat.mod_lt _ (by decide))
  · rw [wordN_36]; exact sx32_lt _ (Nat.mod_lt _ (by decide))
  · rw [wordN_37]; exact sx32_lt _ (Nat.mod_lt _ (by decide))
  · rw [wordN_41]; exact sx32_lt _ (Nat.lt_of_le_of_lt (Nat.div_le_self _ _) hx)
  · rw [wordN_42]; exact sx32_lt _ (toNat_mod_lt _)
  · rw [wordN_50]; exact sx32_lt _ (Nat.mod_lt _ (by decide))
  · rw [wordN_54]; exact sx32_lt _ (Nat.mod_lt _ (by decide))
  · rw [wordN_55]; exact sx32_lt _ (Nat.mod_lt _ (by decide))
  · rw [wordN_56]; exact sx32_lt _ (Nat.mod_lt _ (by decide))
  · rw [wordN_57]; exact sx32_lt _ (Nat.mod_lt _ (by decide))
theorem aluV_nat (op a b : Nat) (h1 : 22 ≤ op) (h2 : op ≤ 62) (ha : a < 18446744073709551616) (hb : b < 18446744073709551616) : aluV op a b = (((aluV op a b).toNat : Nat) : Int) ∧ (aluV op a b).toNat < 18446744073709551616 := by
  have key : 0 ≤ aluV op a b ∧ aluV op a b < 18446744073709551616 := by
    unfold aluV
    cases hh : halfOf op with
    | true =>
      obtain ⟨p, hp, hl⟩ := pOf_half op h1 h2 hh
      rw [if_pos rfl, hp]
      have := wordN_lt p (a % 4294967296) (b % 4294967296) hl (Nat.mod_lt _ (by decide))
      omega
    | false =>
      obtain ⟨p, hp, hl⟩ := pOf_full op h1 h2 hh
      rw [if_neg (by decide), hp]
      exact fullV_rng p a b hl ha hb
  omega
end Go.Pat
