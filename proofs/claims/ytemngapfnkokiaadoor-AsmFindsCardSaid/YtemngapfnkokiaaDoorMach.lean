/- A machine's state: what its cells say. -/
import Derived.Test.YtemngapfnkokiaaDoorMemTop
namespace Go.Pat
open Go Go.RowKit
/-- a machine's state. -/
structure Mc where
  pc : Nat
  regs : List Nat
  steps : Int
  halted : Bool
  code : Int
  fault : Int
  out : List UInt8
  inn : Int
def rV (n : Nat) : Value := .int .u64 (n : Int)
/-- the cells of an api.Cpu; and those of a machine. -/
def Mc.tail (c : Mc) (ov : Value) : List Value := [.int .i64 c.steps, .bool c.halted, .int .i64 c.code, .int .i64 c.fault, ov, .int .i64 c.inn]
def Mc.cells (c : Mc) (ov : Value) : List Value := rV c.pc :: (c.regs.map rV ++ c.tail ov)
def mcells (c : Mc) (ov pv iv : Value) : List Value := rV c.pc :: (c.regs.map rV ++ (c.tail ov ++ [pv, iv]))
section
variable {c : Mc} {ov pv iv : Value}
theorem mcells_app : mcells c ov pv iv = c.cells ov ++ [pv, iv] := by simp [mcells, Mc.cells, List.append_assoc]
theorem mcells_len (h : c.regs.length = 32) : (mcells c ov pv iv).length = 41 := by simp [mcells, Mc.tail, h]
theorem ccells_len (h : c.regs.length = 32) : (c.cells ov).length = 39 := by simp [Mc.cells, Mc.tail, h]
theorem mget_reg (h : c.regs.length = 32) (i : Nat) (hi : i < 32) : (mcells c ov pv iv)[1 + i]? = some (rV (c.regs.getD i 0)) := by
  rw [Nat.add_comm, mcells, List.getElem?_cons_succ, List.getElem?_append_left (by simp [h]; exact hi), List.getElem?_map, List.getElem?_eq_getElem (by omega)]
  simp [List.getD_eq_getElem?_getD, List.getElem?_eq_getElem (show i < c.regs.length by omega)]
theorem mget_tail (h : c.regs.length = 32) (i : Nat) : (mcells c ov pv iv)[33 + i]? = (c.tail ov ++ [pv, iv])[i]? := by
  rw [show 33 + i = (32 + i) + 1 by omega, mcells, List.getElem?_cons_succ, List.getElem?_append_right (by simp [h]), List.length_map, h]
  congr 1; omega
theorem mset_pc (n : Nat) : (mcells c ov pv iv).set 0 (.int .u64 (n : Int)) = mcells { c with pc := n } ov pv iv := rfl
theorem mset_reg (h : c.regs.length = 32) (i : Nat) (hi : i < 32) (n : Nat) : (mcells c ov pv iv).set (1 + i) (.int .u64 (n : Int)) = mcells { c with regs := c.regs.set i n } ov pv iv := by
  rw [Nat.add_comm, mcells, mcells, List.set_cons_succ, List.set_append_left _ _ (by simp [h]; exact hi), List.map_set]
  rfl
theorem mset_tail (h : c.regs.length = 32) (i : Nat) (v : Value) : (mcells c ov pv iv).set (33 + i) v = rV c.pc :: (c.regs.map rV ++ ((c.tail ov ++ [pv, iv]).set i v)) := by
  rw [show 33 + i = (32 + i) + 1 by omega, mcells, List.set_cons_succ, List.set_append_right _ _ (by simp [h]), List.length_map, h]
  congr 3; omega
theorem mset_steps (h : c.regs.length = 32) (n : Int) : (mcells c ov pv iv).set 33 (.int .i64 n) = mcells { c with steps := n } ov pv iv := mset_tail h 0 _
theorem mset_halted (h : c.regs.length = 32) (b : Bool) : (mcells c ov pv iv).set 34 (.bool b) = mcells { c with halted := b } ov pv iv := mset_tail h 1 _
theorem mset_code (h : c.regs.length = 32) (n : Int) : (mcells c ov pv iv).set 35 (.int .i64 n) = mcells { c with code := n } ov pv iv := mset_tail h 2 _
theorem mset_fault (h : c.regs.length = 32) (n : Int) : (mcells c ov pv iv).set 36 (.int .i64 n) = mcells { c with fault := n } ov pv iv := mset_tail h 3 _
theorem mset_out (h : c.regs.length = 32) (v : Value) (l : List UInt8) : (mcells c ov pv iv).set 37 v = mcells { c with out := l } v pv iv := mset_tail h 4 _
theorem mset_in (h : c.regs.length = 32) (n : Int) : (mcells c ov pv iv).set 38 (.int .i64 n) = mcells { c with inn := n } ov pv iv := mset_tail h 5 _
end
end Go.Pat
