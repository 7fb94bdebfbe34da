/- patinaref01.FormOf, Has: what they tell of each operation. -/
import Derived.Test.YtlhenglopnipaaaGreatDoorProg
import Derived.Test.YtlhenglopnipaaaGreatDoorMemTop
import Derived.Test.YtlhenglopnipaaaGreatDoorBufs
import Derived.RegionTactic
import Derived.Laws.Rows
import Derived.BigQuiet
import Derived.Deep.QuietTactic
namespace Go.Pat
open Go Go.RowKit
/-- the operations' forms: letter, opcode, funct3, the highest bits. -/
def formsT : List (Nat × Nat × Nat × Nat) := [(0, 0, 0, 0), (85, 55, 0, 0), (85, 23, 0, 0), (74, 111, 0, 0), (73, 103, 0, 0), (66, 99, 0, 0), (66, 99, 1, 0), (66, 99, 4, 0), (66, 99, 5, 0), (66, 99, 6, 0), (66, 99, 7, 0), (73, 3, 0, 0), (73, 3, 1, 0), (73, 3, 2, 0), (73, 3, 3, 0), (73, 3, 4, 0), (73, 3, 5, 0), (73, 3, 6, 0), (83, 35, 0, 0), (83, 35, 1, 0), (83, 35, 2, 0), (83, 35, 3, 0), (73, 19, 0, 0), (73, 19, 2, 0), (73, 19, 3, 0), (73, 19, 4, 0), (73, 19, 6, 0), (73, 19, 7, 0), (72, 19, 1, 0), (72, 19, 5, 0), (72, 19, 5, 32), (73, 27, 0, 0), (104, 27, 1, 0), (104, 27, 5, 0), (104, 27, 5, 32), (82, 51, 0, 0), (82, 51, 0, 32), (82, 51, 1, 0), (82, 51, 2, 0), (82, 51, 3, 0), (82, 51, 4, 0), (82, 51, 5, 0), (82, 51, 5, 32), (82, 51, 6, 0), (82, 51, 7, 0), (82, 59, 0, 0), (82, 59, 0, 32), (82, 59, 1, 0), (82, 59, 5, 0), (82, 59, 5, 32), (82, 51, 0, 1), (82, 51, 1, 1), (82, 51, 2, 1), (82, 51, 3, 1), (82, 51, 4, 1), (82, 51, 5, 1), (82, 51, 6, 1), (82, 51, 7, 1), (82, 59, 0, 1), (82, 59, 4, 1), (82, 59, 5, 1), (82, 59, 6, 1), (82, 59, 7, 1), (78, 15, 0, 0), (78, 115, 0, 0), (78, 1048691, 0, 0)]
def formR (op : Nat) : Nat × Nat × Nat × Nat := formsT.getD op (0, 0, 0, 0)
def formV (f : Nat × Nat × Nat × Nat) : Value := .agg #[.int .u8 (f.1 : Int), .int .u32 (f.2.1 : Int), .int .u32 (f.2.2.1 : Int), .int .u32 (f.2.2.2 : Int)]
/-- what an operation's form is. -/
def formZ (z : Int) : Nat × Nat × Nat × Nat := formR z.toNat
def hasD1 (l : Nat) : Bool := l == 85 || l == 74 || l == 73 || l == 72 || l == 104 || l == 82
def has11 (l : Nat) : Bool := l == 73 || l == 72 || l == 104 || l == 82 || l == 83 || l == 66
def has21 (l : Nat) : Bool := l == 82 || l == 83 || l == 66
end Go.Pat
namespace Go.Proofs
open Go Go.RowKit Go.Pat
theorem form1 (w : World) (a : Obj) : Below w.heap.size w (w.alloc a) := (Below.refl _ _).alloc (Nat.le_refl _) _
theorem form2 (w : World) (a b : Obj) : Below w.heap.size w ((w.alloc a).alloc b) := (form1 w a).alloc (by rw [World.size_alloc]; omega) _
theorem form3 (w : World) (a b c : Obj) : Below w.heap.size w (((w.alloc a).alloc b).alloc c).drew := ((form2 w a b).alloc (by rw [World.size_alloc, World.size_alloc]; omega) _).drew
def FormTo (z : Int) (w : World) (e : Ending) (w' : World) : Prop := e = .returned (formV (formZ z)) ∧ Below w.heap.size w w'
end Go.Proofs

/- patinaref01.FormOf of the operations 1 to 38. -/
namespace Go.Proofs
open Go Go.RowKit Go.Pat
end Go.Proofs

/- patinaref01.FormOf of the operations 39 to 65. -/
namespace Go.Proofs
open Go Go.RowKit Go.Pat
end Go.Proofs

/- patinaref01.FormOf of any number; Has, reg, imm, Right. -/
namespace Go.Proofs
open Go Go.RowKit Go.Pat
end Go.Proofs

/- patinaref01.Has, reg, imm, Right. -/
namespace Go.Pat
open Go Go.RowKit
def lettersL : List Nat := [0, 85, 74, 73, 66, 83, 72, 104, 82, 78]
theorem formR_letter (op : Nat) : (formR op).1 ∈ lettersL := by
  by_cases h : op < 66
  · exact (show ∀ k, k < 66 → (formR k).1 ∈ lettersL by decide) op h
  · unfold formR
    rw [List.getD_eq_getElem?_getD, List.getElem?_eq_none (show formsT.length ≤ op by show 66 ≤ _; omega)]
    decide
def regB (r : Int) (named : Bool) : Bool := if named then decide (0 ≤ r) && decide (r ≤ 31) else r == 0
/-- is a number in a form's range? -/
def immB1 (l : Nat) (n : Int) : Bool :=
  if l = 73 ∨ l = 83 then decide (-2048 ≤ n) && decide (n ≤ 2047)
  else if l = 66 then (decide (-4096 ≤ n) && decide (n ≤ 4094)) && (n % 2 == 0)
  else if l = 74 then (decide (-1048576 ≤ n) && decide (n ≤ 1048574)) && (n % 2 == 0)
  else if l = 85 then decide (-524288 ≤ n) && decide (n ≤ 524287)
  else if l = 72 then decide (0 ≤ n) && decide (n ≤ 63)
  else if l = 104 then decide (0 ≤ n) && decide (n ≤ 31)
  else n == 0
def rightI (op rd a b n : Int) : Bool :=
  ((((((formZ op).1 : Int) != 0) && regB rd (hasD1 (formZ op).1)) && regB a (has11 (formZ op).1)) && regB b (has21 (formZ op).1)) && immB1 (formZ op).1 n
end Go.Pat
namespace Go.Proofs
open Go Go.RowKit Go.Pat
def HasTo (l : Nat) (w : World) (e : Ending) (w' : World) : Prop := e = .returned (.tuple #[.bool (hasD1 l), .bool (has11 l), .bool (has21 l)]) ∧ w' = w
theorem tmod2 (n : Int) : (n.tmod 2 == 0) = (n % 2 == 0) := by
  rw [Bool.eq_iff_iff, beq_iff_eq, beq_iff_eq]
  constructor
  · intro h
    have := Int.dvd_of_tmod_eq_zero h
    omega
  · intro h
    exact Int.tmod_eq_zero_of_dvd (by omega)
end Go.Proofs
