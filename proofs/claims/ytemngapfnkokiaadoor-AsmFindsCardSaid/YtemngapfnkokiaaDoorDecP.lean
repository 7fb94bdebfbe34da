/- What a word says: patina/rv.Decode as a function of the word; and what an instruction does: a step of a machine. Plain: no program in sight. -/
import Derived.Test.YtemngapfnkokiaaDoorMach
import Derived.Test.YtemngapfnkokiaaDoorAluC
namespace Go.Pat
open Go Go.RowKit
/-- the operations' rows: form, opcode, the two fixed fields. -/
def rowsT : List (Nat × Nat × Nat × Nat) := [(0, 0, 0, 0), (85, 55, 0, 0), (85, 23, 0, 0), (74, 111, 0, 0), (73, 103, 0, 0), (66, 99, 0, 0), (66, 99, 1, 0), (66, 99, 4, 0), (66, 99, 5, 0), (66, 99, 6, 0), (66, 99, 7, 0), (73, 3, 0, 0), (73, 3, 1, 0), (73, 3, 2, 0), (73, 3, 3, 0), (73, 3, 4, 0), (73, 3, 5, 0), (73, 3, 6, 0), (83, 35, 0, 0), (83, 35, 1, 0), (83, 35, 2, 0), (83, 35, 3, 0), (73, 19, 0, 0), (73, 19, 2, 0), (73, 19, 3, 0), (73, 19, 4, 0), (73, 19, 6, 0), (73, 19, 7, 0), (72, 19, 1, 0), (72, 19, 5, 0), (72, 19, 5, 32), (73, 27, 0, 0), (72, 27, 1, 0), (72, 27, 5, 0), (72, 27, 5, 32), (82, 51, 0, 0), (82, 51, 0, 32), (82, 51, 1, 0), (82, 51, 2, 0), (82, 51, 3, 0), (82, 51, 4, 0), (82, 51, 5, 0), (82, 51, 5, 32), (82, 51, 6, 0), (82, 51, 7, 0), (82, 59, 0, 0), (82, 59, 0, 32), (82, 59, 1, 0), (82, 59, 5, 0), (82, 59, 5, 32), (82, 51, 0, 1), (82, 51, 1, 1), (82, 51, 2, 1), (82, 51, 3, 1), (82, 51, 4, 1), (82, 51, 5, 1), (82, 51, 6, 1), (82, 51, 7, 1), (82, 59, 0, 1), (82, 59, 4, 1), (82, 59, 5, 1), (82, 59, 6, 1), (82, 59, 7, 1), (78, 15, 0, 0), (78, 115, 0, 0), (78, 1048691, 0, 0)]
def rvRow (op : Nat) : Nat × Nat × Nat × Nat := rowsT.getD op (0, 0, 0, 0)
def fitsE (f oc f3 w : Nat) : Bool := decide (w % 128 = oc) && ((decide (f = 85) || decide (f = 74)) || decide (w / 4096 % 8 = f3))
/-- does a word have the fixed bits of a row? -/
def fitsB (f oc f3 f7 w : Nat) : Bool :=
  if f = 78 then decide (w = oc)
  else if f = 72 then (if oc = 27 then decide (w / 33554432 = f7) else decide (w / 67108864 * 2 = f7)) && fitsE f oc f3 w
  else if f = 82 then decide (w / 33554432 = f7) && fitsE f oc f3 w
  else fitsE f oc f3 w
def fitsR (op w : Nat) : Bool := fitsB (rvRow op).1 (rvRow op).2.1 (rvRow op).2.2.1 (rvRow op).2.2.2 w
def decGo (w : Nat) : Nat → Nat → Option Nat
  | 0, _ => none
  | k + 1, op => if fitsR op w then some op else decGo w k (op + 1)
def bitsN (n frm count at_ : Nat) : Nat := n / 2 ^ frm % 2 ^ count * 2 ^ at_ % 4294967296
/-- a number of so many bits with its sign. -/
def sgn (n count : Nat) : Int := if n % 2 ^ count < 2 ^ (count - 1) then (n % 2 ^ count : Nat) else ((n % 2 ^ count : Nat) : Int) - 2 ^ count
def immV (f w : Nat) : Int :=
  if f = 73 then sgn (w / 1048576) 12
  else if f = 72 then ((w / 1048576 % 64 : Nat) : Int)
  else if f = 83 then sgn (bitsN w 7 5 0 ||| bitsN w 25 7 5) 12
  else if f = 66 then sgn (bitsN w 7 1 11 ||| bitsN w 8 4 1 ||| bitsN w 25 6 5 ||| bitsN w 31 1 12) 13
  else if f = 85 then sgn (w / 4096) 20
  else if f = 74 then sgn (bitsN w 12 8 12 ||| bitsN w 20 1 11 ||| bitsN w 21 10 1 ||| bitsN w 31 1 20) 21
  else 0
def hasD (f : Nat) : Bool := decide (f = 82) || decide (f = 73) || decide (f = 72) || decide (f = 85) || decide (f = 74)
def has1 (f : Nat) : Bool := decide (f = 82) || decide (f = 73) || decide (f = 72) || decide (f = 66) || decide (f = 83)
def has2 (f : Nat) : Bool := decide (f = 82) || decide (f = 66) || decide (f = 83)
structure Ins where
  op : Nat
  rd : Nat
  rs1 : Nat
  rs2 : Nat
  imm : Int
def insOf (op w : Nat) : Ins :=
  ⟨op, if hasD (rvRow op).1 then w / 128 % 32 else 0, if has1 (rvRow op).1 then w / 32768 % 32 else 0, if has2 (rvRow op).1 then w / 1048576 % 32 else 0, immV (rvRow op).1 w⟩
/-- a word's instruction, if it has one. -/
def decR (w : Nat) : Option Ins := (decGo w 65 1).map fun op => insOf op w
theorem decGo_some {w : Nat} : ∀ (k o op : Nat), decGo w k o = some op → o ≤ op ∧ op < o + k
  | 0, _, _, h => by simp [decGo] at h
  | k + 1, o, op, h => by
    unfold decGo at h
    split at h
    · obtain rfl := Option.some.inj h; omega
    · have := decGo_some k (o + 1) op h; omega
theorem decR_some {w : Nat} {i : Ins} (h : decR w = some i) : 1 ≤ i.op ∧ i.op ≤ 65 ∧ i.rd < 32 ∧ i.rs1 < 32 ∧ i.rs2 < 32 := by
  unfold decR at h
  obtain ⟨op, h1, rfl⟩ := Option.map_eq_some_iff.1 h
  have := decGo_some 65 1 op h1
  simp only [insOf]
  refine ⟨this.1, by omega, ?_, ?_, ?_⟩ <;> split <;> omega
end Go.Pat
