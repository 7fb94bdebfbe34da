/- A step of a machine, and running it: what they make, plainly; running for n steps and then for m is running for n + m. -/
import Derived.Test.YtemngapfnkokiaaDoorDecP
import Derived.Test.YtemngapfnkokiaaDoorAluD
import Derived.Test.YtemngapfnkokiaaDoorStoreM
namespace Go.Pat
open Go Go.RowKit
/-- a machine at work: its state, its memory, what it may read. -/
structure Ms where
  c : Mc
  fs : List Fr
  inp : List UInt8
def Mc.reg (c : Mc) (i : Nat) : Nat := c.regs.getD i 0
def Mc.put (c : Mc) (rd v pc : Nat) : Mc := { c with regs := c.regs.set rd v, pc := pc }
def wrN (z : Int) : Nat := (z % 18446744073709551616).toNat
theorem wrN_is (z : Int) : ((wrN z : Nat) : Int) = IntKind.u64.wrap z := by rw [IntKind.wrap_u64]; unfold wrN; omega
theorem wrN_lt (z : Int) : wrN z < 18446744073709551616 := by unfold wrN; omega
def ldN (op : Nat) : Nat := if op ≤ 14 then 2 ^ (op - 11) else 2 ^ (op - 15)
def ldS (op : Nat) : Nat := if op = 11 then 56 else if op = 12 then 48 else if op = 13 then 32 else 0
/-- what a load makes of its bytes. -/
def ldV (op v : Nat) : Nat := wrN ((wrap64 (IntKind.u64.wrap ((v : Int) * 2 ^ ldS op))).fdiv (2 ^ ldS op))
def callM (s : Ms) : Int × Ms :=
  if s.c.reg 17 = 63 then
    (if s.c.inn < s.inp.length then (0, { s with c := { s.c with regs := s.c.regs.set 10 (s.inp.getD s.c.inn.toNat 0).toNat, inn := s.c.inn + 1 } })
      else (0, { s with c := { s.c with regs := s.c.regs.set 10 18446744073709551615 } }))
  else if s.c.reg 17 = 64 then (0, { s with c := { s.c with out := s.c.out ++ [UInt8.ofNat (s.c.reg 10)] } })
  else if s.c.reg 17 = 93 then (0, { s with c := { s.c with halted := true, code := ((s.c.reg 10 % 256 : Nat) : Int) } })
  else (34, s)
def nextPc (s : Ms) : Nat := (s.c.pc + 4) % 18446744073709551616
/-- what an instruction does to a machine that is not over. -/
def execM (i : Ins) (s : Ms) : Int × Ms :=
  if i.op = 1 then (0, { s with c := s.c.put i.rd (wrN i.imm * 4096 % 18446744073709551616) (nextPc s) })
  else if i.op = 2 then (0, { s with c := s.c.put i.rd ((s.c.pc + wrN i.imm * 4096) % 18446744073709551616) (nextPc s) })
  else if i.op = 3 then (0, { s with c := s.c.put i.rd (nextPc s) ((s.c.pc + wrN i.imm) % 18446744073709551616) })
  else if i.op = 4 then (0, { s with c := s.c.put i.rd (nextPc s) ((s.c.reg i.rs1 + wrN i.imm) % 18446744073709551616 / 2 * 2) })
  else if i.op ≤ 10 then (0, { s with c := { s.c with pc := if (takenV i.op (s.c.reg i.rs1) (s.c.reg i.rs2)).1 then (s.c.pc + wrN i.imm) % 18446744073709551616 else nextPc s } })
  else if i.op ≤ 17 then
    (if (loadM s.fs ((s.c.reg i.rs1 + wrN i.imm) % 18446744073709551616) (ldN i.op)).2 = 0 then
      (0, { s with c := s.c.put i.rd (ldV i.op (loadM s.fs ((s.c.reg i.rs1 + wrN i.imm) % 18446744073709551616) (ldN i.op)).1) (nextPc s) })
    else (32, s))
  else if i.op ≤ 21 then
    (if storeE s.fs ((s.c.reg i.rs1 + wrN i.imm) % 18446744073709551616) ((2 ^ (i.op - 18) : Nat) : Int) = 0 then
      (0, { s with c := { s.c with pc := nextPc s }, fs := storeM s.fs ((s.c.reg i.rs1 + wrN i.imm) % 18446744073709551616) (s.c.reg i.rs2) ((2 ^ (i.op - 18) : Nat) : Int) })
    else (33, s))
  else if i.op ≤ 34 then (0, { s with c := s.c.put i.rd (aluV i.op (s.c.reg i.rs1) (wrN i.imm)).toNat (nextPc s) })
  else if i.op ≤ 62 then (0, { s with c := s.c.put i.rd (aluV i.op (s.c.reg i.rs1) (s.c.reg i.rs2)).toNat (nextPc s) })
  else if i.op = 65 then (34, s)
  else if i.op = 64 then (if (callM s).1 = 0 then (0, { (callM s).2 with c := { (callM s).2.c with pc := nextPc s } }) else ((callM s).1, s))
  else (0, { s with c := { s.c with pc := nextPc s } })
def innerM (s : Ms) : Int × Ms :=
  if (fetchM s.fs s.c.pc).2 = 0 then (match decR (fetchM s.fs s.c.pc).1 with
    | none => (31, s)
    | some i => execM i s)
  else (30, s)
def overB (c : Mc) : Bool := c.halted || decide (c.fault ≠ 0)
/-- a step: the fault that it ended with, and the machine behind it. -/
def stepM (s : Ms) : Int × Ms :=
  if overB s.c then (s.c.fault, s)
  else if (innerM s).1 = 0 then (0, { (innerM s).2 with c := { (innerM s).2.c with regs := (innerM s).2.c.regs.set 0 0, steps := IntKind.i64.wrap ((innerM s).2.c.steps + 1) } })
  else ((innerM s).1, { s with c := { s.c with fault := (innerM s).1 } })
/-- at most so many steps: how many were done. -/
def runM : Nat → Ms → Nat × Ms
  | 0, s => (0, s)
  | k + 1, s => if overB s.c then (0, s) else if (stepM s).1 = 0 then ((runM k (stepM s).2).1 + 1, (runM k (stepM s).2).2) else (0, (stepM s).2)
theorem runM_over {s : Ms} (h : overB s.c = true) : ∀ k, runM k s = (0, s)
  | 0 => rfl
  | k + 1 => by rw [runM, if_pos h]
theorem stepM_fault {s : Ms} (h : overB s.c = false) (h1 : (stepM s).1 ≠ 0) : overB (stepM s).2.c = true := by
  unfold stepM at h1 ⊢
  rw [if_neg (by rw [h]; decide)] at h1 ⊢
  split at h1
  · exact absurd rfl h1
  · rename_i hn
    rw [if_neg hn]
    simp only [overB]
    have : decide ((innerM s).1 ≠ 0) = true := decide_eq_true hn
    rw [this, Bool.or_true]
theorem runM_add : ∀ (n m : Nat) (s : Ms), runM (n + m) s = ((runM n s).1 + (runM m (runM n s).2).1, (runM m (runM n s).2).2)
  | 0, m, s => by rw [Nat.zero_add, runM]; simp
  | n + 1, m, s => by
    rw [show n + 1 + m = (n + m) + 1 by omega, runM, runM]
    by_cases ho : overB s.c = true
    · rw [if_pos ho, if_pos ho, runM_over ho]
      simp
    · have ho' : overB s.c = false := by simpa using ho
      rw [if_neg ho, if_neg ho]
      by_cases h1 : (stepM s).1 = 0
      · rw [if_pos h1, if_pos h1, runM_add n m]
        simp only [Prod.mk.injEq, and_true]
        omega
      · rw [if_neg h1, if_neg h1, runM_over (stepM_fault ho' h1)]
        simp
end Go.Pat
