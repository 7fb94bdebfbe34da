/- The main that takes blocks until there are none: how it lies, and what it does. Plain: no program in sight. -/
import Derived.Test.YtlhenglopnipaaaGreatDoorRtAl
namespace Go.Pat
open Go Go.RowKit Go.Proofs
def nmAlloc : ByteArray := ⟨#[114, 116, 46, 97, 108, 108, 111, 99]⟩
def nmFree : ByteArray := ⟨#[114, 116, 46, 102, 114, 101, 101]⟩
def keptHead : List It := [⟨2, no, 22, 2, 2, 0, -16⟩, ⟨2, no, 21, 0, 2, 9, 0⟩, ⟨2, no, 21, 0, 2, 18, 8⟩, ⟨3, no, 0, 9, 0, 0, 0⟩, ⟨3, no, 0, 18, 0, 0, 0⟩]
def keptTail : List It := [⟨2, no, 14, 9, 2, 0, 0⟩, ⟨2, no, 14, 18, 2, 0, 8⟩, ⟨2, no, 22, 2, 2, 0, 16⟩]
/-- items between which two registers are kept. -/
def keptL (l : List It) : List It := (keptHead ++ l) ++ keptTail
theorem liL_small (rd n : Int) (h : -2048 ≤ n ∧ n ≤ 2047) : liL rd n = [⟨22, rd, 0, 0, n⟩] := by
  show liM (5 + 1) rd n = _
  rw [liM, if_pos h]
def backB (c : In) : Bool := decide (encZ c.op c.rd c.a c.b c.n < 4294967296) && decide ((decR (encZ c.op c.rd c.a c.b c.n)).map (fun i => (i.op, i.rd, i.rs1, i.rs2, i.imm)) = some (c.op.toNat, c.rd.toNat, c.a.toNat, c.b.toNat, c.n))
theorem back_of {c : In} (h : backB c = true) : backI c := by
  unfold backB at h
  simp only [Bool.and_eq_true, decide_eq_true_eq] at h
  obtain ⟨h1, h2⟩ := h
  refine ⟨h1, ?_⟩
  cases hd : decR (encZ c.op c.rd c.a c.b c.n) with
  | none => rw [hd] at h2; cases h2
  | some i =>
    rw [hd] at h2
    obtain ⟨o, d, a, b, n⟩ := i
    simp only [Option.map_some, Option.some.injEq, Prod.mk.injEq] at h2
    obtain ⟨rfl, rfl, rfl, rfl, rfl⟩ := h2
    rfl
section
variable (n k : Int)
end
section
variable {inp : List UInt8}
/-- the heap so far: nothing was given back, so many blocks are in use; and what the main keeps. -/
structure Hp (m : Nat → Nat) (u : Nat) : Prop where
  lst : ldA m 16777216 8 = 0
  use : ldA m 16777224 8 = u
theorem ldA_zero_ne (m : Nat → Nat) (a n b k : Nat) (h : b + k ≤ a ∨ a + n ≤ b) : ldA (zeroTo m a n) b k = ldA m b k :=
  ldA_same k fun x h1 h2 => by unfold zeroTo; rw [if_neg (by omega)]
theorem Hp.fresh {m : Nat → Nat} {u : Nat} (h : Hp m u) (k : Nat) (hu : u < 256) : Hp (zeroTo (stA m 16777224 (u + 1) 8) (16777264 + 512 * u) (8 * k)) (u + 1) := by
  refine ⟨?_, ?_⟩
  · rw [ldA_zero_ne _ _ _ _ _ (by omega), ldA_st_ne _ _ _ _ _ _ (by omega)]; exact h.lst
  · rw [ldA_zero_ne _ _ _ _ _ (by omega), ldA_st8 _ _ _ (by omega)]
end
end Go.Pat
