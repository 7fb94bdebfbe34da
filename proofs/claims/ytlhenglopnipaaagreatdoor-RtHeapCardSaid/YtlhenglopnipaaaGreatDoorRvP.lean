/- (*Mem).Store at every argument. -/
import Derived.Test.YtlhenglopnipaaaGreatDoorMemTop
import Derived.Test.YtlhenglopnipaaaGreatDoorAlus
namespace Go.Pat
open Go Go.RowKit

/-- what a store leaves. -/
def storeM (fs : List Fr) (at_ v : Nat) (n : Int) : List Fr := if storeE fs at_ n = 0 then storeTo fs at_ v n.toNat else fs
end Go.Pat
namespace Go.Proofs
open Go Go.RowKit Go.Pat

theorem Store_arg (w : World) (p : Value) (at_ v : Nat) (n : Int) (hw : wide n = false) :
    Calls Tryz.prog 94 #[p, .int .u64 at_, .int .i64 n, .int .u64 v] w fun e w' => e = .returned (.int .i64 1) ∧ w = w' := by
  go_enter Tryz.func94, Tryz.ntmps94
  go_wp2_with (go_at_call 109; refine (width_all _ _).mono ?_; rw [hw]; rintro e w' ⟨rfl, rfl⟩)
  go_ret
  exact ⟨rfl, rfl⟩
theorem Store_all (w : World) (p mb : Nat) (fs : List Fr) (hM : MemAt w p mb fs) (at_ v : Nat) (n : Int) (hat : at_ < 18446744073709551616) (hv : v < 18446744073709551616) :
    Calls Tryz.prog 94 #[.pointer (some ⟨p, 0, none⟩), .int .u64 at_, .int .i64 n, .int .u64 v] w fun e w' =>
      e = .returned (.int .i64 (storeE fs at_ n)) ∧ MemAt w' p mb (storeM fs at_ v n) ∧ KeptBut (fun b => b ∈ fs.map (·.blk)) w w' := by
  cases hw : wide n with
  | false =>
    have e1 : storeE fs at_ n = 1 := by simp [storeE, hw]
    refine (Store_arg w _ at_ v n hw).mono ?_
    rintro e w' ⟨rfl, rfl⟩
    exact ⟨by rw [e1], by rw [storeM, e1, if_neg (by decide)]; exact hM, .refl _ _⟩
  | true =>
    obtain ⟨k, rfl, hk⟩ : ∃ k : Nat, n = k ∧ (k ≤ 8) := by
      simp [wide] at hw
      exact ⟨n.toNat, by omega, by omega⟩
    have e1 : storeE fs at_ k = askedM fs at_ k 2 := by simp [storeE, hw]
    by_cases h0 : askedM fs at_ k 2 = 0
    · refine (Store_any w p mb fs hM at_ v k hat hw hk hv h0).mono ?_
      rintro e w' ⟨rfl, h1, h2⟩
      exact ⟨by rw [e1, h0], by rw [storeM, e1, if_pos h0]; exact h1, h2⟩
    · refine (Store_err w p mb fs hM at_ k v hat (by rw [e1]; exact h0)).mono ?_
      rintro e w' ⟨rfl, hB⟩
      exact ⟨rfl, by rw [storeM, e1, if_neg h0]; exact hM.below hM.lt hB, .of_below hB⟩
end Go.Proofs

/- A step of a machine, and running it: what they make, plainly; running for n steps and then for m is running for n + m. -/
namespace Go.Pat
open Go Go.RowKit
/-- a machine at work: its state, its memory, what it may read. -/
structure Ms where
  c : Mc
  fs : List Fr
  inp : List UInt8
def Mc.reg (c : Mc) (i : Nat) : Nat := c.regs.getD i 0
def Mc.put (c : Mc) (rd v pc : Nat) : Mc := { c with regs := c.regs.set rd v, pc := pc }
def wrN (z : Int) : Nat := (z % 18446744073709551616).toNat
theorem wrN_is (z : Int) : ((wrN z : Nat) : Int) = IntKind.u64.wrap z := by rw [IntKind.wrap_u64]; unfold wrN; omega
theorem wrN_lt (z : Int) : wrN z < 18446744073709551616 := by unfold wrN; omega
def ldN (op : Nat) : Nat := if op ≤ 14 then 2 ^ (op - 11) else 2 ^ (op - 15)
def ldS (op : Nat) : Nat := if op = 11 then 56 else if op = 12 then 48 else if op = 13 then 32 else 0
/-- what a load makes of its bytes. -/
def ldV (op v : Nat) : Nat := wrN ((wrap64 (IntKind.u64.wrap ((v : Int) * 2 ^ ldS op))).fdiv (2 ^ ldS op))
def callM (s : Ms) : Int × Ms :=
  if s.c.reg 17 = 63 then
    (if s.c.inn < s.inp.length then (0, { s with c := { s.c with regs := s.c.regs.set 10 (s.inp.getD s.c.inn.toNat 0).toNat, inn := s.c.inn + 1 } })
      else (0, { s with c := { s.c with regs := s.c.regs.set 10 18446744073709551615 } }))
  else if s.c.reg 17 = 64 then (0, { s with c := { s.c with out := s.c.out ++ [UInt8.ofNat (s.c.reg 10)] } })
  else if s.c.reg 17 = 93 then (0, { s with c := { s.c with halted := true, code := ((s.c.reg 10 % 256 : Nat) : Int) } })
  else (34, s)
def nextPc (s : Ms) : Nat := (s.c.pc + 4) % 18446744073709551616
/-- what an instruction does to a machine that is not over. -/
def execM (i : Ins) (s : Ms) : Int × Ms :=
  if i.op = 1 then (0, { s with c := s.c.put i.rd (wrN i.imm * 4096 % 18446744073709551616) (nextPc s) })
  else if i.op = 2 then (0, { s with c := s.c.put i.rd ((s.c.pc + wrN i.imm * 4096) % 18446744073709551616) (nextPc s) })
  else if i.op = 3 then (0, { s with c := s.c.put i.rd (nextPc s) ((s.c.pc + wrN i.imm) % 18446744073709551616) })
  else if i.op = 4 then (0, { s with c := s.c.put i.rd (nextPc s) ((s.c.reg i.rs1 + wrN i.imm) % 18446744073709551616 / 2 * 2) })
  else if i.op ≤ 10 then (0, { s with c := { s.c with pc := if (takenV i.op (s.c.reg i.rs1) (s.c.reg i.rs2)).1 then (s.c.pc + wrN i.imm) % 18446744073709551616 else nextPc s } })
  else if i.op ≤ 17 then
    (if (loadM s.fs ((s.c.reg i.rs1 + wrN i.imm) % 18446744073709551616) (ldN i.op)).2 = 0 then
      (0, { s with c := s.c.put i.rd (ldV i.op (loadM s.fs ((s.c.reg i.rs1 + wrN i.imm) % 18446744073709551616) (ldN i.op)).1) (nextPc s) })
    else (32, s))
  else if i.op ≤ 21 then
    (if storeE s.fs ((s.c.reg i.rs1 + wrN i.imm) % 18446744073709551616) ((2 ^ (i.op - 18) : Nat) : Int) = 0 then
      (0, { s with c := { s.c with pc := nextPc s }, fs := storeM s.fs ((s.c.reg i.rs1 + wrN i.imm) % 18446744073709551616) (s.c.reg i.rs2) ((2 ^ (i.op - 18) : Nat) : Int) })
    else (33, s))
  else if i.op ≤ 34 then (0, { s with c := s.c.put i.rd (aluV i.op (s.c.reg i.rs1) (wrN i.imm)).toNat (nextPc s) })
  else if i.op ≤ 62 then (0, { s with c := s.c.put i.rd (aluV i.op (s.c.reg i.rs1) (s.c.reg i.rs2)).toNat (nextPc s) })
  else if i.op = 65 then (34, s)
  else if i.op = 64 then (if (callM s).1 = 0 then (0, { (callM s).2 with c := { (callM s).2.c with pc := nextPc s } }) else ((callM s).1, s))
  else (0, { s with c := { s.c with pc := nextPc s } })
def innerM (s : Ms) : Int × Ms :=
  if (fetchM s.fs s.c.pc).2 = 0 then (match decR (fetchM s.fs s.c.pc).1 with
    | none => (31, s)
    | some i => execM i s)
  else (30, s)
def overB (c : Mc) : Bool := c.halted || decide (c.fault ≠ 0)
/-- a step: the fault that it ended with, and the machine behind it. -/
def stepM (s : Ms) : Int × Ms :=
  if overB s.c then (s.c.fault, s)
  else if (innerM s).1 = 0 then (0, { (innerM s).2 with c := { (innerM s).2.c with regs := (innerM s).2.c.regs.set 0 0, steps := IntKind.i64.wrap ((innerM s).2.c.steps + 1) } })
  else ((innerM s).1, { s with c := { s.c with fault := (innerM s).1 } })
/-- at most so many steps: how many were done. -/
def runM : Nat → Ms → Nat × Ms
  | 0, s => (0, s)
  | k + 1, s => if overB s.c then (0, s) else if (stepM s).1 = 0 then ((runM k (stepM s).2).1 + 1, (runM k (stepM s).2).2) else (0, (stepM s).2)
theorem runM_over {s : Ms} (h : overB s.c = true) : ∀ k, runM k s = (0, s)
  | 0 => rfl
  | k + 1 => by rw [runM, if_pos h]
theorem stepM_fault {s : Ms} (h : overB s.c = false) (h1 : (stepM s).1 ≠ 0) : overB (stepM s).2.c = true := by
  unfold stepM at h1 ⊢
  rw [if_neg (by rw [h]; decide)] at h1 ⊢
  split at h1
  · exact absurd rfl h1
  · rename_i hn
    rw [if_neg hn]
    simp only [overB]
    have : decide ((innerM s).1 ≠ 0) = true := decide_eq_true hn
    rw [this, Bool.or_true]
theorem runM_add : ∀ (n m : Nat) (s : Ms), runM (n + m) s = ((runM n s).1 + (runM m (runM n s).2).1, (runM m (runM n s).2).2)
  | 0, m, s => by rw [Nat.zero_add, runM]; simp
  | n + 1, m, s => by
    rw [show n + 1 + m = (n + m) + 1 by omega, runM, runM]
    by_cases ho : overB s.c = true
    · rw [if_pos ho, if_pos ho, runM_over ho]
      simp
    · have ho' : overB s.c = false := by simpa using ho
      rw [if_neg ho, if_neg ho]
      by_cases h1 : (stepM s).1 = 0
      · rw [if_pos h1, if_pos h1, runM_add n m]
        simp only [Prod.mk.injEq, and_true]
        omega
      · rw [if_neg h1, if_neg h1, runM_over (stepM_fault ho' h1)]
        simp
end Go.Pat

/- patina/rv: bits, signed, has, imm, fits, Decode: what a word says. -/
namespace Go.Pat
open Go Go.RowKit
theorem ofInt32 (a : Nat) (ha : a < 4294967296) : (BitVec.ofInt 32 (a : Int)).toNat = a := by rw [BitVec.toNat_ofInt]; omega
theorem u32_nat (a : Nat) (ha : a < 4294967296) : IntKind.u32.wrap (a : Int) = (a : Int) := by rw [wrap_u32']; omega
theorem bits_and_u32 (a b : Nat) (ha : a < 4294967296) (hb : b < 4294967296) : bits .and .u32 (a : Int) (b : Int) = ((a &&& b : Nat) : Int) := by
  show IntKind.u32.wrap ((((BitVec.ofInt 32 (a : Int)) &&& (BitVec.ofInt 32 (b : Int)) : BitVec 32).toNat : Nat) : Int) = _
  rw [BitVec.toNat_and, ofInt32 a ha, ofInt32 b hb, u32_nat _ (Nat.lt_of_le_of_lt Nat.and_le_left ha)]
theorem bits_or_u32 (a b : Nat) (ha : a < 4294967296) (hb : b < 4294967296) : bits .or .u32 (a : Int) (b : Int) = ((a ||| b : Nat) : Int) := by
  show IntKind.u32.wrap ((((BitVec.ofInt 32 (a : Int)) ||| (BitVec.ofInt 32 (b : Int)) : BitVec 32).toNat : Nat) : Int) = _
  rw [BitVec.toNat_or, ofInt32 a ha, ofInt32 b hb, u32_nat _ (Nat.or_lt_two_pow (n := 32) ha hb)]
theorem bits_mask (a k : Nat) (ha : a < 4294967296) (hk : k < 32) : bits .and .u32 (a : Int) (((2 ^ k - 1 : Nat)) : Int) = ((a % 2 ^ k : Nat) : Int) := by
  have h : (2 : Nat) ^ k < 4294967296 := Nat.pow_lt_pow_right (by decide) hk
  rw [bits_and_u32 a _ ha (by omega), Nat.and_two_pow_sub_one_eq_mod]
theorem bitsN_lt (n f c a : Nat) : bitsN n f c a < 4294967296 := Nat.mod_lt _ (by decide)
theorem or_lt32 {a b : Nat} (ha : a < 4294967296) (hb : b < 4294967296) : a ||| b < 4294967296 := Nat.or_lt_two_pow (n := 32) ha hb
theorem sgn_12 (n : Nat) : sgn n 12 = wrap64 (wrap32 ((n : Int) * 1048576 % 4294967296) / 1048576) := by
  rw [wrap32, wrap64]; simp only [sgn, Nat.reducePow, Nat.reduceSub, Int.reducePow]; split <;> omega
theorem sgn_13 (n : Nat) : sgn n 13 = wrap64 (wrap32 ((n : Int) * 524288 % 4294967296) / 524288) := by
  rw [wrap32, wrap64]; simp only [sgn, Nat.reducePow, Nat.reduceSub, Int.reducePow]; split <;> omega
theorem sgn_20 (n : Nat) : sgn n 20 = wrap64 (wrap32 ((n : Int) * 4096 % 4294967296) / 4096) := by
  rw [wrap32, wrap64]; simp only [sgn, Nat.reducePow, Nat.reduceSub, Int.reducePow]; split <;> omega
theorem sgn_21 (n : Nat) : sgn n 21 = wrap64 (wrap32 ((n : Int) * 2048 % 4294967296) / 2048) := by
  rw [wrap32, wrap64]; simp only [sgn, Nat.reducePow, Nat.reduceSub, Int.reducePow]; split <;> omega
theorem ediv_pow (n f : Nat) : ((n : Int) / 2 ^ f) = ((n / 2 ^ f : Nat) : Int) := by rw [Int.natCast_ediv, Int.natCast_pow]; rfl
theorem pow_int (c : Nat) : (2 : Int) ^ c = ((2 ^ c : Nat) : Int) := by rw [Int.natCast_pow]; rfl
theorem mask_int (c : Nat) (hc : c < 32) : ((2 : Int) ^ c - 1) % 4294967296 = ((2 ^ c - 1 : Nat) : Int) := by
  have h : (2 : Nat) ^ c < 4294967296 := Nat.pow_lt_pow_right (by decide) hc
  have h0 : 0 < (2 : Nat) ^ c := Nat.pow_pos (by decide)
  rw [pow_int]; generalize (2 : Nat) ^ c = z at *; omega
theorem bitsN_is (n f c a : Nat) (hn : n < 4294967296) (hc : c < 32) : bits .and .u32 ((n : Int) / 2 ^ f) (((2 : Int) ^ c - 1) % 4294967296) * 2 ^ a % 4294967296 = ((bitsN n f c a : Nat) : Int) := by
  rw [ediv_pow, mask_int c hc, bits_mask _ c (Nat.lt_of_le_of_lt (Nat.div_le_self _ _) hn) hc, pow_int a, ← Int.natCast_mul]
  unfold bitsN
  generalize n / 2 ^ f % 2 ^ c * 2 ^ a = z
  omega
theorem and127 (w : Nat) (hw : w < 4294967296) : bits .and .u32 (w : Int) 127 = ((w % 128 : Nat) : Int) := bits_mask w 7 hw (by decide)
theorem and7 (w : Nat) (hw : w < 4294967296) : bits .and .u32 (w : Int) 7 = ((w % 8 : Nat) : Int) := bits_mask w 3 hw (by decide)
theorem and63' (w : Nat) (hw : w < 4294967296) : bits .and .u32 (w : Int) 63 = ((w % 64 : Nat) : Int) := bits_mask w 6 hw (by decide)
theorem and31n (w : Nat) (hw : w < 4294967296) : bits .and .u32 (w : Int) 31 = ((w % 32 : Nat) : Int) := bits_mask w 5 hw (by decide)
end Go.Pat
namespace Go.Proofs
open Go Go.RowKit Go.Pat
theorem rvBits_any (n f c a : Nat) (hn : n < 4294967296) (hf : f < 32) (hc : c < 32) (ha : a < 32) (w : World) :
    Calls Tryz.prog 88 #[.int .u32 n, .int .u64 f, .int .u64 c, .int .u64 a] w fun e w' => e = .returned (.int .u32 ((bitsN n f c a : Nat) : Int)) ∧ w' = w := by
  have s1 : ∀ W : World, (Op.shift .shr .u32 (n : Int) .u64 (f : Int)).run Tryz.prog W = .ok (.int .u32 ((n / 2 ^ f : Nat) : Int)) W := fun W => by rw [run_shr .u32 .u64 n f f rfl hf W, fdiv_nat]
  have s2 : ∀ W : World, (Op.shift .shl .u32 1 .u64 (c : Int)).run Tryz.prog W = .ok (.int .u32 ((2 ^ c : Nat) : Int)) W := fun W => by
    rw [run_shl .u32 .u64 1 c c rfl hc W, Int.one_mul, show ((2 : Int) ^ c) = ((2 ^ c : Nat) : Int) by rw [Int.natCast_pow]; rfl, u32_nat _ (Nat.pow_lt_pow_right (by decide) hc)]
  have s3 : ∀ (v : Int) (W : World), (Op.shift .shl .u32 v .u64 (a : Int)).run Tryz.prog W = .ok (.int .u32 (IntKind.u32.wrap (v * 2 ^ a))) W := fun v W => run_shl .u32 .u64 v a a rfl ha W
  go_enter Tryz.func88, Tryz.ntmps88
  go_wp2
  go_ret
  refine ⟨congrArg (fun z => Ending.returned (Value.int IntKind.u32 z)) ?_, rfl⟩
  exact bitsN_is n f c a hn hc
theorem rvSigned_12 (n : Nat) (w : World) : Calls Tryz.prog 115 #[.int .u32 n, .int .u64 12] w fun e w' => e = .returned (.int .i64 (sgn n 12)) ∧ w' = w := by
  have HS := Lib.hid (sgn_12 n)
  go_enter Tryz.func115, Tryz.ntmps115
  go_wp2
  go_ret
  refine ⟨congrArg (fun z => Ending.returned (Value.int IntKind.i64 z)) ?_, rfl⟩
  rw [HS.out]
theorem rvSigned_13 (n : Nat) (w : World) : Calls Tryz.prog 115 #[.int .u32 n, .int .u64 13] w fun e w' => e = .returned (.int .i64 (sgn n 13)) ∧ w' = w := by
  have HS := Lib.hid (sgn_13 n)
  go_enter Tryz.func115, Tryz.ntmps115
  go_wp2
  go_ret
  refine ⟨congrArg (fun z => Ending.returned (Value.int IntKind.i64 z)) ?_, rfl⟩
  rw [HS.out]
theorem rvSigned_20 (n : Nat) (w : World) : Calls Tryz.prog 115 #[.int .u32 n, .int .u64 20] w fun e w' => e = .returned (.int .i64 (sgn n 20)) ∧ w' = w := by
  have HS := Lib.hid (sgn_20 n)
  go_enter Tryz.func115, Tryz.ntmps115
  go_wp2
  go_ret
  refine ⟨congrArg (fun z => Ending.returned (Value.int IntKind.i64 z)) ?_, rfl⟩
  rw [HS.out]
theorem rvSigned_21 (n : Nat) (w : World) : Calls Tryz.prog 115 #[.int .u32 n, .int .u64 21] w fun e w' => e = .returned (.int .i64 (sgn n 21)) ∧ w' = w := by
  have HS := Lib.hid (sgn_21 n)
  go_enter Tryz.func115, Tryz.ntmps115
  go_wp2
  go_ret
  refine ⟨congrArg (fun z => Ending.returned (Value.int IntKind.i64 z)) ?_, rfl⟩
  rw [HS.out]
theorem rvHas_any (f : Nat) (w : World) : Calls Tryz.prog 97 #[.int .u8 f] w fun e w' => e = .returned (.tuple #[.bool (hasD f), .bool (has1 f), .bool (has2 f)]) ∧ w' = w := by
  by_cases a82 : f = 82
  · subst a82
    go_enter Tryz.func97, Tryz.ntmps97
    go_wp2
    go_ret3
    exact ⟨rfl, rfl⟩
  by_cases a73 : f = 73
  · subst a73
    go_enter Tryz.func97, Tryz.ntmps97
    go_wp2
    go_ret3
    exact ⟨rfl, rfl⟩
  by_cases a72 : f = 72
  · subst a72
    go_enter Tryz.func97, Tryz.ntmps97
    go_wp2
    go_ret3
    exact ⟨rfl, rfl⟩
  by_cases a85 : f = 85
  · subst a85
    go_enter Tryz.func97, Tryz.ntmps97
    go_wp2
    go_ret3
    exact ⟨rfl, rfl⟩
  by_cases a74 : f = 74
  · subst a74
    go_enter Tryz.func97, Tryz.ntmps97
    go_wp2
    go_ret3
    exact ⟨rfl, rfl⟩
  by_cases a66 : f = 66
  · subst a66
    go_enter Tryz.func97, Tryz.ntmps97
    go_wp2
    go_ret3
    exact ⟨rfl, rfl⟩
  by_cases a83 : f = 83
  · subst a83
    go_enter Tryz.func97, Tryz.ntmps97
    go_wp2
    go_ret3
    exact ⟨rfl, rfl⟩
  have HX := Lib.hid (show hasD f = false ∧ has1 f = false ∧ has2 f = false by
    simp only [hasD, has1, has2, decide_eq_false a82, decide_eq_false a73, decide_eq_false a72, decide_eq_false a85, decide_eq_false a74, decide_eq_false a66, decide_eq_false a83, Bool.or_false, and_self])
  have d82 : ((f : Int) == 82) = false := by rw [beq_eq_false_iff_ne]; omega
  have d73 : ((f : Int) == 73) = false := by rw [beq_eq_false_iff_ne]; omega
  have d72 : ((f : Int) == 72) = false := by rw [beq_eq_false_iff_ne]; omega
  have d85 : ((f : Int) == 85) = false := by rw [beq_eq_false_iff_ne]; omega
  have d74 : ((f : Int) == 74) = false := by rw [beq_eq_false_iff_ne]; omega
  have d66 : ((f : Int) == 66) = false := by rw [beq_eq_false_iff_ne]; omega
  have d83 : ((f : Int) == 83) = false := by rw [beq_eq_false_iff_ne]; omega
  clear a82 a73 a72 a85 a74 a66 a83
  go_enter Tryz.func97, Tryz.ntmps97
  go_wp2
  go_ret3
  refine ⟨?_, rfl⟩
  rw [HX.out.1, HX.out.2.1, HX.out.2.2]
  rfl
set_option maxHeartbeats 1000000 in
theorem rvFits_78 (oc f3 f7 x : Nat) (w : World) :
    Calls Tryz.prog 105 #[.agg #[.int .u8 78, .int .u32 oc, .int .u32 f3, .int .u32 f7], .int .u32 x] w fun e w' => e = .returned (.bool (fitsB 78 oc f3 f7 x)) ∧ Below w.heap.size w w' := by
  have HX := Lib.hid (show fitsB 78 oc f3 f7 x = ((x : Int) == (oc : Int)) by rw [eqI]; rfl)
  go_enter Tryz.func105, Tryz.ntmps105
  go_wp2
  go_ret
  refine ⟨congrArg (fun z => Ending.returned (Value.bool z)) ?_, (Below.refl _ _).alloc (Nat.le_refl _) _⟩
  rw [HX.out]
theorem eqF {a b : Nat} (h : a ≠ b) : ((a : Int) == (b : Int)) = false := by rw [eqI, decide_eq_false h]
theorem eqT {a b : Nat} (h : a = b) : ((a : Int) == (b : Int)) = true := by rw [eqI, decide_eq_true h]
theorem neF {a b : Nat} (h : a ≠ b) : ((a : Int) != (b : Int)) = true := by rw [neI, decide_eq_false h]; rfl
theorem neT {a b : Nat} (h : a = b) : ((a : Int) != (b : Int)) = false := by rw [neI, decide_eq_true h]; rfl
theorem div_nat (x k : Nat) : (x : Int) / (k : Int) = ((x / k : Nat) : Int) := (Int.natCast_ediv x k).symm
set_option maxHeartbeats 4000000 in
theorem rvFits_82 (oc f3 f7 x : Nat) (hx : x < 4294967296) (w : World) :
    Calls Tryz.prog 105 #[.agg #[.int .u8 82, .int .u32 oc, .int .u32 f3, .int .u32 f7], .int .u32 x] w fun e w' => e = .returned (.bool (fitsB 82 oc f3 f7 x)) ∧ Below w.heap.size w w' := by
  by_cases hH : x / 33554432 = f7
  · have fH : ((x : Int) / 33554432 != (f7 : Int)) = false := by rw [show (x : Int) / 33554432 = ((x / 33554432 : Nat) : Int) from div_nat x 33554432]; exact neT hH
    have hU : fitsB 82 oc f3 f7 x = fitsE 82 oc f3 x := by unfold fitsB; rw [if_neg (by decide), if_neg (by decide), if_pos rfl, decide_eq_true hH, Bool.true_and]
    clear hH
    by_cases hA : x % 128 = oc
    · have fA : (bits BinOp.and IntKind.u32 (x : Int) 127 == (oc : Int)) = true := by rw [and127 x hx]; exact eqT hA
      by_cases hD : x / 4096 % 8 = f3
      · have fD : (bits BinOp.and IntKind.u32 ((x : Int) / 4096) 7 == (f3 : Int)) = true := by rw [show (x : Int) / 4096 = ((x / 4096 : Nat) : Int) from div_nat x 4096, and7 _ (by omega)]; exact eqT hD
        have HX := Lib.hid (show fitsB 82 oc f3 f7 x = true by rw [hU]; unfold fitsE; rw [decide_eq_true hA, decide_eq_true hD, Bool.or_true]; rfl)
        clear hA hD
        go_enter Tryz.func105, Tryz.ntmps105
        go_wp2
        go_ret
        refine ⟨congrArg (fun z => Ending.returned (Value.bool z)) ?_, (Below.refl _ _).alloc (Nat.le_refl _) _⟩
        rw [HX.out]
      · have fD : (bits BinOp.and IntKind.u32 ((x : Int) / 4096) 7 == (f3 : Int)) = false := by rw [show (x : Int) / 4096 = ((x / 4096 : Nat) : Int) from div_nat x 4096, and7 _ (by omega)]; exact eqF hD
        have HX := Lib.hid (show fitsB 82 oc f3 f7 x = false by rw [hU]; unfold fitsE; rw [decide_eq_true hA, decide_eq_false hD, show (decide (82 = 85) || decide (82 = 74)) = false from rfl]; rfl)
        clear hA hD
        go_enter Tryz.func105, Tryz.ntmps105
        go_wp2
        go_ret
        refine ⟨congrArg (fun z => Ending.returned (Value.bool z)) ?_, (Below.refl _ _).alloc (Nat.le_refl _) _⟩
        rw [HX.out]
    · have fA : (bits BinOp.and IntKind.u32 (x : Int) 127 == (oc : Int)) = false := by rw [and127 x hx]; exact eqF hA
      have HX := Lib.hid (show fitsB 82 oc f3 f7 x = false by rw [hU]; unfold fitsE; rw [decide_eq_false hA, Bool.false_and])
      clear hA
      go_enter Tryz.func105, Tryz.ntmps105
      go_wp2
      go_ret
      refine ⟨congrArg (fun z => Ending.returned (Value.bool z)) ?_, (Below.refl _ _).alloc (Nat.le_refl _) _⟩
      rw [HX.out]
  · have fH : ((x : Int) / 33554432 != (f7 : Int)) = true := by rw [show (x : Int) / 33554432 = ((x / 33554432 : Nat) : Int) from div_nat x 33554432]; exact neF hH
    have HX := Lib.hid (show fitsB 82 oc f3 f7 x = false by unfold fitsB; rw [if_neg (by decide), if_neg (by decide), if_pos rfl, decide_eq_false hH, Bool.false_and])
    clear hH
    go_enter Tryz.func105, Tryz.ntmps105
    go_wp2
    go_ret
    refine ⟨congrArg (fun z => Ending.returned (Value.bool z)) ?_, (Below.refl _ _).alloc (Nat.le_refl _) _⟩
    rw [HX.out]
set_option maxHeartbeats 4000000 in
theorem rvFits_72 (oc f3 f7 x : Nat) (hx : x < 4294967296) (w : World) :
    Calls Tryz.prog 105 #[.agg #[.int .u8 72, .int .u32 oc, .int .u32 f3, .int .u32 f7], .int .u32 x] w fun e w' => e = .returned (.bool (fitsB 72 oc f3 f7 x)) ∧ Below w.heap.size w w' := by
  by_cases ho : oc = 27
  · have fo : ((oc : Int) == 27) = true := eqT ho
    by_cases hH : x / 33554432 = f7
    · have fH : ((x : Int) / 33554432 != (f7 : Int)) = false := by rw [show (x : Int) / 33554432 = ((x / 33554432 : Nat) : Int) by omega]; exact neT hH
      have hU : fitsB 72 oc f3 f7 x = fitsE 72 oc f3 x := by unfold fitsB; rw [if_neg (by decide), if_pos rfl, if_pos ho, decide_eq_true hH, Bool.true_and]
      clear hH ho
      by_cases hA : x % 128 = oc
      · have fA : (bits BinOp.and IntKind.u32 (x : Int) 127 == (oc : Int)) = true := by rw [and127 x hx]; exact eqT hA
        by_cases hD : x / 4096 % 8 = f3
        · have fD : (bits BinOp.and IntKind.u32 ((x : Int) / 4096) 7 == (f3 : Int)) = true := by rw [show (x : Int) / 4096 = ((x / 4096 : Nat) : Int) from div_nat x 4096, and7 _ (by omega)]; exact eqT hD
          have HX := Lib.hid (show fitsB 72 oc f3 f7 x = true by rw [hU]; unfold fitsE; rw [decide_eq_true hA, decide_eq_true hD, Bool.or_true]; rfl)
          clear hA hD
          go_enter Tryz.func105, Tryz.ntmps105
          go_wp2
          go_ret
          refine ⟨congrArg (fun z => Ending.returned (Value.bool z)) ?_, (Below.refl _ _).alloc (Nat.le_refl _) _⟩
          rw [HX.out]
        · have fD : (bits BinOp.and IntKind.u32 ((x : Int) / 4096) 7 == (f3 : Int)) = false := by rw [show (x : Int) / 4096 = ((x / 4096 : Nat) : Int) from div_nat x 4096, and7 _ (by omega)]; exact eqF hD
          have HX := Lib.hid (show fitsB 72 oc f3 f7 x = false by rw [hU]; unfold fitsE; rw [decide_eq_true hA, decide_eq_false hD, show (decide (72 = 85) || decide (72 = 74)) = false from rfl]; rfl)
          clear hA hD
          go_enter Tryz.func105, Tryz.ntmps105
          go_wp2
          go_ret
          refine ⟨congrArg (fun z => Ending.returned (Value.bool z)) ?_, (Below.refl _ _).alloc (Nat.le_refl _) _⟩
          rw [HX.out]
      · have fA : (bits BinOp.and IntKind.u32 (x : Int) 127 == (oc : Int)) = false := by rw [and127 x hx]; exact eqF hA
        have HX := Lib.hid (show fitsB 72 oc f3 f7 x = false by rw [hU]; unfold fitsE; rw [decide_eq_false hA, Bool.false_and])
        clear hA
        go_enter Tryz.func105, Tryz.ntmps105
        go_wp2
        go_ret
        refine ⟨congrArg (fun z => Ending.returned (Value.bool z)) ?_, (Below.refl _ _).alloc (Nat.le_refl _) _⟩
        rw [HX.out]
    · have fH : ((x : Int) / 33554432 != (f7 : Int)) = true := by rw [show (x : Int) / 33554432 = ((x / 33554432 : Nat) : Int) by omega]; exact neF hH
      have HX := Lib.hid (show fitsB 72 oc f3 f7 x = false by unfold fitsB; rw [if_neg (by decide), if_pos rfl, if_pos ho, decide_eq_false hH, Bool.false_and])
      clear hH ho
      go_enter Tryz.func105, Tryz.ntmps105
      go_wp2
      go_ret
      refine ⟨congrArg (fun z => Ending.returned (Value.bool z)) ?_, (Below.refl _ _).alloc (Nat.le_refl _) _⟩
      rw [HX.out]
  · have fo : ((oc : Int) == 27) = false := eqF ho
    by_cases hH : x / 67108864 * 2 = f7
    · have fH : ((x : Int) / 67108864 * 2 % 4294967296 != (f7 : Int)) = false := by rw [show (x : Int) / 67108864 * 2 % 4294967296 = ((x / 67108864 * 2 : Nat) : Int) by omega]; exact neT hH
      have hU : fitsB 72 oc f3 f7 x = fitsE 72 oc f3 x := by unfold fitsB; rw [if_neg (by decide), if_pos rfl, if_neg ho, decide_eq_true hH, Bool.true_and]
      clear hH ho
      by_cases hA : x % 128 = oc
      · have fA : (bits BinOp.and IntKind.u32 (x : Int) 127 == (oc : Int)) = true := by rw [and127 x hx]; exact eqT hA
        by_cases hD : x / 4096 % 8 = f3
        · have fD : (bits BinOp.and IntKind.u32 ((x : Int) / 4096) 7 == (f3 : Int)) = true := by rw [show (x : Int) / 4096 = ((x / 4096 : Nat) : Int) from div_nat x 4096, and7 _ (by omega)]; exact eqT hD
          have HX := Lib.hid (show fitsB 72 oc f3 f7 x = true by rw [hU]; unfold fitsE; rw [decide_eq_true hA, decide_eq_true hD, Bool.or_true]; rfl)
          clear hA hD
          go_enter Tryz.func105, Tryz.ntmps105
          go_wp2
          go_ret
          refine ⟨congrArg (fun z => Ending.returned (Value.bool z)) ?_, (Below.refl _ _).alloc (Nat.le_refl _) _⟩
          rw [HX.out]
        · have fD : (bits BinOp.and IntKind.u32 ((x : Int) / 4096) 7 == (f3 : Int)) = false := by rw [show (x : Int) / 4096 = ((x / 4096 : Nat) : Int) from div_nat x 4096, and7 _ (by omega)]; exact eqF hD
          have HX := Lib.hid (show fitsB 72 oc f3 f7 x = false by rw [hU]; unfold fitsE; rw [decide_eq_true hA, decide_eq_false hD, show (decide (72 = 85) || decide (72 = 74)) = false from rfl]; rfl)
          clear hA hD
          go_enter Tryz.func105, Tryz.ntmps105
          go_wp2
          go_ret
          refine ⟨congrArg (fun z => Ending.returned (Value.bool z)) ?_, (Below.refl _ _).alloc (Nat.le_refl _) _⟩
          rw [HX.out]
      · have fA : (bits BinOp.and IntKind.u32 (x : Int) 127 == (oc : Int)) = false := by rw [and127 x hx]; exact eqF hA
        have HX := Lib.hid (show fitsB 72 oc f3 f7 x = false by rw [hU]; unfold fitsE; rw [decide_eq_false hA, Bool.false_and])
        clear hA
        go_enter Tryz.func105, Tryz.ntmps105
        go_wp2
        go_ret
        refine ⟨congrArg (fun z => Ending.returned (Value.bool z)) ?_, (Below.refl _ _).alloc (Nat.le_refl _) _⟩
        rw [HX.out]
    · have fH : ((x : Int) / 67108864 * 2 % 4294967296 != (f7 : Int)) = true := by rw [show (x : Int) / 67108864 * 2 % 4294967296 = ((x / 67108864 * 2 : Nat) : Int) by omega]; exact neF hH
      have HX := Lib.hid (show fitsB 72 oc f3 f7 x = false by unfold fitsB; rw [if_neg (by decide), if_pos rfl, if_neg ho, decide_eq_false hH, Bool.false_and])
      clear hH ho
      go_enter Tryz.func105, Tryz.ntmps105
      go_wp2
      go_ret
      refine ⟨congrArg (fun z => Ending.returned (Value.bool z)) ?_, (Below.refl _ _).alloc (Nat.le_refl _) _⟩
      rw [HX.out]
set_option maxHeartbeats 4000000 in
theorem rvFits_85 (oc f3 f7 x : Nat) (hx : x < 4294967296) (w : World) :
    Calls Tryz.prog 105 #[.agg #[.int .u8 85, .int .u32 oc, .int .u32 f3, .int .u32 f7], .int .u32 x] w fun e w' => e = .returned (.bool (fitsB 85 oc f3 f7 x)) ∧ Below w.heap.size w w' := by
  have hU : fitsB 85 oc f3 f7 x = decide (x % 128 = oc) := by unfold fitsB; rw [if_neg (by decide), if_neg (by decide), if_neg (by decide)]; unfold fitsE; rw [show (decide (85 = 85) || decide (85 = 74)) = true from rfl, Bool.true_or, Bool.and_true]
  by_cases hA : x % 128 = oc
  · have fA : (bits BinOp.and IntKind.u32 (x : Int) 127 == (oc : Int)) = true := by rw [and127 x hx]; exact eqT hA
    have HX := Lib.hid (show fitsB 85 oc f3 f7 x = true by rw [hU, decide_eq_true hA])
    clear hA hU
    go_enter Tryz.func105, Tryz.ntmps105
    go_wp2
    go_ret
    refine ⟨congrArg (fun z => Ending.returned (Value.bool z)) ?_, (Below.refl _ _).alloc (Nat.le_refl _) _⟩
    rw [HX.out]
  · have fA : (bits BinOp.and IntKind.u32 (x : Int) 127 == (oc : Int)) = false := by rw [and127 x hx]; exact eqF hA
    have HX := Lib.hid (show fitsB 85 oc f3 f7 x = false by rw [hU, decide_eq_false hA])
    clear hA hU
    go_enter Tryz.func105, Tryz.ntmps105
    go_wp2
    go_ret
    refine ⟨congrArg (fun z => Ending.returned (Value.bool z)) ?_, (Below.refl _ _).alloc (Nat.le_refl _) _⟩
    rw [HX.out]
set_option maxHeartbeats 4000000 in
theorem rvFits_74 (oc f3 f7 x : Nat) (hx : x < 4294967296) (w : World) :
    Calls Tryz.prog 105 #[.agg #[.int .u8 74, .int .u32 oc, .int .u32 f3, .int .u32 f7], .int .u32 x] w fun e w' => e = .returned (.bool (fitsB 74 oc f3 f7 x)) ∧ Below w.heap.size w w' := by
  have hU : fitsB 74 oc f3 f7 x = decide (x % 128 = oc) := by unfold fitsB; rw [if_neg (by decide), if_neg (by decide), if_neg (by decide)]; unfold fitsE; rw [show (decide (74 = 85) || decide (74 = 74)) = true from rfl, Bool.true_or, Bool.and_true]
  by_cases hA : x % 128 = oc
  · have fA : (bits BinOp.and IntKind.u32 (x : Int) 127 == (oc : Int)) = true := by rw [and127 x hx]; exact eqT hA
    have HX := Lib.hid (show fitsB 74 oc f3 f7 x = true by rw [hU, decide_eq_true hA])
    clear hA hU
    go_enter Tryz.func105, Tryz.ntmps105
    go_wp2
    go_ret
    refine ⟨congrArg (fun z => Ending.returned (Value.bool z)) ?_, (Below.refl _ _).alloc (Nat.le_refl _) _⟩
    rw [HX.out]
  · have fA : (bits BinOp.and IntKind.u32 (x : Int) 127 == (oc : Int)) = false := by rw [and127 x hx]; exact eqF hA
    have HX := Lib.hid (show fitsB 74 oc f3 f7 x = false by rw [hU, decide_eq_false hA])
    clear hA hU
    go_enter Tryz.func105, Tryz.ntmps105
    go_wp2
    go_ret
    refine ⟨congrArg (fun z => Ending.returned (Value.bool z)) ?_, (Below.refl _ _).alloc (Nat.le_refl _) _⟩
    rw [HX.out]
set_option maxHeartbeats 4000000 in
theorem rvFits_el (f oc f3 f7 x : Nat) (hx : x < 4294967296) (n1 : f ≠ 78) (n2 : f ≠ 72) (n3 : f ≠ 82) (n4 : f ≠ 85) (n5 : f ≠ 74) (w : World) :
    Calls Tryz.prog 105 #[.agg #[.int .u8 f, .int .u32 oc, .int .u32 f3, .int .u32 f7], .int .u32 x] w fun e w' => e = .returned (.bool (fitsB f oc f3 f7 x)) ∧ Below w.heap.size w w' := by
  have hU : fitsB f oc f3 f7 x = fitsE f oc f3 x := by unfold fitsB; rw [if_neg n1, if_neg n2, if_neg n3]
  have hV : (decide (f = 85) || decide (f = 74)) = false := by rw [decide_eq_false n4, decide_eq_false n5]; rfl
  have e78 : ((f : Int) == 78) = false := eqF n1
  have e72 : ((f : Int) == 72) = false := eqF n2
  have e82 : ((f : Int) == 82) = false := eqF n3
  have e85 : ((f : Int) == 85) = false := eqF n4
  have e74 : ((f : Int) == 74) = false := eqF n5
  clear n1 n2 n3 n4 n5
  by_cases hA : x % 128 = oc
  · have fA : (bits BinOp.and IntKind.u32 (x : Int) 127 == (oc : Int)) = true := by rw [and127 x hx]; exact eqT hA
    by_cases hD : x / 4096 % 8 = f3
    · have fD : (bits BinOp.and IntKind.u32 ((x : Int) / 4096) 7 == (f3 : Int)) = true := by rw [show (x : Int) / 4096 = ((x / 4096 : Nat) : Int) from div_nat x 4096, and7 _ (by omega)]; exact eqT hD
      have HX := Lib.hid (show fitsB f oc f3 f7 x = true by rw [hU]; unfold fitsE; rw [decide_eq_true hA, decide_eq_true hD, Bool.or_true]; rfl)
      clear hA hD
      go_enter Tryz.func105, Tryz.ntmps105
      go_wp2
      go_ret
      refine ⟨congrArg (fun z => Ending.returned (Value.bool z)) ?_, (Below.refl _ _).alloc (Nat.le_refl _) _⟩
      rw [HX.out]
    · have fD : (bits BinOp.and IntKind.u32 ((x : Int) / 4096) 7 == (f3 : Int)) = false := by rw [show (x : Int) / 4096 = ((x / 4096 : Nat) : Int) from div_nat x 4096, and7 _ (by omega)]; exact eqF hD
      have HX := Lib.hid (show fitsB f oc f3 f7 x = false by rw [hU]; unfold fitsE; rw [decide_eq_true hA, decide_eq_false hD, hV]; rfl)
      clear hA hD
      go_enter Tryz.func105, Tryz.ntmps105
      go_wp2
      go_ret
      refine ⟨congrArg (fun z => Ending.returned (Value.bool z)) ?_, (Below.refl _ _).alloc (Nat.le_refl _) _⟩
      rw [HX.out]
  · have fA : (bits BinOp.and IntKind.u32 (x : Int) 127 == (oc : Int)) = false := by rw [and127 x hx]; exact eqF hA
    have HX := Lib.hid (show fitsB f oc f3 f7 x = false by rw [hU]; unfold fitsE; rw [decide_eq_false hA, Bool.false_and])
    clear hA
    go_enter Tryz.func105, Tryz.ntmps105
    go_wp2
    go_ret
    refine ⟨congrArg (fun z => Ending.returned (Value.bool z)) ?_, (Below.refl _ _).alloc (Nat.le_refl _) _⟩
    rw [HX.out]
theorem rvFits_any (f oc f3 f7 x : Nat) (hx : x < 4294967296) (w : World) :
    Calls Tryz.prog 105 #[.agg #[.int .u8 f, .int .u32 oc, .int .u32 f3, .int .u32 f7], .int .u32 x] w fun e w' => e = .returned (.bool (fitsB f oc f3 f7 x)) ∧ Below w.heap.size w w' := by
  by_cases n1 : f = 78
  · subst n1; exact rvFits_78 oc f3 f7 x w
  by_cases n2 : f = 72
  · subst n2; exact rvFits_72 oc f3 f7 x hx w
  by_cases n3 : f = 82
  · subst n3; exact rvFits_82 oc f3 f7 x hx w
  by_cases n4 : f = 85
  · subst n4; exact rvFits_85 oc f3 f7 x hx w
  by_cases n5 : f = 74
  · subst n5; exact rvFits_74 oc f3 f7 x hx w
  exact rvFits_el f oc f3 f7 x hx n1 n2 n3 n4 n5 w
set_option maxHeartbeats 1000000 in
theorem rvImm_73 (x : Nat) (_hx : x < 4294967296) (w : World) :
    Calls Tryz.prog 106 #[.int .u8 73, .int .u32 x] w fun e w' => e = .returned (.int .i64 (immV 73 x)) ∧ w' = w := by
  have HX := Lib.hid (show immV 73 x = sgn (x / 1048576) 12 by unfold immV; rw [if_pos rfl])
  go_enter Tryz.func106, Tryz.ntmps106
  go_wp2_with fail
  rw [show (x : Int) / 1048576 = ((x / 1048576 : Nat) : Int) from div_nat x 1048576]
  refine Calls.mono (rvSigned_12 _ _) ?_
  rintro e w' ⟨rfl, rfl⟩
  go_wp2
  go_ret
  refine ⟨congrArg (fun z => Ending.returned (Value.int IntKind.i64 z)) ?_, rfl⟩
  rw [HX.out]
set_option maxHeartbeats 1000000 in
theorem rvImm_85 (x : Nat) (_hx : x < 4294967296) (w : World) :
    Calls Tryz.prog 106 #[.int .u8 85, .int .u32 x] w fun e w' => e = .returned (.int .i64 (immV 85 x)) ∧ w' = w := by
  have HX := Lib.hid (show immV 85 x = sgn (x / 4096) 20 by unfold immV; rw [if_neg (show ¬ 85 = 73 by decide), if_neg (show ¬ 85 = 72 by decide), if_neg (show ¬ 85 = 83 by decide), if_neg (show ¬ 85 = 66 by decide), if_pos rfl])
  go_enter Tryz.func106, Tryz.ntmps106
  go_wp2_with fail
  rw [show (x : Int) / 4096 = ((x / 4096 : Nat) : Int) from div_nat x 4096]
  refine Calls.mono (rvSigned_20 _ _) ?_
  rintro e w' ⟨rfl, rfl⟩
  go_wp2
  go_ret
  refine ⟨congrArg (fun z => Ending.returned (Value.int IntKind.i64 z)) ?_, rfl⟩
  rw [HX.out]
set_option maxHeartbeats 1000000 in
theorem rvImm_72 (x : Nat) (hx : x < 4294967296) (w : World) :
    Calls Tryz.prog 106 #[.int .u8 72, .int .u32 x] w fun e w' => e = .returned (.int .i64 (immV 72 x)) ∧ w' = w := by
  have HX := Lib.hid (show immV 72 x = ((x / 1048576 % 64 : Nat) : Int) by unfold immV; rw [if_neg (show ¬ 72 = 73 by decide), if_pos rfl])
  go_enter Tryz.func106, Tryz.ntmps106
  go_wp2
  go_ret
  refine ⟨congrArg (fun z => Ending.returned (Value.int IntKind.i64 z)) ?_, rfl⟩
  rw [HX.out, show (x : Int) / 1048576 = ((x / 1048576 : Nat) : Int) from div_nat x 1048576, and63' _ (by omega), wrap64]
  omega
set_option maxHeartbeats 1000000 in
theorem rvImm_83 (x : Nat) (hx : x < 4294967296) (w : World) :
    Calls Tryz.prog 106 #[.int .u8 83, .int .u32 x] w fun e w' => e = .returned (.int .i64 (immV 83 x)) ∧ w' = w := by
  have HX := Lib.hid (show immV 83 x = sgn (bitsN x 7 5 0 ||| bitsN x 25 7 5) 12 by unfold immV; rw [if_neg (show ¬ 83 = 73 by decide), if_neg (show ¬ 83 = 72 by decide), if_pos rfl])
  go_enter Tryz.func106, Tryz.ntmps106
  go_wp2_with fail
  refine Calls.mono (rvBits_any x 7 5 0 hx (by decide) (by decide) (by decide) _) ?_
  rintro e w' ⟨rfl, rfl⟩
  go_wp2_with fail
  refine Calls.mono (rvBits_any x 25 7 5 hx (by decide) (by decide) (by decide) _) ?_
  rintro e w' ⟨rfl, rfl⟩
  go_wp2_with fail
  rw [bits_or_u32 _ _ (bitsN_lt _ _ _ _) (bitsN_lt _ _ _ _)]
  refine Calls.mono (rvSigned_12 _ _) ?_
  rintro e w' ⟨rfl, rfl⟩
  go_wp2
  go_ret
  refine ⟨congrArg (fun z => Ending.returned (Value.int IntKind.i64 z)) ?_, rfl⟩
  rw [HX.out]
set_option maxHeartbeats 1000000 in
theorem rvImm_66 (x : Nat) (hx : x < 4294967296) (w : World) :
    Calls Tryz.prog 106 #[.int .u8 66, .int .u32 x] w fun e w' => e = .returned (.int .i64 (immV 66 x)) ∧ w' = w := by
  have HX := Lib.hid (show immV 66 x = sgn (bitsN x 7 1 11 ||| bitsN x 8 4 1 ||| bitsN x 25 6 5 ||| bitsN x 31 1 12) 13 by unfold immV; rw [if_neg (show ¬ 66 = 73 by decide), if_neg (show ¬ 66 = 72 by decide), if_neg (show ¬ 66 = 83 by decide), if_pos rfl])
  go_enter Tryz.func106, Tryz.ntmps106
  go_wp2_with fail
  refine Calls.mono (rvBits_any x 7 1 11 hx (by decide) (by decide) (by decide) _) ?_
  rintro e w' ⟨rfl, rfl⟩
  go_wp2_with fail
  refine Calls.mono (rvBits_any x 8 4 1 hx (by decide) (by decide) (by decide) _) ?_
  rintro e w' ⟨rfl, rfl⟩
  go_wp2_with fail
  refine Calls.mono (rvBits_any x 25 6 5 hx (by decide) (by decide) (by decide) _) ?_
  rintro e w' ⟨rfl, rfl⟩
  go_wp2_with fail
  refine Calls.mono (rvBits_any x 31 1 12 hx (by decide) (by decide) (by decide) _) ?_
  rintro e w' ⟨rfl, rfl⟩
  go_wp2_with fail
  rw [bits_or_u32 _ _ (bitsN_lt _ _ _ _) (bitsN_lt _ _ _ _)]
  rw [bits_or_u32 _ _ (or_lt32 (bitsN_lt _ _ _ _) (bitsN_lt _ _ _ _)) (bitsN_lt _ _ _ _)]
  rw [bits_or_u32 _ _ (or_lt32 (or_lt32 (bitsN_lt _ _ _ _) (bitsN_lt _ _ _ _)) (bitsN_lt _ _ _ _)) (bitsN_lt _ _ _ _)]
  refine Calls.mono (rvSigned_13 _ _) ?_
  rintro e w' ⟨rfl, rfl⟩
  go_wp2
  go_ret
  refine ⟨congrArg (fun z => Ending.returned (Value.int IntKind.i64 z)) ?_, rfl⟩
  rw [HX.out]
set_option maxHeartbeats 1000000 in
theorem rvImm_74 (x : Nat) (hx : x < 4294967296) (w : World) :
    Calls Tryz.prog 106 #[.int .u8 74, .int .u32 x] w fun e w' => e = .returned (.int .i64 (immV 74 x)) ∧ w' = w := by
  have HX := Lib.hid (show immV 74 x = sgn (bitsN x 12 8 12 ||| bitsN x 20 1 11 ||| bitsN x 21 10 1 ||| bitsN x 31 1 20) 21 by unfold immV; rw [if_neg (show ¬ 74 = 73 by decide), if_neg (show ¬ 74 = 72 by decide), if_neg (show ¬ 74 = 83 by decide), if_neg (show ¬ 74 = 66 by decide), if_neg (show ¬ 74 = 85 by decide), if_pos rfl])
  go_enter Tryz.func106, Tryz.ntmps106
  go_wp2_with fail
  refine Calls.mono (rvBits_any x 12 8 12 hx (by decide) (by decide) (by decide) _) ?_
  rintro e w' ⟨rfl, rfl⟩
  go_wp2_with fail
  refine Calls.mono (rvBits_any x 20 1 11 hx (by decide) (by decide) (by decide) _) ?_
  rintro e w' ⟨rfl, rfl⟩
  go_wp2_with fail
  refine Calls.mono (rvBits_any x 21 10 1 hx (by decide) (by decide) (by decide) _) ?_
  rintro e w' ⟨rfl, rfl⟩
  go_wp2_with fail
  refine Calls.mono (rvBits_any x 31 1 20 hx (by decide) (by decide) (by decide) _) ?_
  rintro e w' ⟨rfl, rfl⟩
  go_wp2_with fail
  rw [bits_or_u32 _ _ (bitsN_lt _ _ _ _) (bitsN_lt _ _ _ _)]
  rw [bits_or_u32 _ _ (or_lt32 (bitsN_lt _ _ _ _) (bitsN_lt _ _ _ _)) (bitsN_lt _ _ _ _)]
  rw [bits_or_u32 _ _ (or_lt32 (or_lt32 (bitsN_lt _ _ _ _) (bitsN_lt _ _ _ _)) (bitsN_lt _ _ _ _)) (bitsN_lt _ _ _ _)]
  refine Calls.mono (rvSigned_21 _ _) ?_
  rintro e w' ⟨rfl, rfl⟩
  go_wp2
  go_ret
  refine ⟨congrArg (fun z => Ending.returned (Value.int IntKind.i64 z)) ?_, rfl⟩
  rw [HX.out]
theorem rvImm_el (f x : Nat) (h1 : f ≠ 73) (h2 : f ≠ 72) (h3 : f ≠ 83) (h4 : f ≠ 66) (h5 : f ≠ 85) (h6 : f ≠ 74) (w : World) :
    Calls Tryz.prog 106 #[.int .u8 f, .int .u32 x] w fun e w' => e = .returned (.int .i64 (immV f x)) ∧ w' = w := by
  have HX := Lib.hid (show immV f x = 0 by unfold immV; rw [if_neg h1, if_neg h2, if_neg h3, if_neg h4, if_neg h5, if_neg h6])
  have e73 : ((f : Int) == 73) = false := eqF h1
  have e72 : ((f : Int) == 72) = false := eqF h2
  have e83 : ((f : Int) == 83) = false := eqF h3
  have e66 : ((f : Int) == 66) = false := eqF h4
  have e85 : ((f : Int) == 85) = false := eqF h5
  have e74 : ((f : Int) == 74) = false := eqF h6
  clear h1 h2 h3 h4 h5 h6
  go_enter Tryz.func106, Tryz.ntmps106
  go_wp2
  go_ret
  refine ⟨congrArg (fun z => Ending.returned (Value.int IntKind.i64 z)) ?_, rfl⟩
  rw [HX.out]
theorem rvImm_any (f x : Nat) (hx : x < 4294967296) (w : World) :
    Calls Tryz.prog 106 #[.int .u8 f, .int .u32 x] w fun e w' => e = .returned (.int .i64 (immV f x)) ∧ w' = w := by
  by_cases h1 : f = 73
  · subst h1; exact rvImm_73 x hx w
  by_cases h2 : f = 72
  · subst h2; exact rvImm_72 x hx w
  by_cases h3 : f = 83
  · subst h3; exact rvImm_83 x hx w
  by_cases h4 : f = 66
  · subst h4; exact rvImm_66 x hx w
  by_cases h5 : f = 85
  · subst h5; exact rvImm_85 x hx w
  by_cases h6 : f = 74
  · subst h6; exact rvImm_74 x hx w
  exact rvImm_el f x h1 h2 h3 h4 h5 h6 w
end Go.Proofs
