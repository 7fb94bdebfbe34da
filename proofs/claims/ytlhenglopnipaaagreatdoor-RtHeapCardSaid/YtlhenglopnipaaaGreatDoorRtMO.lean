/- A machine of instructions whose memory is a function of places: what it does is what the machine of runM does with the same instructions in its text. Plain: no program in sight. -/
import Derived.Test.YtlhenglopnipaaaGreatDoorRvP
import Derived.Test.YtlhenglopnipaaaGreatDoorLoadA
import Derived.Test.YtlhenglopnipaaaGreatDoorAlus
namespace Go.Pat
open Go Go.RowKit
/-- a machine at work, plainly. -/
structure Ab where
  pc : Nat
  r : Nat → Nat
  m : Nat → Nat
  o : List UInt8
  i : Nat
def up (r : Nat → Nat) (k v : Nat) : Nat → Nat := fun j => if j = k then (if k = 0 then 0 else v) else r j
/-- may these bytes be read and written? data and stack. -/
def wrB (a n : Nat) : Bool := (decide (16777216 ≤ a) && decide (a + n ≤ 16908336)) || (decide (33554432 ≤ a) && decide (a + n ≤ 33816576))
def stA (m : Nat → Nat) (a v n : Nat) : Nat → Nat := fun b => if a ≤ b ∧ b < a + n then v / 256 ^ (b - a) % 256 else m b
def ldA (m : Nat → Nat) (a : Nat) : Nat → Nat
  | 0 => 0
  | k + 1 => ldA m a k + m (a + k) * 256 ^ k
def aluA (op x y : Nat) : Nat :=
  if op = 22 ∨ op = 35 then (x + y) % 18446744073709551616
  else if op = 36 then (x + 18446744073709551616 - y) % 18446744073709551616
  else if op = 55 then (if y = 0 then 18446744073709551615 else x / y)
  else if op = 57 then (if y = 0 then x else x % y)
  else (aluV op x y).toNat
def exA (inp : List UInt8) (i : Ins) (a : Ab) : Option Ab :=
  if i.op = 1 then some { a with pc := a.pc + 4, r := up a.r i.rd (wrN i.imm * 4096 % 18446744073709551616) }
  else if i.op = 2 then some { a with pc := a.pc + 4, r := up a.r i.rd ((a.pc + wrN i.imm * 4096) % 18446744073709551616) }
  else if i.op = 3 then some { a with pc := (a.pc + wrN i.imm) % 18446744073709551616, r := up a.r i.rd (a.pc + 4) }
  else if i.op = 4 then some { a with pc := (a.r i.rs1 + wrN i.imm) % 18446744073709551616 / 2 * 2, r := up a.r i.rd (a.pc + 4) }
  else if i.op ≤ 10 then some { a with pc := if (takenV i.op (a.r i.rs1) (a.r i.rs2)).1 then (a.pc + wrN i.imm) % 18446744073709551616 else a.pc + 4 }
  else if i.op = 14 then (if wrB ((a.r i.rs1 + wrN i.imm) % 18446744073709551616) 8 then some { a with pc := a.pc + 4, r := up a.r i.rd (ldA a.m ((a.r i.rs1 + wrN i.imm) % 18446744073709551616) 8) } else none)
  else if i.op = 15 then (if wrB ((a.r i.rs1 + wrN i.imm) % 18446744073709551616) 1 then some { a with pc := a.pc + 4, r := up a.r i.rd (ldA a.m ((a.r i.rs1 + wrN i.imm) % 18446744073709551616) 1) } else none)
  else if i.op = 18 then (if wrB ((a.r i.rs1 + wrN i.imm) % 18446744073709551616) 1 then some { a with pc := a.pc + 4, m := stA a.m ((a.r i.rs1 + wrN i.imm) % 18446744073709551616) (a.r i.rs2) 1 } else none)
  else if i.op = 21 then (if wrB ((a.r i.rs1 + wrN i.imm) % 18446744073709551616) 8 then some { a with pc := a.pc + 4, m := stA a.m ((a.r i.rs1 + wrN i.imm) % 18446744073709551616) (a.r i.rs2) 8 } else none)
  else if 22 ≤ i.op ∧ i.op ≤ 34 then some { a with pc := a.pc + 4, r := up a.r i.rd (aluA i.op (a.r i.rs1) (wrN i.imm)) }
  else if 35 ≤ i.op ∧ i.op ≤ 62 then some { a with pc := a.pc + 4, r := up a.r i.rd (aluA i.op (a.r i.rs1) (a.r i.rs2)) }
  else if i.op = 64 then
    (if a.r 17 = 63 then (if a.i < inp.length then some { a with pc := a.pc + 4, r := up a.r 10 (inp.getD a.i 0).toNat, i := a.i + 1 } else some { a with pc := a.pc + 4, r := up a.r 10 18446744073709551615 })
    else if a.r 17 = 64 then some { a with pc := a.pc + 4, o := a.o ++ [UInt8.ofNat (a.r 10)] } else none)
  else none
def insAt (P : List Ins) (pc : Nat) : Option Ins := if 65536 ≤ pc ∧ pc % 4 = 0 then P[(pc - 65536) / 4]? else none
def stepA (P : List Ins) (inp : List UInt8) (a : Ab) : Option Ab := match insAt P a.pc with
  | some i => exA inp i a
  | none => none
/-- a memory that holds the instructions, and the bytes. -/
structure MV (P : List Ins) (fs : List Fr) (m : Nat → Nat) : Prop where
  few : P.length ≤ 4177920
  txt : ∀ (j : Nat) (i : Ins), P[j]? = some i → ∃ w, fetchM fs (65536 + 4 * j) = (w, 0) ∧ decR w = some i
  dat : ∀ x, wrB x 1 = true → (∃ f, pageOf fs x = some f ∧ f.perm = 6) ∧ byteM fs x = m x
  len : lens fs
theorem wrB_in {a n : Nat} (h : wrB a n = true) (k : Nat) (hk : k < n) : wrB (a + k) 1 = true := by
  simp only [wrB, Bool.or_eq_true, Bool.and_eq_true, decide_eq_true_eq] at h ⊢
  omega
theorem wrB_rng {a n : Nat} (h : wrB a n = true) : 16777216 ≤ a ∧ a + n ≤ 33816576 := by
  simp only [wrB, Bool.or_eq_true, Bool.and_eq_true, decide_eq_true_eq] at h
  omega
section
variable {P : List Ins} {fs : List Fr} {m : Nat → Nat}
theorem MV.asked (h : MV P fs m) {a n : Nat} (hw : wrB a n = true) (q : Int) (hq : pOK 6 q = true) : askedM fs a n q = 0 := by
  have hr := wrB_rng hw
  unfold askedM
  rw [if_neg (by omega)]
  refine askTo_of fun i hi => ?_
  obtain ⟨⟨f, h1, h2⟩, _⟩ := h.dat _ (wrB_in hw i hi)
  exact ⟨f, h1, by rw [h2]; exact hq⟩
theorem MV.num (h : MV P fs m) {a n : Nat} (hw : wrB a n = true) (k : Nat) (hk : k ≤ n) : numM fs a k = ldA m a k := by
  induction k with
  | zero => rfl
  | succ k ih => rw [numM, ldA, ih (by omega), (h.dat _ (wrB_in hw k (by omega))).2]
theorem MV.load8 (h : MV P fs m) {a : Nat} (hw : wrB a 8 = true) : loadM fs a ((8 : Nat) : Int) = (ldA m a 8, 0) := by
  have h1 : askedM fs a ((8 : Nat) : Int).toNat 4 = 0 := h.asked hw 4 (by decide)
  unfold loadM
  rw [if_pos (show wide ((8 : Nat) : Int) = true from rfl), if_pos h1, show ((8 : Nat) : Int).toNat = 8 from rfl, h.num hw 8 (Nat.le_refl _)]
theorem MV.load1 (h : MV P fs m) {a : Nat} (hw : wrB a 1 = true) : loadM fs a ((1 : Nat) : Int) = (ldA m a 1, 0) := by
  have h1 : askedM fs a ((1 : Nat) : Int).toNat 4 = 0 := h.asked hw 4 (by decide)
  unfold loadM
  rw [if_pos (show wide ((1 : Nat) : Int) = true from rfl), if_pos h1, show ((1 : Nat) : Int).toNat = 1 from rfl, h.num hw 1 (Nat.le_refl _)]
theorem numM_same {fs gs : List Fr} {a : Nat} : ∀ k, (∀ i, i < k → byteM gs (a + i) = byteM fs (a + i)) → numM gs a k = numM fs a k
  | 0, _ => rfl
  | k + 1, h => by rw [numM, numM, numM_same k (fun i hi => h i (by omega)), h k (by omega)]
theorem MV.store (h : MV P fs m) {a : Nat} (k v : Nat) (hk : wide (k : Int) = true) (hw : wrB a k = true) :
    storeE fs a (k : Int) = 0 ∧ MV P (storeM fs a v (k : Int)) (stA m a v k) := by
  have hr := wrB_rng hw
  have h1 : askedM fs a k 2 = 0 := h.asked hw 2 (by decide)
  have h2 : storeE fs a (k : Int) = 0 := by unfold storeE; rw [if_pos hk]; exact h1
  have hp : ∀ i, i < k → ∃ f, pageOf fs (a + i) = some f := fun i hi => by
    obtain ⟨⟨f, h1, _⟩, _⟩ := h.dat _ (wrB_in hw i hi)
    exact ⟨f, h1⟩
  refine ⟨h2, ?_⟩
  unfold storeM
  rw [if_pos h2, Int.toNat_natCast]
  refine ⟨h.few, fun j i hj => ?_, fun x hx => ?_, lens_store h.len _ _ _⟩
  · obtain ⟨w, h3, h4⟩ := h.txt j i hj
    refine ⟨w, ?_, h4⟩
    have hjl := (List.getElem?_eq_some_iff.1 hj).1
    have hf := h.few
    have e : numM (storeTo fs a v k) (65536 + 4 * j) 4 = numM fs (65536 + 4 * j) 4 := numM_same 4 fun i hi => by rw [byteM_store h.len a v k hp, if_neg (by omega)]
    rw [← h3]
    unfold fetchM
    rw [askedM_store, e]
  · obtain ⟨⟨f, h3, h4⟩, h5⟩ := h.dat x hx
    obtain ⟨g, h6, _, h7, _⟩ := pageOf_store h3 a v k
    refine ⟨⟨g, h6, by rw [h7, h4]⟩, ?_⟩
    rw [byteM_store h.len a v k hp]
    unfold stA
    rw [h5]
end
/-- the machine is that one. -/
structure RR (P : List Ins) (inp : List UInt8) (s : Ms) (a : Ab) : Prop where
  pc : s.c.pc = a.pc
  len : s.c.regs.length = 32
  reg : ∀ i, i < 32 → s.c.reg i = a.r i
  z : a.r 0 = 0
  small : ∀ i, a.r i < 18446744073709551616
  live : s.c.halted = false
  well : s.c.fault = 0
  out : s.c.out = a.o
  inn : s.c.inn = a.i
  inp : s.inp = inp
  mem : MV P s.fs a.m
theorem fullV_nat (op x y : Nat) (h : op = 35 ∨ op = 36 ∨ op = 55 ∨ op = 57) (hx : x < 18446744073709551616) (hy : y < 18446744073709551616) : (fullV op x y).toNat = aluA op x y := by
  rcases h with rfl | rfl | rfl | rfl
  · rw [fullV_35, IntKind.wrap_u64]; unfold aluA; rw [if_pos (by decide)]; omega
  · rw [fullV_36, IntKind.wrap_u64]; unfold aluA; rw [if_neg (by decide), if_pos rfl]; omega
  · have e : aluA 55 x y = if y = 0 then 18446744073709551615 else x / y := by unfold aluA; rw [if_neg (by decide), if_neg (by decide), if_pos rfl]
    rw [fullV_55, e]
    show (if y = 0 then (18446744073709551615 : Int) else IntKind.u64.wrap ((x : Int) / (y : Int))).toNat = _
    by_cases h0 : y = 0
    · rw [if_pos h0, if_pos h0]; rfl
    · have : x / y ≤ x := Nat.div_le_self _ _
      rw [if_neg h0, if_neg h0, IntKind.wrap_u64, ← Int.natCast_ediv]
      clear e
      generalize x / y = q at *
      omega
  · have e : aluA 57 x y = if y = 0 then x else x % y := by unfold aluA; rw [if_neg (by decide), if_neg (by decide), if_neg (by decide), if_pos rfl]
    rw [fullV_57, e]
    show (if y = 0 then (x : Int) else (x : Int) % (y : Int)).toNat = _
    by_cases h0 : y = 0
    · rw [if_pos h0, if_pos h0]; rfl
    · rw [if_neg h0, if_neg h0, ← Int.natCast_emod]; rfl
theorem aluA_is (op x y : Nat) (hx : x < 18446744073709551616) (hy : y < 18446744073709551616) : (aluV op x y).toNat = aluA op x y := by
  by_cases h : op = 22 ∨ op = 35 ∨ op = 36 ∨ op = 55 ∨ op = 57
  · rcases h with rfl | rfl | rfl | rfl | rfl
    · unfold aluV
      rw [show halfOf 22 = false from rfl, show pOf 22 = 35 from rfl, if_neg (by decide), fullV_nat 35 x y (by decide) hx hy]
      rfl
    · unfold aluV
      rw [show halfOf 35 = false from rfl, show pOf 35 = 35 from rfl, if_neg (by decide), fullV_nat 35 x y (by decide) hx hy]
    · unfold aluV
      rw [show halfOf 36 = false from rfl, show pOf 36 = 36 from rfl, if_neg (by decide), fullV_nat 36 x y (by decide) hx hy]
    · unfold aluV
      rw [show halfOf 55 = false from rfl, show pOf 55 = 55 from rfl, if_neg (by decide), fullV_nat 55 x y (by decide) hx hy]
    · unfold aluV
      rw [show halfOf 57 = false from rfl, show pOf 57 = 57 from rfl, if_neg (by decide), fullV_nat 57 x y (by decide) hx hy]
  · unfold aluA
    rw [if_neg (by omega), if_neg (by omega), if_neg (by omega), if_neg (by omega)]
theorem ldV_id {op v : Nat} (ho : op = 14 ∨ op = 15) (hv : v < 18446744073709551616) : ldV op v = v := by
  have hs : ldS op = 0 := by rcases ho with rfl | rfl <;> rfl
  unfold ldV
  rw [hs, Int.pow_zero, Int.mul_one, Int.fdiv_one, IntKind.wrap_u64]
  unfold wrN wrap64
  omega
theorem ldA_lt (m : Nat → Nat) (hm : ∀ x, m x < 256) (a k : Nat) : ldA m a k < 256 ^ k := by
  induction k with
  | zero => rw [ldA]; decide
  | succ k ih =>
    rw [ldA, Nat.pow_succ]
    have := hm (a + k)
    have h2 : m (a + k) * 256 ^ k ≤ 255 * 256 ^ k := Nat.mul_le_mul_right _ (by omega)
    omega
theorem up_small {r : Nat → Nat} (h : ∀ i, r i < 18446744073709551616) (k v : Nat) (hv : v < 18446744073709551616) (i : Nat) : up r k v i < 18446744073709551616 := by
  unfold up
  split
  · split
    · decide
    · exact hv
  · exact h i
theorem up_zero {r : Nat → Nat} (h : r 0 = 0) (k v : Nat) : up r k v 0 = 0 := by
  unfold up
  split
  · rename_i e; rw [if_pos e.symm]
  · exact h
/-- the machine is that one, but for the register that is always 0. -/
structure RP (P : List Ins) (inp : List UInt8) (s : Ms) (a : Ab) : Prop where
  pc : s.c.pc = a.pc
  len : s.c.regs.length = 32
  reg : ∀ i, i < 32 → i ≠ 0 → s.c.reg i = a.r i
  z : a.r 0 = 0
  small : ∀ i, a.r i < 18446744073709551616
  live : s.c.halted = false
  well : s.c.fault = 0
  out : s.c.out = a.o
  inn : s.c.inn = a.i
  inp : s.inp = inp
  mem : MV P s.fs a.m
section
variable {P : List Ins} {inp : List UInt8} {s : Ms} {a a' : Ab}
theorem RR.wk (h : RR P inp s a) : RP P inp s a := ⟨h.pc, h.len, fun i hi _ => h.reg i hi, h.z, h.small, h.live, h.well, h.out, h.inn, h.inp, h.mem⟩
theorem RP.setPc (h : RP P inp s a) (p p' : Nat) (hp : p = p') : RP P inp { s with c := { s.c with pc := p } } { a with pc := p' } :=
  ⟨hp, h.len, h.reg, h.z, h.small, h.live, h.well, h.out, h.inn, h.inp, h.mem⟩
theorem reg_put {c : Mc} {r : Nat → Nat} (hl : c.regs.length = 32) (hr : ∀ i, i < 32 → i ≠ 0 → c.reg i = r i) (rd v : Nat) (i : Nat) (hi : i < 32) (h0 : i ≠ 0) : (c.regs.set rd v).getD i 0 = up r rd v i := by
  have h1 := hr i hi h0
  unfold Mc.reg at h1
  rw [List.getD_eq_getElem?_getD] at h1 ⊢
  rw [List.getElem?_set]
  unfold up
  by_cases e : rd = i
  · subst e
    rw [if_pos rfl, if_pos (by omega), if_pos rfl, if_neg h0]
    rfl
  · rw [if_neg e, if_neg (fun e2 => e e2.symm)]
    exact h1
theorem RP.setReg (h : RP P inp s a) (rd v v' : Nat) (hv : v = v') (hs : v' < 18446744073709551616) : RP P inp { s with c := { s.c with regs := s.c.regs.set rd v } } { a with r := up a.r rd v' } := by
  subst hv
  exact ⟨h.pc, by simpa using h.len, fun i hi h0 => reg_put h.len h.reg rd v i hi h0, up_zero h.z _ _, up_small h.small _ _ hs, h.live, h.well, h.out, h.inn, h.inp, h.mem⟩
theorem RP.put (h : RP P inp s a) (rd v v' p p' : Nat) (hv : v = v') (hs : v' < 18446744073709551616) (hp : p = p') : RP P inp { s with c := s.c.put rd v p } { a with pc := p', r := up a.r rd v' } :=
  (h.setReg rd v v' hv hs).setPc p p' hp
theorem RP.zero (h : RP P inp s a) (st : Int) : RR P inp { s with c := { s.c with regs := s.c.regs.set 0 0, steps := st } } a := by
  refine ⟨h.pc, by simpa using h.len, fun i hi => ?_, h.z, h.small, h.live, h.well, h.out, h.inn, h.inp, h.mem⟩
  show (s.c.regs.set 0 0).getD i 0 = _
  rw [List.getD_eq_getElem?_getD, List.getElem?_set]
  by_cases e : 0 = i
  · subst e
    have := h.len
    rw [if_pos rfl, if_pos (by omega), h.z]
    rfl
  · have h1 := h.reg i hi (fun e2 => e e2.symm)
    unfold Mc.reg at h1
    rw [List.getD_eq_getElem?_getD] at h1
    rw [if_neg e]
    exact h1
theorem wrN_nat (z : Int) : wrN z < 18446744073709551616 := wrN_lt z
theorem mod64 (x : Nat) : x % 18446744073709551616 < 18446744073709551616 := Nat.mod_lt _ (by decide)
/-- an instruction does to the machine what it does to that one. -/
theorem exec_sim (i : Ins) (hR : RR P inp s a) (hd : i.rd < 32 ∧ i.rs1 < 32 ∧ i.rs2 < 32) (hpc : a.pc < 4294967296) (ha : 22 ≤ i.op → i.op ≤ 62 → ∀ x y, x < 18446744073709551616 → y < 18446744073709551616 → (aluV i.op x y).toNat < 18446744073709551616) (h : exA inp i a = some a') : (execM i s).1 = 0 ∧ RP P inp (execM i s).2 a' := by
  have hn : nextPc s = a.pc + 4 := by unfold nextPc; rw [hR.pc]; omega
  have h1 := hR.reg i.rs1 hd.2.1
  have h2 := hR.reg i.rs2 hd.2.2
  have s1 := hR.small i.rs1
  have s2 := hR.small i.rs2
  have hw := wrN_nat i.imm
  have hW := hR.wk
  unfold exA at h
  unfold execM
  rw [h1, h2, hR.pc, hn]
  by_cases o1 : i.op = 1
  · rw [if_pos o1] at h ⊢
    obtain rfl := Option.some.inj h
    exact ⟨rfl, hW.put _ _ _ _ _ rfl (mod64 _) rfl⟩
  rw [if_neg o1] at h ⊢
  by_cases o2 : i.op = 2
  · rw [if_pos o2] at h ⊢
    obtain rfl := Option.some.inj h
    exact ⟨rfl, hW.put _ _ _ _ _ rfl (mod64 _) rfl⟩
  rw [if_neg o2] at h ⊢
  by_cases o3 : i.op = 3
  · rw [if_pos o3] at h ⊢
    obtain rfl := Option.some.inj h
    exact ⟨rfl, hW.put _ _ _ _ _ rfl (by omega) rfl⟩
  rw [if_neg o3] at h ⊢
  by_cases o4 : i.op = 4
  · rw [if_pos o4] at h ⊢
    obtain rfl := Option.some.inj h
    exact ⟨rfl, hW.put _ _ _ _ _ rfl (by omega) rfl⟩
  rw [if_neg o4] at h ⊢
  by_cases o10 : i.op ≤ 10
  · rw [if_pos o10] at h ⊢
    obtain rfl := Option.some.inj h
    exact ⟨rfl, hW.setPc _ _ rfl⟩
  rw [if_neg o10] at h ⊢
  generalize hA : (a.r i.rs1 + wrN i.imm) % 18446744073709551616 = A at h ⊢
  by_cases o14 : i.op = 14
  · rw [if_pos o14] at h
    cases hb : wrB A 8 with
    | false => rw [hb] at h; simp at h
    | true =>
      rw [hb, if_pos rfl] at h
      obtain rfl := Option.some.inj h
      have hL := hR.mem.load8 hb
      have e8 : ldN i.op = 8 := by rw [o14]; rfl
      have hlt : ldA a.m A 8 < 18446744073709551616 := by rw [← hR.mem.num hb 8 (Nat.le_refl _)]; exact numM_lt _ _ _
      rw [if_pos (show i.op ≤ 17 by omega), e8, hL, if_pos rfl]
      exact ⟨rfl, hW.put _ _ _ _ _ (ldV_id (.inl o14) hlt) hlt rfl⟩
  rw [if_neg o14] at h
  by_cases o15 : i.op = 15
  · rw [if_pos o15] at h
    cases hb : wrB A 1 with
    | false => rw [hb] at h; simp at h
    | true =>
      rw [hb, if_pos rfl] at h
      obtain rfl := Option.some.inj h
      have hL := hR.mem.load1 hb
      have e8 : ldN i.op = 1 := by rw [o15]; rfl
      have hlt : ldA a.m A 1 < 18446744073709551616 := by
        rw [← hR.mem.num hb 1 (Nat.le_refl _)]
        have := numM_lt s.fs A 1
        omega
      rw [if_pos (show i.op ≤ 17 by omega), e8, hL, if_pos rfl]
      exact ⟨rfl, hW.put _ _ _ _ _ (ldV_id (.inr o15) hlt) hlt rfl⟩
  rw [if_neg o15] at h
  by_cases o18 : i.op = 18
  · rw [if_pos o18] at h
    cases hb : wrB A 1 with
    | false => rw [hb] at h; simp at h
    | true =>
      rw [hb, if_pos rfl] at h
      obtain rfl := Option.some.inj h
      obtain ⟨hE, hM⟩ := hR.mem.store 1 (a.r i.rs2) rfl hb
      have e8 : (2 ^ (i.op - 18) : Nat) = 1 := by rw [o18]
      rw [if_neg (show ¬ i.op ≤ 17 by omega), if_pos (show i.op ≤ 21 by omega), e8, hE, if_pos rfl]
      exact ⟨rfl, ⟨rfl, hR.len, hW.reg, hR.z, hR.small, hR.live, hR.well, hR.out, hR.inn, hR.inp, hM⟩⟩
  rw [if_neg o18] at h
  by_cases o21 : i.op = 21
  · rw [if_pos o21] at h
    cases hb : wrB A 8 with
    | false => rw [hb] at h; simp at h
    | true =>
      rw [hb, if_pos rfl] at h
      obtain rfl := Option.some.inj h
      obtain ⟨hE, hM⟩ := hR.mem.store 8 (a.r i.rs2) rfl hb
      have e8 : (2 ^ (i.op - 18) : Nat) = 8 := by rw [o21]
      rw [if_neg (show ¬ i.op ≤ 17 by omega), if_pos (show i.op ≤ 21 by omega), e8, hE, if_pos rfl]
      exact ⟨rfl, ⟨rfl, hR.len, hW.reg, hR.z, hR.small, hR.live, hR.well, hR.out, hR.inn, hR.inp, hM⟩⟩
  rw [if_neg o21] at h
  by_cases o34 : 22 ≤ i.op ∧ i.op ≤ 34
  · rw [if_pos o34] at h
    obtain rfl := Option.some.inj h
    rw [if_neg (show ¬ i.op ≤ 17 by omega), if_neg (show ¬ i.op ≤ 21 by omega), if_pos o34.2]
    exact ⟨rfl, hW.put _ _ _ _ _ (aluA_is _ _ _ s1 hw) (by rw [← aluA_is _ _ _ s1 hw]; exact ha (by omega) (by omega) _ _ s1 hw) rfl⟩
  rw [if_neg o34] at h
  by_cases o62 : 35 ≤ i.op ∧ i.op ≤ 62
  · rw [if_pos o62] at h
    obtain rfl := Option.some.inj h
    rw [if_neg (show ¬ i.op ≤ 17 by omega), if_neg (show ¬ i.op ≤ 21 by omega), if_neg (show ¬ i.op ≤ 34 by omega), if_pos o62.2]
    exact ⟨rfl, hW.put _ _ _ _ _ (aluA_is _ _ _ s1 s2) (by rw [← aluA_is _ _ _ s1 s2]; exact ha (by omega) (by omega) _ _ s1 s2) rfl⟩
  rw [if_neg o62] at h
  by_cases o64 : i.op = 64
  · rw [if_pos o64] at h
    rw [if_neg (show ¬ i.op ≤ 17 by omega), if_neg (show ¬ i.op ≤ 21 by omega), if_neg (show ¬ i.op ≤ 34 by omega), if_neg (show ¬ i.op ≤ 62 by omega), if_neg (show ¬ i.op = 65 by omega), if_pos o64]
    have h17 := hR.reg 17 (by decide)
    have h10 := hR.reg 10 (by decide)
    unfold callM
    rw [h17]
    by_cases c1 : a.r 17 = 63
    · rw [if_pos c1] at h
      simp only [if_pos c1]
      rw [hR.inn, hR.inp]
      by_cases c2 : a.i < inp.length
      · rw [if_pos c2] at h
        obtain rfl := Option.some.inj h
        rw [if_pos (show (a.i : Int) < (inp.length : Int) by omega), if_pos rfl, Int.toNat_natCast]
        refine ⟨rfl, ?_⟩
        have hx := UInt8.toNat_lt (inp.getD a.i 0)
        have := (hW.setReg 10 _ _ rfl (show (inp.getD a.i 0).toNat < 18446744073709551616 by omega)).setPc (a.pc + 4) _ rfl
        exact ⟨this.pc, this.len, this.reg, this.z, this.small, this.live, this.well, this.out, by show (a.i : Int) + 1 = ((a.i + 1 : Nat) : Int); omega, by first | exact this.inp | rfl, this.mem⟩
      · rw [if_neg c2] at h
        obtain rfl := Option.some.inj h
        rw [if_neg (show ¬ (a.i : Int) < (inp.length : Int) by omega), if_pos rfl]
        refine ⟨rfl, ?_⟩
        have := (hW.setReg 10 18446744073709551615 _ rfl (by decide)).setPc (a.pc + 4) _ rfl
        exact ⟨this.pc, this.len, this.reg, this.z, this.small, this.live, this.well, this.out, by first | exact hR.inn | rfl, by first | exact this.inp | rfl, this.mem⟩
    · rw [if_neg c1] at h
      simp only [if_neg c1]
      by_cases c2 : a.r 17 = 64
      · rw [if_pos c2] at h
        simp only [if_pos c2]
        obtain rfl := Option.some.inj h
        refine ⟨rfl, ?_⟩
        have := hW.setPc (a.pc + 4) _ rfl
        exact ⟨this.pc, this.len, this.reg, this.z, this.small, this.live, this.well, by show s.c.out ++ [UInt8.ofNat (s.c.reg 10)] = _; rw [hR.out, h10], hR.inn, by first | exact this.inp | rfl, this.mem⟩
      · rw [if_neg c2] at h; cases h
  · rw [if_neg o64] at h; cases h
end
end Go.Pat

/- A run of the plain machine is a run of the true one: steps, and the end. Plain: no program in sight. -/
namespace Go.Pat
open Go Go.RowKit
def runA (P : List Ins) (inp : List UInt8) : Nat → Ab → Option Ab
  | 0, a => some a
  | n + 1, a => (stepA P inp a).bind (runA P inp n)
theorem runA_add {P : List Ins} {inp : List UInt8} : ∀ (n m : Nat) (a : Ab), runA P inp (n + m) a = (runA P inp n a).bind (runA P inp m)
  | 0, m, a => by rw [Nat.zero_add]; rfl
  | n + 1, m, a => by
    rw [show n + 1 + m = (n + m) + 1 by omega, runA, runA]
    cases stepA P inp a with
    | none => rfl
    | some b => exact runA_add n m b
/-- in at most so many steps from one to the other. -/
def To (P : List Ins) (inp : List UInt8) (N : Nat) (a b : Ab) : Prop := ∃ n, n ≤ N ∧ runA P inp n a = some b
section
variable {P : List Ins} {inp : List UInt8} {N M : Nat} {a b c : Ab}
theorem To.refl (N : Nat) : To P inp N a a := ⟨0, Nat.zero_le _, rfl⟩
theorem To.trans (h : To P inp N a b) (h2 : To P inp M b c) : To P inp (N + M) a c := by
  obtain ⟨n, hn, e⟩ := h
  obtain ⟨m, hm, f⟩ := h2
  exact ⟨n + m, by omega, by rw [runA_add, e]; exact f⟩
theorem To.mono (h : To P inp N a b) (hN : N ≤ M) : To P inp M a b := by
  obtain ⟨n, hn, e⟩ := h
  exact ⟨n, by omega, e⟩
theorem To.run (n : Nat) (h : runA P inp n a = some b) : To P inp n a b := ⟨n, Nat.le_refl _, h⟩
theorem To.step (h : stepA P inp a = some b) : To P inp 1 a b := ⟨1, Nat.le_refl _, by rw [runA, h]; rfl⟩
theorem To.via (h : stepA P inp a = some b) (h2 : To P inp N b c) : To P inp (N + 1) a c := by
  rw [Nat.add_comm]; exact (To.step h).trans h2
end
section
variable {P : List Ins} {inp : List UInt8} {s : Ms} {a a' b : Ab}
theorem insAt_rng {pc : Nat} {i : Ins} (h : insAt P pc = some i) : 65536 ≤ pc ∧ pc % 4 = 0 ∧ P[(pc - 65536) / 4]? = some i := by
  unfold insAt at h
  split at h
  · rename_i h1; exact ⟨h1.1, h1.2, h⟩
  · cases h
theorem inner_sim (hR : RR P inp s a) {i : Ins} (hi : insAt P a.pc = some i) : innerM s = execM i s ∧ (i.rd < 32 ∧ i.rs1 < 32 ∧ i.rs2 < 32) ∧ a.pc < 4294967296 ∧ (1 ≤ i.op ∧ i.op ≤ 65) := by
  obtain ⟨h1, h2, h3⟩ := insAt_rng hi
  obtain ⟨w, hf, hd⟩ := hR.mem.txt _ _ h3
  have hl := (List.getElem?_eq_some_iff.1 h3).1
  have hfew := hR.mem.few
  have hb := decR_some hd
  rw [show 65536 + 4 * ((a.pc - 65536) / 4) = a.pc by omega, ← hR.pc] at hf
  refine ⟨?_, hb.2.2, by omega, hb.1, hb.2.1⟩
  unfold innerM
  rw [hf]
  simp only [hd, if_true]
theorem step_sim (hR : RR P inp s a) (h : stepA P inp a = some b) : overB s.c = false ∧ (stepM s).1 = 0 ∧ RR P inp (stepM s).2 b := by
  unfold stepA at h
  cases hi : insAt P a.pc with
  | none => rw [hi] at h; cases h
  | some i =>
    rw [hi] at h
    obtain ⟨h1, h2, h3, h4⟩ := inner_sim hR hi
    obtain ⟨e1, e2⟩ := exec_sim i hR h2 h3 (fun o1 o2 x y hx hy => (aluV_nat i.op x y o1 o2 hx hy).2) h
    have ho : overB s.c = false := by simp [overB, hR.live, hR.well]
    refine ⟨ho, ?_⟩
    unfold stepM
    rw [if_neg (by rw [ho]; decide), h1, if_pos e1]
    exact ⟨rfl, e2.zero _⟩
theorem run_sim (n : Nat) : ∀ {s : Ms} {a : Ab}, RR P inp s a → runA P inp n a = some b → ∃ s', RR P inp s' b ∧ ∀ k, (runM (n + k) s).2 = (runM k s').2 := by
  induction n with
  | zero =>
    intro s a hR h
    obtain rfl := Option.some.inj h
    exact ⟨s, hR, fun k => by rw [Nat.zero_add]⟩
  | succ n ih =>
    intro s a hR h
    rw [runA] at h
    cases hs : stepA P inp a with
    | none => rw [hs] at h; cases h
    | some c =>
      rw [hs] at h
      obtain ⟨h1, h2, h3⟩ := step_sim hR hs
      obtain ⟨s', h4, h5⟩ := ih h3 h
      refine ⟨s', h4, fun k => ?_⟩
      rw [show n + 1 + k = (n + k) + 1 by omega, runM, if_neg (by rw [h1]; decide), if_pos h2]
      exact h5 k
/-- the machine at its exit. -/
theorem exit_sim (hR : RR P inp s a) {i : Ins} (hi : insAt P a.pc = some i) (ho : i.op = 64) (h17 : a.r 17 = 93) (k : Nat) :
    (runM (k + 1) s).2.c.halted = true ∧ (runM (k + 1) s).2.c.code = ((a.r 10 % 256 : Nat) : Int) ∧ (runM (k + 1) s).2.c.fault = 0 ∧ (runM (k + 1) s).2.c.out = a.o := by
  obtain ⟨h1, -⟩ := inner_sim hR hi
  have hov : overB s.c = false := by simp [overB, hR.live, hR.well]
  have e17 := hR.reg 17 (by decide)
  have e10 := hR.reg 10 (by decide)
  have he : callM s = (0, { s with c := { s.c with halted := true, code := ((a.r 10 % 256 : Nat) : Int) } }) := by
    unfold callM
    rw [e17, h17, if_neg (by decide), if_neg (by decide), if_pos rfl, e10]
  have hx : execM i s = (0, { s with c := { s.c with halted := true, code := ((a.r 10 % 256 : Nat) : Int), pc := nextPc s } }) := by
    unfold execM
    rw [if_neg (by omega), if_neg (by omega), if_neg (by omega), if_neg (by omega), if_neg (by omega), if_neg (by omega), if_neg (by omega), if_neg (by omega), if_neg (by omega), if_neg (by omega), if_pos ho, he, if_pos rfl]
  have hst : (stepM s).1 = 0 ∧ (stepM s).2.c.halted = true ∧ (stepM s).2.c.code = ((a.r 10 % 256 : Nat) : Int) ∧ (stepM s).2.c.fault = 0 ∧ (stepM s).2.c.out = a.o := by
    unfold stepM
    rw [if_neg (by rw [hov]; decide), h1, hx, if_pos rfl]
    exact ⟨rfl, rfl, rfl, hR.well, hR.out⟩
  rw [runM, if_neg (by rw [hov]; decide), if_pos hst.1, runM_over (by simp [overB, hst.2.1])]
  exact hst.2
theorem run_end {N : Nat} (hR : RR P inp s a) (h : To P inp N a b) {i : Ins} (hi : insAt P b.pc = some i) (ho : i.op = 64) (h17 : b.r 17 = 93) (k : Nat) (hk : N + 1 ≤ k) :
    (runM k s).2.c.halted = true ∧ (runM k s).2.c.code = ((b.r 10 % 256 : Nat) : Int) ∧ (runM k s).2.c.fault = 0 ∧ (runM k s).2.c.out = b.o := by
  obtain ⟨n, hn, e⟩ := h
  obtain ⟨s', h1, h2⟩ := run_sim n hR e
  have := h2 (k - n - 1 + 1)
  rw [show n + (k - n - 1 + 1) = k by omega] at this
  rw [this]
  exact exit_sim h1 hi ho h17 _
end
end Go.Pat

/- rt.print on the plain machine: every number is printed in its digits. Plain: no program in sight. -/
namespace Go.Pat
open Go Go.RowKit
/-- the runtime's instructions, as they lie from 65536 on. -/
def rtP : List Ins := [⟨1, 2, 0, 0, 8256⟩, ⟨1, 3, 0, 0, 8192⟩, ⟨31, 3, 3, 0, 512⟩, ⟨3, 1, 0, 0, 300⟩, ⟨22, 10, 0, 0, 0⟩, ⟨22, 17, 0, 0, 93⟩, ⟨64, 0, 0, 0, 0⟩, ⟨35, 5, 10, 0, 0⟩, ⟨8, 0, 5, 0, 20⟩, ⟨36, 5, 0, 5, 0⟩, ⟨22, 10, 0, 0, 45⟩, ⟨22, 17, 0, 0, 64⟩, ⟨64, 0, 0, 0, 0⟩, ⟨2, 28, 0, 0, 4080⟩, ⟨22, 28, 28, 0, (-12)⟩, ⟨22, 6, 0, 0, 10⟩, ⟨57, 7, 5, 6, 0⟩, ⟨55, 5, 5, 6, 0⟩, ⟨22, 7, 7, 0, 48⟩, ⟨22, 28, 28, 0, (-1)⟩, ⟨18, 0, 28, 7, 0⟩, ⟨6, 0, 5, 0, (-20)⟩, ⟨2, 29, 0, 0, 4080⟩, ⟨22, 29, 29, 0, (-48)⟩, ⟨15, 10, 28, 0, 0⟩, ⟨22, 17, 0, 0, 64⟩, ⟨64, 0, 0, 0, 0⟩, ⟨22, 28, 28, 0, 1⟩, ⟨6, 0, 28, 29, (-16)⟩, ⟨22, 10, 0, 0, 10⟩, ⟨22, 17, 0, 0, 64⟩, ⟨64, 0, 0, 0, 0⟩, ⟨22, 10, 0, 0, 0⟩, ⟨4, 0, 1, 0, 0⟩, ⟨22, 5, 0, 0, 64⟩, ⟨9, 0, 5, 10, 108⟩, ⟨2, 5, 0, 0, 4080⟩, ⟨22, 5, 5, 0, (-144)⟩, ⟨14, 6, 5, 0, 0⟩, ⟨5, 0, 6, 0, 16⟩, ⟨14, 7, 6, 0, 0⟩, ⟨21, 0, 5, 7, 0⟩, ⟨3, 0, 0, 0, 48⟩, ⟨2, 5, 0, 0, 4080⟩, ⟨22, 5, 5, 0, (-164)⟩, ⟨14, 7, 5, 0, 0⟩, ⟨22, 28, 0, 0, 256⟩, ⟨10, 0, 7, 28, 60⟩, ⟨22, 28, 7, 0, 1⟩, ⟨21, 0, 5, 28, 0⟩, ⟨28, 7, 7, 0, 9⟩, ⟨2, 6, 0, 0, 4080⟩, ⟨22, 6, 6, 0, (-156)⟩, ⟨35, 6, 6, 7, 0⟩, ⟨35, 28, 6, 0, 0⟩, ⟨5, 0, 10, 0, 20⟩, ⟨21, 0, 28, 0, 0⟩, ⟨22, 28, 28, 0, 8⟩, ⟨22, 10, 10, 0, (-1)⟩, ⟨3, 0, 0, 0, (-16)⟩, ⟨35, 10, 6, 0, 0⟩, ⟨4, 0, 1, 0, 0⟩, ⟨22, 10, 0, 0, 110⟩, ⟨22, 17, 0, 0, 93⟩, ⟨64, 0, 0, 0, 0⟩, ⟨2, 5, 0, 0, 4080⟩, ⟨22, 5, 5, 0, (-260)⟩, ⟨14, 6, 5, 0, 0⟩, ⟨21, 0, 10, 6, 0⟩, ⟨21, 0, 5, 10, 0⟩, ⟨22, 10, 0, 0, 0⟩, ⟨4, 0, 1, 0, 0⟩, ⟨22, 17, 0, 0, 63⟩, ⟨64, 0, 0, 0, 0⟩, ⟨4, 0, 1, 0, 0⟩, ⟨22, 10, 0, 0, 111⟩, ⟨22, 17, 0, 0, 93⟩, ⟨64, 0, 0, 0, 0⟩]
theorem wrap64_0 : wrap64 ((0 : Nat) : Int) = 0 := by simp [wrap64]
theorem up_eq (r : Nat → Nat) (k v : Nat) (h : k ≠ 0) : up r k v k = v := by unfold up; rw [if_pos rfl, if_neg h]
theorem up_ne (r : Nat → Nat) (k v j : Nat) (h : j ≠ k) : up r k v j = r j := by unfold up; rw [if_neg h]
theorem st_of {P : List Ins} {inp : List UInt8} {a b : Ab} (i : Ins) (hi : insAt P a.pc = some i) (he : exA inp i a = some b) : stepA P inp a = some b := by unfold stepA; rw [hi]; exact he
section
variable {P : List Ins} {inp : List UInt8} {pc : Nat} {r m : Nat → Nat} {o : List UInt8} {i : Nat}
theorem st_ld (rd a : Nat) (n : Int) (hi : insAt P pc = some ⟨14, rd, a, 0, n⟩) (A : Nat) (hA : (r a + wrN n) % 18446744073709551616 = A) (hb : wrB A 8 = true) : stepA P inp ⟨pc, r, m, o, i⟩ = some ⟨pc + 4, up r rd (ldA m A 8), m, o, i⟩ :=
  st_of _ hi (by subst hA; show (if _ then _ else none) = _; rw [if_pos hb])
theorem st_lbu (rd a : Nat) (n : Int) (hi : insAt P pc = some ⟨15, rd, a, 0, n⟩) (A : Nat) (hA : (r a + wrN n) % 18446744073709551616 = A) (hb : wrB A 1 = true) : stepA P inp ⟨pc, r, m, o, i⟩ = some ⟨pc + 4, up r rd (ldA m A 1), m, o, i⟩ :=
  st_of _ hi (by subst hA; show (if _ then _ else none) = _; rw [if_pos hb])
theorem st_sb (a b : Nat) (n : Int) (hi : insAt P pc = some ⟨18, 0, a, b, n⟩) (A : Nat) (hA : (r a + wrN n) % 18446744073709551616 = A) (hb : wrB A 1 = true) : stepA P inp ⟨pc, r, m, o, i⟩ = some ⟨pc + 4, r, stA m A (r b) 1, o, i⟩ :=
  st_of _ hi (by subst hA; show (if _ then _ else none) = _; rw [if_pos hb])
theorem st_sd (a b : Nat) (n : Int) (hi : insAt P pc = some ⟨21, 0, a, b, n⟩) (A : Nat) (hA : (r a + wrN n) % 18446744073709551616 = A) (hb : wrB A 8 = true) : stepA P inp ⟨pc, r, m, o, i⟩ = some ⟨pc + 4, r, stA m A (r b) 8, o, i⟩ :=
  st_of _ hi (by subst hA; show (if _ then _ else none) = _; rw [if_pos hb])
theorem st_br (op a b : Nat) (n : Int) (h5 : 5 ≤ op ∧ op ≤ 10) (hi : insAt P pc = some ⟨op, 0, a, b, n⟩) (t : Bool) (ht : (takenV op (r a) (r b)).1 = t) (q : Nat) (hq : q = if t then (pc + wrN n) % 18446744073709551616 else pc + 4) : stepA P inp ⟨pc, r, m, o, i⟩ = some ⟨q, r, m, o, i⟩ :=
  st_of _ hi (by
    subst ht hq
    unfold exA
    rw [if_neg (show ¬ op = 1 by omega), if_neg (show ¬ op = 2 by omega), if_neg (show ¬ op = 3 by omega), if_neg (show ¬ op = 4 by omega), if_pos h5.2])
theorem st_ai (op rd a : Nat) (n : Int) (h5 : 22 ≤ op ∧ op ≤ 34) (hi : insAt P pc = some ⟨op, rd, a, 0, n⟩) (v : Nat) (hv : aluA op (r a) (wrN n) = v) : stepA P inp ⟨pc, r, m, o, i⟩ = some ⟨pc + 4, up r rd v, m, o, i⟩ :=
  st_of _ hi (by
    subst hv
    unfold exA
    rw [if_neg (show ¬ op = 1 by omega), if_neg (show ¬ op = 2 by omega), if_neg (show ¬ op = 3 by omega), if_neg (show ¬ op = 4 by omega), if_neg (show ¬ op ≤ 10 by omega), if_neg (show ¬ op = 14 by omega), if_neg (show ¬ op = 15 by omega), if_neg (show ¬ op = 18 by omega), if_neg (show ¬ op = 21 by omega), if_pos h5])
theorem st_ar (op rd a b : Nat) (h5 : 35 ≤ op ∧ op ≤ 62) (hi : insAt P pc = some ⟨op, rd, a, b, 0⟩) (v : Nat) (hv : aluA op (r a) (r b) = v) : stepA P inp ⟨pc, r, m, o, i⟩ = some ⟨pc + 4, up r rd v, m, o, i⟩ :=
  st_of _ hi (by
    subst hv
    unfold exA
    rw [if_neg (show ¬ op = 1 by omega), if_neg (show ¬ op = 2 by omega), if_neg (show ¬ op = 3 by omega), if_neg (show ¬ op = 4 by omega), if_neg (show ¬ op ≤ 10 by omega), if_neg (show ¬ op = 14 by omega), if_neg (show ¬ op = 15 by omega), if_neg (show ¬ op = 18 by omega), if_neg (show ¬ op = 21 by omega), if_neg (show ¬ (22 ≤ op ∧ op ≤ 34) by omega), if_pos h5])
theorem st_lui (rd : Nat) (n : Int) (hi : insAt P pc = some ⟨1, rd, 0, 0, n⟩) (v : Nat) (hv : wrN n * 4096 % 18446744073709551616 = v) : stepA P inp ⟨pc, r, m, o, i⟩ = some ⟨pc + 4, up r rd v, m, o, i⟩ :=
  st_of _ hi (by subst hv; rfl)
theorem st_aui (rd : Nat) (n : Int) (hi : insAt P pc = some ⟨2, rd, 0, 0, n⟩) (v : Nat) (hv : (pc + wrN n * 4096) % 18446744073709551616 = v) : stepA P inp ⟨pc, r, m, o, i⟩ = some ⟨pc + 4, up r rd v, m, o, i⟩ :=
  st_of _ hi (by subst hv; rfl)
theorem st_jal (rd : Nat) (n : Int) (hi : insAt P pc = some ⟨3, rd, 0, 0, n⟩) (q : Nat) (hq : (pc + wrN n) % 18446744073709551616 = q) : stepA P inp ⟨pc, r, m, o, i⟩ = some ⟨q, up r rd (pc + 4), m, o, i⟩ :=
  st_of _ hi (by subst hq; rfl)
theorem st_jalr (rd a : Nat) (n : Int) (hi : insAt P pc = some ⟨4, rd, a, 0, n⟩) (q : Nat) (hq : (r a + wrN n) % 18446744073709551616 / 2 * 2 = q) : stepA P inp ⟨pc, r, m, o, i⟩ = some ⟨q, up r rd (pc + 4), m, o, i⟩ :=
  st_of _ hi (by subst hq; rfl)
theorem st_out (hi : insAt P pc = some ⟨64, 0, 0, 0, 0⟩) (h17 : r 17 = 64) : stepA P inp ⟨pc, r, m, o, i⟩ = some ⟨pc + 4, r, m, o ++ [UInt8.ofNat (r 10)], i⟩ :=
  st_of _ hi (by show (if r 17 = 63 then _ else if r 17 = 64 then _ else none) = _; rw [if_neg (by omega), if_pos h17])
end
/-- a number's digits ahead of those that are there. -/
def digF : Nat → Nat → List UInt8 → List UInt8
  | 0, _, acc => acc
  | k + 1, q, acc => if q / 10 = 0 then UInt8.ofNat (48 + q % 10) :: acc else digF k (q / 10) (UInt8.ofNat (48 + q % 10) :: acc)
/-- these bytes lie from there on. -/
def bytesAt (m : Nat → Nat) (a : Nat) (l : List UInt8) : Prop := ∀ j (h : j < l.length), m (a + j) = (l[j]).toNat
theorem bytesAt_cons {m : Nat → Nat} {a : Nat} {l : List UInt8} (h : bytesAt m (a + 1) l) (c : UInt8) (hc : m a = c.toNat) : bytesAt m a (c :: l) := by
  intro j hj
  cases j with
  | zero => exact hc
  | succ j => rw [List.getElem_cons_succ, ← h j (by simpa using hj)]; congr 1; omega
theorem bytesAt_tail {m : Nat → Nat} {a : Nat} {c : UInt8} {l : List UInt8} (h : bytesAt m a (c :: l)) : m a = c.toNat ∧ bytesAt m (a + 1) l :=
  ⟨h 0 (by simp), fun j hj => by have := h (j + 1) (by simpa using hj); rw [List.getElem_cons_succ] at this; rw [← this]; congr 1; omega⟩
theorem bytesAt_same {m m' : Nat → Nat} {a : Nat} {l : List UInt8} (h : bytesAt m a l) (hm : ∀ x, a ≤ x → x < a + l.length → m' x = m x) : bytesAt m' a l := fun j hj => (hm (a + j) (by omega) (by omega)).trans (h j hj)
theorem alu_addi (x : Nat) (n : Int) (v : Nat) (h : (x + wrN n) % 18446744073709551616 = v) : aluA 22 x (wrN n) = v := by unfold aluA; rw [if_pos (.inl rfl)]; exact h
theorem alu_add (x y v : Nat) (h : (x + y) % 18446744073709551616 = v) : aluA 35 x y = v := by unfold aluA; rw [if_pos (.inr rfl)]; exact h
theorem alu_sub (x y v : Nat) (h : (x + 18446744073709551616 - y) % 18446744073709551616 = v) : aluA 36 x y = v := by unfold aluA; rw [if_neg (by decide), if_pos rfl]; exact h
theorem alu_div (x y : Nat) (h : y ≠ 0) : aluA 55 x y = x / y := by unfold aluA; rw [if_neg (by decide), if_neg (by decide), if_pos rfl, if_neg h]
theorem alu_rem (x y : Nat) (h : y ≠ 0) : aluA 57 x y = x % y := by unfold aluA; rw [if_neg (by decide), if_neg (by decide), if_neg (by decide), if_pos rfl, if_neg h]
theorem stA_1 (m : Nat → Nat) (a v x : Nat) : stA m a v 1 x = if x = a then v % 256 else m x := by
  unfold stA
  by_cases h : x = a
  · subst h
    rw [if_pos (by omega), if_pos rfl, Nat.sub_self, Nat.pow_zero, Nat.div_one]
  · rw [if_neg (by omega), if_neg h]
section
variable (rest : List Ins) (inp : List UInt8)
theorem print_round (q : Nat) (acc : List UInt8) (r m : Nat → Nat) (o : List UInt8) (i : Nat) (_h64 : q < 18446744073709551616) (hl : acc.length + 1 ≤ 20) (h0 : r 0 = 0) (h5 : r 5 = q) (h6 : r 6 = 10) (h28 : r 28 = 16777256 - acc.length) (hb : bytesAt m (16777256 - acc.length) acc) :
    ∃ r' m', To (rtP ++ rest) inp 6 ⟨65600, r, m, o, i⟩ ⟨if q / 10 = 0 then 65624 else 65600, r', m', o, i⟩ ∧ (∀ x, x ≠ 5 → x ≠ 7 → x ≠ 28 → r' x = r x) ∧ r' 5 = q / 10 ∧ r' 28 = 16777256 - (acc.length + 1) ∧
      bytesAt m' (16777256 - (acc.length + 1)) (UInt8.ofNat (48 + q % 10) :: acc) ∧ (∀ x, x < 16777236 ∨ 16777256 ≤ x → m' x = m x) := by
  have w48 : wrN 48 = 48 := by decide
  have wm1 : wrN (-1) = 18446744073709551615 := by decide
  have w0 : wrN 0 = 0 := by decide
  have wm20 : wrN (-20) = 18446744073709551596 := by decide
  refine ⟨up (up (up (up r 7 (q % 10)) 5 (q / 10)) 7 (q % 10 + 48)) 28 (16777256 - (acc.length + 1)), stA m (16777256 - (acc.length + 1)) (q % 10 + 48) 1, ?_, ?_, ?_, ?_, ?_, ?_⟩
  · refine To.via (st_ar 57 7 5 6 (by decide) rfl (q % 10) (by rw [h5, h6]; exact alu_rem _ _ (by decide))) ?_
    refine To.via (st_ar 55 5 5 6 (by decide) rfl (q / 10) (by simp only [up, if_neg (show ¬ 5 = 7 by decide), if_neg (show ¬ 6 = 7 by decide), h5, h6]; exact alu_div _ _ (by decide))) ?_
    refine To.via (st_ai 22 7 7 48 (by decide) rfl (q % 10 + 48) (alu_addi _ _ _ (by rw [w48]; simp only [up, if_pos, if_neg (show ¬ 7 = 5 by decide), if_neg (show ¬ 7 = 0 by decide)]; omega))) ?_
    refine To.via (st_ai 22 28 28 (-1) (by decide) rfl (16777256 - (acc.length + 1)) (alu_addi _ _ _ (by rw [wm1]; simp only [up, if_neg (show ¬ 28 = 5 by decide), if_neg (show ¬ 28 = 7 by decide), h28]; omega))) ?_
    refine To.via (st_sb 28 7 0 rfl (16777256 - (acc.length + 1)) (by rw [w0, up_eq _ _ _ (by decide)]; omega) (by simp [wrB]; omega)) ?_
    rw [show (up (up (up (up r 7 (q % 10)) 5 (q / 10)) 7 (q % 10 + 48)) 28 (16777256 - (acc.length + 1))) 7 = q % 10 + 48 from rfl]
    refine To.via (st_br 6 5 0 (-20) (by decide) rfl (!decide (q / 10 = 0)) (by show (!decide (q / 10 = r 0)) = _; rw [h0]) (if q / 10 = 0 then 65624 else 65600) (by
      by_cases hq : q / 10 = 0
      · rw [if_pos hq, if_neg (by simp [hq])]
      · rw [if_neg hq, if_pos (by simp [hq]), wm20])) ?_
    exact To.refl 0
  · intro x hx5 hx7 hx28
    rw [up_ne _ _ _ _ hx28, up_ne _ _ _ _ hx7, up_ne _ _ _ _ hx5, up_ne _ _ _ _ hx7]
  · rfl
  · rfl
  · refine bytesAt_cons (bytesAt_same (a := 16777256 - (acc.length + 1) + 1) (by rw [show 16777256 - (acc.length + 1) + 1 = 16777256 - acc.length by omega]; exact hb) (fun x h1 h2 => ?_)) _ ?_
    · rw [stA_1, if_neg (by omega)]
    · rw [stA_1, if_pos rfl, UInt8.toNat_ofNat']
      omega
  · intro x hx
    rw [stA_1, if_neg (by omega)]
theorem print_loop : ∀ (f q : Nat) (acc : List UInt8) (r m : Nat → Nat) (o : List UInt8) (i : Nat), q < 10 ^ (f + 1) → q < 18446744073709551616 → acc.length + (f + 1) ≤ 20 → r 0 = 0 → r 5 = q → r 6 = 10 → r 28 = 16777256 - acc.length → bytesAt m (16777256 - acc.length) acc →
    ∃ r' m', To (rtP ++ rest) inp (6 * (f + 1)) ⟨65600, r, m, o, i⟩ ⟨65624, r', m', o, i⟩ ∧ (∀ x, x ≠ 5 → x ≠ 7 → x ≠ 28 → r' x = r x) ∧ (digF (f + 1) q acc).length ≤ 20 ∧ 0 < (digF (f + 1) q acc).length ∧ r' 28 = 16777256 - (digF (f + 1) q acc).length ∧
      bytesAt m' (16777256 - (digF (f + 1) q acc).length) (digF (f + 1) q acc) ∧ (∀ x, x < 16777236 ∨ 16777256 ≤ x → m' x = m x) := by
  intro f
  induction f with
  | zero =>
    intro q acc r m o i hq h64 hl h0 h5 h6 h28 hb
    have hq0 : q / 10 = 0 := by omega
    have e : digF (0 + 1) q acc = UInt8.ofNat (48 + q % 10) :: acc := by unfold digF; rw [if_pos hq0]
    obtain ⟨r', m', h1, h2, h3, h4, h7, h8⟩ := print_round rest inp q acc r m o i h64 hl h0 h5 h6 h28 hb
    rw [if_pos hq0] at h1
    rw [e, List.length_cons]
    exact ⟨r', m', h1, h2, by omega, by omega, h4, h7, h8⟩
  | succ f ih =>
    intro q acc r m o i hq h64 hl h0 h5 h6 h28 hb
    obtain ⟨r', m', h1, h2, h3, h4, h7, h8⟩ := print_round rest inp q acc r m o i h64 (by omega) h0 h5 h6 h28 hb
    by_cases hq0 : q / 10 = 0
    · have e : digF (f + 1 + 1) q acc = UInt8.ofNat (48 + q % 10) :: acc := by unfold digF; rw [if_pos hq0]
      rw [if_pos hq0] at h1
      rw [e, List.length_cons]
      exact ⟨r', m', h1.mono (by omega), h2, by omega, by omega, h4, h7, h8⟩
    · have e : digF (f + 1 + 1) q acc = digF (f + 1) (q / 10) (UInt8.ofNat (48 + q % 10) :: acc) := by rw [digF, if_neg hq0]
      rw [if_neg hq0] at h1
      rw [e]
      have hp : q < 10 ^ (f + 1) * 10 := by rw [← Nat.pow_succ]; exact hq
      obtain ⟨r2, m2, g1, g2, g3, g4, g5, g6, g7⟩ := ih (q / 10) (UInt8.ofNat (48 + q % 10) :: acc) r' m' o i (by omega) (by omega) (by rw [List.length_cons]; omega) ((h2 0 (by decide) (by decide) (by decide)).trans h0) h3 ((h2 6 (by decide) (by decide) (by decide)).trans h6) (by rw [List.length_cons]; exact h4) (by rw [List.length_cons]; exact h7)
      exact ⟨r2, m2, (h1.trans g1).mono (by omega), fun x a b c => (g2 x a b c).trans (h2 x a b c), g3, g4, g5, g6, fun x hx => (g7 x hx).trans (h8 x hx)⟩
theorem out_loop : ∀ (l : List UInt8) (r m : Nat → Nat) (o : List UInt8) (i : Nat), l ≠ [] → l.length ≤ 20 → r 0 = 0 → r 28 = 16777256 - l.length → r 29 = 16777256 → bytesAt m (16777256 - l.length) l →
    ∃ r', To (rtP ++ rest) inp (5 * l.length) ⟨65632, r, m, o, i⟩ ⟨65652, r', m, o ++ l, i⟩ ∧ (∀ x, x ≠ 10 → x ≠ 17 → x ≠ 28 → r' x = r x) := by
  have w0 : wrN 0 = 0 := by decide
  have w1 : wrN 1 = 1 := by decide
  have w64 : wrN 64 = 64 := by decide
  have wm16 : wrN (-16) = 18446744073709551600 := by decide
  intro l
  induction l with
  | nil => intro r m o i h; exact absurd rfl h
  | cons c l ih =>
    intro r m o i _ hl h0 h28 h29 hb
    rw [List.length_cons] at hl h28 hb
    obtain ⟨b1, b2⟩ := bytesAt_tail hb
    have hA : (r 28 + wrN 0) % 18446744073709551616 = 16777256 - (l.length + 1) := by rw [w0, h28]; omega
    have hld : ldA m (16777256 - (l.length + 1)) 1 = c.toNat := by rw [ldA, ldA, Nat.add_zero, b1]; omega
    have h1 : To (rtP ++ rest) inp 5 ⟨65632, r, m, o, i⟩ ⟨if l = [] then 65652 else 65632, up (up (up r 10 c.toNat) 17 64) 28 (16777256 - l.length), m, o ++ [c], i⟩ := by
      refine To.via (st_lbu 10 28 0 rfl _ hA (by simp [wrB]; omega)) ?_
      rw [hld]
      refine To.via (st_ai 22 17 0 64 (by decide) rfl 64 (alu_addi _ _ _ (by rw [w64, up_ne _ _ _ _ (by decide), h0]))) ?_
      refine To.via (st_out rfl (up_eq _ _ _ (by decide))) ?_
      rw [show up (up r 10 c.toNat) 17 64 10 = c.toNat from rfl, UInt8.ofNat_toNat]
      refine To.via (st_ai 22 28 28 1 (by decide) rfl (16777256 - l.length) (alu_addi _ _ _ (by rw [w1, up_ne _ _ _ _ (by decide), up_ne _ _ _ _ (by decide), h28]; omega))) ?_
      refine To.via (st_br 6 28 29 (-16) (by decide) rfl (!decide (l = [])) (by
        show (!decide (16777256 - l.length = r 29)) = _
        rw [h29]
        congr 1
        rw [decide_eq_decide, ← List.length_eq_zero_iff]
        omega) (if l = [] then 65652 else 65632) (by
        by_cases hq : l = []
        · rw [if_pos hq, if_neg (by simp [hq])]
        · rw [if_neg hq, if_pos (by simp [hq]), wm16])) ?_
      exact To.refl 0
    by_cases he : l = []
    · subst he
      rw [if_pos rfl] at h1
      refine ⟨_, h1, fun x a b c => ?_⟩
      rw [up_ne _ _ _ _ c, up_ne _ _ _ _ b, up_ne _ _ _ _ a]
    · rw [if_neg he] at h1
      obtain ⟨r2, g1, g2⟩ := ih (up (up (up r 10 c.toNat) 17 64) 28 (16777256 - l.length)) m (o ++ [c]) i he (by omega) h0 rfl (by rw [← h29]; rfl) (by rw [show 16777256 - l.length = 16777256 - (l.length + 1) + 1 by omega]; exact b2)
      refine ⟨r2, ?_, fun x a b c => ?_⟩
      · rw [List.append_assoc, List.singleton_append] at g1
        exact (h1.trans g1).mono (by rw [List.length_cons]; omega)
      · rw [g2 x a b c, up_ne _ _ _ _ c, up_ne _ _ _ _ b, up_ne _ _ _ _ a]
/-- a number as it is printed. -/
def decB (v : Nat) : List UInt8 := (if wrap64 (v : Int) < 0 then [45] else []) ++ digF 20 (if wrap64 (v : Int) < 0 then 18446744073709551616 - v else v) []
/-- from the digits on. -/
theorem print_back (q ret : Nat) (r m : Nat → Nat) (o : List UInt8) (i : Nat) (h0 : r 0 = 0) (h5 : r 5 = q) (hq : q < 18446744073709551616) (h1 : r 1 = ret) (hr : ret < 18446744073709551616) (hr2 : ret % 2 = 0) :
    ∃ r' m', To (rtP ++ rest) inp 230 ⟨65588, r, m, o, i⟩ ⟨ret, r', m', (o ++ digF 20 q []) ++ [10], i⟩ ∧ (∀ x, x ≠ 5 → x ≠ 6 → x ≠ 7 → x ≠ 10 → x ≠ 17 → x ≠ 28 → x ≠ 29 → r' x = r x) ∧ r' 10 = 0 ∧ (∀ x, x < 16777236 ∨ 16777256 ≤ x → m' x = m x) := by
  have h2 : To (rtP ++ rest) inp 3 ⟨65588, r, m, o, i⟩ ⟨65600, up (up (up r 28 16777268) 28 16777256) 6 10, m, o, i⟩ := by
    refine To.via (st_aui 28 4080 rfl 16777268 (by decide)) ?_
    refine To.via (st_ai 22 28 28 (-12) (by decide) rfl 16777256 (alu_addi _ _ _ (by rw [up_eq _ _ _ (by decide)]; decide))) ?_
    refine To.via (st_ai 22 6 0 10 (by decide) rfl 10 (alu_addi _ _ _ (by rw [up_ne _ _ _ _ (by decide), up_ne _ _ _ _ (by decide), h0]; decide))) ?_
    exact To.refl 0
  obtain ⟨r3, m3, h3, k3, l3, l4, e3, b3, n3⟩ := print_loop rest inp 19 q [] (up (up (up r 28 16777268) 28 16777256) 6 10) m o i (by omega) hq (by decide) h0 h5 rfl rfl (fun j hj => absurd hj (by simp))
  generalize digF (19 + 1) q [] = l at *
  have z3 : r3 0 = 0 := (k3 0 (by decide) (by decide) (by decide)).trans h0
  have h4 : To (rtP ++ rest) inp 2 ⟨65624, r3, m3, o, i⟩ ⟨65632, up (up r3 29 16777304) 29 16777256, m3, o, i⟩ := by
    refine To.via (st_aui 29 4080 rfl 16777304 (by decide)) ?_
    refine To.via (st_ai 22 29 29 (-48) (by decide) rfl 16777256 (alu_addi _ _ _ (by rw [up_eq _ _ _ (by decide)]; decide))) ?_
    exact To.refl 0
  obtain ⟨r5, h6, k5⟩ := out_loop rest inp l (up (up r3 29 16777304) 29 16777256) m3 o i (by rintro rfl; simp at l4) l3 z3 e3 rfl b3
  have z5 : r5 0 = 0 := (k5 0 (by decide) (by decide) (by decide)).trans z3
  have e1 : r5 1 = ret := (k5 1 (by decide) (by decide) (by decide)).trans ((k3 1 (by decide) (by decide) (by decide)).trans h1)
  have h7 : To (rtP ++ rest) inp 5 ⟨65652, r5, m3, o ++ l, i⟩ ⟨ret, up (up (up (up r5 10 10) 17 64) 10 0) 0 65672, m3, (o ++ l) ++ [10], i⟩ := by
    refine To.via (st_ai 22 10 0 10 (by decide) rfl 10 (alu_addi _ _ _ (by rw [z5]; decide))) ?_
    refine To.via (st_ai 22 17 0 64 (by decide) rfl 64 (alu_addi _ _ _ (by rw [up_ne _ _ _ _ (by decide), z5]; decide))) ?_
    refine To.via (st_out rfl (up_eq _ _ _ (by decide))) ?_
    refine To.via (st_ai 22 10 0 0 (by decide) rfl 0 (alu_addi _ _ _ (by rw [up_ne _ _ _ _ (by decide), up_ne _ _ _ _ (by decide), z5]; decide))) ?_
    refine To.via (st_jalr 0 1 0 rfl ret (by
      rw [up_ne _ _ _ _ (by decide), up_ne _ _ _ _ (by decide), up_ne _ _ _ _ (by decide), e1, show wrN 0 = 0 by decide]
      omega)) ?_
    exact To.refl 0
  refine ⟨_, m3, (((h2.trans h3).trans h4).trans (h6.trans h7)).mono (by omega), fun x x5 x6 x7 x10 x17 x28 x29 => ?_, rfl, n3⟩
  by_cases x0 : x = 0
  · subst x0; exact h0.symm
  rw [up_ne _ _ _ _ x0, up_ne _ _ _ _ x10, up_ne _ _ _ _ x17, up_ne _ _ _ _ x10, k5 x x10 x17 x28, up_ne _ _ _ _ x29, up_ne _ _ _ _ x29, k3 x x5 x7 x28, up_ne _ _ _ _ x6, up_ne _ _ _ _ x28, up_ne _ _ _ _ x28]
/-- rt.print. -/
theorem print_any (v ret : Nat) (r m : Nat → Nat) (o : List UInt8) (i : Nat) (h0 : r 0 = 0) (h10 : r 10 = v) (hv : v < 18446744073709551616) (h1 : r 1 = ret) (hr : ret < 18446744073709551616) (hr2 : ret % 2 = 0) :
    ∃ r' m', To (rtP ++ rest) inp 240 ⟨65564, r, m, o, i⟩ ⟨ret, r', m', o ++ (decB v ++ [10]), i⟩ ∧ (∀ x, x ≠ 5 → x ≠ 6 → x ≠ 7 → x ≠ 10 → x ≠ 17 → x ≠ 28 → x ≠ 29 → r' x = r x) ∧ r' 10 = 0 ∧ (∀ x, x < 16777236 ∨ 16777256 ≤ x → m' x = m x) := by
  unfold decB
  by_cases hn : wrap64 (v : Int) < 0
  · rw [if_pos hn, if_pos hn]
    have hv0 : 0 < v := by
      apply Nat.pos_of_ne_zero
      rintro rfl
      exact absurd hn (by rw [wrap64_0]; decide)
    have h2 : To (rtP ++ rest) inp 6 ⟨65564, r, m, o, i⟩ ⟨65588, up (up (up (up r 5 v) 5 (18446744073709551616 - v)) 10 45) 17 64, m, o ++ [45], i⟩ := by
      refine To.via (st_ar 35 5 10 0 (by decide) rfl v (alu_add _ _ _ (by rw [h10, h0]; omega))) ?_
      refine To.via (st_br 8 5 0 20 (by decide) rfl false (by
        show (decide (wrap64 ((up r 5 v 0 : Nat) : Int) ≤ wrap64 ((up r 5 v 5 : Nat) : Int))) = false
        rw [up_ne _ _ _ _ (by decide), h0, up_eq _ _ _ (by decide)]
        exact decide_eq_false (by rw [wrap64_0]; omega)) 65572 rfl) ?_
      refine To.via (st_ar 36 5 0 5 (by decide) rfl (18446744073709551616 - v) (alu_sub _ _ _ (by rw [up_ne _ _ _ _ (by decide), h0, up_eq _ _ _ (by decide)]; omega))) ?_
      refine To.via (st_ai 22 10 0 45 (by decide) rfl 45 (alu_addi _ _ _ (by rw [up_ne _ _ _ _ (by decide), up_ne _ _ _ _ (by decide), h0]; decide))) ?_
      refine To.via (st_ai 22 17 0 64 (by decide) rfl 64 (alu_addi _ _ _ (by rw [up_ne _ _ _ _ (by decide), up_ne _ _ _ _ (by decide), up_ne _ _ _ _ (by decide), h0]; decide))) ?_
      refine To.via (st_out rfl (up_eq _ _ _ (by decide))) ?_
      exact To.refl 0
    obtain ⟨r', m', h3, k3, e3, n3⟩ := print_back rest inp (18446744073709551616 - v) ret (up (up (up (up r 5 v) 5 (18446744073709551616 - v)) 10 45) 17 64) m (o ++ [45]) i h0 rfl (by omega) h1 hr hr2
    refine ⟨r', m', ?_, fun x x5 x6 x7 x10 x17 x28 x29 => ?_, e3, n3⟩
    · have := h2.trans h3
      simp only [List.append_assoc] at this ⊢
      exact this.mono (by omega)
    · rw [k3 x x5 x6 x7 x10 x17 x28 x29, up_ne _ _ _ _ x17, up_ne _ _ _ _ x10, up_ne _ _ _ _ x5, up_ne _ _ _ _ x5]
  · rw [if_neg hn, if_neg hn]
    have h2 : To (rtP ++ rest) inp 2 ⟨65564, r, m, o, i⟩ ⟨65588, up r 5 v, m, o, i⟩ := by
      refine To.via (st_ar 35 5 10 0 (by decide) rfl v (alu_add _ _ _ (by rw [h10, h0]; omega))) ?_
      refine To.via (st_br 8 5 0 20 (by decide) rfl true (by
        show (decide (wrap64 ((up r 5 v 0 : Nat) : Int) ≤ wrap64 ((up r 5 v 5 : Nat) : Int))) = true
        rw [up_ne _ _ _ _ (by decide), h0, up_eq _ _ _ (by decide)]
        exact decide_eq_true (by rw [wrap64_0]; omega)) 65588 (by decide)) ?_
      exact To.refl 0
    obtain ⟨r', m', h3, k3, e3, n3⟩ := print_back rest inp v ret (up r 5 v) m o i h0 rfl hv h1 hr hr2
    refine ⟨r', m', ?_, fun x x5 x6 x7 x10 x17 x28 x29 => ?_, e3, n3⟩
    · have := h2.trans h3
      simp only [List.append_assoc, List.nil_append] at this ⊢
      exact this.mono (by omega)
    · rw [k3 x x5 x6 x7 x10 x17 x28 x29, up_ne _ _ _ _ x5]
end
end Go.Pat
