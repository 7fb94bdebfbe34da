/- (*Mem).Fetch. -/
import Derived.Test.YtlhenglopnipaaaGreatDoorCpu
import Derived.BigQuiet
import Derived.Test.YtlhenglopnipaaaGreatDoorRvP
import Derived.Test.YtlhenglopnipaaaGreatDoorDecI
import Derived.Test.YtlhenglopnipaaaGreatDoorBufs
import Derived.Test.YtlhenglopnipaaaGreatDoorAlus
import Derived.StillTailTactics
namespace Go.Proofs
open Go Go.RowKit Go.Pat
theorem asked_zint (w : World) (p mb : Nat) (fs : List Fr) (hM : MemAt w p mb fs) (at_ n : Nat) (z : Int) (hz : z = (n : Int)) (perm : Int) (hat : at_ < 18446744073709551616) (hn : n < 1000000) :
    Calls Tryz.prog 103 #[.pointer (some ⟨p, 0, none⟩), .int .u64 at_, .int .i64 z, .int .i64 perm] w fun e w' => e = .returned (.int .i64 (askedM fs at_ n perm)) ∧ Below w.heap.size w w' := by
  subst hz
  exact asked_all w p mb fs hM at_ n perm hat hn
theorem number_zint (w : World) (p mb : Nat) (fs : List Fr) (hM : MemAt w p mb fs) (at_ n : Nat) (z : Int) (hz : z = (n : Int)) (hat : at_ + n ≤ 281474976710656) (hn : n ≤ 8) (hp : ∀ i, i < n → ∃ f, pageOf fs (at_ + i) = some f) :
    Calls Tryz.prog 104 #[.pointer (some ⟨p, 0, none⟩), .int .u64 at_, .int .i64 z] w fun e w' => e = .returned (.int .u64 (numM fs at_ n)) ∧ Below w.heap.size w w' := by
  subst hz
  exact number_any w p mb fs hM at_ n hat hn hp

set_option maxHeartbeats 4000000 in
theorem Fetch_any (w : World) (p mb : Nat) (fs : List Fr) (hM : MemAt w p mb fs) (at_ : Nat) (hat : at_ < 18446744073709551616) :
    Calls Tryz.prog 90 #[.pointer (some ⟨p, 0, none⟩), .int .u64 at_] w fun e w' => e = .returned (.tuple #[.int .u32 ((fetchM fs at_).1 : Nat), .int .i64 (fetchM fs at_).2]) ∧ Below w.heap.size w w' := by
  by_cases hbad : at_ % 4 ≠ 0 ∨ 281474976710656 ≤ at_
  · have HF := Lib.hid (show fetchM fs at_ = (0, 1) by unfold fetchM; rw [if_pos hbad])
    by_cases h4 : at_ % 4 ≠ 0
    · have t1 : ((at_ : Int) % 4 != 0) = true := by simp only [bne_iff_ne]; omega
      clear hbad h4
      go_enter Tryz.func90, Tryz.ntmps90
      go_wp2
      go_ret2
      exact ⟨by rw [HF.out]; rfl, Below.refl _ _⟩
    · have t1 : ((at_ : Int) % 4 != 0) = false := by simp only [bne_eq_false_iff_eq]; omega
      have t2 : decide ((281474976710656 : Int) ≤ (at_ : Int)) = true := decide_eq_true (by omega)
      clear hbad h4
      go_enter Tryz.func90, Tryz.ntmps90
      go_wp2
      go_ret2
      exact ⟨by rw [HF.out]; rfl, Below.refl _ _⟩
  · have t1 : ((at_ : Int) % 4 != 0) = false := by simp only [bne_eq_false_iff_eq]; omega
    have t2 : decide ((281474976710656 : Int) ≤ (at_ : Int)) = false := decide_eq_false (by omega)
    by_cases h0 : askedM fs at_ 4 1 = 0
    · have HF := Lib.hid (show fetchM fs at_ = (numM fs at_ 4, 0) by unfold fetchM; rw [if_neg hbad, if_pos h0])
      obtain ⟨z1, z2, z3⟩ := asked_zero h0
      have h0' : (askedM fs at_ 4 1 != 0) = false := by simp [h0]
      have H3 := Lib.hid (fun i (hi : i < 4) => (z3 i hi).imp fun _ h => h.1)
      obtain ⟨q, hq⟩ : ∃ q, q = numM fs at_ 4 := ⟨_, rfl⟩
      have hql : q < 4294967296 := by rw [hq]; exact numM_lt fs at_ 4
      have HQ := Lib.hid hq
      clear h0 z3 hbad hq
      go_enter Tryz.func90, Tryz.ntmps90
      go_wp2_with fail
      refine Calls.mono (asked_zint w p mb fs hM at_ 4 _ (by rfl) 1 hat (by decide)) ?_
      rintro e w' ⟨rfl, hb⟩
      go_wp2_with fail
      refine Calls.mono (number_zint w' p mb fs (hM.below hM.lt hb) at_ 4 _ (by rfl) z1 (by decide) H3.out) ?_
      rintro e w2 ⟨rfl, hb2⟩
      rw [← HQ.out]
      go_wp2
      go_ret2
      exact ⟨by rw [HF.out, ← HQ.out]; rfl, hb.trans (hb2.mono hb.size)⟩
    · have HF := Lib.hid (show fetchM fs at_ = (0, askedM fs at_ 4 1) by unfold fetchM; rw [if_neg hbad, if_neg h0])
      have h0' : (askedM fs at_ 4 1 != 0) = true := by simp [h0]
      clear h0 hbad
      go_enter Tryz.func90, Tryz.ntmps90
      go_wp2_with fail
      refine Calls.mono (asked_zint w p mb fs hM at_ 4 _ (by rfl) 1 hat (by decide)) ?_
      rintro e w' ⟨rfl, hb⟩
      go_wp2
      go_ret2
      exact ⟨by rw [HF.out]; rfl, hb⟩

end Go.Proofs

/- A machine in memory. -/
namespace Go.Proofs
open Go Go.RowKit Go.Pat
/-- the blocks that a machine writes. -/
def mine (m : Nat) (fs : List Fr) (ov : Value) (k : Nat) : Prop := k = m ∨ k ∈ fs.map (·.blk) ∨ ov.ownBlock = some k
structure MachAt (w : World) (m p mb : Nat) (ov iv : Value) (s : Ms) : Prop where
  cells : w.heap[m]? = some (.cells (mcells s.c ov (.pointer (some ⟨p, 0, none⟩)) iv).toArray 118 (0, 0))
  mem : MemAt w p mb s.fs
  len : s.c.regs.length = 32
  small : ∀ i, s.c.reg i < 18446744073709551616
  pc : s.c.pc < 18446744073709551616
  out : OwnB w 0 ov s.c.out
  inn : OwnB w 0 iv s.inp
  rng : 0 ≤ s.c.inn ∧ s.c.inn ≤ s.inp.length
  apO : ∀ g, ov.ownBlock = some g → g ∉ s.fs.map (·.blk)
  apI : ∀ g, iv.ownBlock = some g → g ∉ s.fs.map (·.blk) ∧ ov.ownBlock ≠ some g
section
variable {w : World} {m p mb : Nat} {ov iv : Value} {s : Ms}
theorem MachAt.cell (h : MachAt w m p mb ov iv s) (i : Nat) (v : Value) (hv : (mcells s.c ov (.pointer (some ⟨p, 0, none⟩)) iv)[i]? = some v) : w.cell? ⟨m, i, none⟩ = some v :=
  (obj_cell h.cells i).trans (by simpa using hv)
theorem MachAt.cpc (h : MachAt w m p mb ov iv s) : w.cell? ⟨m, 0, none⟩ = some (.int .u64 (s.c.pc : Int)) := h.cell 0 _ rfl
theorem MachAt.creg (h : MachAt w m p mb ov iv s) (i : Nat) (hi : i < 32) : w.cell? ⟨m, 1 + i, none⟩ = some (.int .u64 ((s.c.reg i : Nat) : Int)) := h.cell (1 + i) _ (mget_reg h.len i hi)
theorem MachAt.csteps (h : MachAt w m p mb ov iv s) : w.cell? ⟨m, 33, none⟩ = some (.int .i64 s.c.steps) := h.cell 33 _ (mget_tail h.len 0)
theorem MachAt.chalted (h : MachAt w m p mb ov iv s) : w.cell? ⟨m, 34, none⟩ = some (.bool s.c.halted) := h.cell 34 _ (mget_tail h.len 1)
theorem MachAt.ccode (h : MachAt w m p mb ov iv s) : w.cell? ⟨m, 35, none⟩ = some (.int .i64 s.c.code) := h.cell 35 _ (mget_tail h.len 2)
theorem MachAt.cfault (h : MachAt w m p mb ov iv s) : w.cell? ⟨m, 36, none⟩ = some (.int .i64 s.c.fault) := h.cell 36 _ (mget_tail h.len 3)
theorem MachAt.cout (h : MachAt w m p mb ov iv s) : w.cell? ⟨m, 37, none⟩ = some ov := h.cell 37 _ (mget_tail h.len 4)
theorem MachAt.cin (h : MachAt w m p mb ov iv s) : w.cell? ⟨m, 38, none⟩ = some (.int .i64 s.c.inn) := h.cell 38 _ (mget_tail h.len 5)
theorem MachAt.cmem (h : MachAt w m p mb ov iv s) : w.cell? ⟨m, 39, none⟩ = some (.pointer (some ⟨p, 0, none⟩)) := h.cell 39 _ (mget_tail h.len 6)
theorem MachAt.cinp (h : MachAt w m p mb ov iv s) : w.cell? ⟨m, 40, none⟩ = some iv := h.cell 40 _ (mget_tail h.len 7)
theorem MachAt.fz (h : MachAt w m p mb ov iv s) (i : Nat) : w.frozen? ⟨m, i, none⟩ = false := obj_frozen h.cells i
theorem MachAt.lt (h : MachAt w m p mb ov iv s) : m < w.heap.size := lt_of_block h.cells
theorem MachAt.below {w' : World} (h : MachAt w m p mb ov iv s) (hb : Below w.heap.size w w') : MachAt w' m p mb ov iv s :=
  ⟨(hb.block _ h.lt).trans h.cells, h.mem.below h.mem.lt hb, h.len, h.small, h.pc, h.out.below hb, h.inn.below hb, h.rng, h.apO, h.apI⟩
theorem mach_ne_u8 (h : MachAt w m p mb ov iv s) {g : Nat} {cur : Array Value} (hg : w.heap[g]? = some (.cells cur 5 (0, 0))) : g ≠ m := by
  rintro rfl
  have := h.cells.symm.trans hg
  simp at this
theorem MachAt.put (h : MachAt w m p mb ov iv s) (i : Nat) (v : Value) (c : Mc) (hc : (mcells s.c ov (.pointer (some ⟨p, 0, none⟩)) iv).set i v = mcells c ov (.pointer (some ⟨p, 0, none⟩)) iv)
    (hl : c.regs.length = 32) (hs : ∀ i, c.reg i < 18446744073709551616) (hp : c.pc < 18446744073709551616) (ho : c.out = s.c.out) (hr : 0 ≤ c.inn ∧ c.inn ≤ s.inp.length) :
    MachAt (w.setCell ⟨m, i, none⟩ v) m p mb ov iv { s with c := c } := by
  have hk : ∀ k, k ≠ m → (w.setCell ⟨m, i, none⟩ v).heap[k]? = w.heap[k]? := fun k hk => Below.heap_setCell w ⟨m, i, none⟩ v k hk
  have e1 : p ≠ m := by rintro rfl; have := h.cells.symm.trans h.mem.str; simp at this
  have e2 : mb ≠ m := by rintro rfl; have := h.cells.symm.trans h.mem.map; simp at this
  refine ⟨?_, h.mem.keep (hk _ e1) (hk _ e2) (fun f hf => hk _ ?_), hl, hs, hp, ?_, ?_, hr, h.apO, h.apI⟩
  · have := obj_set h.cells i v
    rw [this, List.setIfInBounds_toArray, hc]
  · obtain ⟨_, _, _, cur, hcur, _⟩ := h.mem.pages f hf
    exact mach_ne_u8 h hcur
  · show OwnB _ 0 ov c.out
    rw [ho]
    exact h.out.keep fun g hg => hk _ (by obtain ⟨_, cur, hc⟩ := h.out.block hg; exact mach_ne_u8 h hc)
  · exact h.inn.keep fun g hg => hk _ (by obtain ⟨_, cur, hc⟩ := h.inn.block hg; exact mach_ne_u8 h hc)
theorem reg_set_small {c : Mc} (hs : ∀ i, c.reg i < 18446744073709551616) (k v : Nat) (hv : v < 18446744073709551616) (i : Nat) : ({ c with regs := c.regs.set k v } : Mc).reg i < 18446744073709551616 := by
  have h := hs i
  unfold Mc.reg at h ⊢
  simp only [List.getD_eq_getElem?_getD, List.getElem?_set] at h ⊢
  split
  · split <;> simp [hv]
  · exact h
theorem MachAt.putReg (h : MachAt w m p mb ov iv s) (k v : Nat) (hk : k < 32) (hv : v < 18446744073709551616) : MachAt (w.setCell ⟨m, 1 + k, none⟩ (.int .u64 (v : Int))) m p mb ov iv { s with c := { s.c with regs := s.c.regs.set k v } } :=
  h.put (1 + k) _ _ (mset_reg h.len k hk v) (by simp [h.len]) (reg_set_small h.small k v hv) h.pc rfl h.rng
theorem MachAt.putPc (h : MachAt w m p mb ov iv s) (v : Nat) (hv : v < 18446744073709551616) : MachAt (w.setCell ⟨m, 0, none⟩ (.int .u64 (v : Int))) m p mb ov iv { s with c := { s.c with pc := v } } :=
  h.put 0 _ _ (mset_pc v) h.len h.small hv rfl h.rng
theorem MachAt.putSteps (h : MachAt w m p mb ov iv s) (v : Int) : MachAt (w.setCell ⟨m, 33, none⟩ (.int .i64 v)) m p mb ov iv { s with c := { s.c with steps := v } } :=
  h.put 33 _ _ (mset_steps h.len v) h.len h.small h.pc rfl h.rng
theorem MachAt.putHalted (h : MachAt w m p mb ov iv s) (v : Bool) : MachAt (w.setCell ⟨m, 34, none⟩ (.bool v)) m p mb ov iv { s with c := { s.c with halted := v } } :=
  h.put 34 _ _ (mset_halted h.len v) h.len h.small h.pc rfl h.rng
theorem MachAt.putCode (h : MachAt w m p mb ov iv s) (v : Int) : MachAt (w.setCell ⟨m, 35, none⟩ (.int .i64 v)) m p mb ov iv { s with c := { s.c with code := v } } :=
  h.put 35 _ _ (mset_code h.len v) h.len h.small h.pc rfl h.rng
theorem MachAt.putFault (h : MachAt w m p mb ov iv s) (v : Int) : MachAt (w.setCell ⟨m, 36, none⟩ (.int .i64 v)) m p mb ov iv { s with c := { s.c with fault := v } } :=
  h.put 36 _ _ (mset_fault h.len v) h.len h.small h.pc rfl h.rng
theorem MachAt.putIn (h : MachAt w m p mb ov iv s) (v : Int) (hv : 0 ≤ v ∧ v ≤ s.inp.length) : MachAt (w.setCell ⟨m, 38, none⟩ (.int .i64 v)) m p mb ov iv { s with c := { s.c with inn := v } } :=
  h.put 38 _ _ (mset_in h.len v) h.len h.small h.pc rfl hv
end
end Go.Proofs

/- (*cpu.Machine).step: the walk. -/
namespace Go.Proofs
open Go Go.RowKit Go.Pat
theorem Fetch_st (w : World) (p mb : Nat) (fs : List Fr) (hM : MemAt w p mb fs) (at_ : Nat) (hat : at_ < 18446744073709551616) (q : Nat) (z : Int) (hq : fetchM fs at_ = (q, z)) :
    Calls Tryz.prog 90 #[.pointer (some ⟨p, 0, none⟩), .int .u64 at_] w fun e w' => e = .returned (.tuple #[.int .u32 (q : Int), .int .i64 z]) ∧ Below w.heap.size w w' := by
  have := Fetch_any w p mb fs hM at_ hat
  rw [hq] at this
  exact this
theorem dec_st (w : World) (hR : RvRows w) (x : Nat) (hx : x < 4294967296) (i : Ins) (hi : decR x = some i) :
    Calls Tryz.prog 91 #[.int .u32 x] w fun e w' => e = .returned (.tuple #[.agg #[.int .i64 (i.op : Int), .int .i64 (i.rd : Int), .int .i64 (i.rs1 : Int), .int .i64 (i.rs2 : Int), .int .i64 i.imm], .int .i64 0]) ∧ Below w.heap.size w w' := by
  have := rvDecode_any w hR x hx
  unfold decV at this
  rw [hi] at this
  exact this
theorem dec_none (w : World) (hR : RvRows w) (x : Nat) (hx : x < 4294967296) (hi : decR x = none) :
    Calls Tryz.prog 91 #[.int .u32 x] w fun e w' => e = .returned (.tuple #[.agg #[.int .i64 0, .int .i64 0, .int .i64 0, .int .i64 0, .int .i64 0], .int .i64 10]) ∧ Below w.heap.size w w' := by
  have := rvDecode_any w hR x hx
  unfold decV at this
  rw [hi] at this
  exact this
theorem fetchM_lt (fs : List Fr) (at_ : Nat) : (fetchM fs at_).1 < 4294967296 := by
  unfold fetchM
  split
  · decide
  · split
    · exact numM_lt fs at_ 4
    · show (0 : Nat) < 4294967296; decide
theorem nextPc_is (s : Ms) : IntKind.u64.wrap ((s.c.pc : Int) + 4) = ((nextPc s : Nat) : Int) := by rw [IntKind.wrap_u64]; unfold nextPc; omega
theorem nextPc_lt (s : Ms) : nextPc s < 18446744073709551616 := Nat.mod_lt _ (by decide)
theorem lui_is (n : Nat) : IntKind.u64.wrap ((n : Int) * 4096) = ((n * 4096 % 18446744073709551616 : Nat) : Int) := by rw [IntKind.wrap_u64]; omega
theorem aui_is (c n : Nat) : IntKind.u64.wrap ((c : Int) + IntKind.u64.wrap ((n : Int) * 4096)) = (((c + n * 4096) % 18446744073709551616 : Nat) : Int) := by rw [IntKind.wrap_u64, IntKind.wrap_u64]; omega
theorem add_is (a b : Nat) : IntKind.u64.wrap ((a : Int) + (b : Int)) = (((a + b) % 18446744073709551616 : Nat) : Int) := by rw [IntKind.wrap_u64]; omega
theorem bv_even (x : BitVec 64) : x &&& ~~~(1#64) = (x >>> 1) <<< 1 := by
  apply BitVec.eq_of_getLsbD_eq
  intro i hi
  simp only [BitVec.getLsbD_and, BitVec.getLsbD_not, BitVec.getLsbD_shiftLeft, BitVec.getLsbD_ushiftRight, BitVec.getLsbD_one]
  cases i with
  | zero => simp
  | succ i => simp [hi, Nat.add_comm]
theorem even_is (c : Nat) (hc : c < 18446744073709551616) : bits .andNot .u64 (c : Int) 1 = ((c / 2 * 2 : Nat) : Int) := by
  have e1 : (BitVec.ofInt 64 (c : Int)).toNat = c := by rw [BitVec.toNat_ofInt]; omega
  have h : ((BitVec.ofInt 64 (c : Int)) &&& ~~~(1#64)).toNat = c / 2 * 2 := by
    rw [bv_even, BitVec.toNat_shiftLeft, BitVec.toNat_ushiftRight, e1, Nat.shiftRight_eq_div_pow, Nat.shiftLeft_eq]
    omega
  show IntKind.u64.wrap ((((BitVec.ofInt 64 (c : Int)) &&& ~~~(BitVec.ofInt 64 1) : BitVec 64).toNat : Nat) : Int) = _
  rw [show BitVec.ofInt 64 1 = 1#64 from rfl, h, IntKind.wrap_u64]
  omega
theorem mod64_lt (n : Nat) : n % 18446744073709551616 < 18446744073709551616 := Nat.mod_lt _ (by decide)
theorem _root_.Go.Pat.KeptBut.mono {S T : Nat → Prop} {a b : World} (h : KeptBut S a b) (hs : ∀ k, S k → T k) : KeptBut T a b := ⟨h.os, h.tape, h.output, h.size, fun k hk hn => h.block k hk fun h => hn (hs k h)⟩
theorem storeM_blk (fs : List Fr) (a v : Nat) (n : Int) : (storeM fs a v n).map (·.blk) = fs.map (·.blk) := by
  unfold storeM
  split
  · exact storeTo_blk _ _ _ _
  · rfl
theorem MachAt.notin {w : World} {m p mb : Nat} {ov iv : Value} {s : Ms} (h : MachAt w m p mb ov iv s) : m ∉ s.fs.map (·.blk) := fun hm => by
  obtain ⟨f, hf, e⟩ := List.mem_map.1 hm
  obtain ⟨_, _, _, cur, hcur, _⟩ := h.mem.pages f hf
  exact mach_ne_u8 h hcur e
theorem MachAt.store {w w' : World} {m p mb : Nat} {ov iv : Value} {s : Ms} {fs' : List Fr} (h : MachAt w m p mb ov iv s) (hm : MemAt w' p mb fs') (hk : KeptBut (fun b => b ∈ s.fs.map (·.blk)) w w') (hb : fs'.map (·.blk) = s.fs.map (·.blk)) :
    MachAt w' m p mb ov iv { s with fs := fs' } := by
  refine ⟨(hk.block _ h.lt h.notin).trans h.cells, hm, h.len, h.small, h.pc, ?_, ?_, h.rng, ?_, ?_⟩
  · exact h.out.keep fun g hg => by
      obtain ⟨_, cur, hc⟩ := h.out.block hg
      exact hk.block _ (lt_of_block hc) (h.apO g hg)
  · exact h.inn.keep fun g hg => by
      obtain ⟨_, cur, hc⟩ := h.inn.block hg
      exact hk.block _ (lt_of_block hc) (h.apI g hg).1
  · intro g hg; show g ∉ fs'.map _; rw [hb]; exact h.apO g hg
  · intro g hg; refine ⟨?_, (h.apI g hg).2⟩; show g ∉ fs'.map _; rw [hb]; exact (h.apI g hg).1
/-- what a step leaves. -/
def StepTo (m p mb : Nat) (ov iv : Value) (s : Ms) (r : Int × Ms) (w : World) (e : Ending) (w' : World) : Prop :=
  e = .returned (.int .i64 r.1) ∧ ∃ ov', MachAt w' m p mb ov' iv r.2 ∧ KeptBut (mine m s.fs ov) w w' ∧ ∀ g, ov'.ownBlock = some g → ov.ownBlock = some g ∨ w.heap.size ≤ g
end Go.Proofs
