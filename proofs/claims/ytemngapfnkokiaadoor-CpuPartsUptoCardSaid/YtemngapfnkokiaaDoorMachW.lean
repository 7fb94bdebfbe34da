/- A machine in memory. -/
import Derived.Test.YtemngapfnkokiaaDoorStepP
import Derived.Test.YtemngapfnkokiaaDoorDec
import Derived.Test.YtemngapfnkokiaaDoorFetchM
import Derived.Test.YtemngapfnkokiaaDoorBuf2
namespace Go.Proofs
open Go Go.RowKit Go.Pat
/-- the blocks that a machine writes. -/
def mine (m : Nat) (fs : List Fr) (ov : Value) (k : Nat) : Prop := k = m ∨ k ∈ fs.map (·.blk) ∨ ov.ownBlock = some k
structure MachAt (w : World) (m p mb : Nat) (ov iv : Value) (s : Ms) : Prop where
  cells : w.heap[m]? = some (.cells (mcells s.c ov (.pointer (some ⟨p, 0, none⟩)) iv).toArray 129 (0, 0))
  mem : MemAt w p mb s.fs
  len : s.c.regs.length = 32
  small : ∀ i, s.c.reg i < 18446744073709551616
  pc : s.c.pc < 18446744073709551616
  out : OwnB w 0 ov s.c.out
  inn : OwnB w 0 iv s.inp
  rng : 0 ≤ s.c.inn ∧ s.c.inn ≤ s.inp.length
  apO : ∀ g, ov.ownBlock = some g → g ∉ s.fs.map (·.blk)
  apI : ∀ g, iv.ownBlock = some g → g ∉ s.fs.map (·.blk) ∧ ov.ownBlock ≠ some g
section
variable {w : World} {m p mb : Nat} {ov iv : Value} {s : Ms}
theorem MachAt.cell (h : MachAt w m p mb ov iv s) (i : Nat) (v : Value) (hv : (mcells s.c ov (.pointer (some ⟨p, 0, none⟩)) iv)[i]? = some v) : w.cell? ⟨m, i, none⟩ = some v :=
  (obj_cell h.cells i).trans (by simpa using hv)
theorem MachAt.cpc (h : MachAt w m p mb ov iv s) : w.cell? ⟨m, 0, none⟩ = some (.int .u64 (s.c.pc : Int)) := h.cell 0 _ rfl
theorem MachAt.creg (h : MachAt w m p mb ov iv s) (i : Nat) (hi : i < 32) : w.cell? ⟨m, 1 + i, none⟩ = some (.int .u64 ((s.c.reg i : Nat) : Int)) := h.cell (1 + i) _ (mget_reg h.len i hi)
theorem MachAt.csteps (h : MachAt w m p mb ov iv s) : w.cell? ⟨m, 33, none⟩ = some (.int .i64 s.c.steps) := h.cell 33 _ (mget_tail h.len 0)
theorem MachAt.chalted (h : MachAt w m p mb ov iv s) : w.cell? ⟨m, 34, none⟩ = some (.bool s.c.halted) := h.cell 34 _ (mget_tail h.len 1)
theorem MachAt.ccode (h : MachAt w m p mb ov iv s) : w.cell? ⟨m, 35, none⟩ = some (.int .i64 s.c.code) := h.cell 35 _ (mget_tail h.len 2)
theorem MachAt.cfault (h : MachAt w m p mb ov iv s) : w.cell? ⟨m, 36, none⟩ = some (.int .i64 s.c.fault) := h.cell 36 _ (mget_tail h.len 3)
theorem MachAt.cout (h : MachAt w m p mb ov iv s) : w.cell? ⟨m, 37, none⟩ = some ov := h.cell 37 _ (mget_tail h.len 4)
theorem MachAt.cin (h : MachAt w m p mb ov iv s) : w.cell? ⟨m, 38, none⟩ = some (.int .i64 s.c.inn) := h.cell 38 _ (mget_tail h.len 5)
theorem MachAt.cmem (h : MachAt w m p mb ov iv s) : w.cell? ⟨m, 39, none⟩ = some (.pointer (some ⟨p, 0, none⟩)) := h.cell 39 _ (mget_tail h.len 6)
theorem MachAt.cinp (h : MachAt w m p mb ov iv s) : w.cell? ⟨m, 40, none⟩ = some iv := h.cell 40 _ (mget_tail h.len 7)
theorem MachAt.fz (h : MachAt w m p mb ov iv s) (i : Nat) : w.frozen? ⟨m, i, none⟩ = false := obj_frozen h.cells i
theorem MachAt.lt (h : MachAt w m p mb ov iv s) : m < w.heap.size := lt_of_block h.cells
theorem MachAt.below {w' : World} (h : MachAt w m p mb ov iv s) (hb : Below w.heap.size w w') : MachAt w' m p mb ov iv s :=
  ⟨(hb.block _ h.lt).trans h.cells, h.mem.below h.mem.lt hb, h.len, h.small, h.pc, h.out.below hb, h.inn.below hb, h.rng, h.apO, h.apI⟩
theorem mach_ne_u8 (h : MachAt w m p mb ov iv s) {g : Nat} {cur : Array Value} (hg : w.heap[g]? = some (.cells cur 5 (0, 0))) : g ≠ m := by
  rintro rfl
  have := h.cells.symm.trans hg
  simp at this
theorem MachAt.put (h : MachAt w m p mb ov iv s) (i : Nat) (v : Value) (c : Mc) (hc : (mcells s.c ov (.pointer (some ⟨p, 0, none⟩)) iv).set i v = mcells c ov (.pointer (some ⟨p, 0, none⟩)) iv)
    (hl : c.regs.length = 32) (hs : ∀ i, c.reg i < 18446744073709551616) (hp : c.pc < 18446744073709551616) (ho : c.out = s.c.out) (hr : 0 ≤ c.inn ∧ c.inn ≤ s.inp.length) :
    MachAt (w.setCell ⟨m, i, none⟩ v) m p mb ov iv { s with c := c } := by
  have hk : ∀ k, k ≠ m → (w.setCell ⟨m, i, none⟩ v).heap[k]? = w.heap[k]? := fun k hk => Below.heap_setCell w ⟨m, i, none⟩ v k hk
  have e1 : p ≠ m := by rintro rfl; have := h.cells.symm.trans h.mem.str; simp at this
  have e2 : mb ≠ m := by rintro rfl; have := h.cells.symm.trans h.mem.map; simp at this
  refine ⟨?_, h.mem.keep (hk _ e1) (hk _ e2) (fun f hf => hk _ ?_), hl, hs, hp, ?_, ?_, hr, h.apO, h.apI⟩
  · have := obj_set h.cells i v
    rw [this, List.setIfInBounds_toArray, hc]
  · obtain ⟨_, _, _, cur, hcur, _⟩ := h.mem.pages f hf
    exact mach_ne_u8 h hcur
  · show OwnB _ 0 ov c.out
    rw [ho]
    exact h.out.keep fun g hg => hk _ (by obtain ⟨_, cur, hc⟩ := h.out.block hg; exact mach_ne_u8 h hc)
  · exact h.inn.keep fun g hg => hk _ (by obtain ⟨_, cur, hc⟩ := h.inn.block hg; exact mach_ne_u8 h hc)
theorem reg_set_small {c : Mc} (hs : ∀ i, c.reg i < 18446744073709551616) (k v : Nat) (hv : v < 18446744073709551616) (i : Nat) : ({ c with regs := c.regs.set k v } : Mc).reg i < 18446744073709551616 := by
  have h := hs i
  unfold Mc.reg at h ⊢
  simp only [List.getD_eq_getElem?_getD, List.getElem?_set] at h ⊢
  split
  · split <;> simp [hv]
  · exact h
theorem MachAt.putReg (h : MachAt w m p mb ov iv s) (k v : Nat) (hk : k < 32) (hv : v < 18446744073709551616) : MachAt (w.setCell ⟨m, 1 + k, none⟩ (.int .u64 (v : Int))) m p mb ov iv { s with c := { s.c with regs := s.c.regs.set k v } } :=
  h.put (1 + k) _ _ (mset_reg h.len k hk v) (by simp [h.len]) (reg_set_small h.small k v hv) h.pc rfl h.rng
theorem MachAt.putPc (h : MachAt w m p mb ov iv s) (v : Nat) (hv : v < 18446744073709551616) : MachAt (w.setCell ⟨m, 0, none⟩ (.int .u64 (v : Int))) m p mb ov iv { s with c := { s.c with pc := v } } :=
  h.put 0 _ _ (mset_pc v) h.len h.small hv rfl h.rng
theorem MachAt.putSteps (h : MachAt w m p mb ov iv s) (v : Int) : MachAt (w.setCell ⟨m, 33, none⟩ (.int .i64 v)) m p mb ov iv { s with c := { s.c with steps := v } } :=
  h.put 33 _ _ (mset_steps h.len v) h.len h.small h.pc rfl h.rng
theorem MachAt.putHalted (h : MachAt w m p mb ov iv s) (v : Bool) : MachAt (w.setCell ⟨m, 34, none⟩ (.bool v)) m p mb ov iv { s with c := { s.c with halted := v } } :=
  h.put 34 _ _ (mset_halted h.len v) h.len h.small h.pc rfl h.rng
theorem MachAt.putCode (h : MachAt w m p mb ov iv s) (v : Int) : MachAt (w.setCell ⟨m, 35, none⟩ (.int .i64 v)) m p mb ov iv { s with c := { s.c with code := v } } :=
  h.put 35 _ _ (mset_code h.len v) h.len h.small h.pc rfl h.rng
theorem MachAt.putFault (h : MachAt w m p mb ov iv s) (v : Int) : MachAt (w.setCell ⟨m, 36, none⟩ (.int .i64 v)) m p mb ov iv { s with c := { s.c with fault := v } } :=
  h.put 36 _ _ (mset_fault h.len v) h.len h.small h.pc rfl h.rng
theorem MachAt.putIn (h : MachAt w m p mb ov iv s) (v : Int) (hv : 0 ≤ v ∧ v ≤ s.inp.length) : MachAt (w.setCell ⟨m, 38, none⟩ (.int .i64 v)) m p mb ov iv { s with c := { s.c with inn := v } } :=
  h.put 38 _ _ (mset_in h.len v) h.len h.small h.pc rfl hv
end
end Go.Proofs
