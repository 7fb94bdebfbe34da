/- (*cpu.Machine).step: the walk. -/
import Derived.Test.YtemngapfnkokiaaDoorMachW
import Derived.Test.YtemngapfnkokiaaDoorAluR
import Derived.StillTailTactics
import Derived.BigQuiet
namespace Go.Proofs
open Go Go.RowKit Go.Pat
theorem Fetch_st (w : World) (p mb : Nat) (fs : List Fr) (hM : MemAt w p mb fs) (at_ : Nat) (hat : at_ < 18446744073709551616) (q : Nat) (z : Int) (hq : fetchM fs at_ = (q, z)) :
    Calls Tryd.prog 94 #[.pointer (some ⟨p, 0, none⟩), .int .u64 at_] w fun e w' => e = .returned (.tuple #[.int .u32 (q : Int), .int .i64 z]) ∧ Below w.heap.size w w' := by
  have := Fetch_any w p mb fs hM at_ hat
  rw [hq] at this
  exact this
theorem dec_st (w : World) (hR : RvRows w) (x : Nat) (hx : x < 4294967296) (i : Ins) (hi : decR x = some i) :
    Calls Tryd.prog 95 #[.int .u32 x] w fun e w' => e = .returned (.tuple #[.agg #[.int .i64 (i.op : Int), .int .i64 (i.rd : Int), .int .i64 (i.rs1 : Int), .int .i64 (i.rs2 : Int), .int .i64 i.imm], .int .i64 0]) ∧ Below w.heap.size w w' := by
  have := rvDecode_any w hR x hx
  unfold decV at this
  rw [hi] at this
  exact this
theorem dec_none (w : World) (hR : RvRows w) (x : Nat) (hx : x < 4294967296) (hi : decR x = none) :
    Calls Tryd.prog 95 #[.int .u32 x] w fun e w' => e = .returned (.tuple #[.agg #[.int .i64 0, .int .i64 0, .int .i64 0, .int .i64 0, .int .i64 0], .int .i64 10]) ∧ Below w.heap.size w w' := by
  have := rvDecode_any w hR x hx
  unfold decV at this
  rw [hi] at this
  exact this
theorem fetchM_lt (fs : List Fr) (at_ : Nat) : (fetchM fs at_).1 < 4294967296 := by
  unfold fetchM
  split
  · decide
  · split
    · exact numM_lt fs at_ 4
    · show (0 : Nat) < 4294967296; decide
theorem nextPc_is (s : Ms) : IntKind.u64.wrap ((s.c.pc : Int) + 4) = ((nextPc s : Nat) : Int) := by rw [IntKind.wrap_u64]; unfold nextPc; omega
theorem nextPc_lt (s : Ms) : nextPc s < 18446744073709551616 := Nat.mod_lt _ (by decide)
theorem lui_is (n : Nat) : IntKind.u64.wrap ((n : Int) * 4096) = ((n * 4096 % 18446744073709551616 : Nat) : Int) := by rw [IntKind.wrap_u64]; omega
theorem aui_is (c n : Nat) : IntKind.u64.wrap ((c : Int) + IntKind.u64.wrap ((n : Int) * 4096)) = (((c + n * 4096) % 18446744073709551616 : Nat) : Int) := by rw [IntKind.wrap_u64, IntKind.wrap_u64]; omega
theorem add_is (a b : Nat) : IntKind.u64.wrap ((a : Int) + (b : Int)) = (((a + b) % 18446744073709551616 : Nat) : Int) := by rw [IntKind.wrap_u64]; omega
theorem bv_even (x : BitVec 64) : x &&& ~~~(1#64) = (x >>> 1) <<< 1 := by
  apply BitVec.eq_of_getLsbD_eq
  intro i hi
  simp only [BitVec.getLsbD_and, BitVec.getLsbD_not, BitVec.getLsbD_shiftLeft, BitVec.getLsbD_ushiftRight, BitVec.getLsbD_one]
  cases i with
  | zero => simp
  | succ i => simp [hi, Nat.add_comm]
theorem even_is (c : Nat) (hc : c < 18446744073709551616) : bits .andNot .u64 (c : Int) 1 = ((c / 2 * 2 : Nat) : Int) := by
  have e1 : (BitVec.ofInt 64 (c : Int)).toNat = c := by rw [BitVec.toNat_ofInt]; omega
  have h : ((BitVec.ofInt 64 (c : Int)) &&& ~~~(1#64)).toNat = c / 2 * 2 := by
    rw [bv_even, BitVec.toNat_shiftLeft, BitVec.toNat_ushiftRight, e1, Nat.shiftRight_eq_div_pow, Nat.shiftLeft_eq]
    omega
  show IntKind.u64.wrap ((((BitVec.ofInt 64 (c : Int)) &&& ~~~(BitVec.ofInt 64 1) : BitVec 64).toNat : Nat) : Int) = _
  rw [show BitVec.ofInt 64 1 = 1#64 from rfl, h, IntKind.wrap_u64]
  omega
theorem mod64_lt (n : Nat) : n % 18446744073709551616 < 18446744073709551616 := Nat.mod_lt _ (by decide)
theorem _root_.Go.Pat.KeptBut.mono {S T : Nat → Prop} {a b : World} (h : KeptBut S a b) (hs : ∀ k, S k → T k) : KeptBut T a b := ⟨h.os, h.tape, h.output, h.size, fun k hk hn => h.block k hk fun h => hn (hs k h)⟩
theorem storeM_blk (fs : List Fr) (a v : Nat) (n : Int) : (storeM fs a v n).map (·.blk) = fs.map (·.blk) := by
  unfold storeM
  split
  · exact storeTo_blk _ _ _ _
  · rfl
theorem MachAt.notin {w : World} {m p mb : Nat} {ov iv : Value} {s : Ms} (h : MachAt w m p mb ov iv s) : m ∉ s.fs.map (·.blk) := fun hm => by
  obtain ⟨f, hf, e⟩ := List.mem_map.1 hm
  obtain ⟨_, _, _, cur, hcur, _⟩ := h.mem.pages f hf
  exact mach_ne_u8 h hcur e
theorem MachAt.store {w w' : World} {m p mb : Nat} {ov iv : Value} {s : Ms} {fs' : List Fr} (h : MachAt w m p mb ov iv s) (hm : MemAt w' p mb fs') (hk : KeptBut (fun b => b ∈ s.fs.map (·.blk)) w w') (hb : fs'.map (·.blk) = s.fs.map (·.blk)) :
    MachAt w' m p mb ov iv { s with fs := fs' } := by
  refine ⟨(hk.block _ h.lt h.notin).trans h.cells, hm, h.len, h.small, h.pc, ?_, ?_, h.rng, ?_, ?_⟩
  · exact h.out.keep fun g hg => by
      obtain ⟨_, cur, hc⟩ := h.out.block hg
      exact hk.block _ (lt_of_block hc) (h.apO g hg)
  · exact h.inn.keep fun g hg => by
      obtain ⟨_, cur, hc⟩ := h.inn.block hg
      exact hk.block _ (lt_of_block hc) (h.apI g hg).1
  · intro g hg; show g ∉ fs'.map _; rw [hb]; exact h.apO g hg
  · intro g hg; refine ⟨?_, (h.apI g hg).2⟩; show g ∉ fs'.map _; rw [hb]; exact (h.apI g hg).1
/-- what a step leaves. -/
def StepTo (m p mb : Nat) (ov iv : Value) (s : Ms) (r : Int × Ms) (w : World) (e : Ending) (w' : World) : Prop :=
  e = .returned (.int .i64 r.1) ∧ ∃ ov', MachAt w' m p mb ov' iv r.2 ∧ KeptBut (mine m s.fs ov) w w' ∧ ∀ g, ov'.ownBlock = some g → ov.ownBlock = some g ∨ w.heap.size ≤ g
end Go.Proofs
