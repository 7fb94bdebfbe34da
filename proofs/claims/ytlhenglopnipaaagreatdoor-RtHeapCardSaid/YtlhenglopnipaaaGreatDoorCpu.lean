/- patinaplain.Cpu and Pages, of things that are the same. -/
import Derived.Test.YtlhenglopnipaaaGreatDoorBufs
import Derived.Test.YtlhenglopnipaaaGreatDoorMemTop
import Derived.BigQuiet
import Derived.DeepKeys
import Derived.Deep.MidRow
import Derived.Deep.Cut
namespace Go.Pat
open Go Go.RowKit
def cpuV (en : Nat) : Value := .agg #[.int .u64 (en : Int), .int .u64 0, .int .u64 0, .int .u64 0, .int .u64 0, .int .u64 0, .int .u64 0, .int .u64 0, .int .u64 0, .int .u64 0, .int .u64 0, .int .u64 0, .int .u64 0, .int .u64 0, .int .u64 0, .int .u64 0, .int .u64 0,
  .int .u64 0, .int .u64 0, .int .u64 0, .int .u64 0, .int .u64 0, .int .u64 0, .int .u64 0, .int .u64 0, .int .u64 0, .int .u64 0, .int .u64 0, .int .u64 0, .int .u64 0, .int .u64 0, .int .u64 0, .int .u64 0,
  .int .i64 0, .bool false, .int .i64 0, .int .i64 0, .slice none 0 0, .int .i64 0]
end Go.Pat
namespace Go.Proofs
open Go Go.RowKit Go.Pat

theorem Tryz_eqRegs (W : World) : (Op.equalIn 10000 33 (.agg #[.int .u64 0, .int .u64 0, .int .u64 0, .int .u64 0, .int .u64 0, .int .u64 0, .int .u64 0, .int .u64 0, .int .u64 0, .int .u64 0, .int .u64 0, .int .u64 0, .int .u64 0, .int .u64 0, .int .u64 0, .int .u64 0, .int .u64 0, .int .u64 0, .int .u64 0, .int .u64 0, .int .u64 0, .int .u64 0, .int .u64 0, .int .u64 0, .int .u64 0, .int .u64 0, .int .u64 0, .int .u64 0, .int .u64 0, .int .u64 0, .int .u64 0, .int .u64 0]) (.agg #[.int .u64 0, .int .u64 0, .int .u64 0, .int .u64 0, .int .u64 0, .int .u64 0, .int .u64 0, .int .u64 0, .int .u64 0, .int .u64 0, .int .u64 0, .int .u64 0, .int .u64 0, .int .u64 0, .int .u64 0, .int .u64 0, .int .u64 0, .int .u64 0, .int .u64 0, .int .u64 0, .int .u64 0, .int .u64 0, .int .u64 0, .int .u64 0, .int .u64 0, .int .u64 0, .int .u64 0, .int .u64 0, .int .u64 0, .int .u64 0, .int .u64 0, .int .u64 0])).run Tryz.prog W = .ok true W := by
  have hs : (Tryz.prog.keyLits 3 33 (Value.agg #[.int .u64 0, .int .u64 0, .int .u64 0, .int .u64 0, .int .u64 0, .int .u64 0, .int .u64 0, .int .u64 0, .int .u64 0, .int .u64 0, .int .u64 0, .int .u64 0, .int .u64 0, .int .u64 0, .int .u64 0, .int .u64 0, .int .u64 0, .int .u64 0, .int .u64 0, .int .u64 0, .int .u64 0, .int .u64 0, .int .u64 0, .int .u64 0, .int .u64 0, .int .u64 0, .int .u64 0, .int .u64 0, .int .u64 0, .int .u64 0, .int .u64 0, .int .u64 0]).cells.toList).isSome = true := by kernel_rfl
  obtain ⟨la, hla⟩ := Option.isSome_iff_exists.1 hs
  obtain ⟨r, h1, h2⟩ := run_equalIn_deep (P := Tryz.prog) 9998 2 33 (by kernel_rfl) W 3 3 _ _ la la (by kernel_rfl) (by kernel_rfl) hla hla
  rw [h2.2 rfl] at h1
  exact h1
/-- a machine's state, as cells: all but PC are 0. -/
structure CpuAt (cs : Array Value) (en : Nat) (rs : List Value) : Prop where
  size : cs.size = 39
  pc : cs[0]? = some (.int .u64 (en : Int))
  regs : ∀ j v, rs[j]? = some v → cs[1 + j]? = some v
  rsize : rs.length = 32
  steps : cs[33]? = some (.int .i64 0)
  halted : cs[34]? = some (.bool false)
  code : cs[35]? = some (.int .i64 0)
  fault : cs[36]? = some (.int .i64 0)
  out : cs[37]? = some (.slice none 0 0)
  inn : cs[38]? = some (.int .i64 0)
theorem wpList_load_want {P : Program} {ops : Array Oper} {rest : List Oper} {op : Oper} {a : Act} {w : World} {Q : Exit → Act → World → Prop} (hw : Region.wanted op (yielded ops a.tmps) = true) (ty : TypeId) (x : Operand) (ho : op.op = .load ty x)
    (b o : Nat) (hx : a.eval x = .pointer (some ⟨b, o, none⟩)) (cs : List Value) (d : TypeDesc) (hc : w.rangeAt b o cs)
    (hu : P.underlying ty = some d) (hd : d.isRow = true) (hi : (P.info? ty).map (·.size) = some cs.length)
    (h : wpList P ops Q rest (a.put op.dst (.agg cs.toArray)) w) : wpList P ops Q (op :: rest) a w :=
  BigFrame.wpList_want hw fun _ hK => wp_load_mid ty x ho b o hx cs d hc hu hd hi (hK _ _ h)
theorem Tryz_sizeRegs : (Tryz.prog.info? 33).map (·.size) = some 32 := by kernel_rfl
theorem cpuV_at (en : Nat) : ∃ cs rs, cpuV en = .agg cs ∧ CpuAt cs en rs ∧ ∀ W, (Op.equalIn 10000 33 (.agg rs.toArray) (.agg rs.toArray)).run Tryz.prog W = .ok true W := by
  refine ⟨_, [.int .u64 0, .int .u64 0, .int .u64 0, .int .u64 0, .int .u64 0, .int .u64 0, .int .u64 0, .int .u64 0, .int .u64 0, .int .u64 0, .int .u64 0, .int .u64 0, .int .u64 0, .int .u64 0, .int .u64 0, .int .u64 0, .int .u64 0, .int .u64 0, .int .u64 0, .int .u64 0, .int .u64 0, .int .u64 0, .int .u64 0, .int .u64 0, .int .u64 0, .int .u64 0, .int .u64 0, .int .u64 0, .int .u64 0, .int .u64 0, .int .u64 0, .int .u64 0], rfl, ⟨rfl, rfl, ?_, rfl, rfl, rfl, rfl, rfl, rfl, rfl⟩, Tryz_eqRegs⟩
  intro j v hv
  match j, hv with
  | 0, hv => exact hv
  | 1, hv => exact hv
  | 2, hv => exact hv
  | 3, hv => exact hv
  | 4, hv => exact hv
  | 5, hv => exact hv
  | 6, hv => exact hv
  | 7, hv => exact hv
  | 8, hv => exact hv
  | 9, hv => exact hv
  | 10, hv => exact hv
  | 11, hv => exact hv
  | 12, hv => exact hv
  | 13, hv => exact hv
  | 14, hv => exact hv
  | 15, hv => exact hv
  | 16, hv => exact hv
  | 17, hv => exact hv
  | 18, hv => exact hv
  | 19, hv => exact hv
  | 20, hv => exact hv
  | 21, hv => exact hv
  | 22, hv => exact hv
  | 23, hv => exact hv
  | 24, hv => exact hv
  | 25, hv => exact hv
  | 26, hv => exact hv
  | 27, hv => exact hv
  | 28, hv => exact hv
  | 29, hv => exact hv
  | 30, hv => exact hv
  | 31, hv => exact hv
  | j + 32, hv => exact absurd hv (by simp)
end Go.Proofs
