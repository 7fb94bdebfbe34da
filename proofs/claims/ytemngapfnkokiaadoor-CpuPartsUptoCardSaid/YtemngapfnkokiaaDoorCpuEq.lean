/- patinaplain.Cpu of states that are the same. -/
import Derived.Test.YtemngapfnkokiaaDoorRightM
import Derived.Test.YtemngapfnkokiaaDoorCpuNil
namespace Go.Proofs
open Go Go.RowKit Go.Pat
theorem Tryd_info_u64 : (Tryd.prog.info? 30).map (fun i => (i.zero, i.size, i.bytes)) = some (some (.int .u64 0), 1, 8) := by kernel_rfl
theorem regs_items (l : List Nat) (W : World) : ∀ js : List Nat, (∀ j ∈ js, j < l.length) → (Op.eqItems 9999 30 1 (l.map rV).toArray (l.map rV).toArray js).run Tryd.prog W = .ok true W
  | [], _ => by simp [Op.eqItems]
  | j :: js, h => by
    have hj : j < l.length := h j (by simp)
    have px : (part 30 (l.map rV).toArray (j * 1)).run Tryd.prog W = .ok (rV l[j]) W := by
      simp [part, isAgg, run_underlying Tryd.underlying30, hj]
    have pe : (Op.equalIn 9999 30 (rV l[j]) (rV l[j])).run Tryd.prog W = .ok true W := by
      have := run_equalIn_int (P := Tryd.prog) W 9998 30 .u64 .u64 ((l[j] : Nat) : Int) ((l[j] : Nat) : Int) Tryd.underlying30
      rw [beq_self_eq_true] at this
      exact this
    simp only [Op.eqItems, Sem.run_bind, px, pe, Result.andThen_ok]
    exact regs_items l W js fun k hk => h k (by simp [hk])
theorem regs_eq (l : List Nat) (h : l.length = 32) (W : World) : (Op.equalIn 10000 74 (.agg (l.map rV).toArray) (.agg (l.map rV).toArray)).run Tryd.prog W = .ok true W := by
  obtain ⟨i, hi, -⟩ := info_parts Tryd_info_u64
  rw [run_equalIn_array (w := W) 9999 (l.map rV).toArray (l.map rV).toArray Tryd.underlying74 hi, show Tryd.prog.cellsOf 30 = 1 by kernel_rfl]
  exact regs_items l W _ fun j hj => by rw [h]; exact List.mem_range.1 hj
theorem cregs_at {c : Mc} {ov : Value} (hl : c.regs.length = 32) (j : Nat) (v : Value) (hv : (c.regs.map rV)[j]? = some v) : (c.cells ov)[1 + j]? = some v := by
  have hj : j < 32 := by
    rcases Nat.lt_or_ge j 32 with h | h
    · exact h
    · rw [List.getElem?_eq_none (by simp [hl]; exact h)] at hv; cases hv
  rw [Nat.add_comm, Mc.cells, List.getElem?_cons_succ, List.getElem?_append_left (by simp [hl]; exact hj)]
  exact hv
set_option maxRecDepth 20000 in
set_option maxHeartbeats 8000000 in
theorem pCpu_eq (w : World) (c : Mc) (A1 A2 : Option Addr) (k1 k2 : Nat) (hl : c.regs.length = 32) (h1 : Bs w.heap.size w A1 c.out) (h2 : Bs w.heap.size w A2 c.out) :
    Calls Tryd.prog 30 #[.agg (c.cells (.slice A1 c.out.length k1)).toArray, .agg (c.cells (.slice A2 c.out.length k2)).toArray] w fun e w' => e = .returned (.bool true) ∧ Below w.heap.size w w' := by
  obtain ⟨cs, hcs⟩ : ∃ cs, cs = (c.cells (.slice A1 c.out.length k1)).toArray := ⟨_, rfl⟩
  obtain ⟨ds, hds⟩ : ∃ ds, ds = (c.cells (.slice A2 c.out.length k2)).toArray := ⟨_, rfl⟩
  obtain ⟨W, hW⟩ : ∃ W : World, W = (w.alloc (.cells cs 76)).alloc (.cells ds 76) := ⟨_, rfl⟩
  have hB : Below w.heap.size w W := by rw [hW]; exact ((Below.refl _ _).alloc (Nat.le_refl _) _).alloc (by rw [World.size_alloc]; omega) _
  have g1 : W.heap[w.heap.size]? = some (.cells cs 76 (0, 0)) := by rw [hW]; exact obj_alloc (heap_alloc_new w _)
  have g2 : W.heap[w.heap.size + 1]? = some (.cells ds 76 (0, 0)) := by
    have := heap_alloc_new (w.alloc (.cells cs 76)) (.cells ds 76)
    rw [World.size_alloc] at this
    rw [hW]; exact this
  have HW := Lib.hid hW
  have hm : c.regs.map rV = c.regs.map rV := rfl
  obtain ⟨rs, hrs⟩ : ∃ rs, rs = c.regs.map rV := ⟨_, rfl⟩
  have he : ∀ W, (Op.equalIn 10000 74 (.agg rs.toArray) (.agg rs.toArray)).run Tryd.prog W = .ok true W := by rw [hrs]; exact regs_eq c.regs hl
  have a0 : W.cell? ⟨w.heap.size, 0, none⟩ = some (.int .u64 (c.pc : Int)) := (obj_cell g1 0).trans (by rw [hcs]; rfl)
  have b0 : W.cell? ⟨w.heap.size + 1, 0, none⟩ = some (.int .u64 (c.pc : Int)) := (obj_cell g2 0).trans (by rw [hds]; rfl)
  have a33 : W.cell? ⟨w.heap.size, 33, none⟩ = some (.int .i64 c.steps) := (obj_cell g1 33).trans (by rw [hcs, List.getElem?_toArray]; exact cget_tail hl 0 (by omega))
  have b33 : W.cell? ⟨w.heap.size + 1, 33, none⟩ = some (.int .i64 c.steps) := (obj_cell g2 33).trans (by rw [hds, List.getElem?_toArray]; exact cget_tail hl 0 (by omega))
  have a34 : W.cell? ⟨w.heap.size, 34, none⟩ = some (.bool c.halted) := (obj_cell g1 34).trans (by rw [hcs, List.getElem?_toArray]; exact cget_tail hl 1 (by omega))
  have b34 : W.cell? ⟨w.heap.size + 1, 34, none⟩ = some (.bool c.halted) := (obj_cell g2 34).trans (by rw [hds, List.getElem?_toArray]; exact cget_tail hl 1 (by omega))
  have a35 : W.cell? ⟨w.heap.size, 35, none⟩ = some (.int .i64 c.code) := (obj_cell g1 35).trans (by rw [hcs, List.getElem?_toArray]; exact cget_tail hl 2 (by omega))
  have b35 : W.cell? ⟨w.heap.size + 1, 35, none⟩ = some (.int .i64 c.code) := (obj_cell g2 35).trans (by rw [hds, List.getElem?_toArray]; exact cget_tail hl 2 (by omega))
  have a36 : W.cell? ⟨w.heap.size, 36, none⟩ = some (.int .i64 c.fault) := (obj_cell g1 36).trans (by rw [hcs, List.getElem?_toArray]; exact cget_tail hl 3 (by omega))
  have b36 : W.cell? ⟨w.heap.size + 1, 36, none⟩ = some (.int .i64 c.fault) := (obj_cell g2 36).trans (by rw [hds, List.getElem?_toArray]; exact cget_tail hl 3 (by omega))
  have a37 : W.cell? ⟨w.heap.size, 37, none⟩ = some (.slice A1 c.out.length k1) := (obj_cell g1 37).trans (by rw [hcs, List.getElem?_toArray]; exact cget_tail hl 4 (by omega))
  have b37 : W.cell? ⟨w.heap.size + 1, 37, none⟩ = some (.slice A2 c.out.length k2) := (obj_cell g2 37).trans (by rw [hds, List.getElem?_toArray]; exact cget_tail hl 4 (by omega))
  have a38 : W.cell? ⟨w.heap.size, 38, none⟩ = some (.int .i64 c.inn) := (obj_cell g1 38).trans (by rw [hcs, List.getElem?_toArray]; exact cget_tail hl 5 (by omega))
  have b38 : W.cell? ⟨w.heap.size + 1, 38, none⟩ = some (.int .i64 c.inn) := (obj_cell g2 38).trans (by rw [hds, List.getElem?_toArray]; exact cget_tail hl 5 (by omega))
  have a1 : W.rangeAt w.heap.size 1 rs := fun j v hv => (obj_cell g1 (1 + j)).trans (by rw [hcs, List.getElem?_toArray]; rw [hrs] at hv; exact cregs_at hl j v hv)
  have b1 : W.rangeAt (w.heap.size + 1) 1 rs := fun j v hv => (obj_cell g2 (1 + j)).trans (by rw [hds, List.getElem?_toArray]; rw [hrs] at hv; exact cregs_at hl j v hv)
  have hz : (Tryd.prog.info? 74).map (·.size) = some rs.length := by rw [hrs, List.length_map, hl]; exact Tryd_sizeRegs
  have HZ := Lib.hid (And.intro a1 (And.intro b1 hz))
  have HB := Lib.hid (And.intro ((h1.below hB).mono hB.size) ((h2.below hB).mono hB.size))
  rw [← hcs, ← hds]
  clear a1 b1 hz g1 g2 hW hcs hds hrs h1 h2 hm hl
  generalize c.pc = xpc at *
  generalize c.steps = xst at *
  generalize c.halted = xha at *
  generalize c.code = xco at *
  generalize c.fault = xfa at *
  generalize c.inn = xin at *
  generalize c.out = xo at *
  have t0 : ((xpc : Int) == (xpc : Int)) = true := by simp
  have t1 : (xst == xst) = true := by simp
  have t2 : (xha == xha) = true := by simp
  have t3 : (xco == xco) = true := by simp
  have t4 : (xfa == xfa) = true := by simp
  have t5 : (xin == xin) = true := by simp
  go_enter Tryd.func30, Tryd.ntmps30
  go_upto_region 1 with fail
  rw [← HW.out]
  go_wp2_with (first
    | refine wpList_load_want (op := ⟨some 12, _, _, _, _, _⟩) rfl 74 (.tmp 11) rfl w.heap.size 1 rfl rs _ HZ.out.1 Tryd.underlying74 rfl HZ.out.2.2 ?_
    | refine wpList_load_want (op := ⟨some 14, _, _, _, _, _⟩) rfl 74 (.tmp 13) rfl (w.heap.size + 1) 1 rfl rs _ HZ.out.2.1 Tryd.underlying74 rfl HZ.out.2.2 ?_)
  refine Calls.mono (pBytes_any _ A1 A2 xo.length xo.length k1 k2 W.heap.size W.heap.size xo xo HB.out.1 HB.out.2 rfl rfl) ?_
  rintro e w' ⟨rfl, rfl⟩
  rw [beq_self_eq_true xo]
  go_wp2
  go_ret
  exact ⟨rfl, hB⟩
end Go.Proofs
